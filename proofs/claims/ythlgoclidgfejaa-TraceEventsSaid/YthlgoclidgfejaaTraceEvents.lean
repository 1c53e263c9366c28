/-
  TraceEvents: the walk.
-/
import Derived.Test.YthlgoclidgfejaaTraceP
import Derived.Test.YthlgoclidgfejaaTraceQ
import Derived.Test.YthlgoclidgfejaaTraceO
namespace Go.Proofs.Ythlgoclidgfejaa
open Go.RowKit Go.Maps Trc
set_option linter.unusedSimpArgs false
set_option linter.unusedVariables false
attribute [local go_sem] Oper.semAt_some

theorem enters_events1 : Enters Try.prog 26 := enters_of Try.func26 (by kernel_rfl) rfl
theorem mixes : Try.prog.follows .mixedOrders = true := by kernel_rfl
namespace Trc
theorem prs_evs (x : Nm) (l : List Ev) : (prs x l).length = (evsOf x l).length := by
  induction l using snoc_ind with
  | h0 => rfl
  | h1 l e ih =>
    rw [prs_snoc, evsOf_snoc, List.length_append, List.length_append, ih]
    by_cases h : e.name = x <;> simp [h]
theorem prs_spec (x : Nm) (l : List Ev) : ∀ k, k < (prs x l).length → ∃ (i : Nat) (hi : i < l.length), (prs x l)[k]? = some (l[i], i) ∧ l[i].name = x ∧ ∀ k' p, k' < k → (prs x l)[k']? = some p → p.2 < i := by
  induction l using snoc_ind with
  | h0 => intro k hk; cases hk
  | h1 l e ih =>
    intro k hk
    rw [prs_snoc] at hk ⊢
    by_cases hkl : k < (prs x l).length
    · obtain ⟨i, hi, h1, h2, h3⟩ := ih k hkl
      refine ⟨i, by simp; omega, ?_, ?_, fun k' p hk' hp => h3 k' p hk' ?_⟩
      · rw [List.getElem?_append_left hkl, h1, List.getElem_append_left hi]
      · rw [List.getElem_append_left hi]; exact h2
      · rw [List.getElem?_append_left (by omega)] at hp; exact hp
    · by_cases he : e.name = x
      · rw [if_pos he] at hk ⊢
        have hkk : k = (prs x l).length := by simp at hk; omega
        refine ⟨l.length, by simp, ?_, by simpa using he, fun k' p hk' hp => ?_⟩
        · rw [hkk, List.getElem?_append_right (Nat.le_refl _), Nat.sub_self]; simp
        · rw [List.getElem?_append_left (by omega)] at hp
          obtain ⟨i, hi, h1, _⟩ := ih k' (by omega)
          rw [h1] at hp
          rw [← Option.some.inj hp]
          exact hi
      · rw [if_neg he] at hk; simp at hk; omega
/-- The place that was handed out last. -/
def lastI (x : Nm) (l : List Ev) : Nat → Int
  | 0 => -1
  | k + 1 => (prAt x l k).2
theorem prAt_spec {x : Nm} {l : List Ev} {k : Nat} (hk : k < (prs x l).length) : ∃ (i : Nat) (hi : i < l.length), prAt x l k = (l[i], i) ∧ l[i].name = x ∧ lastI x l k < i := by
  obtain ⟨i, hi, h1, h2, h3⟩ := prs_spec x l k hk
  refine ⟨i, hi, ?_, h2, ?_⟩
  · unfold prAt; rw [List.getD_eq_getElem?_getD, h1]; rfl
  · cases k with
    | zero => show (-1 : Int) < i; omega
    | succ k =>
      have hk' : k < (prs x l).length := by omega
      have := h3 k (prs x l)[k] (by omega) (List.getElem?_eq_getElem hk')
      show ((prAt x l k).2 : Int) < i
      unfold prAt
      rw [List.getD_eq_getElem?_getD, List.getElem?_eq_getElem hk']
      simpa using this
end Trc
theorem exec_nmneq {ρ : Operand → Value} {o : Oper} {x y : Operand} {t : TypeId} (ho : o.op = .binOp .neq 39 x y t) {p : Nm} (hx : ρ x = nmV p) (hy : ρ y = nmV p) (w : World) :
    (execOp ρ o).run Try.prog w = .ok (.value (.bool false)) w := by
  unfold execOp
  simp only [ho, hx, hy]
  simp [go_sem]
set_option maxRecDepth 100000 in
theorem exec_evneq {ρ : Operand → Value} {o : Oper} {x y : Operand} {t : TypeId} (ho : o.op = .binOp .neq 48 x y t) {e : Ev} (hx : ρ x = evV e) (hy : ρ y = evV e) (w : World) :
    (execOp ρ o).run Try.prog w = .ok (.value (.bool false)) w := by
  unfold execOp
  simp only [ho, hx, hy]
  simp [go_sem]

/-- What holds at the head of the law's loop: its variable lies in block T; Ds: the marks. -/
structure EvI (wr : World) (T : Nat) (tn : Int) (Ds : List Nat) (W : World) : Prop where
  below : Below wr.heap.size wr W
  turn : RowAt W T #[.int .i64 tn] 3
  low : wr.heap.size ≤ T
  marks : ∀ D ∈ Ds, W.heap[D]? = some (.deferred (some [])) ∧ wr.heap.size ≤ D
  nodup : Ds.Nodup
theorem EvI.but {wr : World} {T : Nat} {tn : Int} {Ds : List Nat} {W W' : World} (h : EvI wr T tn Ds W) {O : Nat → Prop} (hb : But O W W') (hO : ∀ j, O j → wr.heap.size ≤ j) (hT : ¬ O T) (hD : ∀ D ∈ Ds, ¬ O D) : EvI wr T tn Ds W' :=
  ⟨h.below.trans (hb.below hO h.below.size), (hb.same T h.turn.lt hT).trans h.turn, h.low, fun D hd => ⟨hb.obj (h.marks D hd).1 (hD D hd), (h.marks D hd).2⟩, h.nodup⟩
/-- .. in a round: k have come; the counters lie in the blocks K and K + 1. -/
structure EvR (wr : World) (T : Nat) (tn : Int) (Ds : List Nat) (K : Nat) (x : Nm) (l : List Ev) (k : Nat) (G : Nat → Prop) (W : World) : Prop where
  base : EvI wr T tn Ds W
  cnt : RowAt W K #[.int .i64 k] 3
  lst : RowAt W (K + 1) #[.int .i64 (lastI x l k)] 3
  g0 : G K
  g1 : G (K + 1)
  glow : ∀ j, G j → wr.heap.size ≤ j
  gT : ¬ G T
  gD : ∀ D ∈ Ds, ¬ G D
theorem EvR.abide {wr : World} {T : Nat} {tn : Int} {Ds : List Nat} {K : Nat} {x : Nm} {l : List Ev} {k B : Nat} (hB : wr.heap.size ≤ B) (hT : T < B) (hD : ∀ D ∈ Ds, D < B) : Abide B (EvR wr T tn Ds K x l k) := fun G A C h hb =>
  ⟨⟨h.base.below.trans (hb.below (fun j e => by have := e.1; omega) h.base.below.size), (hb.same T h.base.turn.lt (fun e => by have := e.1; omega)).trans h.base.turn, h.base.low, fun D hd => ⟨hb.obj (h.base.marks D hd).1 (fun e => by have := e.1; have := hD D hd; omega), (h.base.marks D hd).2⟩, h.base.nodup⟩,
    (hb.same K h.cnt.lt (fun e => e.2 h.g0)).trans h.cnt, (hb.same (K + 1) h.lst.lt (fun e => e.2 h.g1)).trans h.lst, h.g0, h.g1, h.glow, h.gT, h.gD⟩
theorem EvR.alloc {wr : World} {T : Nat} {tn : Int} {Ds : List Nat} {K : Nat} {x : Nm} {l : List Ev} {k : Nat} {G : Nat → Prop} {W : World} (h : EvR wr T tn Ds K x l k G W) (o : Obj) : EvR wr T tn Ds K x l k (newG G W (W.alloc o)) (W.alloc o) :=
  ⟨h.base.but (But.alloc (O := fun _ => False) W o) (fun _ e => e.elim) (fun e => e) (fun _ _ e => e), h.cnt.alloc o, h.lst.alloc o, newG_old h.g0, newG_old h.g1, (by
    rintro q (e | e)
    · exact h.glow q e
    · have := h.base.below.size; omega), newG_not h.gT h.base.turn.lt, fun D hD => newG_not (h.gD D hD) (Array.getElem?_eq_some_iff.1 (h.base.marks D hD).1).1⟩
theorem EvR.step {wr : World} {T : Nat} {tn : Int} {Ds : List Nat} {K : Nat} {x : Nm} {l : List Ev} {k : Nat} {G : Nat → Prop} {W : World} (h : EvR wr T tn Ds K x l k G W) (i : Int) (hi : lastI x l (k + 1) = i) :
    But G W ((W.drew.setCell ⟨K + 1, 0, none⟩ (.int .i64 i)).setCell ⟨K, 0, none⟩ (.int .i64 ((k : Int) + 1))) ∧
    EvR wr T tn Ds K x l (k + 1) (newG G W ((W.drew.setCell ⟨K + 1, 0, none⟩ (.int .i64 i)).setCell ⟨K, 0, none⟩ (.int .i64 ((k : Int) + 1)))) ((W.drew.setCell ⟨K + 1, 0, none⟩ (.int .i64 i)).setCell ⟨K, 0, none⟩ (.int .i64 ((k : Int) + 1))) := by
  have hb : But G W ((W.drew.setCell ⟨K + 1, 0, none⟩ (.int .i64 i)).setCell ⟨K, 0, none⟩ (.int .i64 ((k : Int) + 1))) := ((But.drew W).trans (But.setCell _ _ _ (.inl h.g1))).trans (But.setCell _ _ _ (.inl h.g0))
  have hc := (h.cnt.drew.other (a := ⟨K + 1, 0, none⟩) (by simp) (.int .i64 i)).set 0 (.int .i64 ((k : Int) + 1))
  have hl := (h.lst.drew.set 0 (.int .i64 i)).other (a := ⟨K, 0, none⟩) (by simp) (.int .i64 ((k : Int) + 1))
  refine ⟨hb, h.base.but hb h.glow h.gT h.gD, hc, ?_, newG_old h.g0, newG_old h.g1, ?_, newG_not h.gT h.base.turn.lt, fun D hD => newG_not (h.gD D hD) (Array.getElem?_eq_some_iff.1 (h.base.marks D hD).1).1⟩
  · rw [hi]; exact hl
  · rintro q (e | e)
    · exact h.glow q e
    · have := h.base.below.size; omega
theorem EvI.next {wr : World} {T : Nat} {tn : Int} {Ds : List Nat} {W : World} (h : EvI wr T tn Ds W) {D : Nat} (hD : W.heap[D]? = some (.deferred (some []))) (hl : wr.heap.size ≤ D) (hn : D ∉ Ds) (v : Int) :
    EvI wr W.heap.size v (D :: Ds) (W.alloc (.cells #[.int .i64 v] 3)) :=
  have hb : But (fun _ => False) W (W.alloc (.cells #[.int .i64 v] 3)) := But.alloc _ _
  ⟨h.below.trans (hb.below (fun _ e => e.elim) h.below.size), RowAt.new _ _ _, h.below.size, fun D' hD' => by
    rcases List.mem_cons.1 hD' with rfl | hD'
    · exact ⟨hb.obj hD (fun e => e), hl⟩
    · exact ⟨hb.obj (h.marks D' hD').1 (fun e => e), (h.marks D' hD').2⟩, List.nodup_cons.2 ⟨hn, h.nodup⟩⟩
theorem wpList_nmeq {ops : Array Oper} {rest : List Oper} {o : Oper} {a : Act} {w : World} {Q : Exit → Act → World → Prop} (hgd : o.guard = none) (x y : Operand) (t : TypeId)
    (ho : o.op = .binOp .eql 39 x y t) (p q : Nm) (hx : a.eval x = nmV p) (hy : a.eval y = nmV q) {b : Bool} (hb : decide (p = q) = b)
    (h : wpList Try.prog ops Q rest (a.put o.dst (.bool b)) w) : wpList Try.prog ops Q (o :: rest) a w :=
  wpList_plain hgd fun _ hK => by
    unfold Oper.wp
    rw [exec_nmeq ho hx hy hb w]
    exact hK _ _ h
set_option maxHeartbeats 8000000 in
set_option maxRecDepth 100000 in
theorem traceEvents_c (l : List Ev) (v : Value) (n : Nat) (x : Nm) (many : Int) (w : World) (hv : Sl w 16 v n (l.flatMap evC)) (hn : n ≤ 60) :
    Calls Try.prog 4 #[v, nmV x, .int .i64 many] w (Ret (.bool true) w) := by
  have Hln := Lib.hid (Sl.recs (cells := evC) (sz := 16) (fun _ => rfl) (by decide) hv)
  obtain ⟨a, c, rfl⟩ := hv.len
  have hle : ¬ (60 : Int) < (n : Int) := by omega
  have hB4 : Below w.heap.size w ((((w.alloc (.cells #[.slice a n c] 22)).alloc (.cells (nmC x).toArray 39)).alloc (.cells #[.int .i64 many] 3)).alloc (.cells #[.bool false] 4)) := (((below_alloc w _).alloc (by simp) _).alloc (by simp; omega) _).alloc (by simp; omega) _
  have N1 : RowAt ((((w.alloc (.cells #[.slice a n c] 22)).alloc (.cells (nmC x).toArray 39)).alloc (.cells #[.int .i64 many] 3)).alloc (.cells #[.bool false] 4)) (w.heap.size + 1) (nmC x).toArray 39 := by
    have := RowAt.new (w.alloc (.cells #[.slice a n c] 22)) (nmC x).toArray 39
    rw [show (w.alloc (.cells #[.slice a n c] 22)).heap.size = w.heap.size + 1 by simp] at this
    exact (this.alloc _).alloc _
  have x0 : ((((w.alloc (.cells #[.slice a n c] 22)).alloc (.cells (nmC x).toArray 39)).alloc (.cells #[.int .i64 many] 3)).alloc (.cells #[.bool false] 4)).cell? ⟨w.heap.size, 0, none⟩ = some (.slice a n c) := by simp [go_sem]
  have x2 : ((((w.alloc (.cells #[.slice a n c] 22)).alloc (.cells (nmC x).toArray 39)).alloc (.cells #[.int .i64 many] 3)).alloc (.cells #[.bool false] 4)).cell? ⟨w.heap.size + 1 + 1, 0, none⟩ = some (.int .i64 many) := by simp [go_sem]
  have x3 : RowAt ((((w.alloc (.cells #[.slice a n c] 22)).alloc (.cells (nmC x).toArray 39)).alloc (.cells #[.int .i64 many] 3)).alloc (.cells #[.bool false] 4)) (w.heap.size + 1 + 1 + 1) #[.bool false] 4 := by
    have := RowAt.new (((w.alloc (.cells #[.slice a n c] 22)).alloc (.cells (nmC x).toArray 39)).alloc (.cells #[.int .i64 many] 3)) #[.bool false] 4
    rw [show (((w.alloc (.cells #[.slice a n c] 22)).alloc (.cells (nmC x).toArray 39)).alloc (.cells #[.int .i64 many] 3)).heap.size = w.heap.size + 1 + 1 + 1 by simp] at this
    exact this
  have hv4 := hv.up hB4
  refine (callsIn_wide (n := 3)).1 ?_
  refine callsIn_of_wp_marks Try.func4 rfl trivial ?_ rfl
  simp only [Try.ntmps4, List.size_toArray, List.length_cons, List.length_nil, Nat.reduceAdd, Nat.reduceSub, Array.replicate_succ, Array.replicate_zero, List.push_toArray, List.append_toArray, List.nil_append, List.cons_append]
  have he : ∀ (f : FuncId) (caps : Array Value) (w : World), (binOp BinOp.eql 41 (.func (.func f) #[] caps) .nilFunc).run Try.prog w = .ok (.bool false) w := fun _ _ _ => by kernel_rfl
  refine wpIn_wide.2 ?_
  go_wp2_with (first
    | (refine wpList_load_mid rfl 39 (.tmp 4) rfl (w.heap.size + 1) 0 rfl (nmC x) _ N1.range Try.underlying39 rfl (by kernel_rfl) ?_)
    | (go_at_call 12; refine (events_c l _ n x _ hv4 (by omega)).mono ?_; rintro en w1 ⟨C, NB, v1, rfl, hE1, hb1⟩; have hB1 := below_up hB4 hb1; replace N1 := N1.below hb1; replace x0 := cell_up hb1 x0; replace x2 := cell_up hb1 x2; replace x3 := x3.below hb1; have hv1 := hv4.up hb1; clear hv4 hb1 hB4))
  go_loopw [8, 9] (fun t i wr => ∃ j : Nat, j ≤ n ∧ i = .int .i64 j ∧ t = .int .i64 ((evsOf x (l.take j)).length : Nat) ∧ Below w1.heap.size w1 wr) (fun t i _ => n - (intOf i).toNat)
  case atStart => exact ⟨0, Nat.zero_le _, rfl, rfl, Below.refl _ _⟩
  case round =>
    obtain ⟨j, hk, rfl, rfl, hBr⟩ := hrel
    replace N1 := N1.below hBr
    have X0 := cell_up hBr x0
    replace hB1 := below_up hB1 hBr
    by_cases hlt : j < n
    · have hlt' : j < l.length := by rw [Hln.out]; exact hlt
      obtain ⟨b, off, rfl, hr⟩ := (hv1.up hBr).rec_at (cells := evC) (sz := 16) (fun _ => rfl) hlt hlt'
      have hjn : (j : Int) < (n : Int) := by omega
      have hsn : (evsOf x (l.take (j + 1))).length = (evsOf x (l.take j)).length + if l[j].name = x then 1 else 0 := by
        rw [List.take_succ_eq_append_getElem hlt', evsOf_snoc]
        by_cases h : l[j].name = x <;> simp [h]
      generalize l[j] = e at *
      have Hsn := Lib.hid hsn
      have hle1 := evsOf_len x (l.take j)
      have hle2 : (l.take j).length ≤ j := by rw [List.length_take]; omega
      clear hsn
      by_cases hnm : e.name = x
      · have Hnm := Lib.hid hnm
        clear hnm
        go_wp2
        have hBd := (Below.refl wr.heap.size wr).drew
        have X0d : wr.drew.cell? ⟨w.heap.size, 0, none⟩ = some (.slice (some ⟨b, off, none⟩) n c) := X0
        have hrd : wr.drew.rangeAt b (off + j * 16) (evC e) := hr
        have N4 : RowAt wr.drew (w.heap.size + 1) (nmC x).toArray 39 := N1
        refine wp_still_tail 6 (by kernel_rfl) (by kernel_rfl) ?_
        simp only [List.take_succ_cons, List.take_zero, List.drop_succ_cons, List.drop_zero]
        still_step
        still_step
        still_step
        still_step
        refine still_load rfl 39 (.tmp 33) rfl b (off + j * 16 + 5) rfl (nmC e.name) _ (rangeAt_sub hrd 5 _ rfl (evC_name e)) Try.underlying39 rfl (by kernel_rfl) ?_
        try simp only [Act.put, List.getElem_toArray, List.getElem_cons_zero, List.getElem_cons_succ, List.setIfInBounds_toArray, List.set_cons_zero, List.set_cons_succ]
        refine still_load rfl 39 (.tmp 4) rfl (w.heap.size + 1) 0 rfl (nmC x) _ N4.range Try.underlying39 rfl (by kernel_rfl) ?_
        try simp only [Act.put, List.getElem_toArray, List.getElem_cons_zero, List.getElem_cons_succ, List.setIfInBounds_toArray, List.set_cons_zero, List.set_cons_succ]
        refine wpStill_nil ?_
        refine wpList_nmeq rfl (.tmp 34) (.tmp 35) _ rfl e.name x rfl rfl (decide_eq_true Hnm.out) ?_
        try simp only [Act.put, List.getElem_toArray, List.getElem_cons_zero, List.getElem_cons_succ, List.setIfInBounds_toArray, List.set_cons_zero, List.set_cons_succ]
        go_wp2
        go_roundw
        case rel => exact ⟨j + 1, by omega, by simp, by rw [Hsn.out, if_pos Hnm.out]; simp, below_up hBr hBd⟩
        case measure => simp [intOf]; omega
      · have Hnm := Lib.hid hnm
        clear hnm
        go_wp2
        have hBd := (Below.refl wr.heap.size wr).drew
        have X0d : wr.drew.cell? ⟨w.heap.size, 0, none⟩ = some (.slice (some ⟨b, off, none⟩) n c) := X0
        have hrd : wr.drew.rangeAt b (off + j * 16) (evC e) := hr
        have N4 : RowAt wr.drew (w.heap.size + 1) (nmC x).toArray 39 := N1
        refine wp_still_tail 6 (by kernel_rfl) (by kernel_rfl) ?_
        simp only [List.take_succ_cons, List.take_zero, List.drop_succ_cons, List.drop_zero]
        still_step
        still_step
        still_step
        still_step
        refine still_load rfl 39 (.tmp 33) rfl b (off + j * 16 + 5) rfl (nmC e.name) _ (rangeAt_sub hrd 5 _ rfl (evC_name e)) Try.underlying39 rfl (by kernel_rfl) ?_
        try simp only [Act.put, List.getElem_toArray, List.getElem_cons_zero, List.getElem_cons_succ, List.setIfInBounds_toArray, List.set_cons_zero, List.set_cons_succ]
        refine still_load rfl 39 (.tmp 4) rfl (w.heap.size + 1) 0 rfl (nmC x) _ N4.range Try.underlying39 rfl (by kernel_rfl) ?_
        try simp only [Act.put, List.getElem_toArray, List.getElem_cons_zero, List.getElem_cons_succ, List.setIfInBounds_toArray, List.set_cons_zero, List.set_cons_succ]
        refine wpStill_nil ?_
        refine wpList_nmeq rfl (.tmp 34) (.tmp 35) _ rfl e.name x rfl rfl (decide_eq_false Hnm.out) ?_
        try simp only [Act.put, List.getElem_toArray, List.getElem_cons_zero, List.getElem_cons_succ, List.setIfInBounds_toArray, List.set_cons_zero, List.set_cons_succ]
        go_wp2
        go_roundw
        case rel => exact ⟨j + 1, by omega, by simp, by rw [Hsn.out, if_neg Hnm.out]; simp, below_up hBr hBd⟩
        case measure => simp [intOf]; omega
    · obtain rfl : j = n := by omega
      have hall : l.take j = l := List.take_of_length_le (by rw [Hln.out]; exact Nat.le_refl _)
      rw [hall]
      have hE1 := hE1.but (O := fun _ => False) (But.of_below hBr) (fun h => h) (fun h => h) (.inr fun _ _ h => h)
      have X2 := cell_up hBr x2
      have X3 := x3.below hBr
      clear x0 x2 x3
      have hCl := World.block_lt_of_cell? wr _ hE1.var
      have hNl := hE1.name.lt
      have hbl := hE1.sl.blk (by decide)
      have HE := Lib.hid hE1
      have Hv := Lib.hid (hv1.up hBr)
      have T0 := RowAt.new wr #[.int .i64 0] 3
      have hBT := below_alloc wr (.cells #[.int .i64 0] 3)
      clear hall hlt hk hBr hE1 hv1 hv
      go_wp2
      refine wp_loop_ghost_k (fun m a' W => ∃ (tn T : Nat) (Ds : List Nat), tn ≤ 2 ∧ m = 2 - tn ∧ a' = { tmps := #[Value.slice a j c, nmV x, .int .i64 many, .pointer (some ⟨w.heap.size, 0, none⟩), .pointer (some ⟨w.heap.size + 1, 0, none⟩), .pointer (some ⟨w.heap.size + 1 + 1, 0, none⟩), .pointer (some ⟨w.heap.size + 1 + 1 + 1, 0, none⟩), .func (.func 26) #[] #[.pointer (some ⟨C, 0, none⟩), .pointer (some ⟨NB, 0, none⟩)], .int .i64 ((evsOf x l).length : Nat), .int .i64 j, .pointer (some ⟨T, 0, none⟩), a'.tmps.getD 11 undef, a'.tmps.getD 12 undef, a'.tmps.getD 13 undef, a'.tmps.getD 14 undef, a'.tmps.getD 15 undef, a'.tmps.getD 16 undef, a'.tmps.getD 17 undef, a'.tmps.getD 18 undef, a'.tmps.getD 19 undef, a'.tmps.getD 20 undef, a'.tmps.getD 21 undef, a'.tmps.getD 22 undef, a'.tmps.getD 23 undef, a'.tmps.getD 24 undef, a'.tmps.getD 25 undef, a'.tmps.getD 26 undef, a'.tmps.getD 27 undef, a'.tmps.getD 28 undef, a'.tmps.getD 29 undef, a'.tmps.getD 30 undef, a'.tmps.getD 31 undef, a'.tmps.getD 32 undef, a'.tmps.getD 33 undef, a'.tmps.getD 34 undef, a'.tmps.getD 35 undef, a'.tmps.getD 36 undef, a'.tmps.getD 37 undef, a'.tmps.getD 38 undef, a'.tmps.getD 39 undef, a'.tmps.getD 40 undef, a'.tmps.getD 41 undef, a'.tmps.getD 42 undef, a'.tmps.getD 43 undef, a'.tmps.getD 44 undef, a'.tmps.getD 45 undef, a'.tmps.getD 46 undef, a'.tmps.getD 47 undef, a'.tmps.getD 48 undef, a'.tmps.getD 49 undef, a'.tmps.getD 50 undef, a'.tmps.getD 51 undef, a'.tmps.getD 52 undef, a'.tmps.getD 53 undef, a'.tmps.getD 54 undef, a'.tmps.getD 55 undef, a'.tmps.getD 56 undef, a'.tmps.getD 57 undef, a'.tmps.getD 58 undef, a'.tmps.getD 59 undef, a'.tmps.getD 60 undef, a'.tmps.getD 61 undef, a'.tmps.getD 62 undef, a'.tmps.getD 63 undef, a'.tmps.getD 64 undef, a'.tmps.getD 65 undef, a'.tmps.getD 66 undef, a'.tmps.getD 67 undef, a'.tmps.getD 68 undef, a'.tmps.getD 69 undef, a'.tmps.getD 70 undef, a'.tmps.getD 71 undef, a'.tmps.getD 72 undef, a'.tmps.getD 73 undef, a'.tmps.getD 74 undef, a'.tmps.getD 75 undef, a'.tmps.getD 76 undef, a'.tmps.getD 77 undef, a'.tmps.getD 78 undef, a'.tmps.getD 79 undef, a'.tmps.getD 80 undef, a'.tmps.getD 81 undef, a'.tmps.getD 82 undef, a'.tmps.getD 83 undef, a'.tmps.getD 84 undef, a'.tmps.getD 85 undef, a'.tmps.getD 86 undef, a'.tmps.getD 87 undef, a'.tmps.getD 88 undef, a'.tmps.getD 89 undef, a'.tmps.getD 90 undef, a'.tmps.getD 91 undef, a'.tmps.getD 92 undef, a'.tmps.getD 93 undef, a'.tmps.getD 94 undef, a'.tmps.getD 95 undef, a'.tmps.getD 96 undef, a'.tmps.getD 97 undef, a'.tmps.getD 98 undef, a'.tmps.getD 99 undef], defers := Ds.map markD } ∧ EvI wr T tn Ds W) 2 ?start ?round
      case start =>
        exact ⟨0, wr.heap.size, [], by omega, rfl, rfl, ⟨hBT, T0, Nat.le_refl _, (fun D hD => by cases hD), List.nodup_nil⟩⟩
      case round =>
        intro m a' W hinv J K hJ hK
        obtain ⟨tn, T, Ds, htn, hm, ha, hI⟩ := hinv
        obtain ⟨u, hu⟩ : ∃ u : Nat → Value, ∀ i, a'.tmps.getD i undef = u i := ⟨_, fun _ => rfl⟩
        simp only [hu] at ha
        clear hu
        subst ha hm
        have HJ := Lib.hid hJ
        clear hJ
        have hX0 := cell_up hI.below X0
        have hX2 := cell_up hI.below X2
        have hX3 := X3.below hI.below
        have HI := Lib.hid hI
        have hT := hI.turn.cell (i := 0) rfl
        have fT := hI.turn.fz 0
        have hTl := hI.turn.lt
        have hT0 := hI.low
        have hWs := hI.below.size
        clear hI
        rcases (show tn = 0 ∨ tn = 1 ∨ tn = 2 by omega) with rfl | rfl | rfl
        · replace hT : W.cell? ⟨T, 0, none⟩ = some (.int .i64 0) := hT
          replace HI := Lib.hid (show EvI wr T 0 Ds W from HI.out)
          go_wp2
          have c0 : RowAt ((W.alloc (.cells #[.int .i64 0] 3)).alloc (.cells #[.int .i64 (-1)] 3)) W.heap.size #[.int .i64 0] 3 := (RowAt.new W _ _).alloc _
          have c1 : RowAt ((W.alloc (.cells #[.int .i64 0] 3)).alloc (.cells #[.int .i64 (-1)] 3)) (W.heap.size + 1) #[.int .i64 (-1)] 3 := by
            have := RowAt.new (W.alloc (.cells #[.int .i64 0] 3)) #[.int .i64 (-1)] 3
            rwa [show (W.alloc (.cells #[.int .i64 0] 3)).heap.size = W.heap.size + 1 by simp] at this
          have hb2 : But (fun _ => False) W ((W.alloc (.cells #[.int .i64 0] 3)).alloc (.cells #[.int .i64 (-1)] 3)) := (But.alloc _ _).trans (But.alloc _ _)
          have I2 := HI.out.but hb2 (fun _ h => h.elim) (fun h => h) (fun _ _ h => h)
          have hs2 : ((W.alloc (.cells #[.int .i64 0] 3)).alloc (.cells #[.int .i64 (-1)] 3)).heap.size = W.heap.size + 2 := by simp
          obtain ⟨W2, hW2⟩ : ∃ W2, ((W.alloc (.cells #[.int .i64 0] 3)).alloc (.cells #[.int .i64 (-1)] 3)) = W2 := ⟨_, rfl⟩
          rw [hW2] at c0 c1 I2 hs2 ⊢
          clear hW2 hb2
          have hE2 := HE.out.but (O := fun _ => False) (But.of_below I2.below) (fun h => h) (fun h => h) (.inr fun _ _ h => h)
          have hR0 : EvR wr T 0 Ds W.heap.size x l 0 (fun q => q = W.heap.size ∨ q = W.heap.size + 1) W2 :=
            ⟨I2, c0, c1, .inl rfl, .inr rfl, fun q h => by omega, fun h => by omega, fun D hD h => by have := (HI.out.marks D hD).1; have := (Array.getElem?_eq_some_iff.1 this).1; omega⟩
          have hDl : ∀ D ∈ Ds, D < W2.heap.size := fun D hD => by have := (Array.getElem?_eq_some_iff.1 (I2.marks D hD).1).1; omega
          have HR0 := Lib.hid hR0
          have HI2 := Lib.hid I2
          clear c0 c1 hR0 I2
          refine wpIn_wide.1 (wp_range (n := 3) (S := fun q => q = C ∨ q = NB ∨ (0 < j ∧ v1.ownBlock = some q)) (gf := 26) (lb := #[.pointer (some ⟨C, 0, none⟩), .pointer (some ⟨NB, 0, none⟩)]) rfl enters_events1
            (events1_x l x C NB _ j v1 _ W2 hE2 (by omega) ⟨.inl rfl, .inr (.inl rfl), (Nat.eq_zero_or_pos j).elim .inl fun h => .inr fun k hk => .inr (.inr ⟨h, hk⟩)⟩) (Below.refl _ _) (fun _ => rfl)
            (fun q => q = W.heap.size ∨ q = W.heap.size + 1) (fun k h => by omega) ?hS
            (fun k G W3 => EvR wr T 0 Ds W.heap.size x l k G W3 ∧ (k = 0 ∨ (k : Int) < many))
            (fun k a' G W3 => (∃ V, a' = { tmps := #[Value.slice a j c, nmV x, .int .i64 many, .pointer (some ⟨w.heap.size, 0, none⟩), .pointer (some ⟨w.heap.size + 1, 0, none⟩), .pointer (some ⟨w.heap.size + 1 + 1, 0, none⟩), .pointer (some ⟨w.heap.size + 1 + 1 + 1, 0, none⟩), .func (.func 26) #[] #[.pointer (some ⟨C, 0, none⟩), .pointer (some ⟨NB, 0, none⟩)], .int .i64 ((evsOf x l).length : Nat), .int .i64 j, .pointer (some ⟨T, 0, none⟩), .pointer (some ⟨W.heap.size, 0, none⟩), .pointer (some ⟨W.heap.size + 1, 0, none⟩), .int .i64 (prAt x l k).2, .pointer (some ⟨V, 0, none⟩), u 15, u 16, u 17, u 18, u 19, u 20, u 21, u 22, u 23, u 24, u 25, u 26, u 27, u 28, u 29, u 30, u 31, u 32, u 33, u 34, u 35, u 36, u 37, u 38, .int .i64 0, .bool true, u 41, u 42, .func (.func 26) #[] #[.pointer (some ⟨C, 0, none⟩), .pointer (some ⟨NB, 0, none⟩)], .int .i64 (prAt x l k).2, evV (prAt x l k).1, u 46, u 47, u 48, u 49, u 50, u 51, u 52, u 53, u 54, u 55, u 56, u 57, u 58, u 59, u 60, u 61, u 62, u 63, u 64, u 65, u 66, u 67, u 68, u 69, u 70, u 71, u 72, u 73, u 74, u 75, u 76, u 77, u 78, u 79, u 80, u 81, u 82, u 83, u 84, u 85, u 86, u 87, u 88, u 89, u 90, u 91, u 92, u 93, u 94, u 95, u 96, u 97, u 98, u 99], defers := [] } ∧ RowAt W3 V (evA (prAt x l k).1) 48 ∧ G V) ∧ EvR wr T 0 Ds W.heap.size x l k G W3 ∧ (k = 0 ∨ (k : Int) < many))
            (fun c k G W3 => c = .exit 4 ∧ EvR wr T 0 Ds W.heap.size x l k G W3 ∧ many ≤ k ∧ (k = 1 ∨ (k : Int) - 1 < many))
            ?abI ?abM ?abX ?h0 ?assign ?body ?done ?stop)
          case hS =>
            rintro q (rfl | rfl | ⟨hp, hq⟩)
            · exact ⟨by omega, by omega⟩
            · exact ⟨by omega, by omega⟩
            · rcases hbl with h | h
              · omega
              · have := h q hq; exact ⟨by omega, by omega⟩
          case abI => exact fun k G A B h hb => ⟨EvR.abide (by omega) (by omega) hDl G A B h.1 hb, h.2⟩
          case abM =>
            rintro k a' G A B ⟨⟨V, ha, hV, hG⟩, h⟩ hb
            exact ⟨⟨V, ha, (hb.same V hV.lt (fun e => e.2 hG)).trans hV, hG⟩, ⟨EvR.abide (by omega) (by omega) hDl G A B h.1 hb, h.2⟩⟩
          case abX => exact fun c k G A B h hb => ⟨h.1, EvR.abide (by omega) (by omega) hDl G A B h.2.1 hb, h.2.2⟩
          case h0 => exact ⟨HR0.out, .inl rfl⟩
          case assign =>
            intro l2 k G W3 K3 hk hi hK3
            simp only [prArgs]
            gi_wp2
            refine hK3 _ _ (But.alloc _ _) ⟨⟨_, rfl, RowAt.new _ _ _, .inr ⟨Nat.le_refl _, by simp⟩⟩, ?_⟩
            exact ⟨EvR.alloc hi.1 _, hi.2⟩
          case body =>
            rintro l2 k a' G W3 hk hl2 _ hGl ⟨⟨V, rfl, hV, hGV⟩, hi⟩
            have hR := hi.1
            obtain ⟨i, hil, hpe, hname, hlast⟩ := prAt_spec hk
            have hij : i < j := by rw [← Hln.out]; exact hil
            obtain ⟨b, off, rfl, hr⟩ := Hv.out.rec_at (cells := evC) (sz := 16) (fun _ => rfl) hij hil
            have hstep := hR.step i (show lastI x l (k + 1) = i by show ((prAt x l k).2 : Int) = i; rw [hpe])
            simp only [hpe] at hV ⊢
            generalize l[i] = e at *
            have hV : RowAt W3.drew V (evA e) 48 := hV
            have hr3' := rangeAt_up hR.base.below hr
            have hr3 : W3.drew.rangeAt b (off + i * 16) (evC e) := hr3'
            clear hr3'
            have x03 : W3.cell? ⟨w.heap.size, 0, none⟩ = some (.slice (some ⟨b, off, none⟩) j c) := cell_up hR.base.below X0
            have x23 := cell_up hR.base.below X2
            have N3' := N1.below hR.base.below
            have N3 : RowAt W3.drew (w.heap.size + 1) (nmC x).toArray 39 := N3'
            clear N3'
            have a1 : W3.cell? ⟨W.heap.size, 0, none⟩ = some (.int .i64 k) := hR.cnt.cell (i := 0) rfl
            have f1 := hR.cnt.fz 0
            have a2 : W3.cell? ⟨W.heap.size + 1, 0, none⟩ = some (.int .i64 (lastI x l k)) := hR.lst.cell (i := 0) rfl
            have f2 := hR.lst.fz 0
            have aT : W3.cell? ⟨T, 0, none⟩ = some (.int .i64 0) := hR.base.turn.cell (i := 0) rfl
            have hTK : ¬ T = W.heap.size := by omega
            have hTK1 : ¬ T = W.heap.size + 1 := by omega
            have hKT : ¬ W.heap.size = T := by omega
            have hKT1 : ¬ W.heap.size + 1 = T := by omega
            have hw5 : ¬ w.heap.size + 1 + 1 = W.heap.size := by have : w.heap.size + 1 + 1 < wr.heap.size := World.block_lt_of_cell? wr _ X2; omega
            have hw6 : ¬ w.heap.size + 1 + 1 = W.heap.size + 1 := by have : w.heap.size + 1 + 1 < wr.heap.size := World.block_lt_of_cell? wr _ X2; omega
            have hli : ¬ (i : Int) ≤ lastI x l k := by omega
            have hle2 : ¬ j ≤ i := by omega
            have hkn : (k : Int) ≤ 60 := by
              have h1 := prs_evs x l
              have h2 := evsOf_len x l
              have h3 := Hln.out
              omega
            have Hstep := Lib.hid hstep
            have hlf : decide ((i : Int) ≤ lastI x l k) = false := decide_eq_false hli
            have Hx := Lib.hid hname
            generalize lastI x l k = la at *
            clear hstep hR hname hpe hr hlast
            by_cases hm : many ≤ (k : Int) + 1
            · gi_wp2
              refine wpIn_round_tail 22 mixes (by kernel_rfl) (by kernel_rfl) ?_
              simp only [List.take_succ_cons, List.take_zero, List.drop_succ_cons, List.drop_zero]
              still_step
              still_step
              still_step
              still_step
              still_step
              still_step
              still_step
              still_step
              still_step
              still_step
              still_step
              still_step
              still_step
              refine still_load rfl 48 (.tmp 58) rfl b (off + i * 16) rfl (evC e) _ hr3 Try.underlying48 rfl (by kernel_rfl) ?_
              try simp only [Act.put, List.getElem_toArray, List.getElem_cons_zero, List.getElem_cons_succ, List.setIfInBounds_toArray, List.set_cons_zero, List.set_cons_succ]
              refine still_load rfl 48 (.tmp 14) rfl V 0 rfl (evC e) _ hV.range Try.underlying48 rfl (by kernel_rfl) ?_
              try simp only [Act.put, List.getElem_toArray, List.getElem_cons_zero, List.getElem_cons_succ, List.setIfInBounds_toArray, List.set_cons_zero, List.set_cons_succ]
              refine still_val rfl (exec_evneq (e := e) rfl rfl rfl _) ?_
              try simp only [Act.put, List.getElem_toArray, List.getElem_cons_zero, List.getElem_cons_succ, List.setIfInBounds_toArray, List.set_cons_zero, List.set_cons_succ]
              still_step
              still_step
              still_step
              refine still_load rfl 39 (.tmp 64) rfl V 5 rfl (nmC e.name) _ (rangeAt_sub hV.range 5 5 rfl (evC_name e)) Try.underlying39 rfl (by kernel_rfl) ?_
              try simp only [Act.put, List.getElem_toArray, List.getElem_cons_zero, List.getElem_cons_succ, List.setIfInBounds_toArray, List.set_cons_zero, List.set_cons_succ]
              refine still_load rfl 39 (.tmp 4) rfl (w.heap.size + 1) 0 rfl (nmC e.name) _ (by rw [Hx.out]; exact N3.range) Try.underlying39 rfl (by kernel_rfl) ?_
              try simp only [Act.put, List.getElem_toArray, List.getElem_cons_zero, List.getElem_cons_succ, List.setIfInBounds_toArray, List.set_cons_zero, List.set_cons_succ]
              refine still_val rfl (exec_nmneq (p := e.name) rfl rfl rfl _) ?_
              try simp only [Act.put, List.getElem_toArray, List.getElem_cons_zero, List.getElem_cons_succ, List.setIfInBounds_toArray, List.set_cons_zero, List.set_cons_succ]
              refine wpStill_nil ?_
              gi_wp2
              exact ⟨Hstep.out.1, rfl, Hstep.out.2, by simpa using hm, by rcases hi.2 with h | h; exact .inl (by omega); exact .inr (by simp; omega)⟩
            · gi_wp2
              refine wpIn_round_tail 22 mixes (by kernel_rfl) (by kernel_rfl) ?_
              simp only [List.take_succ_cons, List.take_zero, List.drop_succ_cons, List.drop_zero]
              still_step
              still_step
              still_step
              still_step
              still_step
              still_step
              still_step
              still_step
              still_step
              still_step
              still_step
              still_step
              still_step
              refine still_load rfl 48 (.tmp 58) rfl b (off + i * 16) rfl (evC e) _ hr3 Try.underlying48 rfl (by kernel_rfl) ?_
              try simp only [Act.put, List.getElem_toArray, List.getElem_cons_zero, List.getElem_cons_succ, List.setIfInBounds_toArray, List.set_cons_zero, List.set_cons_succ]
              refine still_load rfl 48 (.tmp 14) rfl V 0 rfl (evC e) _ hV.range Try.underlying48 rfl (by kernel_rfl) ?_
              try simp only [Act.put, List.getElem_toArray, List.getElem_cons_zero, List.getElem_cons_succ, List.setIfInBounds_toArray, List.set_cons_zero, List.set_cons_succ]
              refine still_val rfl (exec_evneq (e := e) rfl rfl rfl _) ?_
              try simp only [Act.put, List.getElem_toArray, List.getElem_cons_zero, List.getElem_cons_succ, List.setIfInBounds_toArray, List.set_cons_zero, List.set_cons_succ]
              still_step
              still_step
              still_step
              refine still_load rfl 39 (.tmp 64) rfl V 5 rfl (nmC e.name) _ (rangeAt_sub hV.range 5 5 rfl (evC_name e)) Try.underlying39 rfl (by kernel_rfl) ?_
              try simp only [Act.put, List.getElem_toArray, List.getElem_cons_zero, List.getElem_cons_succ, List.setIfInBounds_toArray, List.set_cons_zero, List.set_cons_succ]
              refine still_load rfl 39 (.tmp 4) rfl (w.heap.size + 1) 0 rfl (nmC e.name) _ (by rw [Hx.out]; exact N3.range) Try.underlying39 rfl (by kernel_rfl) ?_
              try simp only [Act.put, List.getElem_toArray, List.getElem_cons_zero, List.getElem_cons_succ, List.setIfInBounds_toArray, List.set_cons_zero, List.set_cons_succ]
              refine still_val rfl (exec_nmneq (p := e.name) rfl rfl rfl _) ?_
              try simp only [Act.put, List.getElem_toArray, List.getElem_cons_zero, List.getElem_cons_succ, List.setIfInBounds_toArray, List.set_cons_zero, List.set_cons_succ]
              refine wpStill_nil ?_
              gi_wp2
              exact ⟨Hstep.out.1, Hstep.out.2, .inr (by simp; omega)⟩
          case done =>
            rintro D G W3 hD hGD hi hKD
            have hR := hi.1
            rw [prs_evs] at hi hR
            have aT : W3.cell? ⟨T, 0, none⟩ = some (.int .i64 0) := hR.base.turn.cell (i := 0) rfl
            have a1 : W3.cell? ⟨W.heap.size, 0, none⟩ = some (.int .i64 ((evsOf x l).length : Nat)) := hR.cnt.cell (i := 0) rfl
            have x23 := cell_up hR.base.below X2
            have hDn : D ∉ Ds := fun h => by have := hDl D h; omega
            have HN := Lib.hid (fun v => hR.base.next hKD (by omega) hDn v)
            have Hi := Lib.hid hi
            clear hR hi hKD
            have hA0 := Hi.out.2
            generalize (evsOf x l).length = A at *
            by_cases h1m : 1 < many
            · have hmA : ¬ many < (A : Int) := by omega
              have hmA2 : (A : Int) ≤ many := by omega
              clear hA0
              go_wp2
              refine Handed.intro 1 (by omega) (HJ.out _ _ _ ?_)
              exact ⟨1, W3.heap.size, D :: Ds, by omega, rfl, rfl, HN.out 1⟩
            · have hmA : ¬ (1 : Int) < (A : Int) := by omega
              have hmA2 : (A : Int) ≤ 1 := by omega
              have hm1 : many ≤ 1 := by omega
              clear hA0
              go_wp2
              refine Handed.intro 1 (by omega) (HJ.out _ _ _ ?_)
              exact ⟨1, W3.heap.size, D :: Ds, by omega, rfl, rfl, HN.out 1⟩
          case stop =>
            rintro D c k G W3 hD hGD hk ⟨rfl, hR, hmk, hk0⟩ hKD
            refine wpIn_wide.2 ?_
            rw [prs_evs] at hk
            have aT : W3.cell? ⟨T, 0, none⟩ = some (.int .i64 0) := hR.base.turn.cell (i := 0) rfl
            have a1 : W3.cell? ⟨W.heap.size, 0, none⟩ = some (.int .i64 ((k : Int) + 1)) := hR.cnt.cell (i := 0) rfl
            have x23 := cell_up hR.base.below X2
            have hDn : D ∉ Ds := fun h => by have := hDl D h; omega
            have HN := Lib.hid (fun v => hR.base.next hKD (by omega) hDn v)
            have hmk' : many ≤ (k : Int) + 1 := by simpa using hmk
            have hk0' : k = 0 ∨ (k : Int) < many := by rcases hk0 with h | h; exact .inl (by omega); exact .inr (by simp at h; omega)
            have hkA : ((k : Int) + 1) ≤ ((evsOf x l).length : Nat) := by omega
            generalize (evsOf x l).length = A at *
            clear hR hKD hmk hk0 hk
            by_cases h1m : 1 < many
            · obtain rfl : many = (k : Int) + 1 := by omega
              clear hmk' hk0'
              by_cases hAA : (k : Int) + 1 < (A : Int)
              · have hAA2 : ¬ (A : Int) ≤ (k : Int) + 1 := by omega
                go_wp2
                refine Handed.intro 1 (by omega) (HJ.out _ _ _ ?_)
                exact ⟨1, W3.heap.size, D :: Ds, by omega, rfl, rfl, HN.out 1⟩
              · obtain rfl : A = k + 1 := by omega
                have hAA2 : ¬ (k : Int) + 1 < ((k + 1 : Nat) : Int) := by omega
                go_wp2
                refine Handed.intro 1 (by omega) (HJ.out _ _ _ ?_)
                exact ⟨1, W3.heap.size, D :: Ds, by omega, rfl, rfl, HN.out 1⟩
            · obtain rfl : k = 0 := by omega
              have hm1 : many ≤ 1 := by omega
              clear hmk' hk0'
              by_cases hAA : (1 : Int) < (A : Int)
              · have hAA2 : ¬ (A : Int) ≤ 1 := by omega
                go_wp2
                refine Handed.intro 1 (by omega) (HJ.out _ _ _ ?_)
                exact ⟨1, W3.heap.size, D :: Ds, by omega, rfl, rfl, HN.out 1⟩
              · obtain rfl : A = 1 := by omega
                go_wp2
                refine Handed.intro 1 (by omega) (HJ.out _ _ _ ?_)
                exact ⟨1, W3.heap.size, D :: Ds, by omega, rfl, rfl, HN.out 1⟩
        · replace hT : W.cell? ⟨T, 0, none⟩ = some (.int .i64 1) := hT
          replace HI := Lib.hid (show EvI wr T 1 Ds W from HI.out)
          go_wp2
          have c0 : RowAt ((W.alloc (.cells #[.int .i64 0] 3)).alloc (.cells #[.int .i64 (-1)] 3)) W.heap.size #[.int .i64 0] 3 := (RowAt.new W _ _).alloc _
          have c1 : RowAt ((W.alloc (.cells #[.int .i64 0] 3)).alloc (.cells #[.int .i64 (-1)] 3)) (W.heap.size + 1) #[.int .i64 (-1)] 3 := by
            have := RowAt.new (W.alloc (.cells #[.int .i64 0] 3)) #[.int .i64 (-1)] 3
            rwa [show (W.alloc (.cells #[.int .i64 0] 3)).heap.size = W.heap.size + 1 by simp] at this
          have hb2 : But (fun _ => False) W ((W.alloc (.cells #[.int .i64 0] 3)).alloc (.cells #[.int .i64 (-1)] 3)) := (But.alloc _ _).trans (But.alloc _ _)
          have I2 := HI.out.but hb2 (fun _ h => h.elim) (fun h => h) (fun _ _ h => h)
          have hs2 : ((W.alloc (.cells #[.int .i64 0] 3)).alloc (.cells #[.int .i64 (-1)] 3)).heap.size = W.heap.size + 2 := by simp
          obtain ⟨W2, hW2⟩ : ∃ W2, ((W.alloc (.cells #[.int .i64 0] 3)).alloc (.cells #[.int .i64 (-1)] 3)) = W2 := ⟨_, rfl⟩
          rw [hW2] at c0 c1 I2 hs2 ⊢
          clear hW2 hb2
          have hE2 := HE.out.but (O := fun _ => False) (But.of_below I2.below) (fun h => h) (fun h => h) (.inr fun _ _ h => h)
          have hR0 : EvR wr T 1 Ds W.heap.size x l 0 (fun q => q = W.heap.size ∨ q = W.heap.size + 1) W2 :=
            ⟨I2, c0, c1, .inl rfl, .inr rfl, fun q h => by omega, fun h => by omega, fun D hD h => by have := (HI.out.marks D hD).1; have := (Array.getElem?_eq_some_iff.1 this).1; omega⟩
          have hDl : ∀ D ∈ Ds, D < W2.heap.size := fun D hD => by have := (Array.getElem?_eq_some_iff.1 (I2.marks D hD).1).1; omega
          have HR0 := Lib.hid hR0
          have HI2 := Lib.hid I2
          clear c0 c1 hR0 I2
          refine wpIn_wide.1 (wp_range (n := 3) (S := fun q => q = C ∨ q = NB ∨ (0 < j ∧ v1.ownBlock = some q)) (gf := 26) (lb := #[.pointer (some ⟨C, 0, none⟩), .pointer (some ⟨NB, 0, none⟩)]) rfl enters_events1
            (events1_x l x C NB _ j v1 _ W2 hE2 (by omega) ⟨.inl rfl, .inr (.inl rfl), (Nat.eq_zero_or_pos j).elim .inl fun h => .inr fun k hk => .inr (.inr ⟨h, hk⟩)⟩) (Below.refl _ _) (fun _ => rfl)
            (fun q => q = W.heap.size ∨ q = W.heap.size + 1) (fun k h => by omega) ?hS
            (fun k G W3 => EvR wr T 1 Ds W.heap.size x l k G W3)
            (fun k a' G W3 => (∃ V, a' = { tmps := #[Value.slice a j c, nmV x, .int .i64 many, .pointer (some ⟨w.heap.size, 0, none⟩), .pointer (some ⟨w.heap.size + 1, 0, none⟩), .pointer (some ⟨w.heap.size + 1 + 1, 0, none⟩), .pointer (some ⟨w.heap.size + 1 + 1 + 1, 0, none⟩), .func (.func 26) #[] #[.pointer (some ⟨C, 0, none⟩), .pointer (some ⟨NB, 0, none⟩)], .int .i64 ((evsOf x l).length : Nat), .int .i64 j, .pointer (some ⟨T, 0, none⟩), .pointer (some ⟨W.heap.size, 0, none⟩), .pointer (some ⟨W.heap.size + 1, 0, none⟩), .int .i64 (prAt x l k).2, .pointer (some ⟨V, 0, none⟩), u 15, u 16, u 17, u 18, u 19, u 20, u 21, u 22, u 23, u 24, u 25, u 26, u 27, u 28, u 29, u 30, u 31, u 32, u 33, u 34, u 35, u 36, u 37, u 38, .int .i64 1, .bool true, u 41, u 42, .func (.func 26) #[] #[.pointer (some ⟨C, 0, none⟩), .pointer (some ⟨NB, 0, none⟩)], .int .i64 (prAt x l k).2, evV (prAt x l k).1, u 46, u 47, u 48, u 49, u 50, u 51, u 52, u 53, u 54, u 55, u 56, u 57, u 58, u 59, u 60, u 61, u 62, u 63, u 64, u 65, u 66, u 67, u 68, u 69, u 70, u 71, u 72, u 73, u 74, u 75, u 76, u 77, u 78, u 79, u 80, u 81, u 82, u 83, u 84, u 85, u 86, u 87, u 88, u 89, u 90, u 91, u 92, u 93, u 94, u 95, u 96, u 97, u 98, u 99], defers := [] } ∧ RowAt W3 V (evA (prAt x l k).1) 48 ∧ G V) ∧ EvR wr T 1 Ds W.heap.size x l k G W3)
            (fun c k G W3 => False)
            ?abI ?abM ?abX ?h0 ?assign ?body ?done ?stop)
          case hS =>
            rintro q (rfl | rfl | ⟨hp, hq⟩)
            · exact ⟨by omega, by omega⟩
            · exact ⟨by omega, by omega⟩
            · rcases hbl with h | h
              · omega
              · have := h q hq; exact ⟨by omega, by omega⟩
          case abI => exact fun k G A B h hb => EvR.abide (by omega) (by omega) hDl G A B h hb
          case abM =>
            rintro k a' G A B ⟨⟨V, ha, hV, hG⟩, h⟩ hb
            exact ⟨⟨V, ha, (hb.same V hV.lt (fun e => e.2 hG)).trans hV, hG⟩, EvR.abide (by omega) (by omega) hDl G A B h hb⟩
          case abX => exact fun c k G A B h hb => h.elim
          case h0 => exact HR0.out
          case assign =>
            intro l2 k G W3 K3 hk hi hK3
            simp only [prArgs]
            gi_wp2
            refine hK3 _ _ (But.alloc _ _) ⟨⟨_, rfl, RowAt.new _ _ _, .inr ⟨Nat.le_refl _, by simp⟩⟩, ?_⟩
            exact EvR.alloc hi _
          case body =>
            rintro l2 k a' G W3 hk hl2 _ hGl ⟨⟨V, rfl, hV, hGV⟩, hi⟩
            have hR := hi
            obtain ⟨i, hil, hpe, hname, hlast⟩ := prAt_spec hk
            have hij : i < j := by rw [← Hln.out]; exact hil
            obtain ⟨b, off, rfl, hr⟩ := Hv.out.rec_at (cells := evC) (sz := 16) (fun _ => rfl) hij hil
            have hstep := hR.step i (show lastI x l (k + 1) = i by show ((prAt x l k).2 : Int) = i; rw [hpe])
            simp only [hpe] at hV ⊢
            generalize l[i] = e at *
            have hV : RowAt W3.drew V (evA e) 48 := hV
            have hr3' := rangeAt_up hR.base.below hr
            have hr3 : W3.drew.rangeAt b (off + i * 16) (evC e) := hr3'
            clear hr3'
            have x03 : W3.cell? ⟨w.heap.size, 0, none⟩ = some (.slice (some ⟨b, off, none⟩) j c) := cell_up hR.base.below X0
            have x23 := cell_up hR.base.below X2
            have N3' := N1.below hR.base.below
            have N3 : RowAt W3.drew (w.heap.size + 1) (nmC x).toArray 39 := N3'
            clear N3'
            have a1 : W3.cell? ⟨W.heap.size, 0, none⟩ = some (.int .i64 k) := hR.cnt.cell (i := 0) rfl
            have f1 := hR.cnt.fz 0
            have a2 : W3.cell? ⟨W.heap.size + 1, 0, none⟩ = some (.int .i64 (lastI x l k)) := hR.lst.cell (i := 0) rfl
            have f2 := hR.lst.fz 0
            have aT : W3.cell? ⟨T, 0, none⟩ = some (.int .i64 1) := hR.base.turn.cell (i := 0) rfl
            have hTK : ¬ T = W.heap.size := by omega
            have hTK1 : ¬ T = W.heap.size + 1 := by omega
            have hKT : ¬ W.heap.size = T := by omega
            have hKT1 : ¬ W.heap.size + 1 = T := by omega
            have hw5 : ¬ w.heap.size + 1 + 1 = W.heap.size := by have : w.heap.size + 1 + 1 < wr.heap.size := World.block_lt_of_cell? wr _ X2; omega
            have hw6 : ¬ w.heap.size + 1 + 1 = W.heap.size + 1 := by have : w.heap.size + 1 + 1 < wr.heap.size := World.block_lt_of_cell? wr _ X2; omega
            have hli : ¬ (i : Int) ≤ lastI x l k := by omega
            have hle2 : ¬ j ≤ i := by omega
            have hkn : (k : Int) ≤ 60 := by
              have h1 := prs_evs x l
              have h2 := evsOf_len x l
              have h3 := Hln.out
              omega
            have Hstep := Lib.hid hstep
            have hlf : decide ((i : Int) ≤ lastI x l k) = false := decide_eq_false hli
            have Hx := Lib.hid hname
            generalize lastI x l k = la at *
            clear hstep hR hname hpe hr hlast
            gi_wp2
            refine wpIn_round_tail 22 mixes (by kernel_rfl) (by kernel_rfl) ?_
            simp only [List.take_succ_cons, List.take_zero, List.drop_succ_cons, List.drop_zero]
            still_step
            still_step
            still_step
            still_step
            still_step
            still_step
            still_step
            still_step
            still_step
            still_step
            still_step
            still_step
            still_step
            refine still_load rfl 48 (.tmp 58) rfl b (off + i * 16) rfl (evC e) _ hr3 Try.underlying48 rfl (by kernel_rfl) ?_
            try simp only [Act.put, List.getElem_toArray, List.getElem_cons_zero, List.getElem_cons_succ, List.setIfInBounds_toArray, List.set_cons_zero, List.set_cons_succ]
            refine still_load rfl 48 (.tmp 14) rfl V 0 rfl (evC e) _ hV.range Try.underlying48 rfl (by kernel_rfl) ?_
            try simp only [Act.put, List.getElem_toArray, List.getElem_cons_zero, List.getElem_cons_succ, List.setIfInBounds_toArray, List.set_cons_zero, List.set_cons_succ]
            refine still_val rfl (exec_evneq (e := e) rfl rfl rfl _) ?_
            try simp only [Act.put, List.getElem_toArray, List.getElem_cons_zero, List.getElem_cons_succ, List.setIfInBounds_toArray, List.set_cons_zero, List.set_cons_succ]
            still_step
            still_step
            still_step
            refine still_load rfl 39 (.tmp 64) rfl V 5 rfl (nmC e.name) _ (rangeAt_sub hV.range 5 5 rfl (evC_name e)) Try.underlying39 rfl (by kernel_rfl) ?_
            try simp only [Act.put, List.getElem_toArray, List.getElem_cons_zero, List.getElem_cons_succ, List.setIfInBounds_toArray, List.set_cons_zero, List.set_cons_succ]
            refine still_load rfl 39 (.tmp 4) rfl (w.heap.size + 1) 0 rfl (nmC e.name) _ (by rw [Hx.out]; exact N3.range) Try.underlying39 rfl (by kernel_rfl) ?_
            try simp only [Act.put, List.getElem_toArray, List.getElem_cons_zero, List.getElem_cons_succ, List.setIfInBounds_toArray, List.set_cons_zero, List.set_cons_succ]
            refine still_val rfl (exec_nmneq (p := e.name) rfl rfl rfl _) ?_
            try simp only [Act.put, List.getElem_toArray, List.getElem_cons_zero, List.getElem_cons_succ, List.setIfInBounds_toArray, List.set_cons_zero, List.set_cons_succ]
            refine wpStill_nil ?_
            gi_wp2
            exact ⟨Hstep.out.1, Hstep.out.2⟩
          case done =>
            rintro D G W3 hD hGD hi hKD
            have hR := hi
            rw [prs_evs] at hi hR
            have aT : W3.cell? ⟨T, 0, none⟩ = some (.int .i64 1) := hR.base.turn.cell (i := 0) rfl
            have a1 : W3.cell? ⟨W.heap.size, 0, none⟩ = some (.int .i64 ((evsOf x l).length : Nat)) := hR.cnt.cell (i := 0) rfl
            have x23 := cell_up hR.base.below X2
            have hDn : D ∉ Ds := fun h => by have := hDl D h; omega
            have HN := Lib.hid (fun v => hR.base.next hKD (by omega) hDn v)
            have Hi := Lib.hid hi
            clear hR hi hKD
            generalize (evsOf x l).length = A at *
            go_wp2
            refine Handed.intro 0 (by omega) (HJ.out _ _ _ ?_)
            exact ⟨2, W3.heap.size, D :: Ds, by omega, rfl, rfl, HN.out 2⟩
          case stop =>
            intro D c k G W3 hD hGD hk hi hKD
            exact hi.elim
        · replace hT : W.cell? ⟨T, 0, none⟩ = some (.int .i64 2) := hT
          have hxb := hB1.size
          have hX3l := hX3.lt
          go_wp2_with (go_at_call 6; refine (works_c _).mono ?_; rintro en wx ⟨rfl, hbx⟩; have hx3 := hX3.below hbx; have hx3c := hx3.cell (i := 0) rfl; have hx3f := hx3.fz 0)
          have hx4 := hx3.set 0 (.bool true)
          refine leaves_marks Ds _ HI.out.nodup (fun D hD => ?_) (fun w9 hb9 => ?_)
          · have hm := HI.out.marks D hD
            have hDlt : D < W.heap.size := (Array.getElem?_eq_some_iff.1 hm.1).1
            have hne : D ≠ w.heap.size + 1 + 1 + 1 := fun e => by have h1 := hX3; rw [← e] at h1; unfold RowAt at h1; rw [hm.1] at h1; cases h1
            rw [Below.heap_setCell _ _ _ _ (by simpa using hne)]
            exact (hbx.block D hDlt).trans hm.1
          · have hne : w.heap.size + 1 + 1 + 1 ∉ Ds := fun hD => by have hm := HI.out.marks _ hD; have h1 := hX3; unfold RowAt at h1; rw [hm.1] at h1; cases h1
            have hx5 := (hb9.same _ hx4.lt hne).trans hx4
            have hx5c := RowAt.cell (i := 0) (v := .bool true) hx5 rfl
            refine ⟨.bool true, by simp [results, Try.results4, go_sem, hx5c], rfl, ?_⟩
            have hB2 := below_up (hB1.trans (HI.out.below.mono hB1.size)) hbx
            have hB3 := hB2.setCell (show w.heap.size ≤ (⟨w.heap.size + 1 + 1 + 1, 0, none⟩ : Addr).block by simp; omega) (.bool true)
            exact hB3.trans (hb9.below (fun D hD => by have := (HI.out.marks D hD).2; omega) hB3.size)

theorem traceEvents_big (v : Value) (n : Nat) (x : Nm) (many : Int) (w : World) (cs : List Value) (hv : Sl w 16 v n cs) (hn : 60 < n) :
    Calls Try.prog 4 #[v, nmV x, .int .i64 many] w (Ret (.bool true) w) := by
  obtain ⟨a, c, rfl⟩ := hv.len
  have hle : (60 : Int) < (n : Int) := by omega
  go_enter Try.func4, Try.ntmps4
  have x3 : RowAt ((((w.alloc (.cells #[.slice a n c] 22)).alloc (.cells (nmC x).toArray 39)).alloc (.cells #[.int .i64 many] 3)).alloc (.cells #[.bool false] 4)) (w.heap.size + 1 + 1 + 1) #[.bool false] 4 := by
    have := RowAt.new (((w.alloc (.cells #[.slice a n c] 22)).alloc (.cells (nmC x).toArray 39)).alloc (.cells #[.int .i64 many] 3)) #[.bool false] 4
    rw [show (((w.alloc (.cells #[.slice a n c] 22)).alloc (.cells (nmC x).toArray 39)).alloc (.cells #[.int .i64 many] 3)).heap.size = w.heap.size + 1 + 1 + 1 by simp] at this
    exact this
  have hB4 : Below w.heap.size w ((((w.alloc (.cells #[.slice a n c] 22)).alloc (.cells (nmC x).toArray 39)).alloc (.cells #[.int .i64 many] 3)).alloc (.cells #[.bool false] 4)) := (((below_alloc w _).alloc (by simp) _).alloc (by simp; omega) _).alloc (by simp; omega) _
  go_wp2_with (go_at_call 6; refine (works_c _).mono ?_; rintro en wx ⟨rfl, hbx⟩; have hx3 := x3.below hbx; have hx3c := hx3.cell (i := 0) rfl; have hx3f := hx3.fz 0)
  have hx4 := hx3.set 0 (.bool true)
  have hx5c := RowAt.cell (i := 0) (v := .bool true) hx4 rfl
  exact bodyPost_ret (v := .bool true) (by simp [results, Try.results4, go_sem, hx5c]) rfl ⟨rfl, (below_up hB4 hbx).setCell (show w.heap.size ≤ (⟨w.heap.size + 1 + 1 + 1, 0, none⟩ : Addr).block by simp; omega) (.bool true)⟩

theorem traceEvents_law {H : Type} {enc : TypeId × Value → H} {base : Nat} {spare : Nat → Bool} {held : Bool} {v : Value} {n : Nat} {vs : List Value} (x0 x1 x2 x3 many : Int) (w : World) (hs : Sl w 16 v n vs)
    (hl : ∀ i, i < n → ∀ (j : Nat) (T : TypeId), evLs[j]? = some T → ∃ c, vs[i * 16 + j]? = some c ∧ Leaf enc Try.prog w base spare held T c) :
    Calls Try.prog 4 #[v, .agg [.int .u32 x0, .int .u32 x1, .int .u64 x2, .int .u32 x3].toArray, .int .i64 many] w (Ret (.bool true) w) := by
  by_cases hn : 60 < n
  · exact traceEvents_big v n ⟨x0, x1, x2, x3⟩ many w vs hs hn
  · obtain ⟨l, rfl, hwf⟩ := open_evs hs hl
    exact traceEvents_c l v n ⟨x0, x1, x2, x3⟩ many w hs (by omega)
end Go.Proofs.Ythlgoclidgfejaa
