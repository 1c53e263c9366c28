/-
  IterB, CbV, CbUi, Turn: several texts in one (bundle.py).
-/
import Derived.Test.YtpfgepgjpnekdaaDoorNmI03
import Derived.Test.YtpfgepgjpnekdaaDoorNmI02
import Derived.Test.YtpfgepgjpnekdaaDoorNmI04
import Derived.Test.YtpfgepgjpnekdaaDoorNmI08
import Derived.Test.YtpfgepgjpnekdaaDoorNmI09
namespace Go.Proofs.YtpfgepgjpnekdaaDoor
open Go.RowKit
set_option linter.unusedVariables false

abbrev markD (D : Nat) : Deferred := { target := .collected D, args := #[] }

theorem leaves_marks {F : Fence} {n : Nat} {P : Program} {fn : Func} {tmps : Array Value} {R : Ending → World → Prop} : ∀ (Ds : List Nat) (w : World), Ds.Nodup → (∀ D ∈ Ds, w.heap[D]? = some (.deferred (some []))) →
    (∀ w', But (· ∈ Ds) w w' → ∃ v, (results fn tmps).run P w' = .ok v w' ∧ R (.returned v) w') → LeavesInM F n P fn tmps R (Ds.map markD) .returning w
  | [], w, _, _, h => h w (But.refl _ _)
  | D :: Ds, w, hnd, hD, h => by
    simp only [List.nodup_cons] at hnd
    have h0 := hD D (by simp)
    refine ⟨by simp, .inl ⟨_, _, rfl, run_takeDeferred h0, leaves_marks Ds _ hnd.2 (fun D' hD' => ?_) (fun w' hb => h w' ?_)⟩⟩
    · rw [World.putObj_heap_other (fun e => hnd.1 (by rw [← e]; exact hD'))]
      exact hD D' (by simp [hD'])
    · exact (But.putObj _ _ _ (.inl (by simp))).trans (hb.mono fun k _ hk => by simp [hk])

theorem still_val {P : Program} {ops : Array Oper} {w : World} {K : Act → Prop} {o : Oper} {rest : List Oper} {a : Act} (hw : Region.wanted o (yielded ops a.tmps) = true) {v : Value} (hv : (execOp a.eval o).run P w = .ok (.value v) w)
    (h : wpStill P ops w K rest (a.put o.dst v)) : wpStill P ops w K (o :: rest) a := by
  unfold wpStill
  rw [if_pos hw]
  unfold Oper.still
  rw [hv]
  exact ⟨rfl, h⟩
theorem still_load {P : Program} {ops : Array Oper} {w : World} {K : Act → Prop} {o : Oper} {rest : List Oper} {a : Act} (hw : Region.wanted o (yielded ops a.tmps) = true) (ty : TypeId) (x : Operand) (ho : o.op = .load ty x)
    (b off : Nat) (hx : a.eval x = .pointer (some ⟨b, off, none⟩)) (cs : List Value) (d : TypeDesc) (hr : w.rangeAt b off cs) (hu : P.underlying ty = some d) (hd : d.isRow = true) (hn : (P.info? ty).map (·.size) = some cs.length)
    (h : wpStill P ops w K rest (a.put o.dst (.agg cs.toArray))) : wpStill P ops w K (o :: rest) a :=
  still_val hw (by
    unfold execOp
    simp only [ho, hx, Instr.loadAt, Instr.sureAddr, Sem.run_bind, Sem.run_pure, Result.andThen_ok, run_loadVar_mid w b off ty cs d hr hu hd hn]) h
theorem wpListIn_val {F : Fence} {n : Nat} {P : Program} {ops : Array Oper} {rest : List Oper} {o : Oper} {a : Act} {w : World} {Q : Exit → Act → World → Prop} (hw : Region.wanted o (yielded ops a.tmps) = true)
    (hab : ∀ f, o.about P w a.eval = some f → F.fn f) (hnd : ∀ c, o.op ≠ .defer c) {v : Value} (hv : (execOp a.eval o).run P w = .ok (.value v) w) (h : wpListIn F n P ops Q rest (a.put o.dst v) w) : wpListIn F n P ops Q (o :: rest) a w := by
  unfold wpListIn
  rw [if_pos hw]
  refine ⟨hab, ?_⟩
  rw [Oper.semAt_eq _ _ _ hnd, hv]
  exact h
theorem wpListIn_loadr {F : Fence} {n : Nat} {P : Program} {ops : Array Oper} {rest : List Oper} {o : Oper} {a : Act} {w : World} {Q : Exit → Act → World → Prop} (hw : Region.wanted o (yielded ops a.tmps) = true) (ty : TypeId) (x : Operand) (ho : o.op = .load ty x)
    (b off : Nat) (hx : a.eval x = .pointer (some ⟨b, off, none⟩)) (cs : List Value) (d : TypeDesc) (hr : w.rangeAt b off cs) (hu : P.underlying ty = some d) (hd : d.isRow = true) (hn : (P.info? ty).map (·.size) = some cs.length)
    (h : wpListIn F n P ops Q rest (a.put o.dst (.agg cs.toArray)) w) : wpListIn F n P ops Q (o :: rest) a w :=
  wpListIn_val hw (fun f hf => by unfold Oper.about at hf; rw [ho] at hf; cases hf) (fun c hc => by rw [ho] at hc; cases hc) (by
    unfold execOp
    simp only [ho, hx, Instr.loadAt, Instr.sureAddr, Sem.run_bind, Sem.run_pure, Result.andThen_ok, run_loadVar_mid w b off ty cs d hr hu hd hn]) h
end Go.Proofs.YtpfgepgjpnekdaaDoor

namespace Go.Proofs.YtpfgepgjpnekdaaDoor
open Go.RowKit Cb
set_option linter.unusedSimpArgs false
set_option linter.unusedVariables false
attribute [local go_sem] Oper.semAt_some
/-- A variable that holds a slice of records. -/
structure RoAt (w : World) (C : Nat) (v : Value) (n : Nat) (L : List Rw) : Prop where
  var : w.cell? ⟨C, 0, none⟩ = some v
  sl : Sl w 5 v n (L.flatMap rwC)
theorem RoAt.but {w w' : World} {C : Nat} {v : Value} {n : Nat} {L : List Rw} {O : Nat → Prop} (h : RoAt w C v n L) (hb : But O w w') (hC : ¬ O C) (hv : n = 0 ∨ ∀ k, v.ownBlock = some k → ¬ O k) : RoAt w' C v n L :=
  ⟨hb.cell h.var hC, h.sl.but hb hv⟩
theorem RoAt.up {w w' : World} {C : Nat} {v : Value} {n : Nat} {L : List Rw} (h : RoAt w C v n L) (hb : Below w.heap.size w w') : RoAt w' C v n L := h.but (O := fun _ => False) (But.of_below hb) (fun e => e) (.inr fun _ _ e => e)
def Shp (r : Rw) : Prop := ∃ k n ba bn bc s la ln lc, r = ⟨k, n, .slice ba bn bc, s, .slice la ln lc⟩
theorem ItsR.shp {S : Nat → Prop} {w : World} {l : List It} {rows : List Rw} (h : ItsR S w l rows) : ∀ r ∈ rows, Shp r := by
  intro r hr
  obtain ⟨i, hi, rfl⟩ := List.getElem_of_mem hr
  have := h.len
  exact (h.get (i := i) (by omega) hi).shape
def itArgs (L : List Rw) (k : Nat) : Array Value := #[rwV (L.getD k ⟨0, 0, .slice none 0 0, ⟨#[]⟩, .slice none 0 0⟩)]
end Go.Proofs.YtpfgepgjpnekdaaDoor

namespace Go.Proofs.YtpfgepgjpnekdaaDoor
open Go.RowKit Cb
set_option linter.unusedSimpArgs false
set_option linter.unusedVariables false
attribute [local go_sem] Oper.semAt_some
theorem wpIn_scopeS {P : Program} {n : Nat} {c : Code} {Q : Exit → Act → World → Prop} {a : Act} {w : World} (h : c.wpIn Fence.wide n P (Exit.noGoto Q) a w) : (Code.scope c).wpIn Fence.wide n P Q a w := wpIn_wide.2 (wp_scope_straight ((wpIn_wide (n := n)).1 h))
/-- The numbers among the records. -/
def usR (L : List Rw) : List Int := (L.filter fun r => r.k == 1).map (·.n)
theorem usR_split (L : List Rw) (j : Nat) : usR L = usR (L.take j) ++ usR (L.drop j) := by
  unfold usR
  rw [← List.map_append, ← List.filter_append, List.take_append_drop]
theorem usR_le (L : List Rw) (j : Nat) : (usR (L.take j)).length ≤ (usR L).length := by
  rw [usR_split L j, List.length_append]; omega
theorem usR_len (L : List Rw) : (usR L).length ≤ L.length := by
  unfold usR
  rw [List.length_map]
  exact List.length_filter_le _ _
theorem usR_one (L : List Rw) {j : Nat} (hj : j < L.length) : usR (L.take (j + 1)) = usR (L.take j) ++ if L[j].k = 1 then [L[j].n] else [] := by
  rw [List.take_succ_eq_append_getElem hj]
  unfold usR
  rw [List.filter_append, List.map_append]
  congr 1
  by_cases h : L[j].k = 1
  · simp [h]
  · simp [h]
def usAt (U : List Int) (k : Nat) : Int := U.getD k 0
theorem usR_yes (L : List Rw) {j : Nat} (hj : j < L.length) (h : L[j].k = 1) : (usR (L.take (j + 1))).length = (usR (L.take j)).length + 1 ∧ (usR (L.take j)).length < (usR L).length ∧ usAt (usR L) (usR (L.take j)).length = L[j].n := by
  have h1 := usR_one L hj
  rw [if_pos h] at h1
  have h2 : (usR (L.take (j + 1))).length = (usR (L.take j)).length + 1 := by rw [h1]; simp
  have h3 := usR_le L (j + 1)
  refine ⟨h2, by omega, ?_⟩
  unfold usAt
  rw [usR_split L (j + 1), h1]
  simp
theorem usR_no (L : List Rw) {j : Nat} (hj : j < L.length) (h : L[j].k ≠ 1) : (usR (L.take (j + 1))).length = (usR (L.take j)).length := by
  rw [usR_one L hj, if_neg h]; simp
def usI (r : Rw) (L : List Rw) : List Int := if r.k = 4 then usR L else []
def usArgs (U : List Int) (k : Nat) : Array Value := #[.int .u64 (usAt U k)]
set_option maxRecDepth 100000 in
theorem uints_c (r : Rw) (hsh : Shp r) (w : World) : Calls Tryd.prog 86 #[rwV r] w fun en w' => en = .returned (.func (.func 97) #[] #[.pointer (some ⟨w.heap.size, 0, none⟩)]) ∧ w' = w.alloc (.cells (rwC r).toArray 48) := by
  have hmf : ∀ (fn : Fn) (first cap : Array Value) (w : World), (Instr.makeFunc fn first cap).run Tryd.prog w = .ok (.func fn first cap) w := fun _ _ _ _ => rfl
  obtain ⟨k, n, ba, bn, bc, s, la, ln, lc, rfl⟩ := hsh
  go_enter Tryd.func86, Tryd.ntmps86
  go_wp2
  go_ret
  exact ⟨rfl, rfl⟩
theorem enters_ui1 : Enters Tryd.prog 97 := enters_of Tryd.func97 (by kernel_rfl) rfl
set_option maxHeartbeats 2000000 in
set_option maxRecDepth 100000 in
theorem ui1_x (r : Rw) (L : List Rw) (C n : Nat) (S : Nat → Prop) (w : World) (hr : RowAt w C (rwC r).toArray 48) (hl : Sl w 5 r.l n (L.flatMap rwC)) (hsh : ∀ r ∈ L, Shp r) (hs : Shp r) (hSS : S C ∧ (n = 0 ∨ ∀ k, r.l.ownBlock = some k → S k)) :
    SeqX Tryd.prog 97 #[.pointer (some ⟨C, 0, none⟩)] (usArgs (usI r L)) (usI r L).length S w := by
  intro l' G J Jx W hW hS hG hJ hJx hY h0
  have hE := hl.up hW
  have hR := hr.below hW
  have Hln := Lib.hid (Sl.recs (cells := rwC) (sz := 5) (fun _ => rfl) (by decide) hE)
  have hn := hE.n_max
  obtain ⟨k0, n0, ba, bn, bc, s, la, ln, lc, rfl⟩ := hs
  obtain rfl : n = ln := by obtain ⟨a, c, h⟩ := hE.len; simp at h; exact h.2.1.symm
  simp only at hE hSS
  have c0 : W.cell? ⟨C, 0, none⟩ = some (.int .i64 k0) := hR.cell (i := 0) rfl
  have c4 : W.cell? ⟨C, 4, none⟩ = some (.slice la n lc) := hR.cell (i := 4) rfl
  clear hl hr hR
  refine (callsIn_wide (n := 3)).1 ?_
  refine callsIn_of_wp Tryd.func97 rfl trivial ?_ rfl
  simp only [Tryd.ntmps97, List.size_toArray, List.length_cons, List.length_nil, Nat.reduceAdd, Nat.reduceSub, Array.replicate_succ, Array.replicate_zero, List.push_toArray, List.append_toArray, List.nil_append, List.cons_append]
  by_cases h4 : k0 = 4
  · subst h4
    have hU : usI ⟨4, n0, .slice ba bn bc, s, .slice la n lc⟩ L = usR L := rfl
    rw [hU] at hY ⊢
    clear hU
    gi_wp2
    refine wpIn_scopeS ?_
    gi_wp2
    refine wpIn_label ?_
    gi_wp2
    gi_loopw [11] (fun i wr => ∃ (j : Nat) (G : Nat → Prop), j ≤ n ∧ i = .int .i64 j ∧ J (usR (L.take j)).length G wr ∧ Sl wr 5 (.slice la n lc) n (L.flatMap rwC) ∧ (∀ k, S k → ¬ G k) ∧ W.heap.size ≤ wr.heap.size) (fun i _ => n - (intOf i).toNat)
    case atStart => exact ⟨0, G, Nat.zero_le _, rfl, h0, hE, fun k hk => (hS k hk).2, Nat.le_refl _⟩
    case round =>
      obtain ⟨j, G1, hk, rfl, hj, hE1, hG1, hsz⟩ := hrel
      by_cases hlt : j < n
      · have hlt' : j < L.length := by rw [Hln.out]; exact hlt
        obtain ⟨b, off, rfl, hr⟩ := hE1.rec_at (cells := rwC) (sz := 5) (fun _ => rfl) hlt hlt'
        have hjn : (j : Int) < (n : Int) := by omega
        have hes := hsh L[j] (List.getElem_mem hlt')
        have HY := Lib.hid (usR_yes L hlt')
        have HNo := Lib.hid (usR_no L hlt')
        generalize L[j] = e at *
        obtain ⟨k1, n1, ba1, bn1, bc1, s1, la1, ln1, lc1, rfl⟩ := hes
        have hJa := (hJ _).alloc (.cells (rwC ⟨k1, n1, .slice ba1 bn1 bc1, s1, .slice la1 ln1 lc1⟩).toArray 48) (((hJ _).up (Nat.le_refl _)) _ _ _ hj (But.refl _ _))
        have E1 := RowAt.new wr (rwC ⟨k1, n1, .slice ba1 bn1 bc1, s1, .slice la1 ln1 lc1⟩).toArray 48
        have hEa := hE1.but (But.alloc (O := fun _ => False) wr (.cells (rwC ⟨k1, n1, .slice ba1 bn1 bc1, s1, .slice la1 ln1 lc1⟩).toArray 48)) (.inr fun _ _ h => h)
        by_cases h1 : k1 = 1
        · subst h1
          obtain ⟨hy1, hy2, hy3⟩ := HY.out rfl
          have hpa : usArgs (usR L) (usR (L.take j)).length = #[.int .u64 n1] := by unfold usArgs; rw [hy3]
          obtain ⟨fn, tmps, assign, body, hy, hR⟩ := yieldAt_wide (m' := 2) (hY _ _ _ hy2 hJa)
          rw [hpa] at hy
          clear hpa
          have HY1 := Lib.hid hy1
          have HY2 := Lib.hid hy2
          clear hy1 hy2 hy3
          gi_wp2_with (first
            | (refine wpListIn_loadr rfl 48 (.tmp 13) rfl b (off + j * 5) rfl (rwC ⟨1, n1, .slice ba1 bn1 bc1, s1, .slice la1 ln1 lc1⟩) _ hr Tryd.underlying48 rfl (by kernel_rfl) ?_))
          refine hR.mono ?_
          rintro en W3 ⟨g, rfl, hw⟩
          have hE3 := hEa.but hw.but (hSS.2.elim .inl fun h => .inr fun k hk => hG1 k (h k hk))
          have hs3 := hw.but.size
          simp only [World.size_alloc] at hs3
          cases g with
          | true =>
            gi_wp2
            go_roundw
            case rel => exact ⟨j + 1, _, by omega, by go_num, by rw [HY1.out]; exact hw.on rfl, hE3, fun k hk => newG_not (hG1 k hk) (by have := (hS k hk).1; simp; omega), by omega⟩
            case measure => simp [intOf]; omega
          | false =>
            gi_wp2
            rw [Exit.noGoto_normal]
            go_end0
            exact ⟨⟨_, rfl⟩, _, .inr ⟨_, HY2.out, hw.off rfl⟩⟩
        · have hno := HNo.out h1
          have Hno := Lib.hid hno
          clear hno
          have hkb : (k1 == 1) = false := by simpa using h1
          gi_wp2_with (first
            | (refine wpListIn_loadr rfl 48 (.tmp 13) rfl b (off + j * 5) rfl (rwC ⟨k1, n1, .slice ba1 bn1 bc1, s1, .slice la1 ln1 lc1⟩) _ hr Tryd.underlying48 rfl (by kernel_rfl) ?_))
          repeat (refine ⟨fun f hf => (by cases hf), ?_⟩; gi_wp2)
          go_roundw
          case rel => exact ⟨j + 1, G1, by omega, by go_num, by rw [Hno.out]; exact hJa, hEa, hG1, by simp; omega⟩
          case measure => simp [intOf]; omega
      · obtain rfl : j = n := by omega
        have Hall := Lib.hid (show L.take j = L from List.take_of_length_le (by rw [Hln.out]; exact Nat.le_refl _))
        gi_wp2
        rw [Exit.noGoto_normal]
        go_end0
        exact ⟨⟨_, rfl⟩, _, .inl (by rw [Hall.out] at hj; exact hj)⟩
  · have hU : usI ⟨k0, n0, .slice ba bn bc, s, .slice la n lc⟩ L = [] := if_neg h4
    rw [hU]
    gi_wp2
    refine wpIn_scopeS ?_
    gi_wp2
    rw [Exit.noGoto_ret]
    refine bodyPost_ret (results_none rfl _ _ _) rfl ?_
    exact ⟨⟨_, rfl⟩, _, .inl h0⟩
end Go.Proofs.YtpfgepgjpnekdaaDoor

namespace Go.Proofs.YtpfgepgjpnekdaaDoor
open Go.RowKit
set_option linter.unusedVariables false

/-- A range over a function that counts: its counter is the first block behind wr; else nothing of wr turns. -/
structure CtR (wr : World) (k : Nat) (G : Nat → Prop) (W : World) : Prop where
  below : Below wr.heap.size wr W
  cnt : RowAt W wr.heap.size #[.int .i64 k] 3
  g0 : G wr.heap.size
  glow : ∀ j, G j → wr.heap.size ≤ j
theorem CtR.start (wr : World) : CtR wr 0 (· = wr.heap.size) (wr.alloc (.cells #[.int .i64 0] 3)) := ⟨below_alloc _ _, RowAt.new _ _ _, rfl, fun j h => by omega⟩
theorem CtR.abide {wr : World} {k B : Nat} (hB : wr.heap.size ≤ B) : Abide B (CtR wr k) := fun G A C h hb =>
  ⟨h.below.trans (hb.below (fun j e => by have := e.1; omega) h.below.size), (hb.same _ h.cnt.lt (fun e => e.2 h.g0)).trans h.cnt, h.g0, h.glow⟩
theorem CtR.up {wr : World} {k : Nat} {G : Nat → Prop} {W W' : World} (h : CtR wr k G W) (hb : Below W.heap.size W W') : CtR wr k G W' := ⟨below_up h.below hb, h.cnt.below hb, h.g0, h.glow⟩
theorem CtR.alloc {wr : World} {k : Nat} {G : Nat → Prop} {W : World} (h : CtR wr k G W) (o : Obj) : CtR wr k (newG G W (W.alloc o)) (W.alloc o) :=
  ⟨below_up h.below (below_alloc _ _), h.cnt.alloc o, newG_old h.g0, (by
    rintro q (e | e)
    · exact h.glow q e
    · have := h.below.size; omega)⟩
theorem CtR.step {wr : World} {k : Nat} {G : Nat → Prop} {W : World} (h : CtR wr k G W) :
    But G W (W.drew.setCell ⟨wr.heap.size, 0, none⟩ (.int .i64 ((k : Int) + 1))) ∧ CtR wr (k + 1) (newG G W (W.drew.setCell ⟨wr.heap.size, 0, none⟩ (.int .i64 ((k : Int) + 1)))) (W.drew.setCell ⟨wr.heap.size, 0, none⟩ (.int .i64 ((k : Int) + 1))) := by
  have hb : But G W (W.drew.setCell ⟨wr.heap.size, 0, none⟩ (.int .i64 ((k : Int) + 1))) := (But.drew W).trans (But.setCell _ _ _ (.inl h.g0))
  refine ⟨hb, h.below.trans (hb.below h.glow h.below.size), h.cnt.drew.set 0 (.int .i64 ((k : Int) + 1)), newG_old h.g0, ?_⟩
  rintro q (e | e)
  · exact h.glow q e
  · have := h.below.size; omega
/-- .. where the round has not drawn. -/
theorem CtR.stepQ {wr : World} {k : Nat} {G : Nat → Prop} {W : World} (h : CtR wr k G W) :
    But G W (W.setCell ⟨wr.heap.size, 0, none⟩ (.int .i64 ((k : Int) + 1))) ∧ CtR wr (k + 1) (newG G W (W.setCell ⟨wr.heap.size, 0, none⟩ (.int .i64 ((k : Int) + 1)))) (W.setCell ⟨wr.heap.size, 0, none⟩ (.int .i64 ((k : Int) + 1))) := by
  have hb : But G W (W.setCell ⟨wr.heap.size, 0, none⟩ (.int .i64 ((k : Int) + 1))) := But.setCell _ _ _ (.inl h.g0)
  refine ⟨hb, h.below.trans (hb.below h.glow h.below.size), h.cnt.set 0 (.int .i64 ((k : Int) + 1)), newG_old h.g0, ?_⟩
  rintro q (e | e)
  · exact h.glow q e
  · have := h.below.size; omega

/-- What holds at the head of the loop of turns: its variable lies in block T; Ds: the marks. -/
structure TuI (wr : World) (T : Nat) (tn : Int) (Ds : List Nat) (W : World) : Prop where
  below : Below wr.heap.size wr W
  turn : RowAt W T #[.int .i64 tn] 3
  low : wr.heap.size ≤ T
  marks : ∀ D ∈ Ds, W.heap[D]? = some (.deferred (some [])) ∧ wr.heap.size ≤ D
  nodup : Ds.Nodup
theorem TuI.start (wr : World) : TuI wr wr.heap.size 0 [] (wr.alloc (.cells #[.int .i64 0] 3)) := ⟨below_alloc _ _, RowAt.new _ _ _, Nat.le_refl _, (fun D hD => by cases hD), List.nodup_nil⟩
theorem TuI.up {wr : World} {T : Nat} {tn : Int} {Ds : List Nat} {W W' : World} (h : TuI wr T tn Ds W) (hb : Below W.heap.size W W') : TuI wr T tn Ds W' :=
  ⟨below_up h.below hb, h.turn.below hb, h.low, fun D hd => ⟨(hb.block D (Array.getElem?_eq_some_iff.1 (h.marks D hd).1).1).trans (h.marks D hd).1, (h.marks D hd).2⟩, h.nodup⟩
theorem TuI.lt {wr : World} {T : Nat} {tn : Int} {Ds : List Nat} {W : World} (h : TuI wr T tn Ds W) : ∀ D ∈ Ds, D < W.heap.size := fun D hd => (Array.getElem?_eq_some_iff.1 (h.marks D hd).1).1
/-- A turn's end: one more mark, the variable anew. -/
theorem TuI.next {wr : World} {T : Nat} {tn : Int} {Ds : List Nat} {W W3 : World} (h : TuI wr T tn Ds W) (hb : Below W.heap.size W W3) {D : Nat} (hD : W3.heap[D]? = some (.deferred (some []))) (hl : W.heap.size ≤ D) (v : Int) :
    TuI wr W3.heap.size v (D :: Ds) (W3.alloc (.cells #[.int .i64 v] 3)) :=
  have h3 := h.up hb
  have hn : D ∉ Ds := fun e => by have := h.lt D e; omega
  have hb4 := below_alloc W3 (.cells #[.int .i64 v] 3)
  ⟨below_up h3.below hb4, RowAt.new _ _ _, h3.below.size, fun D' hD' => by
    rcases List.mem_cons.1 hD' with rfl | hD'
    · exact ⟨(hb4.block D' (Array.getElem?_eq_some_iff.1 hD).1).trans hD, by have := h.below.size; omega⟩
    · exact ⟨(hb4.block D' (Array.getElem?_eq_some_iff.1 (h3.marks D' hD').1).1).trans (h3.marks D' hD').1, (h.marks D' hD').2⟩, List.nodup_cons.2 ⟨hn, h.nodup⟩⟩
end Go.Proofs.YtpfgepgjpnekdaaDoor
