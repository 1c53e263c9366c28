/-
  The contract of Drop.
-/
import Derived.Test.YtgbpdchdcbnoaaaConF
namespace Go.Proofs.Ytgbpdchdcbnoaaa
open Go.RowKit Vol
set_option linter.unusedSimpArgs false
set_option linter.unusedVariables false

theorem drop1_c (b : Nat) (i : Int) (w : World) (h : w.cell? ⟨b, 0, none⟩ = some (.int .i64 i)) : Calls Try.prog 45 #[.pointer (some ⟨b, 0, none⟩)] w (Ret (.bool (decide (i < 0))) w) := by
  go_enter Try.func45, Try.ntmps45
  go_wp2
  go_ret
  exact ⟨rfl, Below.refl _ _⟩
theorem enters_drop1 : Enters Try.prog 45 := enters_of Try.func45 (by kernel_rfl) rfl
/-- The two questions of Drop, asked of a slice made just now. -/
theorem dropAsk_c {B K : Nat} {v : Value} {L : List Ct} (i : Int) (w : World) (k : Nat) (hk0 : k = w.heap.size) (h : PlanAt w B v L) (hK : w.cell? ⟨K, 0, none⟩ = some (.int .i64 i)) :
    Calls Try.prog 29 #[.slice (some ⟨k, 0, none⟩) 2 2] (w.alloc (.cells [.func (.func 30) #[.pointer (some ⟨B, 0, none⟩)] #[], .int .i64 1, .func (.func 45) #[] #[.pointer (some ⟨K, 0, none⟩)], .int .i64 5].toArray 70)) (Ret (.int .i64 (if i < 0 then 5 else 0)) (w.alloc (.cells [.func (.func 30) #[.pointer (some ⟨B, 0, none⟩)] #[], .int .i64 1, .func (.func 45) #[] #[.pointer (some ⟨K, 0, none⟩)], .int .i64 5].toArray 70))) := by
  subst hk0
  have hsl : Sl (w.alloc (.cells [.func (.func 30) #[.pointer (some ⟨B, 0, none⟩)] #[], .int .i64 1, .func (.func 45) #[] #[.pointer (some ⟨K, 0, none⟩)], .int .i64 5].toArray 70)) 2 (.slice (some ⟨w.heap.size, 0, none⟩) 2 2) 2 [.func (.func 30) #[.pointer (some ⟨B, 0, none⟩)] #[], .int .i64 1, .func (.func 45) #[] #[.pointer (some ⟨K, 0, none⟩)], .int .i64 5] :=
    Sl.of_own (World.ownsRow_lit w [.func (.func 30) #[.pointer (some ⟨B, 0, none⟩)] #[], .int .i64 1, .func (.func 45) #[] #[.pointer (some ⟨K, 0, none⟩)], .int .i64 5].toArray 2 (size := 2) (e := 70) (base := w.heap.size) (Nat.le_refl _) (by decide) rfl)
  have hB := below_alloc w (.cells [.func (.func 30) #[.pointer (some ⟨B, 0, none⟩)] #[], .int .i64 1, .func (.func 45) #[] #[.pointer (some ⟨K, 0, none⟩)], .int .i64 5].toArray 70)
  have hP := h.below hB
  have hk := cell_up hB hK
  have hE : askF [⟨30, #[.pointer (some ⟨B, 0, none⟩)], #[], 1, false⟩, ⟨45, #[], #[.pointer (some ⟨K, 0, none⟩)], 5, decide (i < 0)⟩] = if i < 0 then 5 else 0 := by
    unfold askF
    by_cases h : i < 0 <;> simp [List.find?, h]
  rw [← hE]
  exact cAsked_c [⟨30, #[.pointer (some ⟨B, 0, none⟩)], #[], 1, false⟩, ⟨45, #[], #[.pointer (some ⟨K, 0, none⟩)], 5, decide (i < 0)⟩] _ 2 _ hsl
    (by intro a ha; simp only [List.mem_cons, List.not_mem_nil, or_false] at ha; rcases ha with rfl | rfl; exact enters_none; exact enters_drop1)
    (by
      intro a ha w1 hb
      simp only [List.mem_cons, List.not_mem_nil, or_false] at ha
      rcases ha with rfl | rfl
      · exact (Calls.cast rfl (pNone_c w1 (hP.below hb))).mono fun en w' ⟨he, hw'⟩ => ⟨he, hw' ▸ Below.refl _ _⟩
      · exact Calls.cast rfl (drop1_c _ i w1 (cell_up hb hk)))

theorem Sl.block_lt {w : World} {sz : Nat} {v : Value} {n : Nat} {cs : List Value} (h : Sl w sz v n cs) (h0 : 0 < sz) : n = 0 ∨ ∀ k, v.ownBlock = some k → k < w.heap.size := by
  obtain ⟨hl, ⟨a, c, rfl, rfl⟩ | ⟨b, off, cap, rfl, hn, hm, hc⟩⟩ := h
  · exact .inl rfl
  · rcases Nat.eq_zero_or_pos n with h1 | h1
    · exact .inl h1
    · refine .inr fun k hk => ?_
      have hp : 0 < cs.length := by rw [hl]; exact Nat.mul_pos h1 h0
      have hc0 := hc 0 cs[0] (List.getElem?_eq_getElem hp)
      have hlt : b < w.heap.size := World.block_lt_of_cell? w ⟨b, off + 0, none⟩ hc0
      have hk' : b = k := Option.some.inj hk
      omega
theorem But.set5 (w : World) (k : Nat) (a b c d e : Value) : But (fun j => j = k) w (((((w.setCell ⟨k, 0, none⟩ a).setCell ⟨k, 1, none⟩ b).setCell ⟨k, 2, none⟩ c).setCell ⟨k, 3, none⟩ d).setCell ⟨k, 4, none⟩ e) := by
  have h : ∀ (w : World) (i : Nat) (v : Value), But (fun j => j = k) w (w.setCell ⟨k, i, none⟩ v) := fun w i v => But.setCell w ⟨k, i, none⟩ v (.inl rfl)
  exact ((((h _ 0 _).trans (h _ 1 _)).trans (h _ 2 _)).trans (h _ 3 _)).trans (h _ 4 _)
theorem But.realloc {O : Nat → Prop} (w : World) (o1 o2 : Obj) (h : O w.heap.size) : But O (w.alloc o1) (w.alloc o2) :=
  ⟨rfl, rfl, rfl, by simp, fun i hi hn => by
    rcases Nat.lt_or_ge i w.heap.size with h1 | h1
    · rw [heap_alloc_old _ _ h1, heap_alloc_old _ _ h1]
    · have : i = w.heap.size := by simp at hi; omega
      subst this; exact absurd h hn⟩
/-- What Drop has at hand: its result's block, the place's block, the plan. -/
structure DrW (w w1 : World) (B : Nat) (v : Value) (L : List Ct) (K k : Nat) : Prop where
  below : Below w.heap.size w w1
  z : RowAt w1 w.heap.size (ctC zct0).toArray 27
  plan : PlanAt w1 B v L
  idx : w1.cell? ⟨K, 0, none⟩ = some (.int .i64 k)
theorem DrW.up {w w1 w2 : World} {B : Nat} {v : Value} {L : List Ct} {K k : Nat} (h : DrW w w1 B v L K k) (hb : Below w1.heap.size w1 w2) : DrW w w2 B v L K k :=
  ⟨below_up h.below hb, h.z.below hb, h.plan.below hb, cell_up hb h.idx⟩
namespace Vol
def dropE (o : Option Ct) : Int := match o with | some _ => 0 | none => 5
def dropF (L : List Ct) (f t at_ : Int) : List Ct := match L.findIdx? (btwB f t fun x y => Clk.inB x y at_) with | some k => L.take k ++ L.drop (k + 1) | none => L
end Vol
theorem slLists2 (w : World) (k : Nat) (hk : k = w.heap.size) (T : TypeId) (x y : Value) : Sl (w.alloc (.cells #[x, y] T)) 1 (.slice (some ⟨k, 0, none⟩) 2 2) 2 [x, y] := by
  subst hk
  refine ⟨by simp, .inr ⟨w.heap.size, 0, 2, rfl, by decide, by decide, fun j u hj => ?_⟩⟩
  have : (w.alloc (.cells #[x, y] T)).heap[w.heap.size]? = some (.cells #[x, y] T) := heap_alloc_new w _
  simp only [World.cell?, this, Nat.zero_add]
  simpa using hj

set_option maxHeartbeats 1000000 in
set_option maxRecDepth 100000 in
theorem pDrop_c {B : Nat} {v : Value} {L : List Ct} (f t at_ : Int) (w : World) (h : PlanAt w B v L) (hL : L.length ≤ 100000) :
    Calls Try.prog 17 #[.pointer (some ⟨B, 0, none⟩), .int .u32 f, .int .u32 t, .int .u64 at_] w fun en w' => ∃ v', en = .returned (.tuple #[ctV ((atR L f t at_).getD zct0), .int .i64 (dropE (atR L f t at_))]) ∧
      PlanAt w' B v' (dropF L f t at_) ∧ But (· = B) w w' ∧ (v' = v ∨ ∀ k, v'.ownBlock = some k → w.heap.size ≤ k ∧ k < w'.heap.size) := by
  have hmf : ∀ (fn : Fn) (first cap : Array Value) (w : World), (Instr.makeFunc fn first cap).run Try.prog w = .ok (.func fn first cap) w := fun _ _ _ _ => rfl
  have hBl := h.var.lt
  have hB0 := below_alloc w (.cells (ctC zct0).toArray 27)
  have Z0 := RowAt.new w (ctC zct0).toArray 27
  have h1 := h.below hB0
  obtain ⟨i, hi⟩ : ∃ i, i = atF L f t at_ := ⟨_, rfl⟩
  have hat := fun w h => pat_c (v := v) (L := L) (B := B) f t at_ w h
  rw [← hi] at hat
  have HI := Lib.hid hi
  have HB := Lib.hid hB0
  have HAT := Lib.hid hat
  clear hi hat hB0
  cases ha : atR L f t at_ with
  | none =>
    have hif : i = -1 := HI.out.trans (atF_none ha)
    have hd : dropF L f t at_ = L := by
      unfold dropF
      rw [List.findIdx?_eq_none_iff.2 (fun x hx => by simpa using List.find?_eq_none.1 ha x hx)]
    rw [hd]
    subst hif
    clear hd
    go_enter Try.func17, Try.ntmps17
    go_wp2_with (first
      | (go_at_call 44; refine (HAT.out _ h1).mono ?_; rintro en w1 ⟨rfl, hb⟩; replace HB := Lib.hid (below_up (below_up HB.out hb) (below_alloc w1 (.cells #[.int .i64 (-1)] 3))); have h2 := (h1.below hb).below (below_alloc w1 (.cells #[.int .i64 (-1)] 3)); have k2 := cell_new w1 (.int .i64 (-1)) 3; replace Z0 := (Z0.below hb).below (below_alloc w1 (.cells #[.int .i64 (-1)] 3)))
      | (go_at_call 29; go_loud (refine (dropAsk_c (K := w1.heap.size) (-1) _ (w1.heap.size + 1) (by simp) h2 k2).mono ?_; rintro en w2 ⟨rfl, hb2⟩; replace HB := Lib.hid (below_up HB.out (below_new hb2)); have h3 := h2.below (below_new hb2); have Z1 := Z0.below (below_new hb2); have z0 := Z1.cell (i := 0) (v := .int .u32 0) rfl; have z1 := Z1.cell (i := 1) (v := .int .u32 0) rfl; have z2 := Z1.cell (i := 2) (v := .int .u64 0) rfl; have z3 := Z1.cell (i := 3) (v := .int .u64 0) rfl; have z4 := Z1.cell (i := 4) (v := .int .u64 0) rfl; have f0 := Z1.fz 0; have f1 := Z1.fz 1; have f2 := Z1.fz 2; have f3 := Z1.fz 3; have f4 := Z1.fz 4)))
    have hBf := (((((HB.out.setCell (p := ⟨w.heap.size, 0, none⟩) (Nat.le_refl _) (.int .u32 0)).setCell (p := ⟨w.heap.size, 1, none⟩) (Nat.le_refl _) (.int .u32 0)).setCell (p := ⟨w.heap.size, 2, none⟩) (Nat.le_refl _) (.int .u64 0)).setCell (p := ⟨w.heap.size, 3, none⟩) (Nat.le_refl _) (.int .u64 0)).setCell (p := ⟨w.heap.size, 4, none⟩) (Nat.le_refl _) (.int .u64 0))
    exact bodyPost_ret (v := .tuple #[ctV zct0, .int .i64 5]) (by simp [results, Try.results17, go_sem, z0, z1, z2, z3, z4, zct0]) rfl ⟨v, rfl, h.below hBf, But.of_below hBf, .inl rfl⟩
  | some c =>
    obtain ⟨k, hk, hat, hkc⟩ := atF_some ha
    have hif : i = (k : Int) := HI.out.trans hat
    have hd : dropF L f t at_ = L.take k ++ L.drop (k + 1) := by
      unfold dropF
      have := hat
      unfold atF idx at this
      cases hf : L.findIdx? (btwB f t fun x y => Clk.inB x y at_) with
      | none => rw [hf] at this; simp at this <;> omega
      | some j => rw [hf] at this; simp at this; rw [show j = k by omega]
    rw [hd]
    subst hif
    have HC := Lib.hid hkc
    clear hd hat HI hkc
    have hk0 : ¬ (k : Int) < 0 := by omega
    obtain ⟨av, cvp, hve⟩ := h.sl.len
    subst hve
    have hkL : (k : Int) < (L.length : Int) := by omega
    go_enter Try.func17, Try.ntmps17
    go_wp2_with (first
      | (go_at_call 44; refine (HAT.out _ h1).mono ?_; rintro en w1 ⟨rfl, hb⟩; have V0 : DrW w (w1.alloc (.cells #[.int .i64 (k : Int)] 3)) B (.slice av L.length cvp) L w1.heap.size k := ⟨below_up (below_up HB.out hb) (below_alloc w1 (.cells #[.int .i64 (k : Int)] 3)), (Z0.below hb).below (below_alloc w1 (.cells #[.int .i64 (k : Int)] 3)), (h1.below hb).below (below_alloc w1 (.cells #[.int .i64 (k : Int)] 3)), cell_new w1 (.int .i64 (k : Int)) 3⟩; have hKw : w.heap.size < w1.heap.size := (Z0.below hb).lt)
      | (go_at_call 29; go_loud (refine (dropAsk_c (K := w1.heap.size) (k : Int) _ (w1.heap.size + 1) (by simp) V0.plan V0.idx).mono ?_; rw [if_neg (show ¬ (k : Int) < 0 by omega)]; rintro en w2 ⟨rfl, hb2⟩; have V2 := V0.up (below_new hb2); clear hb2)))
    clear Z0 HB HAT V0 h1
    obtain ⟨KK, hKe⟩ : ∃ K, K = w1.heap.size := ⟨_, rfl⟩
    rw [← hKe] at V2 hKw
    try rw [← hKe]
    clear hKe
    obtain ⟨bb, off, rfl, hr⟩ := V2.plan.sl.rec_at (cells := ctC) (sz := 5) (fun _ => rfl) hk hk
    rw [HC.out] at hr
    have hBk : B < w2.heap.size := V2.plan.var.lt
    have hKk : KK < w2.heap.size := World.block_lt_of_cell? w2 ⟨KK, 0, none⟩ V2.idx
    have hbk : bb < w2.heap.size := World.block_lt_of_cell? w2 ⟨bb, off + k * 5 + 0, none⟩ (hr 0 _ rfl)
    refine wp_region_po (fun j => w2.heap.size ≤ j) [(0, false), (1, false), (2, false), (3, false), (4, false), (5, false), (6, false), (7, true), (8, true)] (by kernel_rfl) (by kernel_rfl) (by kernel_rfl) rfl (fun _ _ d _ _ h => by cases d <;> exact h) (fun Wd hBd => ?_)
    try simp only [Act.put, List.getElem_toArray, List.getElem_cons_zero, List.getElem_cons_succ, List.setIfInBounds_toArray, List.set_cons_zero, List.set_cons_succ]
    have V := V2.up hBd
    have hr1 := rangeAt_up hBd hr
    have ck : ∀ w', But (fun j => w2.heap.size ≤ j) Wd w' → w'.cell? ⟨KK, 0, none⟩ = some (.int .i64 (k : Int)) := fun w' hb => hb.cell V.idx (by omega)
    have cv := fun w' (hb : But (fun j => w2.heap.size ≤ j) Wd w') => hb.cell (V.plan.var.cell (i := 0) rfl) (by omega)
    simp only [List.getElem_toArray, List.getElem_cons_zero] at cv
    refine po_q (v := ?_) rfl (by rfl) ?_ ?_
    rotate_left
    · intro w' hBw'
      first | (go_simp; done) | (go_simp; with_reducible rfl)
    try simp only [Act.put, List.getElem_toArray, List.getElem_cons_zero, List.getElem_cons_succ, List.setIfInBounds_toArray, List.set_cons_zero, List.set_cons_succ]
    refine po_q (v := ?_) rfl (by rfl) ?_ ?_
    rotate_left
    · intro w' hBw'
      first | (go_simp; done) | (go_simp; with_reducible rfl)
    try simp only [Act.put, List.getElem_toArray, List.getElem_cons_zero, List.getElem_cons_succ, List.setIfInBounds_toArray, List.set_cons_zero, List.set_cons_succ]
    refine po_q (v := ?_) rfl (by rfl) ?_ ?_
    rotate_left
    · intro w' hBw'
      first | (go_simp; done) | (go_simp; with_reducible rfl)
    try simp only [Act.put, List.getElem_toArray, List.getElem_cons_zero, List.getElem_cons_succ, List.setIfInBounds_toArray, List.set_cons_zero, List.set_cons_succ]
    refine po_q (v := ?_) rfl (by rfl) ?_ ?_
    rotate_left
    · intro w' hBw'
      first | (go_simp; done) | (go_simp; with_reducible rfl)
    try simp only [Act.put, List.getElem_toArray, List.getElem_cons_zero, List.getElem_cons_succ, List.setIfInBounds_toArray, List.set_cons_zero, List.set_cons_succ]
    refine po_q (v := ?_) rfl (by rfl) ?_ ?_
    rotate_left
    · intro w' hBw'
      first | (go_simp; done) | (go_simp; with_reducible rfl)
    try simp only [Act.put, List.getElem_toArray, List.getElem_cons_zero, List.getElem_cons_succ, List.setIfInBounds_toArray, List.set_cons_zero, List.set_cons_succ]
    refine po_q (v := ?_) rfl (by rfl) ?_ ?_
    rotate_left
    · intro w' hBw'
      first | (go_simp; done) | (go_simp; with_reducible rfl)
    try simp only [Act.put, List.getElem_toArray, List.getElem_cons_zero, List.getElem_cons_succ, List.setIfInBounds_toArray, List.set_cons_zero, List.set_cons_succ]
    refine po_load rfl (by rfl) 27 (.tmp 34) rfl bb (off + k * 5) rfl (ctC c) _ hr1 (by omega) Try.underlying27 rfl (by kernel_rfl) ?_
    try simp only [Act.put, List.getElem_toArray, List.getElem_cons_zero, List.getElem_cons_succ, List.setIfInBounds_toArray, List.set_cons_zero, List.set_cons_succ]
    refine po_c rfl (by rfl) (fun K hK => ?_)
    go_simp
    refine hK.out _ _ (But.alloc _ _) ?_
    clear hK K
    try simp only [Act.put, List.getElem_toArray, List.getElem_cons_zero, List.getElem_cons_succ, List.setIfInBounds_toArray, List.set_cons_zero, List.set_cons_succ]
    refine po_c rfl (by rfl) (fun K hK => ?_)
    go_simp
    refine hK.out _ _ (But.realloc _ _ _ hBd.size) ?_
    clear hK K
    try simp only [Act.put, List.getElem_toArray, List.getElem_cons_zero, List.getElem_cons_succ, List.setIfInBounds_toArray, List.set_cons_zero, List.set_cons_succ]
    refine po_nil ?_
    have V5 := V.up (below_alloc Wd (.cells (ctC c).toArray 27))
    have N5 := RowAt.new Wd (ctC c).toArray 27
    have hNB : ¬ Wd.heap.size = B := by have := hBd.size; omega
    have hNH : ¬ Wd.heap.size = w.heap.size := by have := V.z.lt; omega
    obtain ⟨N, hN⟩ : ∃ N, N = Wd.heap.size := ⟨_, rfl⟩
    rw [← hN] at N5 hNB hNH
    try rw [← hN]
    obtain ⟨W5, hW5⟩ : ∃ W5, W5 = Wd.alloc (.cells (ctC c).toArray 27) := ⟨_, rfl⟩
    have V5' : DrW w W5 B (.slice (some ⟨bb, off, none⟩) L.length cvp) L KK k := by rw [hW5]; exact V5
    have N5' : RowAt W5 N (ctC c).toArray 27 := by rw [hW5]; exact N5
    go_wp2
    have hW5b : Wd.alloc (.cells #[.int .u32 c.from_, .int .u32 c.to, .int .u64 c.a, .int .u64 c.b, .int .u64 c.r] 27) = W5 := hW5.symm
    rw [hW5b]
    clear hW5 hW5b V V5 N5 V2 hr hr1 ck cv hN hb hBd
    refine wp_region_pt (· = B) (.q 0 (.q 1 (.q 2 (.q 3 (.q 5 (.q 6 (.q 8 (.q 9 (.q 10 (.q 12 (.q 13 (.f 4 (.q 7 (.c 11 (.q 14 (.c 15 (.c 16 (.q 17 (.q 18 (.c 19 .done)))))))) 11 (.q 14 (.c 4 (.q 7 (.c 15 (.c 16 (.q 17 (.q 18 (.c 19 .done)))))))))))))))))))) (by kernel_rfl) (by kernel_rfl) (by kernel_rfl) (by decide) (fun _ _ d _ _ h => by cases d <;> exact h) (fun Wd hBd => ?_)
    try simp only [Act.put, List.getElem_toArray, List.getElem_cons_zero, List.getElem_cons_succ, List.setIfInBounds_toArray, List.set_cons_zero, List.set_cons_succ]
    have V := V5'.up hBd
    have NW := N5'.below hBd
    have hKB : ¬ KK = B := fun e => by have h1 := V.idx; rw [e] at h1; have h2 := V.plan.var.cell (i := 0) rfl; rw [h1] at h2; simp at h2
    have ck : ∀ w', But (· = B) Wd w' → w'.cell? ⟨KK, 0, none⟩ = some (.int .i64 (k : Int)) := fun w' hb => hb.cell V.idx hKB
    have cvB := V.plan.var.cell (i := 0) rfl
    obtain ⟨a1, hs1, sl1⟩ := cut_hm slL V.plan.sl k (by omega)
    obtain ⟨a2, hs2, sl2⟩ := cut_l slL V.plan.sl (k + 1) (by omega)
    simp only [Int.natCast_add, Int.natCast_one] at hs2
    rw [ct_take] at sl1
    rw [ct_drop] at sl2
    have hwr : IntKind.i64.wrap ((k : Int) + 1) = (k : Int) + 1 := IntWalk.i64_in _ ⟨by omega, by omega⟩
    refine pt_q (v := ?_) rfl (by rfl) ?_ ?_
    rotate_left
    · intro w' hBw'
      first | (go_simp; done) | (go_simp; with_reducible rfl)
    try simp only [Act.put, List.getElem_toArray, List.getElem_cons_zero, List.getElem_cons_succ, List.setIfInBounds_toArray, List.set_cons_zero, List.set_cons_succ]
    refine pt_q (v := ?_) rfl (by rfl) ?_ ?_
    rotate_left
    · intro w' hBw'
      first | (go_simp; done) | (go_simp; with_reducible rfl)
    try simp only [Act.put, List.getElem_toArray, List.getElem_cons_zero, List.getElem_cons_succ, List.setIfInBounds_toArray, List.set_cons_zero, List.set_cons_succ]
    refine pt_q (v := ?_) rfl (by rfl) ?_ ?_
    rotate_left
    · intro w' hBw'
      first | (go_simp; done) | (go_simp; with_reducible rfl)
    try simp only [Act.put, List.getElem_toArray, List.getElem_cons_zero, List.getElem_cons_succ, List.setIfInBounds_toArray, List.set_cons_zero, List.set_cons_succ]
    refine pt_q (v := ?_) rfl (by rfl) ?_ ?_
    rotate_left
    · intro w' hBw'
      first | (go_simp; done) | (go_simp; with_reducible rfl)
    try simp only [Act.put, List.getElem_toArray, List.getElem_cons_zero, List.getElem_cons_succ, List.setIfInBounds_toArray, List.set_cons_zero, List.set_cons_succ]
    refine pt_q (v := ?_) rfl (by rfl) ?_ ?_
    rotate_left
    · intro w' hBw'
      first | (go_simp; done) | (go_simp; with_reducible rfl)
    try simp only [Act.put, List.getElem_toArray, List.getElem_cons_zero, List.getElem_cons_succ, List.setIfInBounds_toArray, List.set_cons_zero, List.set_cons_succ]
    refine pt_q (v := ?_) rfl (by rfl) ?_ ?_
    rotate_left
    · intro w' hBw'
      first | (go_simp; done) | (go_simp; with_reducible rfl)
    try simp only [Act.put, List.getElem_toArray, List.getElem_cons_zero, List.getElem_cons_succ, List.setIfInBounds_toArray, List.set_cons_zero, List.set_cons_succ]
    refine pt_q (v := ?_) rfl (by rfl) ?_ ?_
    rotate_left
    · intro w' hBw'
      first | (go_simp; done) | (go_simp; with_reducible rfl)
    try simp only [Act.put, List.getElem_toArray, List.getElem_cons_zero, List.getElem_cons_succ, List.setIfInBounds_toArray, List.set_cons_zero, List.set_cons_succ]
    refine pt_q (v := ?_) rfl (by rfl) ?_ ?_
    rotate_left
    · intro w' hBw'
      first | (go_simp; done) | (go_simp; with_reducible rfl)
    try simp only [Act.put, List.getElem_toArray, List.getElem_cons_zero, List.getElem_cons_succ, List.setIfInBounds_toArray, List.set_cons_zero, List.set_cons_succ]
    refine pt_q (v := ?_) rfl (by rfl) ?_ ?_
    rotate_left
    · intro w' hBw'
      first | (go_simp; done) | (go_simp; with_reducible rfl)
    try simp only [Act.put, List.getElem_toArray, List.getElem_cons_zero, List.getElem_cons_succ, List.setIfInBounds_toArray, List.set_cons_zero, List.set_cons_succ]
    refine pt_q (v := ?_) rfl (by rfl) ?_ ?_
    rotate_left
    · intro w' hBw'
      first | (go_simp; done) | (go_simp; with_reducible rfl)
    try simp only [Act.put, List.getElem_toArray, List.getElem_cons_zero, List.getElem_cons_succ, List.setIfInBounds_toArray, List.set_cons_zero, List.set_cons_succ]
    refine pt_q (v := ?_) rfl (by rfl) ?_ ?_
    rotate_left
    · intro w' hBw'
      first | (go_simp; done) | (go_simp; with_reducible rfl)
    try simp only [Act.put, List.getElem_toArray, List.getElem_cons_zero, List.getElem_cons_succ, List.setIfInBounds_toArray, List.set_cons_zero, List.set_cons_succ]
    refine pt_f ?_ ?_
    · refine pt_step rfl (by rfl) (fun K hK => ?_)
      go_simp
      refine hK.out _ _ (But.refl _ _) ?_
      clear hK K
      try simp only [Act.put, List.getElem_toArray, List.getElem_cons_zero, List.getElem_cons_succ, List.setIfInBounds_toArray, List.set_cons_zero, List.set_cons_succ]
      refine pt_q (v := ?_) rfl (by rfl) ?_ ?_
      rotate_left
      · intro w' hBw'
        first | (go_simp; done) | (go_simp; with_reducible rfl)
      try simp only [Act.put, List.getElem_toArray, List.getElem_cons_zero, List.getElem_cons_succ, List.setIfInBounds_toArray, List.set_cons_zero, List.set_cons_succ]
      refine pt_c ?_
      refine pt_step rfl (by rfl) (fun K hK => ?_)
      go_simp
      refine hK.out _ _ (But.refl _ _) ?_
      clear hK K
      try simp only [Act.put, List.getElem_toArray, List.getElem_cons_zero, List.getElem_cons_succ, List.setIfInBounds_toArray, List.set_cons_zero, List.set_cons_succ]
      refine pt_q (v := ?_) rfl (by rfl) ?_ ?_
      rotate_left
      · intro w' hBw'
        first | (go_simp; done) | (go_simp; with_reducible rfl)
      try simp only [Act.put, List.getElem_toArray, List.getElem_cons_zero, List.getElem_cons_succ, List.setIfInBounds_toArray, List.set_cons_zero, List.set_cons_succ]
      refine pt_c ?_
      refine pt_step rfl (by rfl) (fun K hK => ?_)
      go_simp
      refine hK.out _ _ (But.alloc _ _) ?_
      clear hK K
      try simp only [Act.put, List.getElem_toArray, List.getElem_cons_zero, List.getElem_cons_succ, List.setIfInBounds_toArray, List.set_cons_zero, List.set_cons_succ]
      refine pt_c ?_
      refine pt_step rfl (by rfl) (fun K hK => ?_)
      go_simp
      have hb5 := below_alloc Wd (.cells #[.slice a1 k k, .slice a2 (L.length - (k + 1)) (cvp - (k + 1))] 65)
      have hSL : SlL (Wd.alloc (.cells #[.slice a1 k k, .slice a2 (L.length - (k + 1)) (cvp - (k + 1))] 65)) (.slice (some ⟨Wd.heap.size, 0, none⟩) 2 2) 2 [.slice a1 k k, .slice a2 (L.length - (k + 1)) (cvp - (k + 1))] [L.take k, L.drop (k + 1)] := by
        refine ⟨slLists2 Wd _ rfl 65 (.slice a1 k k) (.slice a2 (L.length - (k + 1)) (cvp - (k + 1))), rfl, fun j u l h1 h2 => ?_⟩
        match j with
        | 0 => simp at h1 h2; subst h1; subst h2; rw [List.length_take, Nat.min_eq_left (by omega)]; exact sl1.up hb5
        | 1 => simp at h1 h2; subst h1; subst h2; rw [List.length_drop]; exact sl2.up hb5
        | j + 2 => simp at h1
      have hlen3 : [L.take k, L.drop (k + 1)].flatten.length = L.length - 1 := by simp; omega
      have hfl3 : [L.take k, L.drop (k + 1)].flatten = L.take k ++ L.drop (k + 1) := by simp
      refine (concatL_c _ _ _ 2 _ hSL (by omega) (by rw [hlen3]; omega)).mono ?_
      rw [hlen3, hfl3]
      rintro en w6 ⟨v6, rfl, hown, hb6⟩
      have V6 := (V.up hb5).up hb6
      have N6 := (NW.below hb5).below hb6
      have hc6 := V6.plan.var.cell (i := 0) rfl
      have hf6 := V6.plan.var.fz 0
      obtain ⟨a6, c6, rfl⟩ := own_slice hown
      go_wp2_with fail
      refine hK.out _ _ (But.of_below hb6) ?_
      clear hK K
      try simp only [Act.put, List.getElem_toArray, List.getElem_cons_zero, List.getElem_cons_succ, List.setIfInBounds_toArray, List.set_cons_zero, List.set_cons_succ]
      refine pt_q (v := ?_) rfl (by rfl) ?_ ?_
      rotate_left
      · intro w' hBw'
        first | (go_simp; done) | (go_simp; with_reducible rfl)
      try simp only [Act.put, List.getElem_toArray, List.getElem_cons_zero, List.getElem_cons_succ, List.setIfInBounds_toArray, List.set_cons_zero, List.set_cons_succ]
      refine pt_q (v := ?_) rfl (by rfl) ?_ ?_
      rotate_left
      · intro w' hBw'
        first | (go_simp; done) | (go_simp; with_reducible rfl)
      try simp only [Act.put, List.getElem_toArray, List.getElem_cons_zero, List.getElem_cons_succ, List.setIfInBounds_toArray, List.set_cons_zero, List.set_cons_succ]
      refine pt_c ?_
      refine pt_step rfl (by rfl) (fun K hK => ?_)
      go_simp
      refine hK.out _ _ (But.setCell _ _ _ (.inl rfl)) ?_
      clear hK K
      try simp only [Act.put, List.getElem_toArray, List.getElem_cons_zero, List.getElem_cons_succ, List.setIfInBounds_toArray, List.set_cons_zero, List.set_cons_succ]
      refine pt_done ?_
      have hHB : ¬ w.heap.size = B := by omega
      have hbig := V.below.size
      have hbig2 := hb5.size
      have hkk : ∀ j, (Value.slice a6 (L.length - 1) c6).ownBlock = some j → w.heap.size < j := fun j hj => by have := (own_of_some hown hj).1; have := V.z.lt; omega
      have hsB : But (· = B) w6 (w6.setCell ⟨B, 0, none⟩ (.slice a6 (L.length - 1) c6)) := But.setCell _ _ _ (.inl rfl)
      have Z7 : RowAt (w6.setCell ⟨B, 0, none⟩ (.slice a6 (L.length - 1) c6)) w.heap.size (ctC zct0).toArray 27 := V6.z.other (by simpa using hHB) _
      have N7 : RowAt (w6.setCell ⟨B, 0, none⟩ (.slice a6 (L.length - 1) c6)) N (ctC c).toArray 27 := N6.other (by simpa using hNB) _
      have P7 : PlanAt (w6.setCell ⟨B, 0, none⟩ (.slice a6 (L.length - 1) c6)) B (.slice a6 (L.length - 1) c6) (L.take k ++ L.drop (k + 1)) := by
        refine ⟨V6.plan.var.set 0 _, ?_, .inr fun j hj => by have := hkk j hj; omega⟩
        rw [show (L.take k ++ L.drop (k + 1)).length = L.length - 1 by simp; omega]
        exact (Sl.of_own hown).but hsB (.inr fun j hj => by have := hkk j hj; omega)
      have hB7 := (But.of_below V6.below).trans hsB
      have hkk3 : ∀ j, (Value.slice a6 (L.length - 1) c6).ownBlock = some j → j < w6.heap.size := fun j hj => (own_of_some hown hj).2
      have hsz7 := hsB.size
      obtain ⟨W7, hW7⟩ : ∃ W7, W7 = w6.setCell ⟨B, 0, none⟩ (.slice a6 (L.length - 1) c6) := ⟨_, rfl⟩
      rw [← hW7] at Z7 N7 P7 hB7 hsz7
      try rw [← hW7]
      have z0 := Z7.cell (i := 0) (v := .int .u32 0) rfl
      have z1 := Z7.cell (i := 1) (v := .int .u32 0) rfl
      have z2 := Z7.cell (i := 2) (v := .int .u64 0) rfl
      have z3 := Z7.cell (i := 3) (v := .int .u64 0) rfl
      have z4 := Z7.cell (i := 4) (v := .int .u64 0) rfl
      have f0 := Z7.fz 0
      have f1 := Z7.fz 1
      have f2 := Z7.fz 2
      have f3 := Z7.fz 3
      have f4 := Z7.fz 4
      have hrN := N7.range
      clear hW7 hsB V6 N6 hc6 hf6 hown sl1 sl2 hs1 hs2 hSL hlen3 hfl3 hb5 hb6 V NW cvB ck hmf
      go_wp2_with (first | (refine wpList_load_mid rfl 27 (.tmp 12) rfl N 0 rfl (ctC c) _ hrN Try.underlying27 rfl (by kernel_rfl) ?_))
      have hS : But (fun j => j = w.heap.size) W7 (((((W7.setCell ⟨w.heap.size, 0, none⟩ (.int .u32 c.from_)).setCell ⟨w.heap.size, 1, none⟩ (.int .u32 c.to)).setCell ⟨w.heap.size, 2, none⟩ (.int .u64 c.a)).setCell ⟨w.heap.size, 3, none⟩ (.int .u64 c.b)).setCell ⟨w.heap.size, 4, none⟩ (.int .u64 c.r)) :=
        But.set5 W7 w.heap.size _ _ _ _ _
      refine bodyPost_ret (v := .tuple #[ctV c, .int .i64 0]) (by simp [results, Try.results17, go_sem, z0, z1, z2, z3, z4]) rfl ⟨_, rfl, ⟨(hS.same B P7.var.lt (by omega)).trans P7.var, P7.sl.but hS (.inr fun j hj => by have := hkk j hj; omega), P7.ne⟩, hB7.then hS (fun j hj e => by omega), .inr fun j hj => ⟨by have := hkk j hj; omega, Nat.lt_of_lt_of_le (Nat.lt_of_lt_of_le (hkk3 j hj) hsz7) hS.size⟩⟩
    · refine pt_step rfl (by rfl) (fun K hK => ?_)
      go_simp
      refine hK.out _ _ (But.refl _ _) ?_
      clear hK K
      try simp only [Act.put, List.getElem_toArray, List.getElem_cons_zero, List.getElem_cons_succ, List.setIfInBounds_toArray, List.set_cons_zero, List.set_cons_succ]
      refine pt_q (v := ?_) rfl (by rfl) ?_ ?_
      rotate_left
      · intro w' hBw'
        first | (go_simp; done) | (go_simp; with_reducible rfl)
      try simp only [Act.put, List.getElem_toArray, List.getElem_cons_zero, List.getElem_cons_succ, List.setIfInBounds_toArray, List.set_cons_zero, List.set_cons_succ]
      refine pt_c ?_
      refine pt_step rfl (by rfl) (fun K hK => ?_)
      go_simp
      refine hK.out _ _ (But.refl _ _) ?_
      clear hK K
      try simp only [Act.put, List.getElem_toArray, List.getElem_cons_zero, List.getElem_cons_succ, List.setIfInBounds_toArray, List.set_cons_zero, List.set_cons_succ]
      refine pt_q (v := ?_) rfl (by rfl) ?_ ?_
      rotate_left
      · intro w' hBw'
        first | (go_simp; done) | (go_simp; with_reducible rfl)
      try simp only [Act.put, List.getElem_toArray, List.getElem_cons_zero, List.getElem_cons_succ, List.setIfInBounds_toArray, List.set_cons_zero, List.set_cons_succ]
      refine pt_c ?_
      refine pt_step rfl (by rfl) (fun K hK => ?_)
      go_simp
      refine hK.out _ _ (But.alloc _ _) ?_
      clear hK K
      try simp only [Act.put, List.getElem_toArray, List.getElem_cons_zero, List.getElem_cons_succ, List.setIfInBounds_toArray, List.set_cons_zero, List.set_cons_succ]
      refine pt_c ?_
      refine pt_step rfl (by rfl) (fun K hK => ?_)
      go_simp
      have hb5 := below_alloc Wd (.cells #[.slice a1 k k, .slice a2 (L.length - (k + 1)) (cvp - (k + 1))] 65)
      have hSL : SlL (Wd.alloc (.cells #[.slice a1 k k, .slice a2 (L.length - (k + 1)) (cvp - (k + 1))] 65)) (.slice (some ⟨Wd.heap.size, 0, none⟩) 2 2) 2 [.slice a1 k k, .slice a2 (L.length - (k + 1)) (cvp - (k + 1))] [L.take k, L.drop (k + 1)] := by
        refine ⟨slLists2 Wd _ rfl 65 (.slice a1 k k) (.slice a2 (L.length - (k + 1)) (cvp - (k + 1))), rfl, fun j u l h1 h2 => ?_⟩
        match j with
        | 0 => simp at h1 h2; subst h1; subst h2; rw [List.length_take, Nat.min_eq_left (by omega)]; exact sl1.up hb5
        | 1 => simp at h1 h2; subst h1; subst h2; rw [List.length_drop]; exact sl2.up hb5
        | j + 2 => simp at h1
      have hlen3 : [L.take k, L.drop (k + 1)].flatten.length = L.length - 1 := by simp; omega
      have hfl3 : [L.take k, L.drop (k + 1)].flatten = L.take k ++ L.drop (k + 1) := by simp
      refine (concatL_c _ _ _ 2 _ hSL (by omega) (by rw [hlen3]; omega)).mono ?_
      rw [hlen3, hfl3]
      rintro en w6 ⟨v6, rfl, hown, hb6⟩
      have V6 := (V.up hb5).up hb6
      have N6 := (NW.below hb5).below hb6
      have hc6 := V6.plan.var.cell (i := 0) rfl
      have hf6 := V6.plan.var.fz 0
      obtain ⟨a6, c6, rfl⟩ := own_slice hown
      go_wp2_with fail
      refine hK.out _ _ (But.of_below hb6) ?_
      clear hK K
      try simp only [Act.put, List.getElem_toArray, List.getElem_cons_zero, List.getElem_cons_succ, List.setIfInBounds_toArray, List.set_cons_zero, List.set_cons_succ]
      refine pt_q (v := ?_) rfl (by rfl) ?_ ?_
      rotate_left
      · intro w' hBw'
        first | (go_simp; done) | (go_simp; with_reducible rfl)
      try simp only [Act.put, List.getElem_toArray, List.getElem_cons_zero, List.getElem_cons_succ, List.setIfInBounds_toArray, List.set_cons_zero, List.set_cons_succ]
      refine pt_q (v := ?_) rfl (by rfl) ?_ ?_
      rotate_left
      · intro w' hBw'
        first | (go_simp; done) | (go_simp; with_reducible rfl)
      try simp only [Act.put, List.getElem_toArray, List.getElem_cons_zero, List.getElem_cons_succ, List.setIfInBounds_toArray, List.set_cons_zero, List.set_cons_succ]
      refine pt_c ?_
      refine pt_step rfl (by rfl) (fun K hK => ?_)
      go_simp
      refine hK.out _ _ (But.setCell _ _ _ (.inl rfl)) ?_
      clear hK K
      try simp only [Act.put, List.getElem_toArray, List.getElem_cons_zero, List.getElem_cons_succ, List.setIfInBounds_toArray, List.set_cons_zero, List.set_cons_succ]
      refine pt_done ?_
      have hHB : ¬ w.heap.size = B := by omega
      have hbig := V.below.size
      have hbig2 := hb5.size
      have hkk : ∀ j, (Value.slice a6 (L.length - 1) c6).ownBlock = some j → w.heap.size < j := fun j hj => by have := (own_of_some hown hj).1; have := V.z.lt; omega
      have hsB : But (· = B) w6 (w6.setCell ⟨B, 0, none⟩ (.slice a6 (L.length - 1) c6)) := But.setCell _ _ _ (.inl rfl)
      have Z7 : RowAt (w6.setCell ⟨B, 0, none⟩ (.slice a6 (L.length - 1) c6)) w.heap.size (ctC zct0).toArray 27 := V6.z.other (by simpa using hHB) _
      have N7 : RowAt (w6.setCell ⟨B, 0, none⟩ (.slice a6 (L.length - 1) c6)) N (ctC c).toArray 27 := N6.other (by simpa using hNB) _
      have P7 : PlanAt (w6.setCell ⟨B, 0, none⟩ (.slice a6 (L.length - 1) c6)) B (.slice a6 (L.length - 1) c6) (L.take k ++ L.drop (k + 1)) := by
        refine ⟨V6.plan.var.set 0 _, ?_, .inr fun j hj => by have := hkk j hj; omega⟩
        rw [show (L.take k ++ L.drop (k + 1)).length = L.length - 1 by simp; omega]
        exact (Sl.of_own hown).but hsB (.inr fun j hj => by have := hkk j hj; omega)
      have hB7 := (But.of_below V6.below).trans hsB
      have hkk3 : ∀ j, (Value.slice a6 (L.length - 1) c6).ownBlock = some j → j < w6.heap.size := fun j hj => (own_of_some hown hj).2
      have hsz7 := hsB.size
      obtain ⟨W7, hW7⟩ : ∃ W7, W7 = w6.setCell ⟨B, 0, none⟩ (.slice a6 (L.length - 1) c6) := ⟨_, rfl⟩
      rw [← hW7] at Z7 N7 P7 hB7 hsz7
      try rw [← hW7]
      have z0 := Z7.cell (i := 0) (v := .int .u32 0) rfl
      have z1 := Z7.cell (i := 1) (v := .int .u32 0) rfl
      have z2 := Z7.cell (i := 2) (v := .int .u64 0) rfl
      have z3 := Z7.cell (i := 3) (v := .int .u64 0) rfl
      have z4 := Z7.cell (i := 4) (v := .int .u64 0) rfl
      have f0 := Z7.fz 0
      have f1 := Z7.fz 1
      have f2 := Z7.fz 2
      have f3 := Z7.fz 3
      have f4 := Z7.fz 4
      have hrN := N7.range
      clear hW7 hsB V6 N6 hc6 hf6 hown sl1 sl2 hs1 hs2 hSL hlen3 hfl3 hb5 hb6 V NW cvB ck hmf
      go_wp2_with (first | (refine wpList_load_mid rfl 27 (.tmp 12) rfl N 0 rfl (ctC c) _ hrN Try.underlying27 rfl (by kernel_rfl) ?_))
      have hS : But (fun j => j = w.heap.size) W7 (((((W7.setCell ⟨w.heap.size, 0, none⟩ (.int .u32 c.from_)).setCell ⟨w.heap.size, 1, none⟩ (.int .u32 c.to)).setCell ⟨w.heap.size, 2, none⟩ (.int .u64 c.a)).setCell ⟨w.heap.size, 3, none⟩ (.int .u64 c.b)).setCell ⟨w.heap.size, 4, none⟩ (.int .u64 c.r)) :=
        But.set5 W7 w.heap.size _ _ _ _ _
      refine bodyPost_ret (v := .tuple #[ctV c, .int .i64 0]) (by simp [results, Try.results17, go_sem, z0, z1, z2, z3, z4]) rfl ⟨_, rfl, ⟨(hS.same B P7.var.lt (by omega)).trans P7.var, P7.sl.but hS (.inr fun j hj => by have := hkk j hj; omega), P7.ne⟩, hB7.then hS (fun j hj e => by omega), .inr fun j hj => ⟨by have := hkk j hj; omega, Nat.lt_of_lt_of_le (Nat.lt_of_lt_of_le (hkk3 j hj) hsz7) hS.size⟩⟩
end Go.Proofs.Ytgbpdchdcbnoaaa
