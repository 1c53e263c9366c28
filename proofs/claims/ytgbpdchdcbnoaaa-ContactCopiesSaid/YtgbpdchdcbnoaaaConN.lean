/-
  Contracts of Get and of the reference's Prune.
-/
import Derived.Test.YtgbpdchdcbnoaaaConM
namespace Go.Proofs.Ytgbpdchdcbnoaaa
open Go.RowKit Vol
set_option linter.unusedSimpArgs false
set_option linter.unusedVariables false

namespace Vol
/-- There is no contact of that number. -/
def getB (L : List Ct) (i : Int) : Bool := decide (i < 0) || decide ((L.length : Int) ≤ i)
end Vol
set_option maxHeartbeats 1000000 in
set_option maxRecDepth 100000 in
theorem get1_c {B : Nat} {v : Value} {L : List Ct} (K J : Nat) (i : Int) (w : World) (h : PlanAt w B v L) (hK : w.cell? ⟨K, 0, none⟩ = some (.int .i64 i)) (hJ : w.cell? ⟨J, 0, none⟩ = some (.pointer (some ⟨B, 0, none⟩))) :
    Calls Try.prog 70 #[.pointer (some ⟨K, 0, none⟩), .pointer (some ⟨J, 0, none⟩)] w (Ret (.bool (getB L i)) w) := by
  unfold getB
  by_cases hi : i < 0
  · go_enter Try.func70, Try.ntmps70
    go_wp2
    refine wp_region_pi [(0, false), (1, false), (2, false), (3, false), (4, false), (5, false), (6, false), (7, false), (8, false), (9, false), (10, false), (11, false)] (by kernel_rfl) (by kernel_rfl) (by kernel_rfl) rfl (fun _ _ d _ _ h => by cases d <;> exact h) (fun Wd hBd => ?_)
    try simp only [Act.put, List.getElem_toArray, List.getElem_cons_zero, List.getElem_cons_succ, List.setIfInBounds_toArray, List.set_cons_zero, List.set_cons_succ]
    have ck : ∀ w', Below Wd.heap.size Wd w' → w'.cell? ⟨K, 0, none⟩ = some (.int .i64 i) := fun w' hb => cell_up hb (cell_up hBd hK)
    refine pi_q (v := ?_) rfl (by rfl) ?_ ?_
    rotate_left
    · intro w' hBw'
      first | (go_simp; done) | (go_simp; with_reducible rfl)
    try simp only [Act.put, List.getElem_toArray, List.getElem_cons_zero, List.getElem_cons_succ, List.setIfInBounds_toArray, List.set_cons_zero, List.set_cons_succ]
    refine pi_q (v := ?_) rfl (by rfl) ?_ ?_
    rotate_left
    · intro w' hBw'
      first | (go_simp; done) | (go_simp; with_reducible rfl)
    try simp only [Act.put, List.getElem_toArray, List.getElem_cons_zero, List.getElem_cons_succ, List.setIfInBounds_toArray, List.set_cons_zero, List.set_cons_succ]
    refine pi_q (v := ?_) rfl (by rfl) ?_ ?_
    rotate_left
    · intro w' hBw'
      first | (go_simp; done) | (go_simp; with_reducible rfl)
    try simp only [Act.put, List.getElem_toArray, List.getElem_cons_zero, List.getElem_cons_succ, List.setIfInBounds_toArray, List.set_cons_zero, List.set_cons_succ]
    refine pi_no rfl (by rfl) ?_
    try simp only [Act.put, List.getElem_toArray, List.getElem_cons_zero, List.getElem_cons_succ, List.setIfInBounds_toArray, List.set_cons_zero, List.set_cons_succ]
    refine pi_no rfl (by rfl) ?_
    try simp only [Act.put, List.getElem_toArray, List.getElem_cons_zero, List.getElem_cons_succ, List.setIfInBounds_toArray, List.set_cons_zero, List.set_cons_succ]
    refine pi_no rfl (by rfl) ?_
    try simp only [Act.put, List.getElem_toArray, List.getElem_cons_zero, List.getElem_cons_succ, List.setIfInBounds_toArray, List.set_cons_zero, List.set_cons_succ]
    refine pi_no rfl (by rfl) ?_
    try simp only [Act.put, List.getElem_toArray, List.getElem_cons_zero, List.getElem_cons_succ, List.setIfInBounds_toArray, List.set_cons_zero, List.set_cons_succ]
    refine pi_no rfl (by rfl) ?_
    try simp only [Act.put, List.getElem_toArray, List.getElem_cons_zero, List.getElem_cons_succ, List.setIfInBounds_toArray, List.set_cons_zero, List.set_cons_succ]
    refine pi_no rfl (by rfl) ?_
    try simp only [Act.put, List.getElem_toArray, List.getElem_cons_zero, List.getElem_cons_succ, List.setIfInBounds_toArray, List.set_cons_zero, List.set_cons_succ]
    refine pi_no rfl (by rfl) ?_
    try simp only [Act.put, List.getElem_toArray, List.getElem_cons_zero, List.getElem_cons_succ, List.setIfInBounds_toArray, List.set_cons_zero, List.set_cons_succ]
    refine pi_q (v := ?_) rfl (by rfl) ?_ ?_
    rotate_left
    · intro w' hBw'
      first | (go_simp; done) | (go_simp; with_reducible rfl)
    try simp only [Act.put, List.getElem_toArray, List.getElem_cons_zero, List.getElem_cons_succ, List.setIfInBounds_toArray, List.set_cons_zero, List.set_cons_succ]
    refine pi_q (v := ?_) rfl (by rfl) ?_ ?_
    rotate_left
    · intro w' hBw'
      first | (go_simp; done) | (go_simp; with_reducible rfl)
    try simp only [Act.put, List.getElem_toArray, List.getElem_cons_zero, List.getElem_cons_succ, List.setIfInBounds_toArray, List.set_cons_zero, List.set_cons_succ]
    refine pi_nil ?_
    go_wp2
    go_ret
    exact ⟨retB (by simp [hi] <;> (try intros) <;> omega), hBd⟩
  · have hd : decide (i < 0) = false := decide_eq_false hi
    have hd2 : ¬ i < 0 := hi
    go_enter Try.func70, Try.ntmps70
    go_wp2
    refine wp_region_pi [(0, false), (1, false), (2, false), (3, false), (4, false), (5, false), (6, false), (7, false), (8, true), (9, false), (10, false), (11, false)] (by kernel_rfl) (by kernel_rfl) (by kernel_rfl) rfl (fun _ _ d _ _ h => by cases d <;> exact h) (fun Wd hBd => ?_)
    try simp only [Act.put, List.getElem_toArray, List.getElem_cons_zero, List.getElem_cons_succ, List.setIfInBounds_toArray, List.set_cons_zero, List.set_cons_succ]
    have ck : ∀ w', Below Wd.heap.size Wd w' → w'.cell? ⟨K, 0, none⟩ = some (.int .i64 i) := fun w' hb => cell_up hb (cell_up hBd hK)
    have hd3 : decide (i < 0) = false := by simpa using hi
    have h1 := h.below hBd
    have cj : ∀ w', Below Wd.heap.size Wd w' → w'.cell? ⟨J, 0, none⟩ = some (.pointer (some ⟨B, 0, none⟩)) := fun w' hb => cell_up hb (cell_up hBd hJ)
    have cv : ∀ w', Below Wd.heap.size Wd w' → w'.cell? ⟨B, 0, none⟩ = some v := fun w' hb => cell_up hb (h1.var.cell (i := 0) rfl)
    refine pi_q (v := ?_) rfl (by rfl) ?_ ?_
    rotate_left
    · intro w' hBw'
      first | (go_simp; done) | (go_simp; with_reducible rfl)
    try simp only [Act.put, List.getElem_toArray, List.getElem_cons_zero, List.getElem_cons_succ, List.setIfInBounds_toArray, List.set_cons_zero, List.set_cons_succ]
    refine pi_q (v := ?_) rfl (by rfl) ?_ ?_
    rotate_left
    · intro w' hBw'
      first | (go_simp; done) | (go_simp; with_reducible rfl)
    try simp only [Act.put, List.getElem_toArray, List.getElem_cons_zero, List.getElem_cons_succ, List.setIfInBounds_toArray, List.set_cons_zero, List.set_cons_succ]
    refine pi_q (v := ?_) rfl (by rfl) ?_ ?_
    rotate_left
    · intro w' hBw'
      first | (go_simp; done) | (go_simp; with_reducible rfl)
    try simp only [Act.put, List.getElem_toArray, List.getElem_cons_zero, List.getElem_cons_succ, List.setIfInBounds_toArray, List.set_cons_zero, List.set_cons_succ]
    refine pi_q (v := ?_) rfl (by rfl) ?_ ?_
    rotate_left
    · intro w' hBw'
      first | (go_simp; done) | (go_simp; with_reducible rfl)
    try simp only [Act.put, List.getElem_toArray, List.getElem_cons_zero, List.getElem_cons_succ, List.setIfInBounds_toArray, List.set_cons_zero, List.set_cons_succ]
    refine pi_q (v := ?_) rfl (by rfl) ?_ ?_
    rotate_left
    · intro w' hBw'
      first | (go_simp; done) | (go_simp; with_reducible rfl)
    try simp only [Act.put, List.getElem_toArray, List.getElem_cons_zero, List.getElem_cons_succ, List.setIfInBounds_toArray, List.set_cons_zero, List.set_cons_succ]
    refine pi_q (v := ?_) rfl (by rfl) ?_ ?_
    rotate_left
    · intro w' hBw'
      first | (go_simp; done) | (go_simp; with_reducible rfl)
    try simp only [Act.put, List.getElem_toArray, List.getElem_cons_zero, List.getElem_cons_succ, List.setIfInBounds_toArray, List.set_cons_zero, List.set_cons_succ]
    refine pi_q (v := ?_) rfl (by rfl) ?_ ?_
    rotate_left
    · intro w' hBw'
      first | (go_simp; done) | (go_simp; with_reducible rfl)
    try simp only [Act.put, List.getElem_toArray, List.getElem_cons_zero, List.getElem_cons_succ, List.setIfInBounds_toArray, List.set_cons_zero, List.set_cons_succ]
    refine pi_q (v := ?_) rfl (by rfl) ?_ ?_
    rotate_left
    · intro w' hBw'
      first | (go_simp; done) | (go_simp; with_reducible rfl)
    try simp only [Act.put, List.getElem_toArray, List.getElem_cons_zero, List.getElem_cons_succ, List.setIfInBounds_toArray, List.set_cons_zero, List.set_cons_succ]
    refine pi_c rfl (by rfl) (fun K hK => ?_)
    go_simp
    refine (lLen_c v _ _ _ h1.sl).mono ?_
    rintro en w5 ⟨rfl, rfl⟩
    go_wp2_with fail
    refine hK.out _ _ (Below.refl _ _) ?_
    clear hK K
    try simp only [Act.put, List.getElem_toArray, List.getElem_cons_zero, List.getElem_cons_succ, List.setIfInBounds_toArray, List.set_cons_zero, List.set_cons_succ]
    refine pi_q (v := ?_) rfl (by rfl) ?_ ?_
    rotate_left
    · intro w' hBw'
      first | (go_simp; done) | (go_simp; with_reducible rfl)
    try simp only [Act.put, List.getElem_toArray, List.getElem_cons_zero, List.getElem_cons_succ, List.setIfInBounds_toArray, List.set_cons_zero, List.set_cons_succ]
    refine pi_q (v := ?_) rfl (by rfl) ?_ ?_
    rotate_left
    · intro w' hBw'
      first | (go_simp; done) | (go_simp; with_reducible rfl)
    try simp only [Act.put, List.getElem_toArray, List.getElem_cons_zero, List.getElem_cons_succ, List.setIfInBounds_toArray, List.set_cons_zero, List.set_cons_succ]
    refine pi_q (v := ?_) rfl (by rfl) ?_ ?_
    rotate_left
    · intro w' hBw'
      first | (go_simp; done) | (go_simp; with_reducible rfl)
    try simp only [Act.put, List.getElem_toArray, List.getElem_cons_zero, List.getElem_cons_succ, List.setIfInBounds_toArray, List.set_cons_zero, List.set_cons_succ]
    refine pi_nil ?_
    go_wp2
    go_ret
    exact ⟨retB (by simp [hi] <;> (try intros) <;> omega), hBd⟩
theorem enters_get1 : Enters Try.prog 70 := enters_of Try.func70 (by kernel_rfl) rfl
theorem getAsk_c {B K J : Nat} {v : Value} {L : List Ct} (i : Int) (w : World) (k : Nat) (hk0 : k = w.heap.size) (h : PlanAt w B v L) (hK : w.cell? ⟨K, 0, none⟩ = some (.int .i64 i)) (hJ : w.cell? ⟨J, 0, none⟩ = some (.pointer (some ⟨B, 0, none⟩))) :
    Calls Try.prog 29 #[.slice (some ⟨k, 0, none⟩) 2 2] (w.alloc (.cells [.func (.func 30) #[.pointer (some ⟨B, 0, none⟩)] #[], .int .i64 1, .func (.func 70) #[] #[.pointer (some ⟨K, 0, none⟩), .pointer (some ⟨J, 0, none⟩)], .int .i64 4].toArray 70)) (Ret (.int .i64 (bif getB L i then 4 else 0)) (w.alloc (.cells [.func (.func 30) #[.pointer (some ⟨B, 0, none⟩)] #[], .int .i64 1, .func (.func 70) #[] #[.pointer (some ⟨K, 0, none⟩), .pointer (some ⟨J, 0, none⟩)], .int .i64 4].toArray 70))) := by
  subst hk0
  have hsl : Sl (w.alloc (.cells [.func (.func 30) #[.pointer (some ⟨B, 0, none⟩)] #[], .int .i64 1, .func (.func 70) #[] #[.pointer (some ⟨K, 0, none⟩), .pointer (some ⟨J, 0, none⟩)], .int .i64 4].toArray 70)) 2 (.slice (some ⟨w.heap.size, 0, none⟩) 2 2) 2 [.func (.func 30) #[.pointer (some ⟨B, 0, none⟩)] #[], .int .i64 1, .func (.func 70) #[] #[.pointer (some ⟨K, 0, none⟩), .pointer (some ⟨J, 0, none⟩)], .int .i64 4] :=
    Sl.of_own (World.ownsRow_lit w [.func (.func 30) #[.pointer (some ⟨B, 0, none⟩)] #[], .int .i64 1, .func (.func 70) #[] #[.pointer (some ⟨K, 0, none⟩), .pointer (some ⟨J, 0, none⟩)], .int .i64 4].toArray 2 (size := 2) (e := 70) (base := w.heap.size) (Nat.le_refl _) (by decide) rfl)
  have hB := below_alloc w (.cells [.func (.func 30) #[.pointer (some ⟨B, 0, none⟩)] #[], .int .i64 1, .func (.func 70) #[] #[.pointer (some ⟨K, 0, none⟩), .pointer (some ⟨J, 0, none⟩)], .int .i64 4].toArray 70)
  have hP := h.below hB
  have hk := cell_up hB hK
  have hj := cell_up hB hJ
  have hE : askF [⟨30, #[.pointer (some ⟨B, 0, none⟩)], #[], 1, false⟩, ⟨70, #[], #[.pointer (some ⟨K, 0, none⟩), .pointer (some ⟨J, 0, none⟩)], 4, getB L i⟩] = bif getB L i then 4 else 0 := by
    unfold askF
    cases h : getB L i <;> simp [List.find?, h]
  rw [← hE]
  exact cAsked_c [⟨30, #[.pointer (some ⟨B, 0, none⟩)], #[], 1, false⟩, ⟨70, #[], #[.pointer (some ⟨K, 0, none⟩), .pointer (some ⟨J, 0, none⟩)], 4, getB L i⟩] _ 2 _ hsl
    (by intro a ha; simp only [List.mem_cons, List.not_mem_nil, or_false] at ha; rcases ha with rfl | rfl; exact enters_none; exact enters_get1)
    (by
      intro a ha w1 hb
      simp only [List.mem_cons, List.not_mem_nil, or_false] at ha
      rcases ha with rfl | rfl
      · exact (Calls.cast rfl (pNone_c w1 (hP.below hb))).mono fun en w' ⟨he, hw'⟩ => ⟨he, hw' ▸ Below.refl _ _⟩
      · exact Calls.cast rfl (get1_c K J i w1 (hP.below hb) (cell_up hb hk) (cell_up hb hj)))

/-- What Get has at hand. -/
structure GtW (w w1 : World) (B : Nat) (v : Value) (L : List Ct) (i : Int) : Prop where
  below : Below w.heap.size w w1
  ptr : w1.cell? ⟨w.heap.size, 0, none⟩ = some (.pointer (some ⟨B, 0, none⟩))
  idx : w1.cell? ⟨w.heap.size + 1, 0, none⟩ = some (.int .i64 i)
  z : RowAt w1 (w.heap.size + 1 + 1) (ctC zct0).toArray 27
  plan : PlanAt w1 B v L
theorem GtW.up {w w1 w2 : World} {B : Nat} {v : Value} {L : List Ct} {i : Int} (h : GtW w w1 B v L i) (hb : Below w1.heap.size w1 w2) : GtW w w2 B v L i :=
  ⟨below_up h.below hb, cell_up hb h.ptr, cell_up hb h.idx, h.z.below hb, h.plan.below hb⟩
theorem GtW.start {w : World} {B : Nat} {v : Value} {L : List Ct} (i : Int) (h : PlanAt w B v L) : GtW w (((w.alloc (.cells #[.pointer (some ⟨B, 0, none⟩)] 33)).alloc (.cells #[.int .i64 i] 3)).alloc (.cells (ctC zct0).toArray 27)) B v L i := by
  have hB3 : Below w.heap.size w (((w.alloc (.cells #[.pointer (some ⟨B, 0, none⟩)] 33)).alloc (.cells #[.int .i64 i] 3)).alloc (.cells (ctC zct0).toArray 27)) := ((below_alloc w _).alloc (by simp) _).alloc (by simp; omega) _
  have h2 := cell_new (w.alloc (.cells #[.pointer (some ⟨B, 0, none⟩)] 33)) (.int .i64 i) 3
  rw [World.size_alloc] at h2
  have h3 := RowAt.new ((w.alloc (.cells #[.pointer (some ⟨B, 0, none⟩)] 33)).alloc (.cells #[.int .i64 i] 3)) (ctC zct0).toArray 27
  rw [World.size_alloc, World.size_alloc] at h3
  exact ⟨hB3, cell_up (below_alloc _ _) (cell_up (below_alloc _ _) (cell_new w _ _)), cell_up (below_alloc _ _) h2, h3, h.below hB3⟩

set_option maxHeartbeats 4000000 in
set_option maxRecDepth 100000 in
theorem pGet_c {B : Nat} {v : Value} {L : List Ct} (i : Int) (w : World) (h : PlanAt w B v L) :
    Calls Try.prog 49 #[.pointer (some ⟨B, 0, none⟩), .int .i64 i] w fun en w' => ∃ (c : Ct) (e : Int), en = .returned (.tuple #[ctV c, .int .i64 e]) ∧ ((getB L i = true ∧ c = zct0 ∧ e = 4) ∨ (getB L i = false ∧ L[i.toNat]? = some c ∧ e = 0)) ∧ Below w.heap.size w w' := by
  have hmf : ∀ (fn : Fn) (first cap : Array Value) (w : World), (Instr.makeFunc fn first cap).run Try.prog w = .ok (.func fn first cap) w := fun _ _ _ _ => rfl
  have V0 := Lib.hid (GtW.start i h)
  cases hg : getB L i with
  | true =>
    go_enter Try.func49, Try.ntmps49
    go_wp2_with (go_at_call 29; refine (getAsk_c (B := B) (K := w.heap.size + 1) (J := w.heap.size) (v := v) (L := L) i _ (w.heap.size + 1 + 1 + 1) (by simp) V0.out.plan V0.out.idx V0.out.ptr).mono ?_; rw [hg]; simp only [cond_true]; rintro en w1 ⟨rfl, hb⟩; have V1 := V0.out.up (below_new hb); have z0 := V1.z.cell (i := 0) (v := .int .u32 0) rfl; have z1 := V1.z.cell (i := 1) (v := .int .u32 0) rfl; have z2 := V1.z.cell (i := 2) (v := .int .u64 0) rfl; have z3 := V1.z.cell (i := 3) (v := .int .u64 0) rfl; have z4 := V1.z.cell (i := 4) (v := .int .u64 0) rfl; have f0 := V1.z.fz 0; have f1 := V1.z.fz 1; have f2 := V1.z.fz 2; have f3 := V1.z.fz 3; have f4 := V1.z.fz 4)
    have hS := (But.set5 w1 (w.heap.size + 1 + 1) (.int .u32 0) (.int .u32 0) (.int .u64 0) (.int .u64 0) (.int .u64 0)).below (B := w.heap.size) (fun k hk => by omega) V1.below.size
    exact bodyPost_ret (v := .tuple #[ctV zct0, .int .i64 4]) (by simp [results, Try.results49, go_sem, z0, z1, z2, z3, z4, zct0]) rfl ⟨zct0, 4, rfl, .inl ⟨by simp, rfl, rfl⟩, V1.below.trans hS⟩
  | false =>
    have hbd : 0 ≤ i ∧ i < (L.length : Int) := by unfold getB at hg; simp at hg; omega
    obtain ⟨k, rfl⟩ := Int.eq_ofNat_of_zero_le hbd.1
    have hk : k < L.length := by omega
    have hkI : (k : Int) < (L.length : Int) := by omega
    have hk0 : (0 : Int) ≤ (k : Int) := by omega
    obtain ⟨av, cv, hve⟩ := h.sl.len
    subst hve
    go_enter Try.func49, Try.ntmps49
    go_wp2_with (go_at_call 29; refine (getAsk_c (B := B) (K := w.heap.size + 1) (J := w.heap.size) (v := .slice av L.length cv) (L := L) (k : Int) _ (w.heap.size + 1 + 1 + 1) (by simp) V0.out.plan V0.out.idx V0.out.ptr).mono ?_; rw [hg]; simp only [cond_false]; rintro en w1 ⟨rfl, hb⟩; have V1 := V0.out.up (below_new hb))
    obtain ⟨b, off, rfl, hr⟩ := V1.plan.sl.rec_at (cells := ctC) (sz := 5) (fun _ => rfl) hk hk
    have HGet := Lib.hid (List.getElem?_eq_getElem hk)
    generalize L[k] = c at *
    have hBs : B < w.heap.size := h.var.lt
    have hbs : b < w1.heap.size := World.block_lt_of_cell? w1 ⟨b, off + k * 5 + 0, none⟩ (hr 0 _ rfl)
    have hbz : ¬ b = w.heap.size + 1 + 1 := by
      rcases h.sl.block_lt (by decide) with h0 | h0
      · omega
      · have := h0 b rfl; omega
    refine wp_region_po (fun j => j = w.heap.size + 1 + 1) [(0, false), (1, false), (2, false), (3, false), (4, false), (5, false), (6, false), (7, true), (8, false)] (by kernel_rfl) (by kernel_rfl) (by kernel_rfl) rfl (fun _ _ d _ _ h => by cases d <;> exact h) (fun Wd hBd => ?_)
    try simp only [Act.put, List.getElem_toArray, List.getElem_cons_zero, List.getElem_cons_succ, List.setIfInBounds_toArray, List.set_cons_zero, List.set_cons_succ]
    have V := V1.up hBd
    have r1 := rangeAt_up hBd hr
    have cp : ∀ w', But (fun j => j = w.heap.size + 1 + 1) Wd w' → w'.cell? ⟨w.heap.size, 0, none⟩ = some (.pointer (some ⟨B, 0, none⟩)) := fun w' hb => hb.cell V.ptr (by omega)
    have ci : ∀ w', But (fun j => j = w.heap.size + 1 + 1) Wd w' → w'.cell? ⟨w.heap.size + 1, 0, none⟩ = some (.int .i64 (k : Int)) := fun w' hb => hb.cell V.idx (by omega)
    have cl := fun w' (hb : But (fun j => j = w.heap.size + 1 + 1) Wd w') => hb.cell (V.plan.var.cell (i := 0) rfl) (by omega)
    simp only [List.getElem_toArray, List.getElem_cons_zero] at cl
    have z0 := V.z.cell (i := 0) (v := .int .u32 0) rfl
    have z1 := V.z.cell (i := 1) (v := .int .u32 0) rfl
    have z2 := V.z.cell (i := 2) (v := .int .u64 0) rfl
    have z3 := V.z.cell (i := 3) (v := .int .u64 0) rfl
    have z4 := V.z.cell (i := 4) (v := .int .u64 0) rfl
    have f0 := V.z.fz 0
    have f1 := V.z.fz 1
    have f2 := V.z.fz 2
    have f3 := V.z.fz 3
    have f4 := V.z.fz 4
    refine po_q (v := ?_) rfl (by rfl) ?_ ?_
    rotate_left
    · intro w' hBw'
      first | (go_simp; done) | (go_simp; with_reducible rfl)
    try simp only [Act.put, List.getElem_toArray, List.getElem_cons_zero, List.getElem_cons_succ, List.setIfInBounds_toArray, List.set_cons_zero, List.set_cons_succ]
    refine po_q (v := ?_) rfl (by rfl) ?_ ?_
    rotate_left
    · intro w' hBw'
      first | (go_simp; done) | (go_simp; with_reducible rfl)
    try simp only [Act.put, List.getElem_toArray, List.getElem_cons_zero, List.getElem_cons_succ, List.setIfInBounds_toArray, List.set_cons_zero, List.set_cons_succ]
    refine po_q (v := ?_) rfl (by rfl) ?_ ?_
    rotate_left
    · intro w' hBw'
      first | (go_simp; done) | (go_simp; with_reducible rfl)
    try simp only [Act.put, List.getElem_toArray, List.getElem_cons_zero, List.getElem_cons_succ, List.setIfInBounds_toArray, List.set_cons_zero, List.set_cons_succ]
    refine po_q (v := ?_) rfl (by rfl) ?_ ?_
    rotate_left
    · intro w' hBw'
      first | (go_simp; done) | (go_simp; with_reducible rfl)
    try simp only [Act.put, List.getElem_toArray, List.getElem_cons_zero, List.getElem_cons_succ, List.setIfInBounds_toArray, List.set_cons_zero, List.set_cons_succ]
    refine po_q (v := ?_) rfl (by rfl) ?_ ?_
    rotate_left
    · intro w' hBw'
      first | (go_simp; done) | (go_simp; with_reducible rfl)
    try simp only [Act.put, List.getElem_toArray, List.getElem_cons_zero, List.getElem_cons_succ, List.setIfInBounds_toArray, List.set_cons_zero, List.set_cons_succ]
    refine po_q (v := ?_) rfl (by rfl) ?_ ?_
    rotate_left
    · intro w' hBw'
      first | (go_simp; done) | (go_simp; with_reducible rfl)
    try simp only [Act.put, List.getElem_toArray, List.getElem_cons_zero, List.getElem_cons_succ, List.setIfInBounds_toArray, List.set_cons_zero, List.set_cons_succ]
    refine po_load rfl (by rfl) 27 (.tmp 23) rfl b (off + k * 5) rfl (ctC c) _ r1 hbz Try.underlying27 rfl (by kernel_rfl) ?_
    try simp only [Act.put, List.getElem_toArray, List.getElem_cons_zero, List.getElem_cons_succ, List.setIfInBounds_toArray, List.set_cons_zero, List.set_cons_succ]
    refine po_c rfl (by rfl) (fun K hK => ?_)
    go_simp
    refine hK.out _ _ (But.set5 _ _ _ _ _ _ _) ?_
    clear hK K
    try simp only [Act.put, List.getElem_toArray, List.getElem_cons_zero, List.getElem_cons_succ, List.setIfInBounds_toArray, List.set_cons_zero, List.set_cons_succ]
    refine po_q (v := ?_) rfl (by rfl) ?_ ?_
    rotate_left
    · intro w' hBw'
      first | (go_simp; done) | (go_simp; with_reducible rfl)
    try simp only [Act.put, List.getElem_toArray, List.getElem_cons_zero, List.getElem_cons_succ, List.setIfInBounds_toArray, List.set_cons_zero, List.set_cons_succ]
    refine po_nil ?_
    have hS := (But.set5 Wd (w.heap.size + 1 + 1) (.int .u32 c.from_) (.int .u32 c.to) (.int .u64 c.a) (.int .u64 c.b) (.int .u64 c.r)).below (B := w.heap.size) (fun k hk => by omega) V.below.size
    go_wp2
    exact bodyPost_ret (v := .tuple #[ctV c, .int .i64 0]) (by simp [results, Try.results49, go_sem, z0, z1, z2, z3, z4]) rfl ⟨c, 0, rfl, .inr ⟨by simp, by rw [Int.toNat_natCast]; exact HGet.out, rfl⟩, V.below.trans hS⟩
end Go.Proofs.Ytgbpdchdcbnoaaa
