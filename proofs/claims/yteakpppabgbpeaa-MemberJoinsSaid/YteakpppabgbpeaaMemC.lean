/-
  The contract of Tell.
-/
import Derived.Test.YteakpppabgbpeaaMemB
namespace Go.Proofs.Yteakpppabgbpeaa
open Go.RowKit Go.Maps Mem
set_option linter.unusedSimpArgs false
set_option linter.unusedVariables false

theorem mixesM : Try.prog.follows .mixedOrders = true := by kernel_rfl
namespace Mem
def zB (m : Mb) : Bool := decide (m.node = 0) || decide (m.region = 0)
/-- Does an elder telling stand against it? -/
def oldB (E : List Mb) (m : Mb) : Bool := match find E m.node m.region with | some o => !outB m o | none => false
def fullB (E : List Mb) (m : Mb) : Bool := !(find E m.node m.region).isSome && decide (512 ≤ E.length)
def tellE (E : List Mb) (m : Mb) : Int := if zB m = true then 2 else if oldB E m = true then 300 else if fullB E m = true then 301 else 0
/-- A telling takes its place. -/
def putF : List Mb → Mb → List Mb
  | [], m => [m]
  | x :: r, m => if ofB m.node m.region x = true then m :: r else x :: putF r m
def tellF (E : List Mb) (m : Mb) : List Mb := if tellE E m = 0 then putF E m else E
theorem putF_none {E : List Mb} {m : Mb} (h : find E m.node m.region = none) : putF E m = E ++ [m] := by
  induction E with
  | nil => rfl
  | cons x r ih =>
    have h1 := List.find?_eq_none.1 h x (by simp)
    have h2 : find r m.node m.region = none := List.find?_eq_none.2 fun y hy => List.find?_eq_none.1 h y (by simp [hy])
    rw [putF, if_neg h1, ih h2]; rfl
theorem putF_some {E : List Mb} {m o : Mb} (h : find E m.node m.region = some o) : ∃ a b, E = a ++ o :: b ∧ putF E m = a ++ m :: b := by
  induction E with
  | nil => cases h
  | cons x r ih =>
    by_cases h1 : ofB m.node m.region x = true
    · have : x = o := by
        unfold find at h
        rw [List.find?_cons_of_pos h1] at h
        exact Option.some.inj h
      subst this
      exact ⟨[], r, rfl, by rw [putF, if_pos h1]; rfl⟩
    · have h2 : find r m.node m.region = some o := by
        unfold find at h ⊢
        rwa [List.find?_cons_of_neg h1] at h
      obtain ⟨a, b, e1, e2⟩ := ih h2
      exact ⟨x :: a, b, by rw [e1]; rfl, by rw [putF, if_neg h1, e2]; rfl⟩
end Mem

theorem enters_none : Enters Try.prog 26 := enters_of Try.func26 (by kernel_rfl) rfl
theorem enters_tell1 : Enters Try.prog 27 := enters_of Try.func27 (by kernel_rfl) rfl
theorem enters_tell2 : Enters Try.prog 28 := enters_of Try.func28 (by kernel_rfl) rfl
theorem enters_tell3 : Enters Try.prog 30 := enters_of Try.func30 (by kernel_rfl) rfl

theorem mTell1_c (b : Nat) (m : Mb) (hw : m.Wf) (w : World) (h : RowAt w b (mbC m).toArray 24) : Calls Try.prog 27 #[.pointer (some ⟨b, 0, none⟩)] w (Ret (.bool (zB m)) w) := by
  have h0 := h.cell (i := 0) (v := .int .u32 m.node) rfl
  have h1 := h.cell (i := 1) (v := .int .u32 m.region) rfl
  obtain ⟨mn, hmn⟩ : ∃ mn, (if m.region < m.node then m.region else m.node) = mn := ⟨_, rfl⟩
  have hz : (mn == 0) = zB m := by
    obtain ⟨n1, n2, r1, r2⟩ := hw
    unfold zB
    rw [← hmn, Bool.eq_iff_iff]
    simp only [beq_iff_eq, Bool.or_eq_true, decide_eq_true_eq]
    split <;> omega
  have Hz := Lib.hid hz
  clear hz
  go_enter Try.func27, Try.ntmps27
  go_wp2
  go_ret
  exact ⟨retB Hz.out, Below.refl _ _⟩

/-- What the questions have at hand: the roll's pointer in block P, the telling in block C. -/
structure TlW (w : World) (P C B M : Nat) (E : List Mb) (m : Mb) : Prop where
  ptr : w.cell? ⟨P, 0, none⟩ = some (.pointer (some ⟨B, 0, none⟩))
  mb : RowAt w C (mbC m).toArray 24
  roll : RollAt w B M E
theorem TlW.up {w w1 : World} {P C B M : Nat} {E : List Mb} {m : Mb} (h : TlW w P C B M E m) (hb : Below w.heap.size w w1) : TlW w1 P C B M E m := ⟨cell_up hb h.ptr, h.mb.below hb, h.roll.below hb⟩

set_option maxHeartbeats 2000000 in
set_option maxRecDepth 100000 in
theorem mTell2_c {P C B M : Nat} {E : List Mb} (m : Mb) (hw : m.Wf) (w : World) (h : TlW w P C B M E m) :
    Calls Try.prog 28 #[.pointer (some ⟨P, 0, none⟩), .pointer (some ⟨C, 0, none⟩)] w (Ret (.bool (oldB E m)) w) := by
  obtain ⟨x, hx⟩ : ∃ x, (find E m.node m.region).getD zmb = x := ⟨_, rfl⟩
  obtain ⟨bo, hbo⟩ : ∃ b, (find E m.node m.region).isSome = b := ⟨_, rfl⟩
  have hof := fun w hM => mOf_c (M := M) (E := E) m.node m.region hw.n1 hw.n2 hw.r1 hw.r2 w hM
  rw [hx, hbo] at hof
  have HOF := Lib.hid hof
  clear hof
  go_enter Try.func28, Try.ntmps28
  go_wp2
  refine wp_region_pt (fun i => w.heap.size ≤ i) (.q 0 (.q 1 (.q 2 (.q 3 (.q 4 (.q 5 (.q 6 (.q 7 (.f 8 (.q 9 (.q 10 (.q 11 (.c 12 (.c 13 (.q 14 .done)))))) 12 (.c 8 (.q 9 (.q 10 (.q 11 (.c 13 (.q 14 .done))))))))))))))) (by kernel_rfl) (by kernel_rfl) (by kernel_rfl) (by decide) (fun _ _ d _ _ h => by cases d <;> exact h) (fun Wd hBd => ?_)
  try simp only [Act.put, List.getElem_toArray, List.getElem_cons_zero, List.getElem_cons_succ, List.setIfInBounds_toArray, List.set_cons_zero, List.set_cons_succ]
  have V := h.up hBd
  have hz0 := hBd.size
  have cp : ∀ w', But (fun i => w.heap.size ≤ i) Wd w' → w'.cell? ⟨P, 0, none⟩ = some (.pointer (some ⟨B, 0, none⟩)) := fun w' hb => hb.cell V.ptr (by have := World.block_lt_of_cell? w _ h.ptr; simp at this; omega)
  have cm : ∀ w', But (fun i => w.heap.size ≤ i) Wd w' → w'.cell? ⟨B, 0, none⟩ = some (.map (some M)) := fun w' hb => hb.cell (V.roll.var.cell (i := 0) rfl) (by have := h.roll.var.lt; omega)
  have c0 : ∀ w', But (fun i => w.heap.size ≤ i) Wd w' → w'.cell? ⟨C, 0, none⟩ = some (.int .u32 m.node) := fun w' hb => hb.cell (V.mb.cell (i := 0) rfl) (by have := h.mb.lt; omega)
  have c1 : ∀ w', But (fun i => w.heap.size ≤ i) Wd w' → w'.cell? ⟨C, 1, none⟩ = some (.int .u32 m.region) := fun w' hb => hb.cell (V.mb.cell (i := 1) rfl) (by have := h.mb.lt; omega)
  refine pt_q (v := ?_) rfl (by rfl) ?_ ?_
  rotate_left
  · intro w' hBw'
    first | (go_simp; done) | (go_simp; with_reducible rfl)
  try simp only [Act.put, List.getElem_toArray, List.getElem_cons_zero, List.getElem_cons_succ, List.setIfInBounds_toArray, List.set_cons_zero, List.set_cons_succ]
  refine pt_q (v := ?_) rfl (by rfl) ?_ ?_
  rotate_left
  · intro w' hBw'
    first | (go_simp; done) | (go_simp; with_reducible rfl)
  try simp only [Act.put, List.getElem_toArray, List.getElem_cons_zero, List.getElem_cons_succ, List.setIfInBounds_toArray, List.set_cons_zero, List.set_cons_succ]
  refine pt_q (v := ?_) rfl (by rfl) ?_ ?_
  rotate_left
  · intro w' hBw'
    first | (go_simp; done) | (go_simp; with_reducible rfl)
  try simp only [Act.put, List.getElem_toArray, List.getElem_cons_zero, List.getElem_cons_succ, List.setIfInBounds_toArray, List.set_cons_zero, List.set_cons_succ]
  refine pt_q (v := ?_) rfl (by rfl) ?_ ?_
  rotate_left
  · intro w' hBw'
    first | (go_simp; done) | (go_simp; with_reducible rfl)
  try simp only [Act.put, List.getElem_toArray, List.getElem_cons_zero, List.getElem_cons_succ, List.setIfInBounds_toArray, List.set_cons_zero, List.set_cons_succ]
  refine pt_q (v := ?_) rfl (by rfl) ?_ ?_
  rotate_left
  · intro w' hBw'
    first | (go_simp; done) | (go_simp; with_reducible rfl)
  try simp only [Act.put, List.getElem_toArray, List.getElem_cons_zero, List.getElem_cons_succ, List.setIfInBounds_toArray, List.set_cons_zero, List.set_cons_succ]
  refine pt_q (v := ?_) rfl (by rfl) ?_ ?_
  rotate_left
  · intro w' hBw'
    first | (go_simp; done) | (go_simp; with_reducible rfl)
  try simp only [Act.put, List.getElem_toArray, List.getElem_cons_zero, List.getElem_cons_succ, List.setIfInBounds_toArray, List.set_cons_zero, List.set_cons_succ]
  refine pt_q (v := ?_) rfl (by rfl) ?_ ?_
  rotate_left
  · intro w' hBw'
    first | (go_simp; done) | (go_simp; with_reducible rfl)
  try simp only [Act.put, List.getElem_toArray, List.getElem_cons_zero, List.getElem_cons_succ, List.setIfInBounds_toArray, List.set_cons_zero, List.set_cons_succ]
  refine pt_q (v := ?_) rfl (by rfl) ?_ ?_
  rotate_left
  · intro w' hBw'
    first | (go_simp; done) | (go_simp; with_reducible rfl)
  try simp only [Act.put, List.getElem_toArray, List.getElem_cons_zero, List.getElem_cons_succ, List.setIfInBounds_toArray, List.set_cons_zero, List.set_cons_succ]
  refine pt_f ?_ ?_
  · refine pt_step rfl (by rfl) (fun K hK => ?_)
    go_simp
    refine (HOF.out _ V.roll.map).mono ?_
    rintro en w5 ⟨rfl, hb5⟩
    refine hK.out _ _ (But.of_below hb5) ?_
    clear hK K
    try simp only [Act.put, List.getElem_toArray, List.getElem_cons_zero, List.getElem_cons_succ, List.setIfInBounds_toArray, List.set_cons_zero, List.set_cons_succ]
    have hz5 := hb5.size
    refine pt_q (v := ?_) rfl (by rfl) ?_ ?_
    rotate_left
    · intro w' hBw'
      first | (go_simp; done) | (go_simp; with_reducible rfl)
    try simp only [Act.put, List.getElem_toArray, List.getElem_cons_zero, List.getElem_cons_succ, List.setIfInBounds_toArray, List.set_cons_zero, List.set_cons_succ]
    refine pt_q (v := ?_) rfl (by rfl) ?_ ?_
    rotate_left
    · intro w' hBw'
      first | (go_simp; done) | (go_simp; with_reducible rfl)
    try simp only [Act.put, List.getElem_toArray, List.getElem_cons_zero, List.getElem_cons_succ, List.setIfInBounds_toArray, List.set_cons_zero, List.set_cons_succ]
    refine pt_q (v := ?_) rfl (by rfl) ?_ ?_
    rotate_left
    · intro w' hBw'
      first | (go_simp; done) | (go_simp; with_reducible rfl)
    try simp only [Act.put, List.getElem_toArray, List.getElem_cons_zero, List.getElem_cons_succ, List.setIfInBounds_toArray, List.set_cons_zero, List.set_cons_succ]
    refine pt_c ?_
    refine pt_step rfl (by rfl) (fun K hK => ?_)
    go_simp
    refine hK.out _ _ (But.alloc _ _) ?_
    clear hK K
    try simp only [Act.put, List.getElem_toArray, List.getElem_cons_zero, List.getElem_cons_succ, List.setIfInBounds_toArray, List.set_cons_zero, List.set_cons_succ]
    have hR0 := RowAt.new w5 (mbC zmb).toArray 24
    refine pt_c ?_
    refine pt_put_row rfl (by rfl) 24 _ _ rfl (w5.heap.size) (mbC x) rfl rfl hR0 rfl (by kernel_rfl) rfl (by omega) (fun wA hRA hbA => ?_)
    try simp only [Act.put, List.getElem_toArray, List.getElem_cons_zero, List.getElem_cons_succ, List.setIfInBounds_toArray, List.set_cons_zero, List.set_cons_succ]
    have hBA : But (fun i => w.heap.size ≤ i) Wd wA := ((But.of_below hb5).trans (But.alloc _ _)).then hbA (fun j hj e => by omega)
    have hTl : w.heap.size ≤ w5.heap.size := by omega
    refine pt_q (v := ?_) rfl (by rfl) ?_ ?_
    rotate_left
    · intro w' hBw'
      first | (go_simp; done) | (go_simp; with_reducible rfl)
    try simp only [Act.put, List.getElem_toArray, List.getElem_cons_zero, List.getElem_cons_succ, List.setIfInBounds_toArray, List.set_cons_zero, List.set_cons_succ]
    refine pt_done ?_
    have hBelow : Below w.heap.size w wA := hBd.trans (hBA.below (fun j e => e) hBd.size)
    have VA := h.up hBelow
    have ptr := VA.ptr
    have cmA := VA.roll.var.cell (i := 0) (v := .map (some M)) rfl
    cases bo with
    | false =>
      have hres : oldB E m = false := by unfold oldB; cases h : find E m.node m.region with | none => rfl | some o => rw [h] at hbo; cases hbo
      have Hres := Lib.hid hres
      clear hres
      go_wp2
      go_ret
      exact ⟨retB Hres.out.symm, hBelow⟩
    | true =>
      have hres : oldB E m = !outB m x := by unfold oldB; cases h : find E m.node m.region with | none => rw [h] at hbo; cases hbo | some o => rw [h] at hx; simp only [Option.getD_some] at hx; rw [hx]
      have Hres := Lib.hid hres
      clear hres hx hbo
      go_wp2_with (first
        | (refine wpList_loadG (by rfl) 24 (.tmp 1) rfl C 0 rfl (mbC m) _ VA.mb.range Try.underlying24 rfl (by kernel_rfl) ?_)
        | (refine wpList_loadG (by rfl) 24 (.tmp 3) rfl _ 0 rfl (mbC x) _ hRA.range Try.underlying24 rfl (by kernel_rfl) ?_)
        | (go_at_call 8; refine (mOut_c _ _ _).mono ?_; rintro en w9 ⟨rfl, hb9⟩))
      go_ret
      exact ⟨retB Hres.out.symm, below_up hBelow hb9⟩
  · refine pt_step rfl (by rfl) (fun K hK => ?_)
    go_simp
    refine hK.out _ _ (But.alloc _ _) ?_
    clear hK K
    try simp only [Act.put, List.getElem_toArray, List.getElem_cons_zero, List.getElem_cons_succ, List.setIfInBounds_toArray, List.set_cons_zero, List.set_cons_succ]
    have hR0 := RowAt.new Wd (mbC zmb).toArray 24
    have hX := below_alloc Wd (.cells (mbC zmb).toArray 24)
    refine pt_c ?_
    refine pt_step rfl (by rfl) (fun K hK => ?_)
    go_simp
    refine (HOF.out _ (V.roll.below hX).map).mono ?_
    rintro en w5 ⟨rfl, hb5⟩
    refine hK.out _ _ (But.of_below hb5) ?_
    clear hK K
    try simp only [Act.put, List.getElem_toArray, List.getElem_cons_zero, List.getElem_cons_succ, List.setIfInBounds_toArray, List.set_cons_zero, List.set_cons_succ]
    refine pt_q (v := ?_) rfl (by rfl) ?_ ?_
    rotate_left
    · intro w' hBw'
      first | (go_simp; done) | (go_simp; with_reducible rfl)
    try simp only [Act.put, List.getElem_toArray, List.getElem_cons_zero, List.getElem_cons_succ, List.setIfInBounds_toArray, List.set_cons_zero, List.set_cons_succ]
    refine pt_q (v := ?_) rfl (by rfl) ?_ ?_
    rotate_left
    · intro w' hBw'
      first | (go_simp; done) | (go_simp; with_reducible rfl)
    try simp only [Act.put, List.getElem_toArray, List.getElem_cons_zero, List.getElem_cons_succ, List.setIfInBounds_toArray, List.set_cons_zero, List.set_cons_succ]
    refine pt_q (v := ?_) rfl (by rfl) ?_ ?_
    rotate_left
    · intro w' hBw'
      first | (go_simp; done) | (go_simp; with_reducible rfl)
    try simp only [Act.put, List.getElem_toArray, List.getElem_cons_zero, List.getElem_cons_succ, List.setIfInBounds_toArray, List.set_cons_zero, List.set_cons_succ]
    have hR1 := hR0.below hb5
    refine pt_c ?_
    refine pt_put_row rfl (by rfl) 24 _ _ rfl (Wd.heap.size) (mbC x) rfl rfl hR1 rfl (by kernel_rfl) rfl (by omega) (fun wA hRA hbA => ?_)
    try simp only [Act.put, List.getElem_toArray, List.getElem_cons_zero, List.getElem_cons_succ, List.setIfInBounds_toArray, List.set_cons_zero, List.set_cons_succ]
    have hBA : But (fun i => w.heap.size ≤ i) Wd wA := ((But.of_below hX).trans (But.of_below hb5)).then hbA (fun j hj e => by omega)
    have hTl : w.heap.size ≤ Wd.heap.size := by omega
    refine pt_q (v := ?_) rfl (by rfl) ?_ ?_
    rotate_left
    · intro w' hBw'
      first | (go_simp; done) | (go_simp; with_reducible rfl)
    try simp only [Act.put, List.getElem_toArray, List.getElem_cons_zero, List.getElem_cons_succ, List.setIfInBounds_toArray, List.set_cons_zero, List.set_cons_succ]
    refine pt_done ?_
    have hBelow : Below w.heap.size w wA := hBd.trans (hBA.below (fun j e => e) hBd.size)
    have VA := h.up hBelow
    have ptr := VA.ptr
    have cmA := VA.roll.var.cell (i := 0) (v := .map (some M)) rfl
    cases bo with
    | false =>
      have hres : oldB E m = false := by unfold oldB; cases h : find E m.node m.region with | none => rfl | some o => rw [h] at hbo; cases hbo
      have Hres := Lib.hid hres
      clear hres
      go_wp2
      go_ret
      exact ⟨retB Hres.out.symm, hBelow⟩
    | true =>
      have hres : oldB E m = !outB m x := by unfold oldB; cases h : find E m.node m.region with | none => rw [h] at hbo; cases hbo | some o => rw [h] at hx; simp only [Option.getD_some] at hx; rw [hx]
      have Hres := Lib.hid hres
      clear hres hx hbo
      go_wp2_with (first
        | (refine wpList_loadG (by rfl) 24 (.tmp 1) rfl C 0 rfl (mbC m) _ VA.mb.range Try.underlying24 rfl (by kernel_rfl) ?_)
        | (refine wpList_loadG (by rfl) 24 (.tmp 3) rfl _ 0 rfl (mbC x) _ hRA.range Try.underlying24 rfl (by kernel_rfl) ?_)
        | (go_at_call 8; refine (mOut_c _ _ _).mono ?_; rintro en w9 ⟨rfl, hb9⟩))
      go_ret
      exact ⟨retB Hres.out.symm, below_up hBelow hb9⟩

set_option maxHeartbeats 2000000 in
set_option maxRecDepth 100000 in
theorem mTell3_c {P C B M : Nat} {E : List Mb} (m : Mb) (hw : m.Wf) (w : World) (h : TlW w P C B M E m) :
    Calls Try.prog 30 #[.pointer (some ⟨P, 0, none⟩), .pointer (some ⟨C, 0, none⟩)] w (Ret (.bool (fullB E m)) w) := by
  obtain ⟨x, hx⟩ : ∃ x, (find E m.node m.region).getD zmb = x := ⟨_, rfl⟩
  obtain ⟨bo, hbo⟩ : ∃ b, (find E m.node m.region).isSome = b := ⟨_, rfl⟩
  have hof := fun w hM => mOf_c (M := M) (E := E) m.node m.region hw.n1 hw.n2 hw.r1 hw.r2 w hM
  rw [hx, hbo] at hof
  have HOF := Lib.hid hof
  clear hof
  go_enter Try.func30, Try.ntmps30
  go_wp2
  refine wp_region_pt (fun i => w.heap.size ≤ i) (.q 0 (.q 1 (.q 2 (.q 3 (.q 4 (.q 5 (.q 6 (.q 7 (.f 8 (.q 9 (.q 10 (.q 11 (.c 12 (.c 13 (.q 14 .done)))))) 12 (.c 8 (.q 9 (.q 10 (.q 11 (.c 13 (.q 14 .done))))))))))))))) (by kernel_rfl) (by kernel_rfl) (by kernel_rfl) (by decide) (fun _ _ d _ _ h => by cases d <;> exact h) (fun Wd hBd => ?_)
  try simp only [Act.put, List.getElem_toArray, List.getElem_cons_zero, List.getElem_cons_succ, List.setIfInBounds_toArray, List.set_cons_zero, List.set_cons_succ]
  have V := h.up hBd
  have hz0 := hBd.size
  have cp : ∀ w', But (fun i => w.heap.size ≤ i) Wd w' → w'.cell? ⟨P, 0, none⟩ = some (.pointer (some ⟨B, 0, none⟩)) := fun w' hb => hb.cell V.ptr (by have := World.block_lt_of_cell? w _ h.ptr; simp at this; omega)
  have cm : ∀ w', But (fun i => w.heap.size ≤ i) Wd w' → w'.cell? ⟨B, 0, none⟩ = some (.map (some M)) := fun w' hb => hb.cell (V.roll.var.cell (i := 0) rfl) (by have := h.roll.var.lt; omega)
  have c0 : ∀ w', But (fun i => w.heap.size ≤ i) Wd w' → w'.cell? ⟨C, 0, none⟩ = some (.int .u32 m.node) := fun w' hb => hb.cell (V.mb.cell (i := 0) rfl) (by have := h.mb.lt; omega)
  have c1 : ∀ w', But (fun i => w.heap.size ≤ i) Wd w' → w'.cell? ⟨C, 1, none⟩ = some (.int .u32 m.region) := fun w' hb => hb.cell (V.mb.cell (i := 1) rfl) (by have := h.mb.lt; omega)
  refine pt_q (v := ?_) rfl (by rfl) ?_ ?_
  rotate_left
  · intro w' hBw'
    first | (go_simp; done) | (go_simp; with_reducible rfl)
  try simp only [Act.put, List.getElem_toArray, List.getElem_cons_zero, List.getElem_cons_succ, List.setIfInBounds_toArray, List.set_cons_zero, List.set_cons_succ]
  refine pt_q (v := ?_) rfl (by rfl) ?_ ?_
  rotate_left
  · intro w' hBw'
    first | (go_simp; done) | (go_simp; with_reducible rfl)
  try simp only [Act.put, List.getElem_toArray, List.getElem_cons_zero, List.getElem_cons_succ, List.setIfInBounds_toArray, List.set_cons_zero, List.set_cons_succ]
  refine pt_q (v := ?_) rfl (by rfl) ?_ ?_
  rotate_left
  · intro w' hBw'
    first | (go_simp; done) | (go_simp; with_reducible rfl)
  try simp only [Act.put, List.getElem_toArray, List.getElem_cons_zero, List.getElem_cons_succ, List.setIfInBounds_toArray, List.set_cons_zero, List.set_cons_succ]
  refine pt_q (v := ?_) rfl (by rfl) ?_ ?_
  rotate_left
  · intro w' hBw'
    first | (go_simp; done) | (go_simp; with_reducible rfl)
  try simp only [Act.put, List.getElem_toArray, List.getElem_cons_zero, List.getElem_cons_succ, List.setIfInBounds_toArray, List.set_cons_zero, List.set_cons_succ]
  refine pt_q (v := ?_) rfl (by rfl) ?_ ?_
  rotate_left
  · intro w' hBw'
    first | (go_simp; done) | (go_simp; with_reducible rfl)
  try simp only [Act.put, List.getElem_toArray, List.getElem_cons_zero, List.getElem_cons_succ, List.setIfInBounds_toArray, List.set_cons_zero, List.set_cons_succ]
  refine pt_q (v := ?_) rfl (by rfl) ?_ ?_
  rotate_left
  · intro w' hBw'
    first | (go_simp; done) | (go_simp; with_reducible rfl)
  try simp only [Act.put, List.getElem_toArray, List.getElem_cons_zero, List.getElem_cons_succ, List.setIfInBounds_toArray, List.set_cons_zero, List.set_cons_succ]
  refine pt_q (v := ?_) rfl (by rfl) ?_ ?_
  rotate_left
  · intro w' hBw'
    first | (go_simp; done) | (go_simp; with_reducible rfl)
  try simp only [Act.put, List.getElem_toArray, List.getElem_cons_zero, List.getElem_cons_succ, List.setIfInBounds_toArray, List.set_cons_zero, List.set_cons_succ]
  refine pt_q (v := ?_) rfl (by rfl) ?_ ?_
  rotate_left
  · intro w' hBw'
    first | (go_simp; done) | (go_simp; with_reducible rfl)
  try simp only [Act.put, List.getElem_toArray, List.getElem_cons_zero, List.getElem_cons_succ, List.setIfInBounds_toArray, List.set_cons_zero, List.set_cons_succ]
  refine pt_f ?_ ?_
  · refine pt_step rfl (by rfl) (fun K hK => ?_)
    go_simp
    refine (HOF.out _ V.roll.map).mono ?_
    rintro en w5 ⟨rfl, hb5⟩
    refine hK.out _ _ (But.of_below hb5) ?_
    clear hK K
    try simp only [Act.put, List.getElem_toArray, List.getElem_cons_zero, List.getElem_cons_succ, List.setIfInBounds_toArray, List.set_cons_zero, List.set_cons_succ]
    have hz5 := hb5.size
    refine pt_q (v := ?_) rfl (by rfl) ?_ ?_
    rotate_left
    · intro w' hBw'
      first | (go_simp; done) | (go_simp; with_reducible rfl)
    try simp only [Act.put, List.getElem_toArray, List.getElem_cons_zero, List.getElem_cons_succ, List.setIfInBounds_toArray, List.set_cons_zero, List.set_cons_succ]
    refine pt_q (v := ?_) rfl (by rfl) ?_ ?_
    rotate_left
    · intro w' hBw'
      first | (go_simp; done) | (go_simp; with_reducible rfl)
    try simp only [Act.put, List.getElem_toArray, List.getElem_cons_zero, List.getElem_cons_succ, List.setIfInBounds_toArray, List.set_cons_zero, List.set_cons_succ]
    refine pt_q (v := ?_) rfl (by rfl) ?_ ?_
    rotate_left
    · intro w' hBw'
      first | (go_simp; done) | (go_simp; with_reducible rfl)
    try simp only [Act.put, List.getElem_toArray, List.getElem_cons_zero, List.getElem_cons_succ, List.setIfInBounds_toArray, List.set_cons_zero, List.set_cons_succ]
    refine pt_c ?_
    refine pt_step rfl (by rfl) (fun K hK => ?_)
    go_simp
    refine hK.out _ _ (But.alloc _ _) ?_
    clear hK K
    try simp only [Act.put, List.getElem_toArray, List.getElem_cons_zero, List.getElem_cons_succ, List.setIfInBounds_toArray, List.set_cons_zero, List.set_cons_succ]
    have hR0 := RowAt.new w5 (mbC zmb).toArray 24
    refine pt_c ?_
    refine pt_put_row rfl (by rfl) 24 _ _ rfl (w5.heap.size) (mbC x) rfl rfl hR0 rfl (by kernel_rfl) rfl (by omega) (fun wA hRA hbA => ?_)
    try simp only [Act.put, List.getElem_toArray, List.getElem_cons_zero, List.getElem_cons_succ, List.setIfInBounds_toArray, List.set_cons_zero, List.set_cons_succ]
    have hBA : But (fun i => w.heap.size ≤ i) Wd wA := ((But.of_below hb5).trans (But.alloc _ _)).then hbA (fun j hj e => by omega)
    have hTl : w.heap.size ≤ w5.heap.size := by omega
    refine pt_q (v := ?_) rfl (by rfl) ?_ ?_
    rotate_left
    · intro w' hBw'
      first | (go_simp; done) | (go_simp; with_reducible rfl)
    try simp only [Act.put, List.getElem_toArray, List.getElem_cons_zero, List.getElem_cons_succ, List.setIfInBounds_toArray, List.set_cons_zero, List.set_cons_succ]
    refine pt_done ?_
    have hBelow : Below w.heap.size w wA := hBd.trans (hBA.below (fun j e => e) hBd.size)
    have VA := h.up hBelow
    have ptr := VA.ptr
    have cmA := VA.roll.var.cell (i := 0) (v := .map (some M)) rfl
    have hln := VA.roll.map.len Try.underlying53 3
    rw [List.length_map] at hln
    cases bo with
    | true =>
      have hres : fullB E m = false := by unfold fullB; rw [hbo]; rfl
      have Hres := Lib.hid hres
      clear hres
      go_wp2
      go_ret
      exact ⟨retB Hres.out.symm, hBelow⟩
    | false =>
      have hres : fullB E m = decide (512 ≤ E.length) := by unfold fullB; rw [hbo]; rfl
      have Hres := Lib.hid hres
      have Hd := Lib.hid (show decide ((512 : Int) ≤ (E.length : Int)) = decide (512 ≤ E.length) from decide_eq_decide.2 (by omega))
      clear hres hx hbo
      go_wp2
      go_ret
      exact ⟨retB (by rw [Hres.out]; first | rfl | exact Hd.out), hBelow⟩
  · refine pt_step rfl (by rfl) (fun K hK => ?_)
    go_simp
    refine hK.out _ _ (But.alloc _ _) ?_
    clear hK K
    try simp only [Act.put, List.getElem_toArray, List.getElem_cons_zero, List.getElem_cons_succ, List.setIfInBounds_toArray, List.set_cons_zero, List.set_cons_succ]
    have hR0 := RowAt.new Wd (mbC zmb).toArray 24
    have hX := below_alloc Wd (.cells (mbC zmb).toArray 24)
    refine pt_c ?_
    refine pt_step rfl (by rfl) (fun K hK => ?_)
    go_simp
    refine (HOF.out _ (V.roll.below hX).map).mono ?_
    rintro en w5 ⟨rfl, hb5⟩
    refine hK.out _ _ (But.of_below hb5) ?_
    clear hK K
    try simp only [Act.put, List.getElem_toArray, List.getElem_cons_zero, List.getElem_cons_succ, List.setIfInBounds_toArray, List.set_cons_zero, List.set_cons_succ]
    refine pt_q (v := ?_) rfl (by rfl) ?_ ?_
    rotate_left
    · intro w' hBw'
      first | (go_simp; done) | (go_simp; with_reducible rfl)
    try simp only [Act.put, List.getElem_toArray, List.getElem_cons_zero, List.getElem_cons_succ, List.setIfInBounds_toArray, List.set_cons_zero, List.set_cons_succ]
    refine pt_q (v := ?_) rfl (by rfl) ?_ ?_
    rotate_left
    · intro w' hBw'
      first | (go_simp; done) | (go_simp; with_reducible rfl)
    try simp only [Act.put, List.getElem_toArray, List.getElem_cons_zero, List.getElem_cons_succ, List.setIfInBounds_toArray, List.set_cons_zero, List.set_cons_succ]
    refine pt_q (v := ?_) rfl (by rfl) ?_ ?_
    rotate_left
    · intro w' hBw'
      first | (go_simp; done) | (go_simp; with_reducible rfl)
    try simp only [Act.put, List.getElem_toArray, List.getElem_cons_zero, List.getElem_cons_succ, List.setIfInBounds_toArray, List.set_cons_zero, List.set_cons_succ]
    have hR1 := hR0.below hb5
    refine pt_c ?_
    refine pt_put_row rfl (by rfl) 24 _ _ rfl (Wd.heap.size) (mbC x) rfl rfl hR1 rfl (by kernel_rfl) rfl (by omega) (fun wA hRA hbA => ?_)
    try simp only [Act.put, List.getElem_toArray, List.getElem_cons_zero, List.getElem_cons_succ, List.setIfInBounds_toArray, List.set_cons_zero, List.set_cons_succ]
    have hBA : But (fun i => w.heap.size ≤ i) Wd wA := ((But.of_below hX).trans (But.of_below hb5)).then hbA (fun j hj e => by omega)
    have hTl : w.heap.size ≤ Wd.heap.size := by omega
    refine pt_q (v := ?_) rfl (by rfl) ?_ ?_
    rotate_left
    · intro w' hBw'
      first | (go_simp; done) | (go_simp; with_reducible rfl)
    try simp only [Act.put, List.getElem_toArray, List.getElem_cons_zero, List.getElem_cons_succ, List.setIfInBounds_toArray, List.set_cons_zero, List.set_cons_succ]
    refine pt_done ?_
    have hBelow : Below w.heap.size w wA := hBd.trans (hBA.below (fun j e => e) hBd.size)
    have VA := h.up hBelow
    have ptr := VA.ptr
    have cmA := VA.roll.var.cell (i := 0) (v := .map (some M)) rfl
    have hln := VA.roll.map.len Try.underlying53 3
    rw [List.length_map] at hln
    cases bo with
    | true =>
      have hres : fullB E m = false := by unfold fullB; rw [hbo]; rfl
      have Hres := Lib.hid hres
      clear hres
      go_wp2
      go_ret
      exact ⟨retB Hres.out.symm, hBelow⟩
    | false =>
      have hres : fullB E m = decide (512 ≤ E.length) := by unfold fullB; rw [hbo]; rfl
      have Hres := Lib.hid hres
      have Hd := Lib.hid (show decide ((512 : Int) ≤ (E.length : Int)) = decide (512 ≤ E.length) from decide_eq_decide.2 (by omega))
      clear hres hx hbo
      go_wp2
      go_ret
      exact ⟨retB (by rw [Hres.out]; first | rfl | exact Hd.out), hBelow⟩
end Go.Proofs.Yteakpppabgbpeaa
