/-
  The contracts of the closures that ask.
-/
import Derived.Test.YtbeccnlcidokmaaVolD
namespace Go.Proofs.Ytbeccnlcidokmaa
open Go.RowKit Go.Maps Vol
set_option linter.unusedSimpArgs false
set_option linter.unusedVariables false

/-- What the closures look at: the ledger's variable in block ba, the contact in bb, the amount in bd. -/
def Cap (L M : Nat) (E : List (Ct × Int)) (c : Ct) (n : Int) (ba bb bd : Nat) (w : World) : Prop :=
  Led w L M E ∧ RowAt w ba #[.pointer (some ⟨L, 0, none⟩)] 23 ∧ RowAt w bb (ctC c).toArray 32 ∧ RowAt w bd #[.int .u64 n] 28
theorem Cap.up {L M : Nat} {E : List (Ct × Int)} {c : Ct} {n : Int} {ba bb bd : Nat} : ∀ W1 W2 : World, Below W1.heap.size W1 W2 → Cap L M E c n ba bb bd W1 → Cap L M E c n ba bb bd W2 :=
  fun _ _ hb h => ⟨h.1.below hb, h.2.1.below hb, h.2.2.1.below hb, h.2.2.2.below hb⟩

set_option maxRecDepth 100000 in
theorem ask1_c (c : Ct) (hc : c.Ok) (n : Int) (hn : 0 < n) (bb bd : Nat) (w : World) (hC : RowAt w bb (ctC c).toArray 32) (hN : RowAt w bd #[.int .u64 n] 28) :
    Calls Try.prog 32 #[.pointer (some ⟨bb, 0, none⟩), .pointer (some ⟨bd, 0, none⟩)] w (Ret (.bool false) w) := by
  have hn0 : ¬ n = 0 := by omega
  have hn1 : (n == 0) = false := by rw [beq_eq_false_iff_ne]; exact hn0
  go_enter Try.func32, Try.ntmps32
  go_wp2_with (first
    | (refine wpList_load_mid rfl 32 (.tmp 0) rfl bb 0 rfl (ctC c) _ hC.range Try.underlying32 rfl (by kernel_rfl) ?_)
    | (go_at_call 27; refine (ctRight_c c hc _).mono ?_; rintro en w1 ⟨rfl, hb⟩; have hN1 := (hN.below hb).cell (i := 0) (v := .int .u64 n) rfl))
  go_ret
  exact ⟨rfl, hb⟩

set_option maxHeartbeats 1000000 in
set_option maxRecDepth 100000 in
theorem book1_c {L M : Nat} {E : List (Ct × Int)} (c : Ct) (hc : c.Ok) (n : Int) (hn : 0 ≤ (lk E c).2) (ba bb bd : Nat) (w : World) (HF : Cap L M E c n ba bb bd w) :
    Calls Try.prog 18 #[.pointer (some ⟨ba, 0, none⟩), .pointer (some ⟨bb, 0, none⟩), .pointer (some ⟨bd, 0, none⟩)] w (Ret (.bool (decide (roomF c (lk E c).2 c.a < n))) w) := by
  have hup := @Cap.up L M E c n ba bb bd
  go_enter Try.func18, Try.ntmps18
  go_wp2
  refine wp_region_pt (fun _ => False) (.q 0 (.q 1 (.q 2 (.q 3 (.q 4 (.q 6 (.c 5 (.q 7 (.q 8 .done))))))))) (by kernel_rfl) (by kernel_rfl) (by kernel_rfl) (by decide) (fun _ _ d _ _ h => by cases d <;> exact h) (fun Wd hBd => ?_)
  try simp only [Act.put, List.getElem_toArray, List.getElem_cons_zero, List.getElem_cons_succ, List.setIfInBounds_toArray, List.set_cons_zero, List.set_cons_succ]
  have HB := Lib.hid hBd
  have HF := hup _ _ hBd HF
  have fa : ∀ w', But (fun _ => False) Wd w' → w'.cell? ⟨ba, 0, none⟩ = some (.pointer (some ⟨L, 0, none⟩)) := fun w' hb => hb.cell (HF.2.1.cell (i := 0) rfl) (fun h => h)
  have fb : ∀ w', But (fun _ => False) Wd w' → w'.cell? ⟨bb, 2, none⟩ = some (.int .u64 c.a) := fun w' hb => hb.cell (HF.2.2.1.cell (i := 2) rfl) (fun h => h)
  have fl : ∀ w', But (fun _ => False) Wd w' → w'.cell? ⟨L, 0, none⟩ = some (.map (some M)) := fun w' hb => hb.cell (HF.1.var.cell (i := 0) rfl) (fun h => h)
  have fd : ∀ w', But (fun _ => False) Wd w' → w'.cell? ⟨bd, 0, none⟩ = some (.int .u64 n) := fun w' hb => hb.cell (HF.2.2.2.cell (i := 0) rfl) (fun h => h)
  refine pt_q (v := ?_) rfl (by rfl) ?_ ?_
  rotate_left
  · intro w' hBw'
    first | (go_simp; done) | (go_simp; with_reducible rfl)
  try simp only [Act.put, List.getElem_toArray, List.getElem_cons_zero, List.getElem_cons_succ, List.setIfInBounds_toArray, List.set_cons_zero, List.set_cons_succ]
  refine pt_load rfl (by rfl) 32 (.tmp 1) rfl bb 0 rfl (ctC c) _ HF.2.2.1.range (fun h => h) Try.underlying32 rfl (by kernel_rfl) ?_
  try simp only [Act.put, List.getElem_toArray, List.getElem_cons_zero, List.getElem_cons_succ, List.setIfInBounds_toArray, List.set_cons_zero, List.set_cons_succ]
  refine pt_q (v := ?_) rfl (by rfl) ?_ ?_
  rotate_left
  · intro w' hBw'
    first | (go_simp; done) | (go_simp; with_reducible rfl)
  try simp only [Act.put, List.getElem_toArray, List.getElem_cons_zero, List.getElem_cons_succ, List.setIfInBounds_toArray, List.set_cons_zero, List.set_cons_succ]
  refine pt_q (v := ?_) rfl (by rfl) ?_ ?_
  rotate_left
  · intro w' hBw'
    first | (go_simp; done) | (go_simp; with_reducible rfl)
  try simp only [Act.put, List.getElem_toArray, List.getElem_cons_zero, List.getElem_cons_succ, List.setIfInBounds_toArray, List.set_cons_zero, List.set_cons_succ]
  refine pt_q (v := ?_) rfl (by rfl) ?_ ?_
  rotate_left
  · intro w' hBw'
    first | (go_simp; done) | (go_simp; with_reducible rfl)
  try simp only [Act.put, List.getElem_toArray, List.getElem_cons_zero, List.getElem_cons_succ, List.setIfInBounds_toArray, List.set_cons_zero, List.set_cons_succ]
  refine pt_q (v := ?_) rfl (by rfl) ?_ ?_
  rotate_left
  · intro w' hBw'
    first | (go_simp; done) | (go_simp; with_reducible rfl)
  try simp only [Act.put, List.getElem_toArray, List.getElem_cons_zero, List.getElem_cons_succ, List.setIfInBounds_toArray, List.set_cons_zero, List.set_cons_succ]
  refine pt_c ?_
  refine pt_step rfl (by rfl) (fun K hK => ?_)
  go_simp
  have fd0 := HF.2.2.2.cell (i := 0) (v := .int .u64 n) rfl
  refine (vRoom_c c hc c.a hc.a0 hn _ HF.1).mono ?_
  rintro en w4 ⟨rfl, hb⟩
  replace HB := Lib.hid (below_up HB.out hb)
  replace HF := hup _ _ hb HF
  replace fd : ∀ w', But (fun _ => False) w4 w' → w'.cell? ⟨bd, 0, none⟩ = some (.int .u64 n) := fun w' hb => hb.cell (HF.2.2.2.cell (i := 0) rfl) (fun h => h)
  go_wp2_with fail
  refine hK.out _ _ (But.of_below hb) ?_
  clear hK K
  try simp only [Act.put, List.getElem_toArray, List.getElem_cons_zero, List.getElem_cons_succ, List.setIfInBounds_toArray, List.set_cons_zero, List.set_cons_succ]
  refine pt_q (v := ?_) rfl (by rfl) ?_ ?_
  rotate_left
  · intro w' hBw'
    first | (go_simp; done) | (go_simp; with_reducible rfl)
  try simp only [Act.put, List.getElem_toArray, List.getElem_cons_zero, List.getElem_cons_succ, List.setIfInBounds_toArray, List.set_cons_zero, List.set_cons_succ]
  refine pt_q (v := ?_) rfl (by rfl) ?_ ?_
  rotate_left
  · intro w' hBw'
    first | (go_simp; done) | (go_simp; with_reducible rfl)
  try simp only [Act.put, List.getElem_toArray, List.getElem_cons_zero, List.getElem_cons_succ, List.setIfInBounds_toArray, List.set_cons_zero, List.set_cons_succ]
  refine pt_done ?_
  go_wp2
  go_ret
  exact ⟨rfl, HB.out⟩

set_option maxHeartbeats 1000000 in
set_option maxRecDepth 100000 in
theorem free1_c {L M : Nat} {E : List (Ct × Int)} (c : Ct) (hc : c.Ok) (n : Int) (ba bb bd : Nat) (w : World) (HF : Cap L M E c n ba bb bd w) :
    Calls Try.prog 25 #[.pointer (some ⟨ba, 0, none⟩), .pointer (some ⟨bb, 0, none⟩), .pointer (some ⟨bd, 0, none⟩)] w (Ret (.bool (decide ((lk E c).2 < n))) w) := by
  have hup := @Cap.up L M E c n ba bb bd
  go_enter Try.func25, Try.ntmps25
  go_wp2
  refine wp_region_pt (fun _ => False) (.q 0 (.q 1 (.q 2 (.q 3 (.q 4 (.q 6 (.c 5 (.q 7 (.q 8 .done))))))))) (by kernel_rfl) (by kernel_rfl) (by kernel_rfl) (by decide) (fun _ _ d _ _ h => by cases d <;> exact h) (fun Wd hBd => ?_)
  try simp only [Act.put, List.getElem_toArray, List.getElem_cons_zero, List.getElem_cons_succ, List.setIfInBounds_toArray, List.set_cons_zero, List.set_cons_succ]
  have HB := Lib.hid hBd
  have HF := hup _ _ hBd HF
  have fa : ∀ w', But (fun _ => False) Wd w' → w'.cell? ⟨ba, 0, none⟩ = some (.pointer (some ⟨L, 0, none⟩)) := fun w' hb => hb.cell (HF.2.1.cell (i := 0) rfl) (fun h => h)
  have fb : ∀ w', But (fun _ => False) Wd w' → w'.cell? ⟨bb, 2, none⟩ = some (.int .u64 c.a) := fun w' hb => hb.cell (HF.2.2.1.cell (i := 2) rfl) (fun h => h)
  have fl : ∀ w', But (fun _ => False) Wd w' → w'.cell? ⟨L, 0, none⟩ = some (.map (some M)) := fun w' hb => hb.cell (HF.1.var.cell (i := 0) rfl) (fun h => h)
  have fd : ∀ w', But (fun _ => False) Wd w' → w'.cell? ⟨bd, 0, none⟩ = some (.int .u64 n) := fun w' hb => hb.cell (HF.2.2.2.cell (i := 0) rfl) (fun h => h)
  refine pt_q (v := ?_) rfl (by rfl) ?_ ?_
  rotate_left
  · intro w' hBw'
    first | (go_simp; done) | (go_simp; with_reducible rfl)
  try simp only [Act.put, List.getElem_toArray, List.getElem_cons_zero, List.getElem_cons_succ, List.setIfInBounds_toArray, List.set_cons_zero, List.set_cons_succ]
  refine pt_q (v := ?_) rfl (by rfl) ?_ ?_
  rotate_left
  · intro w' hBw'
    first | (go_simp; done) | (go_simp; with_reducible rfl)
  try simp only [Act.put, List.getElem_toArray, List.getElem_cons_zero, List.getElem_cons_succ, List.setIfInBounds_toArray, List.set_cons_zero, List.set_cons_succ]
  refine pt_q (v := ?_) rfl (by rfl) ?_ ?_
  rotate_left
  · intro w' hBw'
    first | (go_simp; done) | (go_simp; with_reducible rfl)
  try simp only [Act.put, List.getElem_toArray, List.getElem_cons_zero, List.getElem_cons_succ, List.setIfInBounds_toArray, List.set_cons_zero, List.set_cons_succ]
  refine pt_q (v := ?_) rfl (by rfl) ?_ ?_
  rotate_left
  · intro w' hBw'
    first | (go_simp; done) | (go_simp; with_reducible rfl)
  try simp only [Act.put, List.getElem_toArray, List.getElem_cons_zero, List.getElem_cons_succ, List.setIfInBounds_toArray, List.set_cons_zero, List.set_cons_succ]
  refine pt_load rfl (by rfl) 32 (.tmp 1) rfl bb 0 rfl (ctC c) _ HF.2.2.1.range (fun h => h) Try.underlying32 rfl (by kernel_rfl) ?_
  try simp only [Act.put, List.getElem_toArray, List.getElem_cons_zero, List.getElem_cons_succ, List.setIfInBounds_toArray, List.set_cons_zero, List.set_cons_succ]
  refine pt_q (v := ?_) rfl (by rfl) ?_ ?_
  rotate_left
  · intro w' hBw'
    first | (go_simp; done) | (go_simp; with_reducible rfl)
  try simp only [Act.put, List.getElem_toArray, List.getElem_cons_zero, List.getElem_cons_succ, List.setIfInBounds_toArray, List.set_cons_zero, List.set_cons_succ]
  refine pt_c ?_
  refine pt_step rfl (by rfl) (fun K hK => ?_)
  go_simp
  refine (vBooked_c c hc _ HF.1.map).mono ?_
  rintro en w4 ⟨rfl, hb⟩
  replace HB := Lib.hid (below_up HB.out hb)
  replace HF := hup _ _ hb HF
  go_wp2_with fail
  refine hK.out _ _ (But.of_below hb) ?_
  clear hK K
  try simp only [Act.put, List.getElem_toArray, List.getElem_cons_zero, List.getElem_cons_succ, List.setIfInBounds_toArray, List.set_cons_zero, List.set_cons_succ]
  refine pt_q (v := ?_) rfl (by rfl) ?_ ?_
  rotate_left
  · intro w' hBw'
    first | (go_simp; done) | (go_simp; with_reducible rfl)
  try simp only [Act.put, List.getElem_toArray, List.getElem_cons_zero, List.getElem_cons_succ, List.setIfInBounds_toArray, List.set_cons_zero, List.set_cons_succ]
  refine pt_q (v := ?_) rfl (by rfl) ?_ ?_
  rotate_left
  · intro w' hBw'
    first | (go_simp; done) | (go_simp; with_reducible rfl)
  try simp only [Act.put, List.getElem_toArray, List.getElem_cons_zero, List.getElem_cons_succ, List.setIfInBounds_toArray, List.set_cons_zero, List.set_cons_succ]
  refine pt_done ?_
  go_wp2
  go_ret
  exact ⟨rfl, HB.out⟩

set_option maxHeartbeats 1000000 in
set_option maxRecDepth 100000 in
theorem book2_c {L M : Nat} {E : List (Ct × Int)} (c : Ct) (hc : c.Ok) (n : Int) (ba bb bd : Nat) (w : World) (HF : Cap L M E c n ba bb bd w) :
    Calls Try.prog 19 #[.pointer (some ⟨ba, 0, none⟩), .pointer (some ⟨bb, 0, none⟩)] w (Ret (.bool (!(get E c).isSome && decide (512 ≤ E.length))) w) := by
  have hup := @Cap.up L M E c n ba bb bd
  have hW0 := HF
  go_enter Try.func19, Try.ntmps19
  go_wp2
  refine Code.wp_mono (Q := fun e a' w' => e = .normal ∧ a' = { tmps := #[.pointer (some ⟨ba, 0, none⟩), .pointer (some ⟨bb, 0, none⟩), .bool false, a'.tmps.getD 3 undef, .bool (get E c).isSome, a'.tmps.getD 5 undef, a'.tmps.getD 6 undef, a'.tmps.getD 7 undef, a'.tmps.getD 8 undef, a'.tmps.getD 9 undef, a'.tmps.getD 10 undef, a'.tmps.getD 11 undef, a'.tmps.getD 12 undef, a'.tmps.getD 13 undef, a'.tmps.getD 14 undef, a'.tmps.getD 15 undef, a'.tmps.getD 16 undef, a'.tmps.getD 17 undef, a'.tmps.getD 18 undef, a'.tmps.getD 19 undef, a'.tmps.getD 20 undef, a'.tmps.getD 21 undef, a'.tmps.getD 22 undef, a'.tmps.getD 23 undef, a'.tmps.getD 24 undef], defers := [] } ∧ Below w.heap.size w w') ?post ?reg
  case reg =>
    refine wp_region_pt (fun j => w.heap.size ≤ j) (.q 0 (.q 1 (.q 2 (.q 3 (.q 4 (.f 5 (.q 6 (.q 7 (.q 8 (.q 9 (.c 10 (.c 11 (.q 12 .done))))))) 10 (.c 5 (.q 6 (.q 7 (.q 8 (.q 9 (.c 11 (.q 12 .done))))))))))))) (by kernel_rfl) (by kernel_rfl) (by kernel_rfl) (by decide) (fun _ _ d _ _ h => by cases h.1) (fun Wd hBd => ?_)
    try simp only [Act.put, List.getElem_toArray, List.getElem_cons_zero, List.getElem_cons_succ, List.setIfInBounds_toArray, List.set_cons_zero, List.set_cons_succ]
    have HB := Lib.hid hBd
    have HF := hup _ _ hBd HF
    have fa : ∀ w', But (fun j => w.heap.size ≤ j) Wd w' → w'.cell? ⟨ba, 0, none⟩ = some (.pointer (some ⟨L, 0, none⟩)) := fun w' hb => hb.cell (HF.2.1.cell (i := 0) rfl) (by have := hBd.size; have := hW0.1.var.lt; have := hW0.2.1.lt; have := hW0.2.2.1.lt; omega)
    have fb : ∀ w', But (fun j => w.heap.size ≤ j) Wd w' → w'.cell? ⟨bb, 2, none⟩ = some (.int .u64 c.a) := fun w' hb => hb.cell (HF.2.2.1.cell (i := 2) rfl) (by have := hBd.size; have := hW0.1.var.lt; have := hW0.2.1.lt; have := hW0.2.2.1.lt; omega)
    have fl : ∀ w', But (fun j => w.heap.size ≤ j) Wd w' → w'.cell? ⟨L, 0, none⟩ = some (.map (some M)) := fun w' hb => hb.cell (HF.1.var.cell (i := 0) rfl) (by have := hBd.size; have := hW0.1.var.lt; have := hW0.2.1.lt; have := hW0.2.2.1.lt; omega)
    refine pt_q (v := ?_) rfl (by rfl) ?_ ?_
    rotate_left
    · intro w' hBw'
      first | (go_simp; done) | (go_simp; with_reducible rfl)
    try simp only [Act.put, List.getElem_toArray, List.getElem_cons_zero, List.getElem_cons_succ, List.setIfInBounds_toArray, List.set_cons_zero, List.set_cons_succ]
    refine pt_q (v := ?_) rfl (by rfl) ?_ ?_
    rotate_left
    · intro w' hBw'
      first | (go_simp; done) | (go_simp; with_reducible rfl)
    try simp only [Act.put, List.getElem_toArray, List.getElem_cons_zero, List.getElem_cons_succ, List.setIfInBounds_toArray, List.set_cons_zero, List.set_cons_succ]
    refine pt_q (v := ?_) rfl (by rfl) ?_ ?_
    rotate_left
    · intro w' hBw'
      first | (go_simp; done) | (go_simp; with_reducible rfl)
    try simp only [Act.put, List.getElem_toArray, List.getElem_cons_zero, List.getElem_cons_succ, List.setIfInBounds_toArray, List.set_cons_zero, List.set_cons_succ]
    refine pt_q (v := ?_) rfl (by rfl) ?_ ?_
    rotate_left
    · intro w' hBw'
      first | (go_simp; done) | (go_simp; with_reducible rfl)
    try simp only [Act.put, List.getElem_toArray, List.getElem_cons_zero, List.getElem_cons_succ, List.setIfInBounds_toArray, List.set_cons_zero, List.set_cons_succ]
    refine pt_load rfl (by rfl) 32 (.tmp 1) rfl bb 0 rfl (ctC c) _ HF.2.2.1.range (by have := hW0.2.2.1.lt; omega) Try.underlying32 rfl (by kernel_rfl) ?_
    try simp only [Act.put, List.getElem_toArray, List.getElem_cons_zero, List.getElem_cons_succ, List.setIfInBounds_toArray, List.set_cons_zero, List.set_cons_succ]
    refine pt_f ?_ ?_
    · refine pt_step rfl (by rfl) (fun K hK => ?_)
      go_simp
      refine (ctOf_c c _).mono ?_
      rintro en w4 ⟨rfl, hb⟩
      replace HB := Lib.hid (below_up HB.out hb)
      replace HF := hup _ _ hb HF
      go_wp2_with fail
      refine hK.out _ _ (But.of_below hb) ?_
      clear hK K
      try simp only [Act.put, List.getElem_toArray, List.getElem_cons_zero, List.getElem_cons_succ, List.setIfInBounds_toArray, List.set_cons_zero, List.set_cons_succ]
      refine pt_look rfl (by rfl) 45 (.tmp 9) (.tmp 11) true rfl (mv := .map (some M)) (xv := keyV c) rfl rfl (fun w' h => vlook (HF.1.map.heap (h.same M HF.1.map.lt (by have := hW0.1.map.lt; omega))) hc true) ?_
      try simp only [Act.put, List.getElem_toArray, List.getElem_cons_zero, List.getElem_cons_succ, List.setIfInBounds_toArray, List.set_cons_zero, List.set_cons_succ]
      refine pt_q (v := ?_) rfl (by rfl) ?_ ?_
      rotate_left
      · intro w' hBw'
        first | (go_simp; done) | (go_simp; with_reducible rfl)
      try simp only [Act.put, List.getElem_toArray, List.getElem_cons_zero, List.getElem_cons_succ, List.setIfInBounds_toArray, List.set_cons_zero, List.set_cons_succ]
      refine pt_q (v := ?_) rfl (by rfl) ?_ ?_
      rotate_left
      · intro w' hBw'
        first | (go_simp; done) | (go_simp; with_reducible rfl)
      try simp only [Act.put, List.getElem_toArray, List.getElem_cons_zero, List.getElem_cons_succ, List.setIfInBounds_toArray, List.set_cons_zero, List.set_cons_succ]
      refine pt_q (v := ?_) rfl (by rfl) ?_ ?_
      rotate_left
      · intro w' hBw'
        first | (go_simp; done) | (go_simp; with_reducible rfl)
      try simp only [Act.put, List.getElem_toArray, List.getElem_cons_zero, List.getElem_cons_succ, List.setIfInBounds_toArray, List.set_cons_zero, List.set_cons_succ]
      refine pt_c ?_
      refine pt_step rfl (by rfl) (fun K hK => ?_)
      go_simp
      have hz := RowAt.new w4 #[.int .u32 0, .int .u32 0, .int .u64 0, .int .u64 0, .int .u64 0, .int .u64 0] 52
      have hpz := HB.out.size
      have hb := below_alloc w4 (.cells #[.int .u32 0, .int .u32 0, .int .u64 0, .int .u64 0, .int .u64 0, .int .u64 0] 52)
      replace HB := Lib.hid (below_up HB.out hb)
      replace HF := hup _ _ hb HF
      go_wp2_with fail
      refine hK.out _ _ (But.of_below hb) ?_
      clear hK K
      try simp only [Act.put, List.getElem_toArray, List.getElem_cons_zero, List.getElem_cons_succ, List.setIfInBounds_toArray, List.set_cons_zero, List.set_cons_succ]
      refine pt_c ?_
      refine pt_put_row rfl (by rfl) 52 (.tmp 3) (.tmp 13) rfl (w4.heap.size) (rowC (lk E c).1 (lk E c).2) rfl rfl hz rfl (by kernel_rfl) rfl (by simp at *; omega) ?_; intro w5 R5 hb5
      try simp only [Act.put, List.getElem_toArray, List.getElem_cons_zero, List.getElem_cons_succ, List.setIfInBounds_toArray, List.set_cons_zero, List.set_cons_succ]
      refine pt_q (v := ?_) rfl (by rfl) ?_ ?_
      rotate_left
      · intro w' hBw'
        first | (go_simp; done) | (go_simp; with_reducible rfl)
      try simp only [Act.put, List.getElem_toArray, List.getElem_cons_zero, List.getElem_cons_succ, List.setIfInBounds_toArray, List.set_cons_zero, List.set_cons_succ]
      refine pt_done ?_
      exact ⟨rfl, rfl, HB.out.trans (hb5.below (fun k hk => by subst hk; simp at *; omega) HB.out.size)⟩
    · refine pt_step rfl (by rfl) (fun K hK => ?_)
      go_simp
      have hz := RowAt.new Wd #[.int .u32 0, .int .u32 0, .int .u64 0, .int .u64 0, .int .u64 0, .int .u64 0] 52
      have hpz := HB.out.size
      have hb := below_alloc Wd (.cells #[.int .u32 0, .int .u32 0, .int .u64 0, .int .u64 0, .int .u64 0, .int .u64 0] 52)
      replace HB := Lib.hid (below_up HB.out hb)
      replace HF := hup _ _ hb HF
      go_wp2_with fail
      refine hK.out _ _ (But.of_below hb) ?_
      clear hK K
      try simp only [Act.put, List.getElem_toArray, List.getElem_cons_zero, List.getElem_cons_succ, List.setIfInBounds_toArray, List.set_cons_zero, List.set_cons_succ]
      refine pt_c ?_
      refine pt_step rfl (by rfl) (fun K hK => ?_)
      go_simp
      refine (ctOf_c c _).mono ?_
      rintro en w4 ⟨rfl, hb⟩
      replace HB := Lib.hid (below_up HB.out hb)
      replace HF := hup _ _ hb HF
      replace hz := hz.below hb
      go_wp2_with fail
      refine hK.out _ _ (But.of_below hb) ?_
      clear hK K
      try simp only [Act.put, List.getElem_toArray, List.getElem_cons_zero, List.getElem_cons_succ, List.setIfInBounds_toArray, List.set_cons_zero, List.set_cons_succ]
      refine pt_look rfl (by rfl) 45 (.tmp 9) (.tmp 11) true rfl (mv := .map (some M)) (xv := keyV c) rfl rfl (fun w' h => vlook (HF.1.map.heap (h.same M HF.1.map.lt (by have := hW0.1.map.lt; omega))) hc true) ?_
      try simp only [Act.put, List.getElem_toArray, List.getElem_cons_zero, List.getElem_cons_succ, List.setIfInBounds_toArray, List.set_cons_zero, List.set_cons_succ]
      refine pt_q (v := ?_) rfl (by rfl) ?_ ?_
      rotate_left
      · intro w' hBw'
        first | (go_simp; done) | (go_simp; with_reducible rfl)
      try simp only [Act.put, List.getElem_toArray, List.getElem_cons_zero, List.getElem_cons_succ, List.setIfInBounds_toArray, List.set_cons_zero, List.set_cons_succ]
      refine pt_q (v := ?_) rfl (by rfl) ?_ ?_
      rotate_left
      · intro w' hBw'
        first | (go_simp; done) | (go_simp; with_reducible rfl)
      try simp only [Act.put, List.getElem_toArray, List.getElem_cons_zero, List.getElem_cons_succ, List.setIfInBounds_toArray, List.set_cons_zero, List.set_cons_succ]
      refine pt_q (v := ?_) rfl (by rfl) ?_ ?_
      rotate_left
      · intro w' hBw'
        first | (go_simp; done) | (go_simp; with_reducible rfl)
      try simp only [Act.put, List.getElem_toArray, List.getElem_cons_zero, List.getElem_cons_succ, List.setIfInBounds_toArray, List.set_cons_zero, List.set_cons_succ]
      refine pt_c ?_
      refine pt_put_row rfl (by rfl) 52 (.tmp 3) (.tmp 13) rfl (Wd.heap.size) (rowC (lk E c).1 (lk E c).2) rfl rfl hz rfl (by kernel_rfl) rfl (by simp at *; omega) ?_; intro w5 R5 hb5
      try simp only [Act.put, List.getElem_toArray, List.getElem_cons_zero, List.getElem_cons_succ, List.setIfInBounds_toArray, List.set_cons_zero, List.set_cons_succ]
      refine pt_q (v := ?_) rfl (by rfl) ?_ ?_
      rotate_left
      · intro w' hBw'
        first | (go_simp; done) | (go_simp; with_reducible rfl)
      try simp only [Act.put, List.getElem_toArray, List.getElem_cons_zero, List.getElem_cons_succ, List.setIfInBounds_toArray, List.set_cons_zero, List.set_cons_succ]
      refine pt_done ?_
      exact ⟨rfl, rfl, HB.out.trans (hb5.below (fun k hk => by subst hk; simp at *; omega) HB.out.size)⟩
  case post =>
    rintro e a' w5 ⟨rfl, ha, hb5⟩
    obtain ⟨u, hu⟩ : ∃ u : Nat → Value, ∀ i, a'.tmps.getD i undef = u i := ⟨_, fun _ => rfl⟩
    simp only [hu] at ha
    clear hu
    subst ha
    have HF := hup _ _ hb5 HF
    have ca := HF.2.1.cell (i := 0) (v := .pointer (some ⟨L, 0, none⟩)) rfl
    have cl := HF.1.var.cell (i := 0) (v := .map (some M)) rfl
    have hlen := HF.1.map.len Try.underlying45 3
    rw [List.length_map] at hlen
    cases hg : get E c with
    | some q =>
      simp only [Option.isSome_some]
      go_wp2
      go_ret
      exact ⟨retB (by simp [hg]), hb5⟩
    | none =>
      simp only [Option.isSome_none]
      have hi : (512 ≤ (E.length : Int)) ↔ 512 ≤ E.length := by omega
      go_wp2
      go_ret
      exact ⟨retB (by simp [hg, hi]), hb5⟩
end Go.Proofs.Ytbeccnlcidokmaa
