/-
  Contracts of clock's Check, Add, Sub, Mul, Over, Carries and of the reference's.
-/
import Derived.Test.YtnccbeiaohmnpaaClockB
namespace Go.Proofs.Ytnccbeiaohmnpaa
open Go.RowKit

theorem containsU_c (l : List Int) (v : Value) (n : Nat) (w : World) (hv : Sl w 1 v n (l.map (.int .u64))) (hn : n * 8 ≤ 140737488351232) (f : FuncId) (hf : Enters Try.prog f) (caps : Array Value) (p : Int → Bool)
    (hp : ∀ x ∈ l, ∀ w1, Below w.heap.size w w1 → Calls Try.prog f (#[.int .u64 x] ++ caps) w1 (Ret (.bool (p x)) w1)) :
    Calls Try.prog 48 #[v, .func (.func f) #[] caps] w (Ret (.bool (l.any p)) w) := by
  go_enter Try.func48, Try.ntmps48
  go_wp2_with (go_at_call 54; refine (indexU_c l v n _ hv hn f hf caps p hp).mono ?_; rintro e w1 ⟨rfl, hb⟩)
  go_ret
  exact ⟨retB (Clk.idx_any p l), hb⟩

/-- The closure in 'all': a call of the question, turned round. -/
theorem allU1_c (x : Int) (b : Nat) (f : FuncId) (hf : Enters Try.prog f) (caps : Array Value) (p : Bool) (w : World) (hc : w.cell? ⟨b, 0, none⟩ = some (.func (.func f) #[] caps))
    (hp : Calls Try.prog f (#[.int .u64 x] ++ caps) w (Ret (.bool p) w)) :
    Calls Try.prog 49 #[.int .u64 x, .pointer (some ⟨b, 0, none⟩)] w (Ret (.bool (!p)) w) := by
  unfold Enters at hf
  go_enter Try.func49, Try.ntmps49
  go_wp2_with (refine hp.mono ?_; rintro e w1 ⟨rfl, hb⟩)
  go_ret
  exact ⟨rfl, hb⟩

theorem enters_allU1 : Enters Try.prog 49 := enters_of Try.func49 (by kernel_rfl) rfl

theorem allU_c (l : List Int) (v : Value) (n : Nat) (w : World) (hv : Sl w 1 v n (l.map (.int .u64))) (hn : n * 8 ≤ 140737488351232) (f : FuncId) (hf : Enters Try.prog f) (caps : Array Value) (p : Int → Bool)
    (hp : ∀ x ∈ l, ∀ w1, Below w.heap.size w w1 → Calls Try.prog f (#[.int .u64 x] ++ caps) w1 (Ret (.bool (p x)) w1)) :
    Calls Try.prog 32 #[.func (.func f) #[] caps, v] w (Ret (.bool (l.all p)) w) := by
  have hmf : ∀ (fn : Fn) (first cap : Array Value) (w : World), (Instr.makeFunc fn first cap).run Try.prog w = .ok (.func fn first cap) w := fun _ _ _ _ => rfl
  go_enter Try.func32, Try.ntmps32
  go_wp2_with (go_at_call 48; refine (containsU_c l v n _ (hv.up (below_alloc _ _)) hn _ enters_allU1 #[.pointer (some ⟨w.heap.size, 0, none⟩)] (fun x => !p x) (fun x hx w1 hB => Calls.cast rfl (allU1_c x w.heap.size f hf caps (p x) w1 (cell_up hB (cell_new _ _ _)) (hp x hx w1 (below_new hB))))).mono ?_; rintro e w1 ⟨rfl, hb⟩)
  go_ret
  exact ⟨retB (by rw [← List.not_all_eq_any_not]; simp), below_new hb⟩

theorem check1_c (n : Int) (w : World) : Calls Try.prog 33 #[.int .u64 n] w (Ret (.bool (decide (n ≤ 4611686018427387903))) w) := by
  go_enter Try.func33, Try.ntmps33
  go_wp2
  go_ret
  exact ⟨rfl, Below.refl _ _⟩

theorem enters_check1 : Enters Try.prog 33 := enters_of Try.func33 (by kernel_rfl) rfl

/-- clock.Check. -/
theorem check_c (l : List Int) (v : Value) (n : Nat) (w : World) (hv : Sl w 1 v n (l.map (.int .u64))) (hn : n * 8 ≤ 140737488351232) :
    Calls Try.prog 19 #[v] w (Ret (.int .i64 (if l.all (fun n => decide (n ≤ 4611686018427387903)) then 0 else 2)) w) := by
  have hmf : ∀ (fn : Fn) (first cap : Array Value) (w : World), (Instr.makeFunc fn first cap).run Try.prog w = .ok (.func fn first cap) w := fun _ _ _ _ => rfl
  generalize hx : l.all (fun n => decide (n ≤ 4611686018427387903)) = x
  have Hx := Lib.hid hx; clear hx
  cases x
  all_goals
    go_enter Try.func19, Try.ntmps19
    go_wp2_with (go_at_call 32; refine (allU_c l v n _ hv hn _ enters_check1 #[] (fun n => decide (n ≤ 4611686018427387903)) (fun x hx w1 hB => Calls.cast rfl (check1_c x w1))).mono ?_; rw [Hx.out]; rintro e w1 ⟨rfl, hb⟩)
    go_ret
    exact ⟨rfl, hb⟩

/-- The closure in Add. -/
theorem add1_c (x n : Int) (b : Nat) (w : World) (hc : w.cell? ⟨b, 0, none⟩ = some (.int .u64 n)) (hf : w.frozen? ⟨b, 0, none⟩ = false) (h0 : 0 ≤ n + x) (h1 : n + x ≤ 18446744073709551615) :
    Calls Try.prog 29 #[.int .u64 x, .pointer (some ⟨b, 0, none⟩)] w fun e w' => e = .returned (.tuple #[]) ∧ w' = w.setCell ⟨b, 0, none⟩ (.int .u64 (Clk.topF (n + x))) := by
  go_enter Try.func29, Try.ntmps29
  go_wp2_with (go_at_call 30; refine (top_c _ _).mono ?_; rintro e w1 ⟨rfl, rfl⟩)
  go_end0
  exact ⟨rfl, rfl⟩


/-- clock.Add. -/
theorem add_c (a b : Int) (w : World) (ha : 0 ≤ a) (hb : 0 ≤ b) : Calls Try.prog 16 #[.int .u64 a, .int .u64 b] w (Ret (.int .u64 (Clk.addF a b)) w) := by
  have hmf : ∀ (fn : Fn) (first cap : Array Value) (w : World), (Instr.makeFunc fn first cap).run Try.prog w = .ok (.func fn first cap) w := fun _ _ _ _ => rfl
  have hsl : Sl ((w.alloc (.cells #[.int .u64 0] 22)).alloc (.cells #[.int .u64 a, .int .u64 b] 22)) 1 (.slice (some ⟨w.heap.size + 1, 0, none⟩) 2 2) 2 ([a, b].map (.int .u64)) :=
    Sl.of_own (by have := World.ownsRow_lit (w.alloc (.cells #[.int .u64 0] 22)) #[.int .u64 a, .int .u64 b] 2 (size := 1) (e := 22) (Nat.le_refl _) (by decide) rfl; simpa using this)
  have hB0 : Below w.heap.size w ((w.alloc (.cells #[.int .u64 0] 22)).alloc (.cells #[.int .u64 a, .int .u64 b] 22)) := (below_alloc _ _).alloc (by simp) _
  obtain ⟨ta0, ta1⟩ := Clk.topF_b a ha
  obtain ⟨tb0, tb1⟩ := Clk.topF_b b hb
  go_enter Try.func16, Try.ntmps16
  go_wp2_with (go_at_call 31; refine (times_c [a, b] _ 2 _ hsl (by decide)).mono ?_; rintro e w1 ⟨v1, rfl, hs1, hb1⟩; obtain ⟨a1, c1, rfl⟩ := (Sl.of_own hs1).len)
  have hcn : w1.cell? ⟨w.heap.size, 0, none⟩ = some (.int .u64 0) := cell_up hb1 (by rw [World.cell?_alloc_past _ _ _ (by simp)]; exact cell_new _ _ _)
  have hfn : w1.frozen? ⟨w.heap.size, 0, none⟩ = false := frozen_up hb1 (by rw [World.cell?_alloc_past _ _ _ (by simp)]; exact cell_new _ _ _) (by rw [World.frozen?_alloc_past _ _ _ (by simp)]; exact frozen_new _ _ _)
  have hB1 : Below w.heap.size w w1 := below_up hB0 hb1
  obtain ⟨g, rfl, hg0, hg1⟩ := own_some hs1 (by decide)
  simp at hg0
  have hgn : g ≠ w.heap.size := by omega
  clear hsl hB0 hb1
  go_loopw [15] (fun i wr => ∃ k : Nat, k ≤ 2 ∧ i = .int .i64 k ∧ wr.ownsRow (w.heap.size + 2) 22 1 (.slice (some ⟨g, 0, none⟩) 2 c1) 2 [.int .u64 (Clk.topF a), .int .u64 (Clk.topF b)] ∧ wr.cell? ⟨w.heap.size, 0, none⟩ = some (.int .u64 (Clk.part a b k)) ∧ wr.frozen? ⟨w.heap.size, 0, none⟩ = false ∧ Below w.heap.size w wr) (fun i _ => 2 - (intOf i).toNat)
  case atStart => exact ⟨0, Nat.zero_le _, rfl, by simpa using hs1, hcn, hfn, hB1⟩
  case round =>
    obtain ⟨k, hk, rfl, ho, hcn', hfn', hB⟩ := hrel
    clear hcn hfn hs1 hB1
    have hpb := Clk.part_b a b k ha hb
    have hlt3 : k = 0 ∨ k = 1 ∨ k = 2 := by omega
    rcases hlt3 with rfl | rfl | rfl
    · have hc := ho.cellAt 0 (by decide)
      simp at hc
      go_wp2_with (go_at_call 29; refine (add1_c _ _ _ _ hcn' hfn' (by omega) (by omega)).mono ?_; rintro e w2 ⟨rfl, rfl⟩)
      go_roundw
      case rel => exact ⟨1, by omega, by go_num, ownsRow_setCell_below ho (by simp) _, by rw [Clk.part_s0]; exact World.cell?_setCell_same' _ _ _ (by rw [hcn']; rfl), by rw [World.frozen?_setCell]; exact hfn', hB.setCell (Nat.le_refl _) _⟩
      case measure => simp [intOf]
    · have hc := ho.cellAt 1 (by decide)
      simp at hc
      go_wp2_with (go_at_call 29; refine (add1_c _ _ _ _ hcn' hfn' (by omega) (by omega)).mono ?_; rintro e w2 ⟨rfl, rfl⟩)
      go_roundw
      case rel => exact ⟨2, by omega, by go_num, ownsRow_setCell_below ho (by simp) _, by rw [Clk.part_s1]; exact World.cell?_setCell_same' _ _ _ (by rw [hcn']; rfl), by rw [World.frozen?_setCell]; exact hfn', hB.setCell (Nat.le_refl _) _⟩
      case measure => simp [intOf]
    · go_wp2
      go_ret
      exact ⟨rfl, hB⟩
end Go.Proofs.Ytnccbeiaohmnpaa
