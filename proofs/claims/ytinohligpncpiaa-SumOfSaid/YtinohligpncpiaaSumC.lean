/-
  Contracts of sum.Of, Width, Seal, Open.
-/
import Derived.Test.YtinohligpncpiaaSumB
namespace Go.Proofs.Ytinohligpncpiaa
open Go.RowKit
set_option linter.unusedSimpArgs false
set_option linter.unusedVariables false

theorem enters_of1 : Enters Try.prog 18 := enters_of Try.func18 (by kernel_rfl) rfl
theorem enters_width1 : Enters Try.prog 21 := enters_of Try.func21 (by kernel_rfl) rfl
theorem enters_seal1 : Enters Try.prog 23 := enters_of Try.func23 (by kernel_rfl) rfl

theorem width1_c (k : Nat) (w : World) : Calls Try.prog 21 #[kindV k] w (Ret (.int .i64 (Sum.wd k)) w) := by
  go_enter Try.func21, Try.ntmps21
  go_wp2
  go_ret
  exact ⟨rfl, below_alloc _ _⟩

theorem of1_c (k : Nat) (hk : k ≤ 2) (ls : List (List UInt8)) (vs : List Value) (a : Option Addr) (c n B : Nat) (w : World) (hc : w.cell? ⟨B, 0, none⟩ = some (.slice a n c)) (hv : SlB w (.slice a n c) n vs ls) (hn : n ≤ 140737488355328) (ht : ∀ l ∈ ls, l.length ≤ 140737488355328) :
    Calls Try.prog 18 #[kindV k, .pointer (some ⟨B, 0, none⟩)] w (Ret (.int .u32 (Sum.sumN k ls.flatten)) w) := by
  have hc' := cell_up (below_alloc w (.cells #[.int .i64 (Sum.wd k), .int .u32 (Sum.all k), .int .u32 (Sum.upon k)] 47)) hc
  have hv' := hv.up (below_alloc w (.cells #[.int .i64 (Sum.wd k), .int .u32 (Sum.all k), .int .u32 (Sum.upon k)] 47))
  have Ht := Lib.hid ht
  clear ht
  go_enter Try.func18, Try.ntmps18
  go_wp2_with (go_at_call 19; refine (of_c k hk ls vs a c n _ hv' hn Ht.out).mono ?_; rintro e w1 ⟨rfl, hb⟩)
  go_ret
  exact ⟨rfl, below_new hb⟩

theorem width_c (k : Nat) (hk : k ≤ 2) (w : World) : Calls Try.prog 8 #[.int .i64 k] w (Ret (.tuple #[.int .i64 (Sum.wd k), .int .i64 0]) w) := by
  go_enter Try.func8, Try.ntmps8
  go_wp2_with (go_at_call 20; refine (toldI_c k hk _ enters_width1 #[] _ (fun v _ => v = .int .i64 (Sum.wd k)) (fun w1 _ => (width1_c k w1).mono fun e w' h => ⟨_, h.1, rfl, h.2⟩)).mono ?_; rintro e w1 ⟨_, rfl, rfl, hb⟩)
  go_ret2
  exact ⟨rfl, hb⟩
theorem width_bad (k : Int) (hk : k < 0 ∨ 2 < k) (w : World) : Calls Try.prog 8 #[.int .i64 k] w (Ret (.tuple #[.int .i64 0, .int .i64 2]) w) := by
  go_enter Try.func8, Try.ntmps8
  go_wp2_with (go_at_call 20; refine (toldI_bad k hk _ _ _).mono ?_; rintro e w1 ⟨rfl, rfl⟩)
  go_ret2
  exact ⟨rfl, Below.refl _ _⟩

theorem sumOf_c (k : Nat) (hk : k ≤ 2) (ls : List (List UInt8)) (vs : List Value) (a : Option Addr) (c n : Nat) (w : World) (hv : SlB w (.slice a n c) n vs ls) (hn : n ≤ 140737488355328) (ht : ∀ l ∈ ls, l.length ≤ 140737488355328) :
    Calls Try.prog 7 #[.int .i64 k, .slice a n c] w (Ret (.tuple #[.int .u32 (Sum.sumN k ls.flatten), .int .i64 0]) w) := by
  have hmf : ∀ (fn : Fn) (first cap : Array Value) (w : World), (Instr.makeFunc fn first cap).run Try.prog w = .ok (.func fn first cap) w := fun _ _ _ _ => rfl
  have hb0 := below_alloc w (.cells #[.slice a n c] 22)
  have hc0 : (w.alloc (.cells #[.slice a n c] 22)).cell? ⟨w.heap.size, 0, none⟩ = some (.slice a n c) := cell_new _ _ _
  have Ht := Lib.hid ht
  clear ht
  go_enter Try.func7, Try.ntmps7
  go_wp2_with (go_at_call 17; refine (toldU_c k hk _ enters_of1 #[.pointer (some ⟨w.heap.size, 0, none⟩)] _ (fun v _ => v = .int .u32 (Sum.sumN k ls.flatten)) (fun w1 hb1 => (Calls.cast rfl (of1_c k hk ls vs a c n w.heap.size w1 (cell_up hb1 hc0) (hv.up (below_up hb0 hb1)) hn Ht.out)).mono fun e w' h => ⟨_, h.1, rfl, h.2⟩)).mono ?_; rintro e w1 ⟨_, rfl, rfl, hb⟩)
  go_ret2
  exact ⟨rfl, below_new hb⟩
theorem sumOf_bad (k : Int) (hk : k < 0 ∨ 2 < k) (a : Option Addr) (c n : Nat) (w : World) :
    Calls Try.prog 7 #[.int .i64 k, .slice a n c] w (Ret (.tuple #[.int .u32 0, .int .i64 2]) w) := by
  have hmf : ∀ (fn : Fn) (first cap : Array Value) (w : World), (Instr.makeFunc fn first cap).run Try.prog w = .ok (.func fn first cap) w := fun _ _ _ _ => rfl
  go_enter Try.func7, Try.ntmps7
  go_wp2_with (go_at_call 17; refine (toldU_bad k hk _ _ _).mono ?_; rintro e w1 ⟨rfl, rfl⟩)
  go_ret2
  exact ⟨rfl, below_alloc _ _⟩
end Go.Proofs.Ytinohligpncpiaa
