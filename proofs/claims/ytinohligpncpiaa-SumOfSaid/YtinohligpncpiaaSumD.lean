/-
  Contracts of sum's sealed, Seal, Open.
-/
import Derived.Test.YtinohligpncpiaaSumC
namespace Go.Proofs.Ytinohligpncpiaa
open Go.RowKit
set_option linter.unusedSimpArgs false
set_option linter.unusedVariables false

namespace Sum
/-- Bytes and their sum behind. -/
def sealB (k : Nat) (l : List UInt8) : List UInt8 := l ++ Oct.putB (sumN k l) (wd k)
theorem putB_le (n w : Int) : (Oct.putB n w).length ≤ 8 := by
  unfold Oct.putB
  split
  · rename_i h
    rw [Bool.and_eq_true] at h
    rw [Oct.beB_len]
    rcases Oct.okW_cases h.1 with rfl | rfl | rfl | rfl <;> decide
  · simp
end Sum

theorem slB1 (w : World) (l : List UInt8) (v : Value) (n : Nat) (h : Sl w 1 v n (by8 l)) (T : TypeId) (kk : Nat) (hk : kk = w.heap.size) : SlB (w.alloc (.cells #[v] T)) (.slice (some ⟨kk, 0, none⟩) 1 1) 1 [v] [l] := by
  refine slB_lit w [v] [l] (fun i u l' h1 h2 => ?_) rfl T (0, 0) kk hk (by simp [maxLen])
  match i with
  | 0 => simp only [List.getElem?_cons_zero, Option.some.injEq] at h1 h2; subst h1 h2; rw [h.n_len]; exact h
  | i + 1 => simp at h1
theorem slB2 (w : World) (l m : List UInt8) (v u : Value) (n k : Nat) (h : Sl w 1 v n (by8 l)) (h' : Sl w 1 u k (by8 m)) (T : TypeId) (kk : Nat) (hk : kk = w.heap.size) : SlB (w.alloc (.cells #[v, u] T)) (.slice (some ⟨kk, 0, none⟩) 2 2) 2 [v, u] [l, m] := by
  refine slB_lit w [v, u] [l, m] (fun i u l' h1 h2 => ?_) rfl T (0, 0) kk hk (by simp [maxLen])
  match i with
  | 0 => simp only [List.getElem?_cons_zero, Option.some.injEq] at h1 h2; subst h1 h2; rw [h.n_len]; exact h
  | 1 => simp only [List.getElem?_cons_zero, List.getElem?_cons_succ, Option.some.injEq] at h1 h2; subst h1 h2; rw [h'.n_len]; exact h'
  | i + 2 => simp at h1

set_option maxHeartbeats 1000000 in
theorem sealed_c (k : Nat) (hk : k ≤ 2) (l : List UInt8) (a : Option Addr) (c n : Nat) (w : World) (hv : Sl w 1 (.slice a n c) n (by8 l)) (hn : n ≤ 140737488351240) :
    Calls Try.prog 24 #[kindV k, .slice a n c] w fun e w' => ∃ v', e = .returned v' ∧ w'.ownsRow w.heap.size 5 1 v' (Sum.sealB k l).length (by8 (Sum.sealB k l)) ∧ Below w.heap.size w w' := by
  go_enter Try.func24, Try.ntmps24
  go_wp2
  obtain ⟨W, hW⟩ : ∃ W : World, W = w.alloc (.cells #[.int .i64 (Sum.wd k), .int .u32 (Sum.all k), .int .u32 (Sum.upon k)] 47) := ⟨_, rfl⟩
  have hB : Below w.heap.size w W := by rw [hW]; exact below_alloc _ _
  have hc0 : W.cell? ⟨w.heap.size, 0, none⟩ = some (.int .i64 (Sum.wd k)) := by rw [hW]; simp [go_sem]
  have hc1 : W.cell? ⟨w.heap.size, 1, none⟩ = some (.int .u32 (Sum.all k)) := by rw [hW]; simp [go_sem]
  have hc2 : W.cell? ⟨w.heap.size, 2, none⟩ = some (.int .u32 (Sum.upon k)) := by rw [hW]; simp [go_sem]
  have hv1 := hv.up hB
  rw [← hW]
  clear hW
  have hof := of_c k hk [l] [.slice a n c] (some ⟨W.heap.size, 0, none⟩) 1 1 _ ((slB1 W l _ n hv1 23 _ rfl).up ((Below.refl _ _).drew)) (by decide) (by intro l' h; have := hv1.n_len; simp at h; subst h; omega)
  simp only [List.flatten_cons, List.flatten_nil, List.append_nil] at hof
  have Hof := Lib.hid hof
  clear hof
  have hsl := Sum.sumN_lt k l
  have hwr : IntKind.u64.wrap ((Sum.sumN k l : Nat) : Int) = ((Sum.sumN k l : Nat) : Int) := by rw [IntKind.wrap_u64]; omega
  have Hwr := Lib.hid hwr
  clear hwr
  go_region_held3 (fun w' => w'.cell? ⟨w.heap.size, 0, none⟩ = some (.int .i64 (Sum.wd k)) ∧ w'.cell? ⟨w.heap.size, 1, none⟩ = some (.int .u32 (Sum.all k)) ∧ w'.cell? ⟨w.heap.size, 2, none⟩ = some (.int .u32 (Sum.upon k))) (go_keep)
    ((first
      | (go_at_call 19; refine Hof.out.mono ?_; rintro e w2 ⟨rfl, hb2⟩; have q0 := cell_up hb2 (cell_up (below_alloc W (.cells #[.slice a n c] 23)) hc0); have q1 := cell_up hb2 (cell_up (below_alloc W (.cells #[.slice a n c] 23)) hc1); have q2 := cell_up hb2 (cell_up (below_alloc W (.cells #[.slice a n c] 23)) hc2))
      | (go_at_call 31; rw [Hwr.out]; refine (put_c _ _ _ (by omega) (by omega)).mono ?_; rintro e w3 ⟨v3, rfl, ho3, hb3⟩; have q0 := cell_up hb3 q0; have q1 := cell_up hb3 q1; have q2 := cell_up hb3 q2)))
  obtain ⟨a3, c3, rfl⟩ := own_slice ho3
  have hpl : (Oct.putB (Sum.sumN k l) (Sum.wd k)).length ≤ 8 := Sum.putB_le _ _
  have s3 := Sl.of_own ho3
  have hb13 := below_up (below_up ((below_alloc W (.cells #[.slice a n c] 23)).drew) hb2) hb3
  have hv3 := hv1.up hb13
  have hB3 := below_up hB hb13
  have hln := hv1.n_len
  have hj := join_c [l, Oct.putB (Sum.sumN k l) (Sum.wd k)] [.slice a n c, .slice a3 (Oct.putB (Sum.sumN k l) (Sum.wd k)).length c3] (.slice (some ⟨w3.heap.size, 0, none⟩) 2 2) 2 (w3.alloc (.cells #[.slice a n c, .slice a3 (Oct.putB (Sum.sumN k l) (Sum.wd k)).length c3] 23))
    (slB2 w3 _ _ _ _ _ _ hv3 s3 _ _ rfl) (by decide) (by simp only [List.flatten_cons, List.flatten_nil, List.append_nil, List.length_append]; omega)
  rw [show [l, Oct.putB (Sum.sumN k l) (Sum.wd k)].flatten = Sum.sealB k l by simp [Sum.sealB]] at hj
  have HJ := Lib.hid hj
  clear hj Hof Hwr
  generalize (Oct.putB (Sum.sumN k l) (Sum.wd k)).length = pl at *
  go_wp2_with (go_at_call 32; refine HJ.out.mono ?_; rintro e w4 ⟨v4, rfl, ho4, hb4⟩)
  go_ret
  have h4 := below_up hB3 (below_new hb4)
  exact ⟨v4, rfl, own_down ho4 (by have := hB3.size; simp; omega), h4⟩

theorem seal1_c (k : Nat) (hk : k ≤ 2) (l : List UInt8) (a : Option Addr) (c n B : Nat) (w : World) (hc : w.cell? ⟨B, 0, none⟩ = some (.slice a n c)) (hv : Sl w 1 (.slice a n c) n (by8 l)) (hn : n ≤ 140737488351240) :
    Calls Try.prog 23 #[kindV k, .pointer (some ⟨B, 0, none⟩)] w fun e w' => ∃ v', e = .returned v' ∧ w'.ownsRow w.heap.size 5 1 v' (Sum.sealB k l).length (by8 (Sum.sealB k l)) ∧ Below w.heap.size w w' := by
  have hc' := cell_up (below_alloc w (.cells #[.int .i64 (Sum.wd k), .int .u32 (Sum.all k), .int .u32 (Sum.upon k)] 47)) hc
  have hv' := hv.up (below_alloc w (.cells #[.int .i64 (Sum.wd k), .int .u32 (Sum.all k), .int .u32 (Sum.upon k)] 47))
  go_enter Try.func23, Try.ntmps23
  go_wp2_with (go_at_call 24; refine (sealed_c k hk l a c n _ hv' hn).mono ?_; rintro e w1 ⟨v1, rfl, ho, hb⟩)
  go_ret
  exact ⟨v1, rfl, own_down ho (by simp), below_new hb⟩

theorem seal_c (k : Nat) (hk : k ≤ 2) (l : List UInt8) (a : Option Addr) (c n : Nat) (w : World) (hv : Sl w 1 (.slice a n c) n (by8 l)) (hn : n ≤ 140737488351240) :
    Calls Try.prog 13 #[.int .i64 k, .slice a n c] w fun e w' => ∃ v', e = .returned (.tuple #[v', .int .i64 0]) ∧ w'.ownsRow w.heap.size 5 1 v' (Sum.sealB k l).length (by8 (Sum.sealB k l)) ∧ Below w.heap.size w w' := by
  have hmf : ∀ (fn : Fn) (first cap : Array Value) (w : World), (Instr.makeFunc fn first cap).run Try.prog w = .ok (.func fn first cap) w := fun _ _ _ _ => rfl
  have hb0 := below_alloc w (.cells #[.slice a n c] 23)
  have hc0 : (w.alloc (.cells #[.slice a n c] 23)).cell? ⟨w.heap.size, 0, none⟩ = some (.slice a n c) := cell_new _ _ _
  go_enter Try.func13, Try.ntmps13
  go_wp2_with (go_at_call 22; refine (toldB_c k hk _ enters_seal1 #[.pointer (some ⟨w.heap.size, 0, none⟩)] _ (fun v w' => w'.ownsRow w.heap.size 5 1 v (Sum.sealB k l).length (by8 (Sum.sealB k l))) (fun w1 hb1 => (Calls.cast rfl (seal1_c k hk l a c n w.heap.size w1 (cell_up hb1 hc0) (hv.up (below_up hb0 hb1)) hn)).mono fun e w' ⟨v', h1, h2, h3⟩ => ⟨v', h1, own_down h2 (below_up hb0 hb1).size, h3⟩)).mono ?_; rintro e w1 ⟨v1, rfl, ho, hb⟩)
  go_ret2
  exact ⟨v1, rfl, ho, below_new hb⟩
theorem seal_bad (k : Int) (hk : k < 0 ∨ 2 < k) (a : Option Addr) (c n : Nat) (w : World) :
    Calls Try.prog 13 #[.int .i64 k, .slice a n c] w (Ret (.tuple #[.slice none 0 0, .int .i64 2]) w) := by
  have hmf : ∀ (fn : Fn) (first cap : Array Value) (w : World), (Instr.makeFunc fn first cap).run Try.prog w = .ok (.func fn first cap) w := fun _ _ _ _ => rfl
  go_enter Try.func13, Try.ntmps13
  go_wp2_with (go_at_call 22; refine (toldB_bad k hk _ _ _).mono ?_; rintro e w1 ⟨rfl, rfl⟩)
  go_ret2
  exact ⟨rfl, below_alloc _ _⟩
end Go.Proofs.Ytinohligpncpiaa
