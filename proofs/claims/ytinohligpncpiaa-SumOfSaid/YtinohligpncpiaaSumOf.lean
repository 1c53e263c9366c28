/-
  The walk of SumOf: true, whatever the input; nothing that was there has turned.
-/
import Derived.Test.YtinohligpncpiaaSumW
import Derived.Test.YtinohligpncpiaaOpenB
import Derived.Deep.LoopGhost
namespace Go.Proofs.Ytinohligpncpiaa
open Go.RowKit
set_option linter.unusedSimpArgs false
set_option linter.unusedVariables false

/-- What lies behind the loop's j rounds. -/
structure AllI (w : World) (ls : List (List UInt8)) (j : Nat) (v : Value) (W : World) : Prop where
  own : W.ownsRow w.heap.size 5 1 v (ls.take j).flatten.length (by8 (ls.take j).flatten)
  below : Below w.heap.size w W

set_option maxHeartbeats 4000000 in
set_option maxRecDepth 100000 in
theorem sumOf_law (k : Int) (ls : List (List UInt8)) (vs : List Value) (v : Value) (n : Nat) (w : World) (hv : SlB w v n vs ls) (ht : ∀ l ∈ ls, l.length ≤ 140737488351232) :
    Calls Try.prog 3 #[.int .i64 k, v] w (Ret (.bool true) w) := by
  obtain ⟨a, c, rfl⟩ := hv.out.len
  have hln : ls.length = n := by have := hv.out.1; have := hv.len; omega
  have Hln := Lib.hid hln
  have Ht := Lib.hid ht
  have hnm : n ≤ 9223372036854775807 := by
    have := hv.out.2
    rcases this with ⟨a', c', e, h0⟩ | ⟨b, off, cap, e, h1, h2, _⟩
    · omega
    · simp only [maxLen] at h2; omega
  clear hln ht
  go_enter Try.func3, Try.ntmps3
  go_wp2
  go_loopg [5, 6] n (fun gh t5 t6 wr => ∃ j : Nat, j ≤ n ∧ gh = n - j ∧ t6 = .int .i64 j ∧ AllI w ls j t5 wr)
  case atStart => exact ⟨0, Nat.zero_le _, rfl, rfl, ⟨World.ownsRow_nil _ _ _ _, Below.refl _ _⟩⟩
  case round =>
    obtain ⟨j, hj, rfl, rfl, hown, hB⟩ := hrel
    obtain ⟨a5, c5, rfl⟩ := own_slice hown
    obtain ⟨q, hq⟩ : ∃ q, (ls.take j).flatten.length = q := ⟨_, rfl⟩
    rw [hq] at hown
    rw [hq]
    have hj0 : (0 : Int) ≤ ↑j := by omega
    by_cases hlt : j < n ∧ q ≤ 3000
    · obtain ⟨hlt, hq3⟩ := hlt
      have hjn : (j : Int) < (n : Int) := by omega
      have hqi : (q : Int) ≤ 3000 := by omega
      have hjl : j < ls.length := by rw [Hln.out]; exact hlt
      obtain ⟨b, off, a1, c1, rfl, hcc, hsl⟩ := (hv.up hB).at_ hlt hjl
      have hL := Ht.out ls[j] (List.getElem_mem hjl)
      have hfl := Oct.flat_take ls j hjl
      have Hfl := Lib.hid hfl
      have Hq := Lib.hid hq
      obtain ⟨m, hm⟩ : ∃ m, ls[j].length = m := ⟨_, rfl⟩
      rw [hm] at hcc hsl hL
      have Hm := Lib.hid hm
      clear hfl hq hm
      go_wp2_with (at_builtin; refine wpList_app rfl (.tmp 22) (.tmp 26) 23 rfl slT_u8 w.heap.size rfl hown rfl hsl (one_by8 _) (by simp [maxLen]; omega) (by omega) hB.size ?_; intro v2 w2 hown2 hgrow2 _; have hB2 := grown_below hB hgrow2 (fun k hk => (hown.lt k hk).1); clear hgrow2)
      go_roundg (n - (j + 1))
      case rel =>
        refine ⟨j + 1, by omega, rfl, by go_num, ?_, hB2⟩
        rw [Hfl.out, List.length_append, Hq.out, Hm.out, by8_app]
        exact hown2
      case measure => omega
    · by_cases hn20 : 20 < n
      · have hg : (20 : Int) < (n : Int) := by omega
        by_cases hjn' : j < n
        · have hjn : (j : Int) < (n : Int) := by omega
          have hq3 : ¬ (q : Int) ≤ 3000 := by omega
          go_wp2_with (go_at_call 6; refine (sumWorks_c _).mono ?_; rintro e w7 ⟨rfl, hb⟩)
          go_ret
          exact ⟨rfl, below_up hB hb⟩
        · have hjn : ¬ (j : Int) < (n : Int) := by omega
          go_wp2_with (go_at_call 6; refine (sumWorks_c _).mono ?_; rintro e w7 ⟨rfl, hb⟩)
          go_ret
          exact ⟨rfl, below_up hB hb⟩
      · have hg : ¬ (20 : Int) < (n : Int) := by omega
        by_cases hq3 : 3000 < q
        · have hg2 : (3000 : Int) < (q : Int) := by omega
          have hg3 : ¬ (q : Int) ≤ 3000 := by omega
          by_cases hjn' : j < n
          · have hjn : (j : Int) < (n : Int) := by omega
            go_wp2_with (go_at_call 6; refine (sumWorks_c _).mono ?_; rintro e w7 ⟨rfl, hb⟩)
            go_ret
            exact ⟨rfl, below_up hB hb⟩
          · have hjn : ¬ (j : Int) < (n : Int) := by omega
            go_wp2_with (go_at_call 6; refine (sumWorks_c _).mono ?_; rintro e w7 ⟨rfl, hb⟩)
            go_ret
            exact ⟨rfl, below_up hB hb⟩
        · have hg2 : ¬ (3000 : Int) < (q : Int) := by omega
          obtain rfl : j = n := by omega
          have hall : ls.take j = ls := by rw [List.take_of_length_le]; rw [Hln.out]; exact Nat.le_refl _
          rw [hall] at hq hown
          have hsl := Sl.of_own hown
          have hvB := hv.up hB
          have Ht2 := Lib.hid (fun l hl => Nat.le_trans (Ht.out l hl) (by decide : 140737488351232 ≤ 140737488355328))
          by_cases hk : k < 0 ∨ 2 < k
          · have Hd := Lib.hid (show (decide (0 ≤ k) && decide (k ≤ 2)) = false by rw [Bool.and_eq_false_iff]; simp; omega)
            go_wp2_with fail
            refine (sumOf_bad k hk _ _ _ _).mono ?_
            rintro e w3 ⟨rfl, hb3⟩
            go_wp2_with fail
            refine (width_bad k hk _).mono ?_
            rintro e w4 ⟨rfl, hb4⟩
            have hB4 := below_up (below_up hB hb3) hb4
            go_wp2_with (first
              | (go_at_call 10; refine (sumNum_c _ _).mono ?_; rintro e w9 ⟨rfl, rfl⟩)
              | (go_at_call 9; refine (refKind_c k _).mono ?_; rw [Hd.out]; rintro e w6 ⟨rfl, rfl⟩)
              | (go_at_call 6; refine (sumWorks_c _).mono ?_; rintro e w10 ⟨rfl, hb10⟩))
            go_ret
            exact ⟨rfl, below_up hB4 hb10⟩
          · obtain ⟨K, rfl⟩ : ∃ K : Nat, k = K := ⟨k.toNat, by omega⟩
            have hK : K ≤ 2 := by omega
            have Hd := Lib.hid (show (decide (0 ≤ (K : Int)) && decide ((K : Int) ≤ 2)) = true by rw [Bool.and_eq_true]; simp; omega)
            go_wp2_with fail
            refine (sumOf_c K hK ls vs _ _ _ _ hvB (by omega) Ht2.out).mono ?_
            rintro e w3 ⟨rfl, hb3⟩
            go_wp2_with fail
            refine (width_c K hK _).mono ?_
            rintro e w4 ⟨rfl, hb4⟩
            have hB4 := below_up (below_up hB hb3) hb4
            have hs4 := (hsl.up hb3).up hb4
            go_wp2_with (first
              | (go_at_call 10; refine (sumNum_c _ _).mono ?_; rintro e w9 ⟨rfl, rfl⟩)
              | (go_at_call 11; refine (refOf_c K hK _ _ _ _ hs4 (by omega)).mono ?_; rintro e w8 ⟨rfl, hb8⟩)
              | (go_at_call 12; refine (refWidth_c K hK _).mono ?_; rintro e w5 ⟨rfl, rfl⟩)
              | (go_at_call 9; refine (refKind_c K _).mono ?_; rw [Hd.out]; rintro e w6 ⟨rfl, rfl⟩)
              | (go_at_call 6; refine (sumWorks_c _).mono ?_; rintro e w10 ⟨rfl, hb10⟩))
            go_ret
            exact ⟨rfl, below_up (below_up hB4 hb8) hb10⟩
end Go.Proofs.Ytinohligpncpiaa
