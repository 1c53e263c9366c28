/-
  OctetBytes: the walk: for every input it returns true, and nothing that lay has turned.
-/
import Derived.Test.YtcoahjkhaejimaaOctetPuts
import Derived.Test.YtcoahjkhaejimaaOctetI
namespace Go.Proofs.Ytcoahjkhaejimaa
open Go.RowKit
set_option linter.unusedSimpArgs false
set_option linter.unusedVariables false

theorem octetBytes_big (v u : Value) (n m : Nat) (many : Int) (cs ds : List Value) (w : World) (hv : Sl w 1 v n cs) (hu : Sl w 1 u m ds) (hk : 3000 < n ∨ (n ≤ 3000 ∧ 3000 < m) ∨ (n ≤ 3000 ∧ m ≤ 3000 ∧ many < 1) ∨ (n ≤ 3000 ∧ m ≤ 3000 ∧ 1 ≤ many ∧ 4000 < many)) :
    Calls Try.prog 6 #[v, u, .int .i64 many] w (Ret (.bool true) w) := by
  obtain ⟨a, c, rfl⟩ := hv.len
  obtain ⟨a', c', rfl⟩ := hu.len
  rcases hk with h1 | ⟨h1, h2⟩ | ⟨h1, h2, h3⟩ | ⟨h1, h2, h3, h4⟩
  · have g1 : (3000 : Int) < (n : Int) := by omega
    go_enter Try.func6, Try.ntmps6
    go_wp2_with (go_at_call 13; refine (works_c _).mono ?_; rintro e w1 ⟨rfl, hb⟩)
    go_ret
    exact ⟨rfl, hb⟩
  · have g1 : ¬ (3000 : Int) < (n : Int) := by omega
    have g2 : (3000 : Int) < (m : Int) := by omega
    go_enter Try.func6, Try.ntmps6
    go_wp2_with (go_at_call 13; refine (works_c _).mono ?_; rintro e w1 ⟨rfl, hb⟩)
    go_ret
    exact ⟨rfl, hb⟩
  · have g1 : ¬ (3000 : Int) < (n : Int) := by omega
    have g2 : ¬ (3000 : Int) < (m : Int) := by omega
    go_enter Try.func6, Try.ntmps6
    go_wp2_with (go_at_call 13; refine (works_c _).mono ?_; rintro e w1 ⟨rfl, hb⟩)
    go_ret
    exact ⟨rfl, hb⟩
  · have g1 : ¬ (3000 : Int) < (n : Int) := by omega
    have g2 : ¬ (3000 : Int) < (m : Int) := by omega
    go_enter Try.func6, Try.ntmps6
    go_wp2_with (go_at_call 13; refine (works_c _).mono ?_; rintro e w1 ⟨rfl, hb⟩)
    go_ret
    exact ⟨rfl, hb⟩

theorem lent_up {w w' : World} {base n : Nat} {v : Value} {l : List UInt8} (h : Lent w base v n l) (hb : Below w.heap.size w w') : Lent w' base v n l := by
  obtain ⟨g, cap, h1, h2, h3⟩ := h
  exact ⟨g, cap, h1, h2, own_up h3 hb⟩

set_option maxHeartbeats 1000000 in
theorem octetBytes_c (l la : List UInt8) (v u : Value) (n m many : Nat) (w : World) (hv : Sl w 1 v n (by8 l)) (hu : Sl w 1 u m (by8 la)) (hn : n ≤ 3000) (hm : m ≤ 3000) (h1 : 1 ≤ many) (h2 : many ≤ 4000) :
    Calls Try.prog 6 #[v, u, .int .i64 many] w (Ret (.bool true) w) := by
  have Hln := Lib.hid hv.n_len
  obtain ⟨a, c, rfl⟩ := hv.len
  obtain ⟨a', c', rfl⟩ := hu.len
  have g1 : ¬ (3000 : Int) < (n : Int) := by omega
  have g2 : ¬ (3000 : Int) < (m : Int) := by omega
  have g3 : ¬ (many : Int) < 1 := by omega
  have g4 : ¬ (4000 : Int) < (many : Int) := by omega
  go_enter Try.func6, Try.ntmps6
  go_wp2_with fail
  refine (lent_c l _ n w hv (by omega)).mono ?_
  rintro e w1 ⟨v1, rfl, hl1, hB⟩
  have hv := hv.up hB
  have hu := hu.up hB
  obtain ⟨p1, c1, rfl⟩ := hl1.sl.len
  go_wp2_with fail
  refine (eachL_c l _ n _ (many : Int) _ hl1.sl (by omega) (by omega) (by omega)).mono ?_
  rintro e w2 ⟨v2, rfl, ho2, hb⟩
  have hl1 := lent_up hl1 hb
  have hv := hv.up hb
  have hu := hu.up hb
  have hB := below_up hB hb
  have s2 := Sl.of_own ho2
  clear hb ho2
  have htn : (l.take (many : Int).toNat).length = min many n := by rw [Int.toNat_natCast, List.length_take, Hln.out]
  have hcut : ∃ a3 c3, (∀ (w' : World), (Instr.slice 23 (.slice a n c) none (some (.int .i64 (if n < many then (n : Int) else (many : Int)))) none).run Try.prog w' = .ok (.slice a3 (min many n) c3) w') ∧ Sl w2 1 (.slice a3 (min many n) c3) (min many n) (by8 (l.take (many : Int).toNat)) := by
    obtain ⟨a3, h3, h4⟩ := cut_h slT_u8 hv (min many n) (Nat.min_le_right _ _)
    refine ⟨a3, c, fun w' => ?_, ?_⟩
    · rw [show (if n < many then (n : Int) else (many : Int)) = ((min many n : Nat) : Int) by split <;> omega]; exact h3 _ w'
    · rw [by8_take, Int.toNat_natCast]
      rw [Nat.mul_one] at h4
      have : (by8 l).take many = (by8 l).take (min many n) := by
        rw [List.take_eq_take_iff, by8_len, Hln.out]; omega
      rw [this]; exact h4
  obtain ⟨a3, c3, hc1, hc2⟩ := hcut
  obtain ⟨W2, hW2⟩ : ∃ W2 : World, W2 = w2 := ⟨_, rfl⟩
  rw [htn] at s2
  generalize l.take (many : Int).toNat = tl at *
  generalize min many n = mn at *
  obtain ⟨a2, c2, rfl⟩ := s2.len
  have C1 : ∀ t : Abv W2, (convert 23 9 (.slice a2 mn c2)).run Try.prog t.val = .ok (.string ⟨tl.toArray⟩) t.val := fun t => run_str Try.underlying23 Try.underlying5 Try.underlying9 (Sl.up (by rw [hW2]; exact s2) t.prop)
  have C2 : ∀ t : Abv W2, (convert 23 9 (.slice a3 mn c3)).run Try.prog t.val = .ok (.string ⟨tl.toArray⟩) t.val := fun t => run_str Try.underlying23 Try.underlying5 Try.underlying9 (Sl.up (by rw [hW2]; exact hc2) t.prop)
  have C3 : ∀ t : Abv W2, Sl t.val 1 (.slice p1 n c1) n (by8 l) := fun t => Sl.up (by rw [hW2]; exact hl1.sl) t.prop
  have C4 : ∀ t : Abv W2, Sl t.val 1 (.slice a' m c') m (by8 la) := fun t => Sl.up (by rw [hW2]; exact hu) t.prop
  have C5 : ∀ t : Abv W2, Sl t.val 1 (.slice a n c) n (by8 l) := fun t => Sl.up (by rw [hW2]; exact hv) t.prop
  have C6 : ∀ t : Abv W2, Lent t.val w.heap.size (.slice p1 n c1) n l := fun t => lent_up (by rw [hW2]; exact hl1) t.prop
  rw [← hW2] at hB ⊢
  have H3 := Lib.hid C3
  have H4 := Lib.hid C4
  have H5 := Lib.hid C5
  have H6 := Lib.hid C6
  clear C3 C4 C5 C6 hW2 htn hc2 hl1 hv hu s2
  go_wp2
  refine wp_region_abv (by kernel_rfl) (by kernel_rfl) ?_
  repeat (go_big_quiet_step ((first
    | (go_at_call 22; exact Abv.call (begins_c l la _ _ n m _ (H3.out _) (H4.out _) (by omega)))
    | (go_at_call 23; exact Abv.call (beginsR_c l la _ _ n m _ (H5.out _) (H4.out _)))
    | (go_at_call 17; exact Abv.call (kept_c l _ _ n _ _ (H6.out _) (H5.out _) (by omega)))
    | (go_at_call 13; exact Abv.call (works_c _)))))
  refine wpQuiet_nil ?_
  rintro _ ⟨t, rfl⟩
  go_wp2
  all_goals
    go_ret
    exact ⟨rfl, below_up hB t.prop⟩

theorem octetBytes_all (l la : List UInt8) (v u : Value) (n m : Nat) (many : Int) (w : World) (hv : Sl w 1 v n (by8 l)) (hu : Sl w 1 u m (by8 la)) :
    Calls Try.prog 6 #[v, u, .int .i64 many] w (Ret (.bool true) w) := by
  by_cases h : 3000 < n ∨ (n ≤ 3000 ∧ 3000 < m) ∨ (n ≤ 3000 ∧ m ≤ 3000 ∧ many < 1) ∨ (n ≤ 3000 ∧ m ≤ 3000 ∧ 1 ≤ many ∧ 4000 < many)
  · exact octetBytes_big v u n m many _ _ w hv hu h
  · obtain ⟨k, rfl⟩ := Int.eq_ofNat_of_zero_le (show 0 ≤ many by omega)
    exact octetBytes_c l la v u n m k w hv hu (by omega) (by omega) (by omega) (by omega)
end Go.Proofs.Ytcoahjkhaejimaa
