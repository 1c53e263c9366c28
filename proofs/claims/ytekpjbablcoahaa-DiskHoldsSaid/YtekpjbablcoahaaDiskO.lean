/-
  The plain laws of DiskHolds: what lies there behind a sync and behind a crash.
-/
import Derived.Test.YtekpjbablcoahaaDiskM
namespace Go.Proofs.Ytekpjbablcoahaa
open Go.RowKit Go.Maps Dk
set_option linter.unusedSimpArgs false
set_option linter.unusedVariables false

namespace Dk
/-- A drawn write: its sector and bytes. -/
def wrOf (p : UInt8 × UInt8) : Int × Sec := (((p.1.toNat % 5 : Nat) : Int), fullS p.2)
def wrs (l : List (UInt8 × UInt8)) : List (Int × Sec) := l.map wrOf
def wasF (l : List (UInt8 × UInt8)) (w : List UInt8) : List UInt8 := l.foldl (fun w p => w.set (p.1.toNat % 5) p.2) w
theorem wasF_len (l : List (UInt8 × UInt8)) : ∀ w : List UInt8, (wasF l w).length = w.length := by
  induction l with
  | nil => intro w; rfl
  | cons p r ih => intro w; rw [wasF, List.foldl_cons]; exact (ih _).trans (by simp)
theorem wasF_take {l : List (UInt8 × UInt8)} {k : Nat} (hk : k < l.length) (w : List UInt8) : wasF (l.take (k + 1)) w = (wasF (l.take k) w).set (l[k].1.toNat % 5) l[k].2 := by
  unfold wasF; rw [List.take_succ_eq_append_getElem hk, List.foldl_append]; rfl
theorem wrs_take {l : List (UInt8 × UInt8)} {k : Nat} (hk : k < l.length) : wrs (l.take (k + 1)) = wrs (l.take k) ++ [wrOf l[k]] := by
  unfold wrs; rw [List.take_succ_eq_append_getElem hk, List.map_append]; rfl
theorem lie_lays : ∀ (l : List (UInt8 × UInt8)) (E : List (Int × Sec)) (w : List UInt8), w.length = 5 → (∀ j, ∀ hj : j < w.length, lie E (j : Int) = fullS w[j]) →
    ∀ j, ∀ hj : j < (wasF l w).length, lie (laysF E (wrs l)) (j : Int) = fullS (wasF l w)[j]
  | [], E, w, hw, h, j, hj => h j hj
  | p :: r, E, w, hw, h, j, hj => by
    have hj5 : j < 5 := by rw [wasF_len, hw] at hj; exact hj
    refine lie_lays r (putF E (wrOf p).1 (wrOf p).2) (w.set (p.1.toNat % 5) p.2) (by simp [hw]) (fun i hi => ?_) j hj
    rw [lie_put]
    unfold wrOf
    simp only [List.getElem_set]
    by_cases he : p.1.toNat % 5 = i
    · rw [if_pos (by omega), if_pos he]
    · rw [if_neg (by omega), if_neg he]
      exact h i (by simpa using hi)
theorem lie_zero (j : Nat) (hj : j < (List.replicate 5 (0 : UInt8)).length) : lie [] (j : Int) = fullS (List.replicate 5 (0 : UInt8))[j] := by
  rw [List.getElem_replicate]
  rfl
theorem lie_crash (E : List (Int × Sec)) (l : List (UInt8 × UInt8)) (keep : List Bool) (j : Nat) : ∀ n, n ≤ l.length →
    lie (crashK E (wrs l) keep n) (j : Int) = lie E (j : Int) ∨ ∃ i, ∃ hi : i < l.length, l[i].1.toNat % 5 = j ∧ lie (crashK E (wrs l) keep n) (j : Int) = fullS l[i].2
  | 0, _ => .inl rfl
  | n + 1, hn => by
    have ih := lie_crash E l keep j n (by omega)
    rw [crashK]
    by_cases hk : keep.getD n false = true
    · rw [if_pos hk, lie_put, ptAt_get (by unfold wrs; rw [List.length_map]; omega)]
      have hw : (wrs l)[n]'(by unfold wrs; rw [List.length_map]; omega) = wrOf (l[n]'(by omega)) := by unfold wrs; rw [List.getElem_map]
      rw [hw]
      by_cases he : (l[n]'(by omega)).1.toNat % 5 = j
      · refine .inr ⟨n, by omega, he, ?_⟩
        unfold wrOf
        rw [if_pos (by simp only; omega)]
      · unfold wrOf
        simp only
        rw [if_neg (by omega)]
        exact ih
    · rw [if_neg hk]; exact ih
/-- Is it as it was, or as one of the first n that waited there? -/
def fineB (s : Sec) (c : UInt8) (l : List (UInt8 × UInt8)) (j n : Nat) : Bool := decide (s = fullS c) || (l.take n).any fun p => decide (p.1.toNat % 5 = j) && decide (s = fullS p.2)
theorem fineB_succ {s : Sec} {c : UInt8} {l : List (UInt8 × UInt8)} {j n : Nat} (hn : n < l.length) : fineB s c l j (n + 1) = (fineB s c l j n || (decide (l[n].1.toNat % 5 = j) && decide (s = fullS l[n].2))) := by
  unfold fineB
  rw [List.take_succ_eq_append_getElem hn, List.any_append, Bool.or_assoc]
  simp
theorem fineB_true {s : Sec} {c : UInt8} {l : List (UInt8 × UInt8)} {j : Nat} (h : s = fullS c ∨ ∃ i, ∃ hi : i < l.length, l[i].1.toNat % 5 = j ∧ s = fullS l[i].2) : fineB s c l j l.length = true := by
  unfold fineB
  rw [List.take_length, Bool.or_eq_true]
  rcases h with h | ⟨i, hi, h1, h2⟩
  · exact .inl (decide_eq_true h)
  · exact .inr (List.any_eq_true.2 ⟨l[i], List.getElem_mem hi, by simp [h1, h2]⟩)
theorem sameB_refl (d : Disk) : sameB d d = true := by unfold sameB; simp
theorem wrs_keys (l : List (UInt8 × UInt8)) : ∀ p ∈ wrs l, (Lit.int .i64 p.1).wf = true := by
  intro p hp
  obtain ⟨q, _, rfl⟩ := List.mem_map.1 hp
  unfold wrOf
  simp [Lit.wf, IntKind.min, IntKind.max, IntKind.signed, IntKind.bits]; omega
theorem readF_nil (left many : Int) (E : List (Int × Sec)) (k : Int) : readF ⟨left, many, E, []⟩ k = lie E k := rfl
end Dk
/-- A pair of bytes. -/
abbrev prC (p : UInt8 × UInt8) : List Value := [.int .u8 (p.1.toNat : Int), .int .u8 (p.2.toNat : Int)]
end Go.Proofs.Ytekpjbablcoahaa
