/-
  Calls out of an argument's leaves; DiskPlays, whatever input.
-/
import Derived.Test.YtekpjbablcoahaaDiskPlays
import Derived.Test.YtekpjbablcoahaaOpen
import Derived.Test.YtekpjbablcoahaaRecOpen
namespace Go.Proofs.Ytekpjbablcoahaa
open Go.RowKit Go.Maps Dk
set_option linter.unusedSimpArgs false
set_option linter.unusedVariables false

theorem u8_ofA {n : Int} (h : (Lit.int .u8 n).wf = true) : ∃ x : UInt8, n = (x.toNat : Int) := by
  simp [Lit.wf, IntKind.min, IntKind.max, IntKind.signed, IntKind.bits] at h
  refine ⟨UInt8.ofNat n.toNat, ?_⟩
  rw [UInt8.toNat_ofNat_of_lt' (by show n.toNat < 256; omega)]
  omega
theorem bools_ofA {H : Type} {enc : TypeId × Value → H} {w : World} {base : Nat} {spare : Nat → Bool} {held : Bool} {v : Value} {n : Nat} {vs : List Value} (hs : Sl w 1 v n vs)
    (hl : ∀ i, i < n → ∀ (j : Nat) (U : TypeId), [4][j]? = some U → ∃ c, vs[i * 1 + j]? = some c ∧ Leaf enc Try.prog w base spare held U c) : ∃ l : List Bool, vs = l.map Value.bool := by
  obtain ⟨l, h, _⟩ := recs_of (cells := fun b : Bool => [Value.bool b]) (good := fun _ => True) (sz := 1) (fun _ => rfl) n vs hs.1 (fun i hi => by
    obtain ⟨c0, e0, L0⟩ := hl i hi 0 _ rfl
    obtain ⟨x0, rfl⟩ := Leaf.bool Try.underlying4 L0
    refine ⟨x0, trivial, fun j hj => ?_⟩
    match j, hj with
    | 0, _ => exact e0)
  refine ⟨l, h.trans ?_⟩
  rename_i hz
  clear h hz
  induction l with
  | nil => rfl
  | cons b r ih => rw [List.flatMap_cons, ih]; rfl
theorem leaf_bools {H : Type} {enc : TypeId × Value → H} {w : World} {base : Nat} {spare : Nat → Bool} {held : Bool} {c : Value} (h : Leaf enc Try.prog w base spare held 23 c) :
    ∃ (a : Option Addr) (n k : Nat) (keep : List Bool), c = .slice a n k ∧ Sl w 1 (.slice a n k) n (keep.map Value.bool) := by
  obtain ⟨m, y, ht⟩ := h
  obtain ⟨a, len, cap, us, hcs, hsl, hlf, _⟩ := open_flat (ls := [4]) (sz := 1) Try.underlying23 (by kernel_rfl) rfl (by kernel_rfl) (by decide) ht
  simp only [List.cons.injEq, and_true] at hcs
  obtain ⟨keep, rfl⟩ := bools_ofA hsl hlf
  exact ⟨a, len, cap, keep, hcs, hsl⟩
abbrev acTs : List TypeId := [3, 3, 3, 5, 23]
/-- A call, out of its cells. -/
theorem ac_of {H : Type} {enc : TypeId × Value → H} {w : World} {base : Nat} {spare : Nat → Bool} {held : Bool} {f : Nat → Option Value}
    (hl : ∀ (j : Nat) (U : TypeId), acTs[j]? = some U → ∃ c, f j = some c ∧ Leaf enc Try.prog w base spare held U c) : ∃ x : Ac, AcAt w x ∧ ∀ j, j < 5 → f j = (acC x)[j]? := by
  obtain ⟨c0, e0, L0⟩ := hl 0 _ rfl
  obtain ⟨c1, e1, L1⟩ := hl 1 _ rfl
  obtain ⟨c2, e2, L2⟩ := hl 2 _ rfl
  obtain ⟨c3, e3, L3⟩ := hl 3 _ rfl
  obtain ⟨c4, e4, L4⟩ := hl 4 _ rfl
  obtain ⟨m0, rfl, w0⟩ := Leaf.int Try.underlying3 L0
  obtain ⟨m1, rfl, w1⟩ := Leaf.int Try.underlying3 L1
  obtain ⟨m2, rfl, w2⟩ := Leaf.int Try.underlying3 L2
  obtain ⟨m3, rfl, w3⟩ := Leaf.int Try.underlying5 L3
  obtain ⟨a, n, k, keep, rfl, hs⟩ := leaf_bools L4
  obtain ⟨y, rfl⟩ := u8_ofA w3
  refine ⟨⟨m0, m1, m2, y, a, n, k, keep⟩, ⟨hs, w1, w2⟩, fun j hj => ?_⟩
  match j with
  | 0 => exact e0
  | 1 => exact e1
  | 2 => exact e2
  | 3 => exact e3
  | 4 => exact e4
  | j + 5 => omega
theorem acs_of {H : Type} {enc : TypeId × Value → H} {w : World} {base : Nat} {spare : Nat → Bool} {held : Bool} {v : Value} {n : Nat} {vs : List Value} (hsl : Sl w 5 v n vs)
    (hl : ∀ i, i < n → ∀ (j : Nat) (U : TypeId), acTs[j]? = some U → ∃ c, vs[i * 5 + j]? = some c ∧ Leaf enc Try.prog w base spare held U c) : ∃ l : List Ac, vs = l.flatMap acC ∧ ∀ x ∈ l, AcAt w x :=
  recs_of (cells := acC) (good := AcAt w) (sz := 5) (fun _ => rfl) n vs hsl.1 fun i hi => ac_of (hl i hi)
theorem diskPlays_law {H : Type} {enc : TypeId × Value → H} {w : World} {base : Nat} {spare : Nat → Bool} {held : Bool} {v : Value} {n : Nat} {vs : List Value} (s : Int) (hs : Sl w 5 v n vs)
    (hl : ∀ i, i < n → ∀ (j : Nat) (U : TypeId), acTs[j]? = some U → ∃ c, vs[i * 5 + j]? = some c ∧ Leaf enc Try.prog w base spare held U c) : Calls Try.prog 4 #[.int .i64 s, v] w (Ret (.bool true) w) := by
  obtain ⟨l, rfl, hac⟩ := acs_of hs hl
  by_cases hb : s < 1 ∨ 4096 < s
  · obtain ⟨a, c, rfl⟩ := hs.len
    exact diskPlays_bad s a n c w hb
  · obtain ⟨k, rfl⟩ : ∃ k : Nat, s = (k : Int) := ⟨s.toNat, by omega⟩
    by_cases h30 : 30 < k
    · obtain ⟨a, c, rfl⟩ := hs.len
      exact diskPlays_wide k (by omega) (by omega) h30 a n c w
    · cases hf : fewB l 40 with
      | false => exact diskPlays_many k (by omega) (by omega) l v n w hs hf
      | true => exact diskPlays_c k (by omega) (by omega) l v n w hs hac hf
end Go.Proofs.Ytekpjbablcoahaa
