/-
  DiskHolds at whatever input.
-/
import Derived.Test.YtekpjbablcoahaaDiskHolds
import Derived.Test.YtekpjbablcoahaaDiskN
import Derived.Test.YtekpjbablcoahaaRecOpen
namespace Go.Proofs.Ytekpjbablcoahaa
open Go.RowKit Go.Maps Dk
set_option linter.unusedSimpArgs false
set_option linter.unusedVariables false

set_option maxHeartbeats 2000000 in
set_option maxRecDepth 100000 in
theorem diskHolds_big (a1 a2 a3 : Option Addr) (n1 n2 n3 c1 c2 c3 : Nat) (w : World) (h : 30 < n1 ∨ 30 < n2 ∨ 60 < n3) :
    Calls Try.prog 3 #[.slice a1 n1 c1, .slice a2 n2 c2, .slice a3 n3 c3] w (Ret (.bool true) w) := by
  by_cases g1 : 30 < n1
  · have k1 : (30 : Int) < (n1 : Int) := by omega
    have d1 : decide ((30 : Int) < (n1 : Int)) = true := decide_eq_true k1
    go_enter Try.func3, Try.ntmps3
    go_wp2_with (go_at_call 6; refine (dWorks_c _).mono ?_; rintro en w4 ⟨rfl, hb4⟩)
    go_ret
    exact ⟨rfl, hb4⟩
  · have k1 : (n1 : Int) ≤ 30 := by omega
    have d1 : decide ((30 : Int) < (n1 : Int)) = false := decide_eq_false (by omega)
    by_cases g2 : 30 < n2
    · have k2 : (30 : Int) < (n2 : Int) := by omega
      have d2 : decide ((30 : Int) < (n2 : Int)) = true := decide_eq_true k2
      go_enter Try.func3, Try.ntmps3
      go_wp2_with (go_at_call 6; refine (dWorks_c _).mono ?_; rintro en w4 ⟨rfl, hb4⟩)
      go_ret
      exact ⟨rfl, hb4⟩
    · have k2 : (n2 : Int) ≤ 30 := by omega
      have d2 : decide ((30 : Int) < (n2 : Int)) = false := decide_eq_false (by omega)
      have k3 : (60 : Int) < (n3 : Int) := by omega
      have d3 : decide ((60 : Int) < (n3 : Int)) = true := decide_eq_true k3
      go_enter Try.func3, Try.ntmps3
      go_wp2_with (go_at_call 6; refine (dWorks_c _).mono ?_; rintro en w4 ⟨rfl, hb4⟩)
      go_ret
      exact ⟨rfl, hb4⟩

theorem u8_of {n : Int} (h : (Lit.int .u8 n).wf = true) : ∃ x : UInt8, n = (x.toNat : Int) := by
  simp [Lit.wf, IntKind.min, IntKind.max, IntKind.signed, IntKind.bits] at h
  refine ⟨UInt8.ofNat n.toNat, ?_⟩
  rw [UInt8.toNat_ofNat_of_lt' (by show n.toNat < 256; omega)]
  omega
theorem prs_of {H : Type} {enc : TypeId × Value → H} {w : World} {base : Nat} {spare : Nat → Bool} {held : Bool} {v : Value} {n : Nat} {vs : List Value} (hs : Sl w 2 v n vs)
    (hl : ∀ i, i < n → ∀ (j : Nat) (U : TypeId), [5, 5][j]? = some U → ∃ c, vs[i * 2 + j]? = some c ∧ Leaf enc Try.prog w base spare held U c) : ∃ l : List (UInt8 × UInt8), vs = l.flatMap prC := by
  obtain ⟨l, h, _⟩ := recs_of (cells := prC) (good := fun _ => True) (sz := 2) (fun _ => rfl) n vs hs.1 (fun i hi => by
    obtain ⟨c0, e0, L0⟩ := hl i hi 0 _ rfl
    obtain ⟨c1, e1, L1⟩ := hl i hi 1 _ rfl
    obtain ⟨x0, rfl, w0⟩ := Leaf.int Try.underlying5 L0
    obtain ⟨x1, rfl, w1⟩ := Leaf.int Try.underlying5 L1
    obtain ⟨y0, rfl⟩ := u8_of w0
    obtain ⟨y1, rfl⟩ := u8_of w1
    refine ⟨(y0, y1), trivial, fun j hj => ?_⟩
    match j, hj with
    | 0, _ => exact e0
    | 1, _ => exact e1)
  exact ⟨l, h⟩
theorem bools_of {H : Type} {enc : TypeId × Value → H} {w : World} {base : Nat} {spare : Nat → Bool} {held : Bool} {v : Value} {n : Nat} {vs : List Value} (hs : Sl w 1 v n vs)
    (hl : ∀ i, i < n → ∀ (j : Nat) (U : TypeId), [4][j]? = some U → ∃ c, vs[i * 1 + j]? = some c ∧ Leaf enc Try.prog w base spare held U c) : ∃ l : List Bool, vs = l.map Value.bool := by
  obtain ⟨l, h, _⟩ := recs_of (cells := fun b : Bool => [Value.bool b]) (good := fun _ => True) (sz := 1) (fun _ => rfl) n vs hs.1 (fun i hi => by
    obtain ⟨c0, e0, L0⟩ := hl i hi 0 _ rfl
    obtain ⟨x0, rfl⟩ := Leaf.bool Try.underlying4 L0
    refine ⟨x0, trivial, fun j hj => ?_⟩
    match j, hj with
    | 0, _ => exact e0)
  refine ⟨l, h.trans ?_⟩
  rename_i hz
  clear h hz
  induction l with
  | nil => rfl
  | cons b r ih => rw [List.flatMap_cons, ih]; rfl
theorem diskHolds_law {H : Type} {enc : TypeId × Value → H} {w : World} {base1 base2 base3 : Nat} {sp1 sp2 sp3 : Nat → Bool} {hd1 hd2 hd3 : Bool} {v1 v2 v3 : Value} {n1 n2 n3 : Nat} {xs ys zs : List Value} (h1 : Sl w 2 v1 n1 xs)
    (l1 : ∀ i, i < n1 → ∀ (j : Nat) (U : TypeId), [5, 5][j]? = some U → ∃ c, xs[i * 2 + j]? = some c ∧ Leaf enc Try.prog w base1 sp1 hd1 U c) (h2 : Sl w 2 v2 n2 ys)
    (l2 : ∀ i, i < n2 → ∀ (j : Nat) (U : TypeId), [5, 5][j]? = some U → ∃ c, ys[i * 2 + j]? = some c ∧ Leaf enc Try.prog w base2 sp2 hd2 U c) (h3 : Sl w 1 v3 n3 zs)
    (l3 : ∀ i, i < n3 → ∀ (j : Nat) (U : TypeId), [4][j]? = some U → ∃ c, zs[i * 1 + j]? = some c ∧ Leaf enc Try.prog w base3 sp3 hd3 U c) :
    Calls Try.prog 3 #[v1, v2, v3] w (Ret (.bool true) w) := by
  by_cases hbig : 30 < n1 ∨ 30 < n2 ∨ 60 < n3
  · obtain ⟨a1, c1, rfl⟩ := h1.len
    obtain ⟨a2, c2, rfl⟩ := h2.len
    obtain ⟨a3, c3, rfl⟩ := h3.len
    exact diskHolds_big a1 a2 a3 n1 n2 n3 c1 c2 c3 w hbig
  · obtain ⟨la, rfl⟩ := prs_of h1 l1
    obtain ⟨lb, rfl⟩ := prs_of h2 l2
    obtain ⟨lc, rfl⟩ := bools_of h3 l3
    exact diskHolds_c dWorks_c v1 v2 v3 n1 n2 n3 la lb lc w ⟨h1, h2, h3⟩ (by omega) (by omega) (by omega)
end Go.Proofs.Ytekpjbablcoahaa
