/-
  CbIp, CbIq: several texts in one (bundle.py).
-/
import Derived.Test.YtjenohodgpmchaaDoorCbK25
import Derived.Test.YtjenohodgpmchaaDoorCbK12
import Derived.Test.YtjenohodgpmchaaDoorCbK26
namespace Go.Proofs.YtjenohodgpmchaaDoor
open Go.RowKit Cb
set_option linter.unusedSimpArgs false
set_option linter.unusedVariables false
namespace Cb
abbrev noS : ByteArray := ⟨#[]⟩
/-- So many items, one behind the other. -/
def listP (f : List UInt8 → Except Int (It × Nat)) : Nat → List UInt8 → Except Int (List It × Nat)
  | 0, _ => .ok ([], 0)
  | n + 1, b => match f b with
    | .error e => .error e
    | .ok (x, k) => match listP f n (b.drop k) with
      | .error e => .error e
      | .ok (l, j) => .ok (x :: l, k + j)
/-- What is no number, by its first byte. -/
def simpleP (b : List UInt8) : Option It :=
  match b with
  | f :: _ => if f = 244 then some (.mk 5 0 [] noS []) else if f = 245 then some (.mk 5 1 [] noS []) else if f = 246 then some (.mk 6 0 [] noS []) else none
  | [] => none
/-- What stands behind a head. -/
def bodyP (f : List UInt8 → Except Int (It × Nat)) (m n : Int) (k : Nat) (r : List UInt8) : Except Int (It × Nat) :=
  if m = 0 then .ok (.mk 1 n [] noS [], k)
  else if m = 2 then (if n ≤ r.length then .ok (.mk 2 0 (r.take n.toNat) noS [], k + n.toNat) else .error 121)
  else if m = 3 then (if n ≤ r.length ∧ (runes ⟨(r.take n.toNat).toArray⟩).2 = true then .ok (.mk 3 0 [] ⟨(r.take n.toNat).toArray⟩ [], k + n.toNat) else .error 121)
  else if m = 4 then (match listP f n.toNat r with
    | .error e => .error e
    | .ok (l, j) => .ok (.mk 4 0 [] noS l, k + j))
  else .error 121
/-- The item of the first bytes, in so many lists at most. -/
def itemP : Nat → List UInt8 → Except Int (It × Nat)
  | 0, _ => .error 120
  | d + 1, b => match simpleP b with
    | some x => .ok (x, 1)
    | none => match headP b with
      | none => .error 121
      | some (m, n, k) => bodyP (itemP d) m n k (b.drop k)
end Cb
end Go.Proofs.YtjenohodgpmchaaDoor

namespace Go.Proofs.YtjenohodgpmchaaDoor
open Go.RowKit Cb
set_option linter.unusedSimpArgs false
set_option linter.unusedVariables false
namespace Cb
theorem headOk_take {b : List UInt8} {m n : Int} {k : Nat} (h : headOk b m n k = true) : b.take k = headB m n ∧ (headB m n).length = k ∧ k ≤ b.length := by
  unfold headOk Oct.beginsB at h
  simp only [Bool.and_eq_true, decide_eq_true_eq] at h
  obtain ⟨⟨h1, h2⟩, h3⟩ := h
  rw [h3] at h1 h2
  exact ⟨h2, h3, h1⟩
theorem headP_some {b : List UInt8} {m n : Int} {k : Nat} (h : headP b = some (m, n, k)) : (0 ≤ m ∧ m ≤ 7) ∧ (0 ≤ n ∧ n ≤ 18446744073709551615) ∧ 1 ≤ k ∧ k ≤ b.length ∧ b.take k = headB m n ∧ (headB m n).length = k := by
  unfold headP at h
  cases b with
  | nil => simp at h
  | cons f r =>
    simp only at h
    have hF := f.toNat_lt
    cases hn : headN (f.toNat % 32) r with
    | none => rw [hn] at h; simp at h
    | some p =>
      obtain ⟨n', k'⟩ := p
      rw [hn] at h
      simp only at h
      split at h
      · rename_i ho
        simp only [Option.some.injEq, Prod.mk.injEq] at h
        obtain ⟨rfl, rfl, rfl⟩ := h
        obtain ⟨h1, h2, h3⟩ := headOk_take ho
        have := headB_len ((f.toNat / 32 : Nat) : Int) n'
        refine ⟨⟨by omega, by omega⟩, ?_, by omega, h3, h1, h2⟩
        unfold headN at hn
        split at hn
        · simp only [Option.some.injEq, Prod.mk.injEq] at hn
          omega
        · split at hn
          · cases hn
          · split at hn
            · cases hn
            · rename_i hw hx hl
              simp only [Option.some.injEq, Prod.mk.injEq] at hn
              obtain ⟨hn1, hn2⟩ := hn
              have hp : 2 ^ (f.toNat % 32 - 24) ≤ 2 ^ 3 := Nat.pow_le_pow_right (by decide) (by omega)
              have hb := getV_b (r.take (2 ^ (f.toNat % 32 - 24))) (by rw [List.length_take]; omega)
              rw [← hn1]
              exact hb
      · cases h
theorem listP_some {f : List UInt8 → Except Int (It × Nat)} (hf : ∀ b x k, f b = .ok (x, k) → 1 ≤ k ∧ k ≤ b.length) : ∀ (n : Nat) (b : List UInt8) (l : List It) (c : Nat), listP f n b = .ok (l, c) → l.length = n ∧ n ≤ c ∧ c ≤ b.length := by
  intro n
  induction n with
  | zero => intro b l c h; simp only [listP, Except.ok.injEq, Prod.mk.injEq] at h; obtain ⟨rfl, rfl⟩ := h; simp
  | succ n ih =>
    intro b l c h
    simp only [listP] at h
    cases hx : f b with
    | error e => rw [hx] at h; cases h
    | ok p =>
      obtain ⟨x, k⟩ := p
      rw [hx] at h
      simp only at h
      cases hy : listP f n (b.drop k) with
      | error e => rw [hy] at h; cases h
      | ok q =>
        obtain ⟨l', j⟩ := q
        rw [hy] at h
        simp only [Except.ok.injEq, Prod.mk.injEq] at h
        obtain ⟨rfl, rfl⟩ := h
        have h1 := hf _ _ _ hx
        have h2 := ih _ _ _ hy
        rw [List.length_drop] at h2
        rw [List.length_cons]
        omega
theorem simpleP_some {b : List UInt8} {x : It} (h : simpleP b = some x) : 1 ≤ b.length := by
  cases b with
  | nil => cases h
  | cons f r => simp
theorem bodyP_some {f : List UInt8 → Except Int (It × Nat)} (hf : ∀ b x k, f b = .ok (x, k) → 1 ≤ k ∧ k ≤ b.length) {m n : Int} {k : Nat} {r : List UInt8} (h0 : 0 ≤ n) {x : It} {j : Nat} (h : bodyP f m n k r = .ok (x, j)) : k ≤ j ∧ j ≤ k + r.length := by
  unfold bodyP at h
  split at h
  · simp only [Except.ok.injEq, Prod.mk.injEq] at h; omega
  · split at h
    · split at h
      · simp only [Except.ok.injEq, Prod.mk.injEq] at h; omega
      · cases h
    · split at h
      · split at h
        · simp only [Except.ok.injEq, Prod.mk.injEq] at h; omega
        · cases h
      · split at h
        · cases hl : listP f n.toNat r with
          | error e => rw [hl] at h; cases h
          | ok q =>
            obtain ⟨l, c⟩ := q
            rw [hl] at h
            simp only [Except.ok.injEq, Prod.mk.injEq] at h
            have := listP_some hf _ _ _ _ hl
            omega
        · cases h
theorem itemP_some : ∀ (d : Nat) (b : List UInt8) (x : It) (k : Nat), itemP d b = .ok (x, k) → 1 ≤ k ∧ k ≤ b.length := by
  intro d
  induction d with
  | zero => intro b x k h; cases h
  | succ d ih =>
    intro b x k h
    simp only [itemP] at h
    cases hs : simpleP b with
    | some y =>
      rw [hs] at h
      have := simpleP_some hs
      simp only [Except.ok.injEq, Prod.mk.injEq] at h
      omega
    | none =>
      rw [hs] at h
      simp only at h
      cases hh : headP b with
      | none => rw [hh] at h; cases h
      | some p =>
        obtain ⟨m, n, j⟩ := p
        rw [hh] at h
        simp only at h
        have h1 := headP_some hh
        have h2 := bodyP_some ih h1.2.1.1 h
        rw [List.length_drop] at h2
        omega
/-- One item more. -/
theorem listP_snoc {f : List UInt8 → Except Int (It × Nat)} : ∀ (n : Nat) (b : List UInt8) (l : List It) (c : Nat) (x : It) (k : Nat), listP f n b = .ok (l, c) → f (b.drop c) = .ok (x, k) → listP f (n + 1) b = .ok (l ++ [x], c + k) := by
  intro n
  induction n with
  | zero =>
    intro b l c x k h hx
    simp only [listP, Except.ok.injEq, Prod.mk.injEq] at h
    obtain ⟨rfl, rfl⟩ := h
    rw [List.drop_zero] at hx
    simp [listP, hx]
  | succ n ih =>
    intro b l c x k h hx
    rw [listP] at h
    cases hy : f b with
    | error e => rw [hy] at h; cases h
    | ok p =>
      obtain ⟨y, j⟩ := p
      rw [hy] at h
      simp only at h
      cases hz : listP f n (b.drop j) with
      | error e => rw [hz] at h; cases h
      | ok q =>
        obtain ⟨l', i⟩ := q
        rw [hz] at h
        simp only [Except.ok.injEq, Prod.mk.injEq] at h
        obtain ⟨rfl, rfl⟩ := h
        have := ih (b.drop j) l' i x k hz (by rw [List.drop_drop]; exact hx)
        rw [listP, hy]
        simp only
        rw [this]
        simp [Nat.add_assoc]
/-- Where one is none, so many are none. -/
theorem listP_err {f : List UInt8 → Except Int (It × Nat)} : ∀ (n m : Nat) (b : List UInt8) (l : List It) (c : Nat) (e : Int), listP f n b = .ok (l, c) → f (b.drop c) = .error e → n < m → listP f m b = .error e := by
  intro n
  induction n with
  | zero =>
    intro m b l c e h hx hm
    simp only [listP, Except.ok.injEq, Prod.mk.injEq] at h
    obtain ⟨rfl, rfl⟩ := h
    rw [List.drop_zero] at hx
    obtain ⟨m, rfl⟩ : ∃ j, m = j + 1 := ⟨m - 1, by omega⟩
    simp [listP, hx]
  | succ n ih =>
    intro m b l c e h hx hm
    obtain ⟨m, rfl⟩ : ∃ j, m = j + 1 := ⟨m - 1, by omega⟩
    rw [listP] at h
    cases hy : f b with
    | error e => rw [hy] at h; cases h
    | ok p =>
      obtain ⟨y, j⟩ := p
      rw [hy] at h
      simp only at h
      cases hz : listP f n (b.drop j) with
      | error e => rw [hz] at h; cases h
      | ok q =>
        obtain ⟨l', i⟩ := q
        rw [hz] at h
        simp only [Except.ok.injEq, Prod.mk.injEq] at h
        obtain ⟨rfl, rfl⟩ := h
        have := ih m (b.drop j) l' i e hz (by rw [List.drop_drop]; exact hx) (by omega)
        rw [listP, hy]
        simp only
        rw [this]
theorem begins_one (b : List UInt8) (c : UInt8) : Oct.beginsB b [c] = true ↔ ∃ r, b = c :: r := by
  unfold Oct.beginsB
  cases b with
  | nil => simp
  | cons f r => simp
theorem simpleP_none {b : List UInt8} (h : ∀ j : Nat, j < 3 → Oct.beginsB b [UInt8.ofNat (244 + j)] = false) : simpleP b = none := by
  cases b with
  | nil => rfl
  | cons f r =>
    have h0 := h 0 (by decide)
    have h1 := h 1 (by decide)
    have h2 := h 2 (by decide)
    rw [Bool.eq_false_iff, Ne, begins_one] at h0 h1 h2
    simp only [simpleP]
    rw [if_neg (fun e : f = 244 => h0 ⟨r, by rw [e]; rfl⟩), if_neg (fun e : f = 245 => h1 ⟨r, by rw [e]; rfl⟩), if_neg (fun e : f = 246 => h2 ⟨r, by rw [e]; rfl⟩)]
theorem simpleP_at (b : List UInt8) (k : Nat) (hk : k < 3) (h : Oct.beginsB b [UInt8.ofNat (244 + k)] = true) : simpleP b = some (if k = 0 then .mk 5 0 [] noS [] else if k = 1 then .mk 5 1 [] noS [] else .mk 6 0 [] noS []) := by
  rw [begins_one] at h
  obtain ⟨r, rfl⟩ := h
  have : k = 0 ∨ k = 1 ∨ k = 2 := by omega
  rcases this with rfl | rfl | rfl <;> simp [simpleP] <;> decide
end Cb
end Go.Proofs.YtjenohodgpmchaaDoor
