/-
  CbPl, CbPm: several texts in one (bundle.py).
-/
import Derived.Test.YtjenohodgpmchaaDoorCbK28
import Derived.Test.YtjenohodgpmchaaDoorCbK39
namespace Go.Proofs.YtjenohodgpmchaaDoor
open Go.RowKit Cb
set_option linter.unusedSimpArgs false
set_option linter.unusedVariables false
namespace Cb
theorem least_mark {n : Int} (h0 : 0 ≤ n) (h1 : n ≤ 18446744073709551615) : (Oct.leastF n).toNat = 2 ^ (markI n).toNat ∧ n < 256 ^ (2 ^ (markI n).toNat) := by
  unfold Oct.leastF markI
  repeat' split
  all_goals first
    | (exfalso; omega)
    | (constructor
       · decide
       · simp only [Int.toNat_zero, Nat.pow_zero, Int.pow_succ, Int.pow_zero, show (1 : Int).toNat = 1 from rfl, show (2 : Int).toNat = 2 from rfl, show (3 : Int).toNat = 3 from rfl]
         omega)
theorem headP_headB {m n : Int} (hm0 : 0 ≤ m) (hm7 : m ≤ 7) (h0 : 0 ≤ n) (h1 : n ≤ 18446744073709551615) (r : List UInt8) : headP (headB m n ++ r) = some (m, n, (headB m n).length) := by
  by_cases hn : n < 24
  · rw [headB_small hn]
    have hb : (UInt8.ofNat (m * 32 + n).toNat).toNat = (m * 32 + n).toNat := by
      rw [UInt8.toNat_ofNat']; omega
    have := headOk_low (UInt8.ofNat (m * 32 + n).toNat) r (by rw [hb]; omega)
    rw [List.singleton_append, this, hb]
    refine congrArg some (Prod.ext (by simp only; omega) (Prod.ext (by simp only; omega) rfl))
  · have hmk := mark_b n
    have hlm := least_mark h0 h1
    have hb : (UInt8.ofNat (m * 32 + 24 + markI n).toNat).toNat = (m * 32 + 24 + markI n).toNat := by
      rw [UInt8.toNat_ofNat']; omega
    have hlen : (Oct.beB (Oct.leastF n).toNat n).length = (Oct.leastF n).toNat := Oct.beB_len _ _
    obtain ⟨j, hj⟩ : ∃ j : Nat, markI n = j := ⟨(markI n).toNat, by omega⟩
    have hjt : (markI n).toNat = j := by omega
    rw [hjt] at hlm
    have hl : (headB m n).length = 1 + 2 ^ j := by rw [headB_big hn, List.length_cons, hlen, hlm.1]; omega
    have hlow : (UInt8.ofNat (m * 32 + 24 + markI n).toNat).toNat % 32 = 24 + j := by rw [hb]; omega
    have hmaj : (((UInt8.ofNat (m * 32 + 24 + markI n).toNat).toNat / 32 : Nat) : Int) = m := by rw [hb]; omega
    have hj4 : j < 4 := by omega
    have htk : (Oct.beB (Oct.leastF n).toNat n ++ r).take (2 ^ j) = Oct.beB (Oct.leastF n).toNat n := by
      exact List.take_left' (by rw [hlen, hlm.1])
    have hgv : Oct.getV (Oct.beB (Oct.leastF n).toNat n) = n := by
      unfold Oct.getV
      rw [hlen, if_pos (by rw [hlm.1]; have : j = 0 ∨ j = 1 ∨ j = 2 ∨ j = 3 := by omega
                           rcases this with rfl | rfl | rfl | rfl <;> rfl)]
      exact Oct.beV_beB _ _ h0 (by rw [hlm.1]; exact hlm.2)
    have hok : headOk (headB m n ++ r) m n (1 + 2 ^ j) = true := by
      rw [headOk_iff (by rw [List.length_append, hl]; omega), decide_eq_true_eq, ← hl, List.take_left]
    rw [hl]
    rw [headB_big hn] at hok ⊢
    rw [List.cons_append] at hok ⊢
    simp only [headP, headN, hlow]
    rw [if_neg (by omega), if_neg (by omega), if_neg (by rw [List.length_append, hlen, hlm.1, show 24 + j - 24 = j by omega]; omega), show 24 + j - 24 = j by omega, htk, hgv]
    simp only
    rw [hmaj, hok]
    rfl
mutual
/-- The numbers are numbers that a uint64 has. -/
def nOk : It → Prop
  | .mk _ n _ _ l => (0 ≤ n ∧ n ≤ 18446744073709551615) ∧ nOkL l
def nOkL : List It → Prop
  | [] => True
  | x :: l => nOk x ∧ nOkL l
end
theorem nOk_eq (x : It) : nOk x ↔ (0 ≤ x.n ∧ x.n ≤ 18446744073709551615) ∧ nOkL x.l := by cases x; exact Iff.rfl
theorem nOkL_mem : ∀ {l : List It} {x : It}, nOkL l → x ∈ l → nOk x
  | y :: l, x, h, hx => by
    simp only [nOkL] at h
    rcases List.mem_cons.1 hx with rfl | hx
    · exact h.1
    · exact nOkL_mem h.2 hx
theorem nOkL_all : ∀ {l : List It}, (∀ x ∈ l, nOk x) → nOkL l
  | [], _ => trivial
  | y :: l, h => ⟨h y (by simp), nOkL_all fun x hx => h x (by simp [hx])⟩
end Cb
theorem ItR.nOk {S : Nat → Prop} {w : World} : ∀ (x : It) (r : Rw), ItR S w x r → Cb.nOk x := by
  intro x
  induction x using It.ind with
  | h x ih =>
    intro r h
    obtain ⟨rows, p⟩ := h.parts
    refine (nOk_eq x).2 ⟨⟨p.lo, p.hi⟩, nOkL_all fun y hy => ?_⟩
    obtain ⟨i, hi, rfl⟩ := List.getElem_of_mem hy
    exact ih _ hy _ (p.each.get hi (by have := p.each.len; omega))
namespace Cb
theorem own_shape {x : It} (h : ownB x = true) : (x.k = 1 ∧ x = .mk 1 x.n [] noS []) ∨ (x.k = 2 ∧ x = .mk 2 0 x.b noS []) ∨ (x.k = 3 ∧ x = .mk 3 0 [] x.s []) ∨ (x.k = 4 ∧ x = .mk 4 0 [] noS x.l) ∨ (x.k = 5 ∧ x = .mk 5 x.n [] noS [] ∧ x.n ≤ 1) ∨ (x.k = 6 ∧ x = .mk 6 0 [] noS []) := by
  obtain ⟨k, n, b, s, l⟩ := x
  simp only [ownB, bareB, It.k, It.n, It.b, It.s, It.l, Bool.and_eq_true, decide_eq_true_eq, Bool.or_eq_true, beq_iff_eq] at h
  obtain ⟨hk, ⟨h1, h2, h3, h4⟩, h5, h6⟩ := h
  have hs : s.size = 0 → s = noS := fun e => ByteArray.ext (Array.eq_empty_of_size_eq_zero e)
  have hl : ∀ {α : Type} {l : List α}, l.length = 0 → l = [] := fun e => List.eq_nil_of_length_eq_zero e
  simp only [It.k, It.n, It.b, It.s, It.l]
  have hk := of_decide_eq_true hk
  have h5 := of_decide_eq_true h5
  have hc : k = 1 ∨ k = 2 ∨ k = 3 ∨ k = 4 ∨ k = 5 ∨ k = 6 := by omega
  rcases hc with rfl | rfl | rfl | rfl | rfl | rfl
  · simp only [show ¬ (1 : Int) = 2 by decide, show ¬ (1 : Int) = 3 by decide, show ¬ (1 : Int) = 4 by decide, false_or] at h2 h3 h4
    exact .inl ⟨rfl, by rw [hl h2, hs h3, hl h4]⟩
  · simp only [show ¬ (2 : Int) = 1 by decide, show ¬ (2 : Int) = 5 by decide, show ¬ (2 : Int) = 3 by decide, show ¬ (2 : Int) = 4 by decide, false_or] at h1 h3 h4
    exact .inr (.inl ⟨rfl, by rw [h1, hs h3, hl h4]⟩)
  · simp only [show ¬ (3 : Int) = 1 by decide, show ¬ (3 : Int) = 5 by decide, show ¬ (3 : Int) = 2 by decide, show ¬ (3 : Int) = 4 by decide, false_or] at h1 h2 h4
    exact .inr (.inr (.inl ⟨rfl, by rw [h1, hl h2, hl h4]⟩))
  · simp only [show ¬ (4 : Int) = 1 by decide, show ¬ (4 : Int) = 5 by decide, show ¬ (4 : Int) = 2 by decide, show ¬ (4 : Int) = 3 by decide, false_or] at h1 h2 h3
    exact .inr (.inr (.inr (.inl ⟨rfl, by rw [h1, hl h2, hs h3]⟩)))
  · simp only [show ¬ (5 : Int) = 2 by decide, show ¬ (5 : Int) = 3 by decide, show ¬ (5 : Int) = 4 by decide, false_or] at h2 h3 h4
    exact .inr (.inr (.inr (.inr (.inl ⟨rfl, by rw [hl h2, hs h3, hl h4], by omega⟩))))
  · simp only [show ¬ (6 : Int) = 1 by decide, show ¬ (6 : Int) = 5 by decide, show ¬ (6 : Int) = 2 by decide, show ¬ (6 : Int) = 3 by decide, show ¬ (6 : Int) = 4 by decide, false_or] at h1 h2 h3 h4
    exact .inr (.inr (.inr (.inr (.inr ⟨rfl, by rw [h1, hl h2, hs h3, hl h4]⟩))))
theorem simpleP_lo {f : UInt8} {r : List UInt8} (h : f.toNat < 244) : simpleP (f :: r) = none := by
  simp only [simpleP]
  rw [if_neg (fun e => by subst e; revert h; decide), if_neg (fun e => by subst e; revert h; decide), if_neg (fun e => by subst e; revert h; decide)]
theorem headB_first {m n : Int} (hm0 : 0 ≤ m) (hm : m ≤ 4) (h0 : 0 ≤ n) (r : List UInt8) : simpleP (headB m n ++ r) = none := by
  have hmk := mark_b n
  by_cases hn : n < 24
  · rw [headB_small hn, List.singleton_append]
    exact simpleP_lo (by rw [UInt8.toNat_ofNat']; omega)
  · rw [headB_big hn, List.cons_append]
    exact simpleP_lo (by rw [UInt8.toNat_ofNat']; omega)
theorem itemP_behind {d : Nat} {m n : Int} (hm0 : 0 ≤ m) (hm : m ≤ 4) (h0 : 0 ≤ n) (h1 : n ≤ 18446744073709551615) (r : List UInt8) : itemP (d + 1) (headB m n ++ r) = bodyP (itemP d) m n (headB m n).length r := by
  simp only [itemP, headB_first hm0 hm h0 r, headP_headB hm0 (by omega) h0 h1 r, List.drop_left]
/-- An item's bytes are read as it, whatever stands behind. -/
theorem item_read : ∀ (d : Nat) (x : It) (r : List UInt8), depth x ≤ d → rightB x = true → nOk x → cnt x ≤ 1000000 → itemP d (bytesOf x ++ r) = .ok (x, (bytesOf x).length) := by
  intro d
  induction d with
  | zero => intro x r hd; cases x; simp only [depth] at hd; omega
  | succ d ih =>
    intro x r hd hr hn hc
    have hl : ∀ (l : List It) (r : List UInt8), (∀ y ∈ l, depth y ≤ d ∧ rightB y = true ∧ nOk y ∧ cnt y ≤ 1000000) → listP (itemP d) l.length (bytesL l ++ r) = .ok (l, (bytesL l).length) := by
      intro l
      induction l with
      | nil => intro r _; rfl
      | cons y l ihl =>
        intro r h
        have hy := h y (by simp)
        rw [List.length_cons, bytesL, List.append_assoc, listP, ih y _ hy.1 hy.2.1 hy.2.2.1 hy.2.2.2]
        simp only
        rw [List.drop_left, ihl r (fun z hz => h z (by simp [hz]))]
        simp only [List.length_append]
    rw [rightB_eq, Bool.and_eq_true] at hr
    have hnn := (nOk_eq x).1 hn
    rcases own_shape hr.1 with ⟨hk, e⟩ | ⟨hk, e⟩ | ⟨hk, e⟩ | ⟨hk, e⟩ | ⟨hk, e, h1⟩ | ⟨hk, e⟩
    · rw [bytesOf_eq, if_pos hk, itemP_behind (by decide) (by decide) hnn.1.1 hnn.1.2]
      unfold bodyP
      rw [if_pos rfl]
      exact congrArg Except.ok (Prod.ext e.symm rfl)
    · have hb : x.b.length ≤ 1000000 := by cases x; simp only [cnt, It.b] at *; omega
      rw [bytesOf_eq, if_neg (by omega), if_pos hk, List.append_assoc, itemP_behind (by decide) (by decide) (by omega) (by omega)]
      unfold bodyP
      rw [if_neg (by decide), if_pos rfl, if_pos (by rw [List.length_append]; omega), Int.toNat_natCast, List.take_left, List.length_append]
      exact congrArg Except.ok (Prod.ext e.symm rfl)
    · have hb : x.s.size ≤ 1000000 := by cases x; simp only [cnt, It.s] at *; omega
      have hsz : x.s.data.toList.length = x.s.size := Array.length_toList
      have hfine : (runes x.s).2 = true := by
        have := hr.1
        simp only [ownB, Bool.and_eq_true] at this
        exact this.2.2.2
      rw [bytesOf_eq, if_neg (by omega), if_neg (by omega), if_pos hk, List.append_assoc, itemP_behind (by decide) (by decide) (by omega) (by omega)]
      unfold bodyP
      rw [if_neg (by decide), if_neg (by decide), if_pos rfl, Int.toNat_natCast]
      have htk : (x.s.data.toList ++ r).take x.s.size = x.s.data.toList := by rw [← hsz, List.take_left]
      rw [htk]
      have hss : (⟨x.s.data.toList.toArray⟩ : ByteArray) = x.s := rfl
      rw [hss, if_pos ⟨by rw [List.length_append]; omega, hfine⟩, List.length_append, hsz]
      exact congrArg Except.ok (Prod.ext e.symm rfl)
    · have hb : x.l.length ≤ 1000000 := by have := cntL_len x.l; cases x; simp only [cnt, It.l] at *; omega
      have hdl : depthL x.l ≤ d := by rw [depth_eq] at hd; omega
      rw [bytesOf_eq, if_neg (by omega), if_neg (by omega), if_neg (by omega), if_neg (by omega), if_neg (by omega), List.append_assoc, itemP_behind (by decide) (by decide) (by omega) (by omega)]
      unfold bodyP
      rw [if_neg (by decide), if_neg (by decide), if_neg (by decide), if_pos rfl, Int.toNat_natCast, hl x.l r (fun y hy => ⟨by have := depthL_mem hy; omega, rightL_mem hr.2 hy, nOkL_mem hnn.2 hy, by have := cnt_mem hy; omega⟩), List.length_append]
      exact congrArg Except.ok (Prod.ext e.symm rfl)
    · have hc2 : x.n = 0 ∨ x.n = 1 := by omega
      rw [bytesOf_eq, if_neg (by omega), if_neg (by omega), if_neg (by omega), if_pos hk]
      rcases hc2 with h2 | h2
      · rw [h2] at e ⊢
        simp only [itemP]
        exact congrArg Except.ok (Prod.ext e.symm rfl)
      · rw [h2] at e ⊢
        simp only [itemP]
        exact congrArg Except.ok (Prod.ext e.symm rfl)
    · rw [bytesOf_eq, if_neg (by omega), if_neg (by omega), if_neg (by omega), if_neg (by omega), if_pos hk]
      simp only [itemP]
      exact congrArg Except.ok (Prod.ext e.symm rfl)
theorem first_read {x : It} (r : List UInt8) (hc : chk x = 0) (hn : nOk x) (hx : cnt x ≤ 1000000) (hl : (bytesOf x ++ r).length ≤ 65536) : firstP (bytesOf x ++ r) = .ok (x, (bytesOf x).length) := by
  unfold firstP
  rw [if_neg (by omega)]
  unfold chk at hc
  split at hc
  · cases hc
  · rename_i h1
    split at hc
    · cases hc
    · rename_i h2
      exact item_read 8 x r (by omega) (by simpa using h1) hn hx
theorem dec_read {x : It} (hc : chk x = 0) (hn : nOk x) (hx : cnt x ≤ 1000000) : decP (bytesOf x) = .ok x := by
  have hl : (bytesOf x).length ≤ 65536 := by
    unfold chk at hc
    split at hc
    · cases hc
    · split at hc
      · cases hc
      · split at hc
        · cases hc
        · omega
  have := first_read [] hc hn hx (by rw [List.append_nil]; exact hl)
  rw [List.append_nil] at this
  unfold decP
  rw [this]
  simp
end Cb
end Go.Proofs.YtjenohodgpmchaaDoor

namespace Go.Proofs.YtjenohodgpmchaaDoor
open Go.RowKit Cb
set_option linter.unusedSimpArgs false
set_option linter.unusedVariables false
namespace Cb
/-- What is told of an item that was read out of so many bytes. -/
structure Got (d : Nat) (b : List UInt8) (x : It) (k : Nat) : Prop where
  bytes : bytesOf x = b.take k
  right : rightB x = true
  deep : depth x ≤ d
  many : cnt x ≤ k
  num : nOk x
theorem runes_none : (runes noS).2 = true := by decide
theorem right_flat {k n : Int} {b : List UInt8} {s : ByteArray} (h : ownB (.mk k n b s []) = true) : rightB (.mk k n b s []) = true := by
  rw [rightB_eq, h]; rfl
theorem simple_got {d : Nat} {b : List UInt8} {x : It} (h : simpleP b = some x) : Got (d + 1) b x 1 := by
  cases b with
  | nil => cases h
  | cons f r =>
    simp only [simpleP] at h
    split at h
    · rename_i e
      cases h
      subst e
      exact ⟨by first | (simp [bytesOf_eq, It.k, It.n]; done) | (simp [bytesOf_eq, It.k, It.n]; decide), right_flat (by decide), by simp [depth, depthL], by simp [cnt, cntL, noS, ByteArray.size], ⟨⟨by decide, by decide⟩, trivial⟩⟩
    · split at h
      · rename_i e
        cases h
        subst e
        exact ⟨by first | (simp [bytesOf_eq, It.k, It.n]; done) | (simp [bytesOf_eq, It.k, It.n]; decide), right_flat (by decide), by simp [depth, depthL], by simp [cnt, cntL, noS, ByteArray.size], ⟨⟨by decide, by decide⟩, trivial⟩⟩
      · split at h
        · rename_i e
          cases h
          subst e
          exact ⟨by simp [bytesOf_eq, It.k, It.n], right_flat (by decide), by simp [depth, depthL], by simp [cnt, cntL, noS, ByteArray.size], ⟨⟨by decide, by decide⟩, trivial⟩⟩
        · cases h
theorem list_got {d : Nat} {f : List UInt8 → Except Int (It × Nat)} (hf : ∀ b x k, f b = .ok (x, k) → Got d b x k ∧ 1 ≤ k ∧ k ≤ b.length) : ∀ (n : Nat) (b : List UInt8) (l : List It) (c : Nat), listP f n b = .ok (l, c) → bytesL l = b.take c ∧ rightL l = true ∧ depthL l ≤ d ∧ cntL l ≤ c ∧ nOkL l := by
  intro n
  induction n with
  | zero =>
    intro b l c h
    simp only [listP, Except.ok.injEq, Prod.mk.injEq] at h
    obtain ⟨rfl, rfl⟩ := h
    exact ⟨by simp [bytesL], rfl, Nat.zero_le _, Nat.le_refl _, trivial⟩
  | succ n ih =>
    intro b l c h
    simp only [listP] at h
    cases hx : f b with
    | error e => rw [hx] at h; cases h
    | ok p =>
      obtain ⟨x, k⟩ := p
      rw [hx] at h
      simp only at h
      cases hy : listP f n (b.drop k) with
      | error e => rw [hy] at h; cases h
      | ok q =>
        obtain ⟨l', j⟩ := q
        rw [hy] at h
        simp only [Except.ok.injEq, Prod.mk.injEq] at h
        obtain ⟨rfl, rfl⟩ := h
        obtain ⟨h1, h2⟩ := hf _ _ _ hx
        obtain ⟨g1, g2, g3, g4, g5⟩ := ih _ _ _ hy
        refine ⟨?_, ?_, ?_, ?_, ?_⟩
        · rw [bytesL, h1.bytes, g1, List.take_add]
        · rw [rightL, h1.right, g2]; rfl
        · rw [depthL]; have := h1.deep; omega
        · rw [cntL]; have := h1.many; omega
        · exact ⟨h1.num, g5⟩
theorem item_got : ∀ (d : Nat) (b : List UInt8) (x : It) (k : Nat), itemP d b = .ok (x, k) → Got d b x k := by
  intro d
  induction d with
  | zero => intro b x k h; cases h
  | succ d ih =>
    intro b x k h
    have hb := itemP_some _ _ _ _ h
    simp only [itemP] at h
    cases hs : simpleP b with
    | some y =>
      rw [hs] at h
      simp only [Except.ok.injEq, Prod.mk.injEq] at h
      obtain ⟨rfl, rfl⟩ := h
      exact simple_got hs
    | none =>
      rw [hs] at h
      simp only at h
      cases hh : headP b with
      | none => rw [hh] at h; cases h
      | some p =>
        obtain ⟨m, n, j⟩ := p
        rw [hh] at h
        simp only at h
        obtain ⟨⟨hm0, hm7⟩, ⟨hn0, hn1⟩, hj1, hjb, htk, hlen⟩ := headP_some hh
        obtain ⟨N, rfl⟩ : ∃ N : Nat, n = N := ⟨n.toNat, by omega⟩
        have hdl : (b.drop j).length = b.length - j := List.length_drop
        unfold bodyP at h
        split at h
        · rename_i e
          subst e
          simp only [Except.ok.injEq, Prod.mk.injEq] at h
          obtain ⟨rfl, rfl⟩ := h
          exact ⟨by rw [htk]; simp [bytesOf_eq, It.k, It.n], right_flat (by simp [ownB, bareB, It.k, It.n, It.b, It.s, It.l, runes_none, noS, ByteArray.size]), by simp [depth, depthL], by simp [cnt, cntL, noS, ByteArray.size]; omega, ⟨⟨hn0, hn1⟩, trivial⟩⟩
        · split at h
          · rename_i e
            subst e
            split at h
            · rename_i hl
              simp only [Except.ok.injEq, Prod.mk.injEq, Int.toNat_natCast] at h
              obtain ⟨rfl, rfl⟩ := h
              have hln : ((b.drop j).take N).length = N := by rw [List.length_take]; omega
              refine ⟨?_, right_flat (by simp [ownB, bareB, It.k, It.n, It.b, It.s, It.l, runes_none, noS, ByteArray.size]), by simp [depth, depthL], ?_, ⟨⟨by decide, by decide⟩, trivial⟩⟩
              · rw [show bytesOf (.mk 2 0 ((b.drop j).take N) noS []) = headB 2 ((b.drop j).take N).length ++ (b.drop j).take N from rfl, hln, ← htk, List.take_add]
              · simp only [cnt, cntL, hln, noS, ByteArray.size]; simp; omega
            · cases h
          · split at h
            · rename_i e
              subst e
              split at h
              · rename_i hl
                simp only [Except.ok.injEq, Prod.mk.injEq, Int.toNat_natCast] at h hl
                obtain ⟨rfl, rfl⟩ := h
                have hln : ((b.drop j).take N).length = N := by rw [List.length_take]; omega
                have hsz : (⟨((b.drop j).take N).toArray⟩ : ByteArray).size = N := by
                  show ((b.drop j).take N).toArray.size = N
                  rw [List.size_toArray]; exact hln
                refine ⟨?_, right_flat ?_, by simp [depth, depthL], ?_, ⟨⟨by decide, by decide⟩, trivial⟩⟩
                · rw [show bytesOf (.mk 3 0 [] ⟨((b.drop j).take N).toArray⟩ []) = headB 3 (⟨((b.drop j).take N).toArray⟩ : ByteArray).size ++ (b.drop j).take N from rfl, hsz, ← htk, List.take_add]
                · have := hl.2
                  simp only [ownB, bareB, It.k, It.n, It.b, It.s, It.l, this]
                  simp
                · simp only [cnt, cntL, hsz]; simp; omega
              · cases h
            · split at h
              · rename_i e
                subst e
                cases hl : listP (itemP d) (N : Int).toNat (b.drop j) with
                | error e => rw [hl] at h; cases h
                | ok q =>
                  obtain ⟨l, c⟩ := q
                  rw [hl] at h
                  simp only [Except.ok.injEq, Prod.mk.injEq] at h
                  obtain ⟨rfl, rfl⟩ := h
                  have hll := listP_some (itemP_some d) _ _ _ _ hl
                  rw [Int.toNat_natCast] at hll
                  obtain ⟨g1, g2, g3, g4, g5⟩ := list_got (d := d) (fun b x k h => ⟨ih b x k h, itemP_some _ _ _ _ h⟩) _ _ _ _ hl
                  refine ⟨?_, ?_, ?_, ?_, ⟨⟨by decide, by decide⟩, g5⟩⟩
                  · rw [show bytesOf (.mk 4 0 [] noS l) = headB 4 l.length ++ bytesL l from rfl, g1, hll.1, ← htk, List.take_add]
                  · rw [rightB_eq, Bool.and_eq_true]
                    exact ⟨by simp [ownB, bareB, It.k, It.n, It.b, It.s, It.l, runes_none, noS, ByteArray.size], g2⟩
                  · simp only [depth]; omega
                  · simp only [cnt, noS, ByteArray.size]; simp; omega
              · cases h
theorem first_got {b : List UInt8} {x : It} {k : Nat} (h : firstP b = .ok (x, k)) : Got 8 b x k ∧ chk x = 0 ∧ cnt x ≤ 65536 := by
  have hb := firstP_some h
  unfold firstP at h
  split at h
  · cases h
  · have g := item_got _ _ _ _ h
    refine ⟨g, ?_, by have := g.many; omega⟩
    unfold chk
    rw [if_neg (by rw [g.right]; decide), if_neg (by have := g.deep; omega), if_neg]
    rw [g.bytes, List.length_take]
    omega
theorem dec_got {b : List UInt8} {x : It} (h : decP b = .ok x) : bytesOf x = b ∧ chk x = 0 ∧ cnt x ≤ 65536 ∧ rightB x = true ∧ nOk x := by
  unfold decP at h
  cases hf : firstP b with
  | error e => rw [hf] at h; cases h
  | ok p =>
    obtain ⟨y, k⟩ := p
    rw [hf] at h
    simp only at h
    split at h
    · rename_i e
      cases h
      obtain ⟨g, hc, hn⟩ := first_got hf
      exact ⟨by rw [g.bytes, e, List.take_length], hc, hn, g.right, g.num⟩
    · cases h
end Cb
end Go.Proofs.YtjenohodgpmchaaDoor
