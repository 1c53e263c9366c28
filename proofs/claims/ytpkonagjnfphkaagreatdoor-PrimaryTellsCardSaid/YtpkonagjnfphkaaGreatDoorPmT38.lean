/-
  CbBa, NmOk, PrA, PrB: several texts in one (bundle.py).
-/
import Derived.Test.YtpkonagjnfphkaaGreatDoorPmT21
import Derived.Test.YtpkonagjnfphkaaGreatDoorPmT37
import Derived.Test.YtpkonagjnfphkaaGreatDoorPmT28
import Derived.Test.YtpkonagjnfphkaaGreatDoorPmT29
import Derived.Test.YtpkonagjnfphkaaGreatDoorPmT13
import Derived.Test.YtpkonagjnfphkaaGreatDoorPmT10
namespace Go.Proofs.YtpkonagjnfphkaaGreatDoor
open Go.RowKit Cb
set_option linter.unusedSimpArgs false
set_option linter.unusedVariables false
namespace Cb
def bareQ (k n : Int) (bn : Nat) (s : ByteArray) (ln : Nat) : Bool := (k == 1 || k == 5 || n == 0) && ((k == 2 || bn == 0) && ((k == 3 || s.size == 0) && (k == 4 || ln == 0)))
end Cb
set_option maxHeartbeats 4000000 in
set_option maxRecDepth 100000 in
theorem bareR_c (S : Nat → Prop) (x : It) (r : Rw) (w : World) (hr : ItR S w x r) (hcx : cnt x ≤ 1000000) : Calls Tryz.prog 109 #[rwV r] w (Ret (.bool (bareB x)) w) := by
  obtain ⟨rows, p⟩ := hr.parts
  obtain ⟨k1, n1, ba1, bc1, s1, la1, lc1, rfl⟩ := hr.shape2
  have hB : bareB x = bareQ k1 n1 x.b.length s1 x.l.length := by
    have h1 := p.k; have h2 := p.n; have h3 := p.s
    simp only at h1 h2 h3
    unfold bareB bareQ
    rw [h1, h2, h3]
  have HB := Lib.hid hB
  have hB1 := below_alloc w (.cells (rwC ⟨k1, n1, .slice ba1 x.b.length bc1, s1, .slice la1 x.l.length lc1⟩).toArray 62)
  have e1 := rangeAt_new w (rwC ⟨k1, n1, .slice ba1 x.b.length bc1, s1, .slice la1 x.l.length lc1⟩) 62 (0, 0)
  have hlb : x.b.length ≤ 1000000 := by cases x; simp only [cnt, It.b] at *; omega
  have hll : x.l.length ≤ 1000000 := by have := cntL_len x.l; cases x; simp only [cnt, It.l] at *; omega
  clear hB p hr hcx
  generalize x.b.length = bn1 at *
  generalize x.l.length = ln1 at *
  have a0 := e1 0 _ rfl
  have a1 := e1 1 _ rfl
  have a2 := e1 2 _ rfl
  have a3 := e1 3 _ rfl
  have a4 := e1 4 _ rfl
  simp only [Nat.zero_add] at a0 a1 a2 a3 a4
  clear e1
  by_cases hk1 : k1 = 1
  · subst hk1
    rcases (show bn1 = 0 ∨ ¬ bn1 = 0 by omega) with rfl | hb0
    · rcases (Classical.em (s1 = (⟨#[]⟩ : ByteArray))) with rfl | hs0
      · rcases (show ln1 = 0 ∨ ¬ ln1 = 0 by omega) with rfl | hl0
        · go_enter Tryz.func109, Tryz.ntmps109
          go_wp2
          go_ret
          exact ⟨by rw [HB.out]; first | (simp [bareQ, *]; done) | (simp [bareQ, *]; rfl), hB1⟩
        · have hl1 : ((ln1 : Int) == 0) = false := by rw [beq_eq_false_iff_ne]; omega
          go_enter Tryz.func109, Tryz.ntmps109
          go_wp2
          go_ret
          exact ⟨by rw [HB.out]; first | (simp [bareQ, *]; done) | (simp [bareQ, *]; rfl), hB1⟩
      · have hs1 : s1.toList.isEmpty = false := by rw [← decide_eq_emptyBytes]; exact decide_eq_false hs0
        have hs2 : (s1.size == 0) = false := by rw [beq_eq_false_iff_ne]; exact fun e => hs0 (by cases s1 with | mk d => simp only [ByteArray.size] at e; rw [Array.eq_empty_of_size_eq_zero e])
        go_enter Tryz.func109, Tryz.ntmps109
        go_wp2
        go_ret
        exact ⟨by rw [HB.out]; first | (simp [bareQ, *]; done) | (simp [bareQ, *]; rfl), hB1⟩
    · have hb1 : ((bn1 : Int) == 0) = false := by rw [beq_eq_false_iff_ne]; omega
      go_enter Tryz.func109, Tryz.ntmps109
      go_wp2
      go_ret
      exact ⟨by rw [HB.out]; first | (simp [bareQ, *]; done) | (simp [bareQ, *]; rfl), hB1⟩
  by_cases hk5 : k1 = 5
  · subst hk5
    rcases (show bn1 = 0 ∨ ¬ bn1 = 0 by omega) with rfl | hb0
    · rcases (Classical.em (s1 = (⟨#[]⟩ : ByteArray))) with rfl | hs0
      · rcases (show ln1 = 0 ∨ ¬ ln1 = 0 by omega) with rfl | hl0
        · go_enter Tryz.func109, Tryz.ntmps109
          go_wp2
          go_ret
          exact ⟨by rw [HB.out]; first | (simp [bareQ, *]; done) | (simp [bareQ, *]; rfl), hB1⟩
        · have hl1 : ((ln1 : Int) == 0) = false := by rw [beq_eq_false_iff_ne]; omega
          go_enter Tryz.func109, Tryz.ntmps109
          go_wp2
          go_ret
          exact ⟨by rw [HB.out]; first | (simp [bareQ, *]; done) | (simp [bareQ, *]; rfl), hB1⟩
      · have hs1 : s1.toList.isEmpty = false := by rw [← decide_eq_emptyBytes]; exact decide_eq_false hs0
        have hs2 : (s1.size == 0) = false := by rw [beq_eq_false_iff_ne]; exact fun e => hs0 (by cases s1 with | mk d => simp only [ByteArray.size] at e; rw [Array.eq_empty_of_size_eq_zero e])
        go_enter Tryz.func109, Tryz.ntmps109
        go_wp2
        go_ret
        exact ⟨by rw [HB.out]; first | (simp [bareQ, *]; done) | (simp [bareQ, *]; rfl), hB1⟩
    · have hb1 : ((bn1 : Int) == 0) = false := by rw [beq_eq_false_iff_ne]; omega
      go_enter Tryz.func109, Tryz.ntmps109
      go_wp2
      go_ret
      exact ⟨by rw [HB.out]; first | (simp [bareQ, *]; done) | (simp [bareQ, *]; rfl), hB1⟩
  by_cases hk2 : k1 = 2
  · subst hk2
    rcases (show n1 = 0 ∨ ¬ n1 = 0 by omega) with rfl | hn0
    · rcases (Classical.em (s1 = (⟨#[]⟩ : ByteArray))) with rfl | hs0
      · rcases (show ln1 = 0 ∨ ¬ ln1 = 0 by omega) with rfl | hl0
        · go_enter Tryz.func109, Tryz.ntmps109
          go_wp2
          go_ret
          exact ⟨by rw [HB.out]; first | (simp [bareQ, *]; done) | (simp [bareQ, *]; rfl), hB1⟩
        · have hl1 : ((ln1 : Int) == 0) = false := by rw [beq_eq_false_iff_ne]; omega
          go_enter Tryz.func109, Tryz.ntmps109
          go_wp2
          go_ret
          exact ⟨by rw [HB.out]; first | (simp [bareQ, *]; done) | (simp [bareQ, *]; rfl), hB1⟩
      · have hs1 : s1.toList.isEmpty = false := by rw [← decide_eq_emptyBytes]; exact decide_eq_false hs0
        have hs2 : (s1.size == 0) = false := by rw [beq_eq_false_iff_ne]; exact fun e => hs0 (by cases s1 with | mk d => simp only [ByteArray.size] at e; rw [Array.eq_empty_of_size_eq_zero e])
        go_enter Tryz.func109, Tryz.ntmps109
        go_wp2
        go_ret
        exact ⟨by rw [HB.out]; first | (simp [bareQ, *]; done) | (simp [bareQ, *]; rfl), hB1⟩
    · have hn1 : (n1 == 0) = false := by rw [beq_eq_false_iff_ne]; exact hn0
      go_enter Tryz.func109, Tryz.ntmps109
      go_wp2
      go_ret
      exact ⟨by rw [HB.out]; first | (simp [bareQ, *]; done) | (simp [bareQ, *]; rfl), hB1⟩
  by_cases hk3 : k1 = 3
  · subst hk3
    rcases (show n1 = 0 ∨ ¬ n1 = 0 by omega) with rfl | hn0
    · rcases (show bn1 = 0 ∨ ¬ bn1 = 0 by omega) with rfl | hb0
      · rcases (show ln1 = 0 ∨ ¬ ln1 = 0 by omega) with rfl | hl0
        · go_enter Tryz.func109, Tryz.ntmps109
          go_wp2
          go_ret
          exact ⟨by rw [HB.out]; first | (simp [bareQ, *]; done) | (simp [bareQ, *]; rfl), hB1⟩
        · have hl1 : ((ln1 : Int) == 0) = false := by rw [beq_eq_false_iff_ne]; omega
          go_enter Tryz.func109, Tryz.ntmps109
          go_wp2
          go_ret
          exact ⟨by rw [HB.out]; first | (simp [bareQ, *]; done) | (simp [bareQ, *]; rfl), hB1⟩
      · have hb1 : ((bn1 : Int) == 0) = false := by rw [beq_eq_false_iff_ne]; omega
        go_enter Tryz.func109, Tryz.ntmps109
        go_wp2
        go_ret
        exact ⟨by rw [HB.out]; first | (simp [bareQ, *]; done) | (simp [bareQ, *]; rfl), hB1⟩
    · have hn1 : (n1 == 0) = false := by rw [beq_eq_false_iff_ne]; exact hn0
      go_enter Tryz.func109, Tryz.ntmps109
      go_wp2
      go_ret
      exact ⟨by rw [HB.out]; first | (simp [bareQ, *]; done) | (simp [bareQ, *]; rfl), hB1⟩
  by_cases hk4 : k1 = 4
  · subst hk4
    rcases (show n1 = 0 ∨ ¬ n1 = 0 by omega) with rfl | hn0
    · rcases (show bn1 = 0 ∨ ¬ bn1 = 0 by omega) with rfl | hb0
      · rcases (Classical.em (s1 = (⟨#[]⟩ : ByteArray))) with rfl | hs0
        · go_enter Tryz.func109, Tryz.ntmps109
          go_wp2
          go_ret
          exact ⟨by rw [HB.out]; first | (simp [bareQ, *]; done) | (simp [bareQ, *]; rfl), hB1⟩
        · have hs1 : s1.toList.isEmpty = false := by rw [← decide_eq_emptyBytes]; exact decide_eq_false hs0
          have hs2 : (s1.size == 0) = false := by rw [beq_eq_false_iff_ne]; exact fun e => hs0 (by cases s1 with | mk d => simp only [ByteArray.size] at e; rw [Array.eq_empty_of_size_eq_zero e])
          go_enter Tryz.func109, Tryz.ntmps109
          go_wp2
          go_ret
          exact ⟨by rw [HB.out]; first | (simp [bareQ, *]; done) | (simp [bareQ, *]; rfl), hB1⟩
      · have hb1 : ((bn1 : Int) == 0) = false := by rw [beq_eq_false_iff_ne]; omega
        go_enter Tryz.func109, Tryz.ntmps109
        go_wp2
        go_ret
        exact ⟨by rw [HB.out]; first | (simp [bareQ, *]; done) | (simp [bareQ, *]; rfl), hB1⟩
    · have hn1 : (n1 == 0) = false := by rw [beq_eq_false_iff_ne]; exact hn0
      go_enter Tryz.func109, Tryz.ntmps109
      go_wp2
      go_ret
      exact ⟨by rw [HB.out]; first | (simp [bareQ, *]; done) | (simp [bareQ, *]; rfl), hB1⟩
  have q1 : (k1 == 1) = false := by rw [beq_eq_false_iff_ne]; exact hk1
  have q5 : (k1 == 5) = false := by rw [beq_eq_false_iff_ne]; exact hk5
  have q2 : (k1 == 2) = false := by rw [beq_eq_false_iff_ne]; exact hk2
  have q3 : (k1 == 3) = false := by rw [beq_eq_false_iff_ne]; exact hk3
  have q4 : (k1 == 4) = false := by rw [beq_eq_false_iff_ne]; exact hk4
  rcases (show n1 = 0 ∨ ¬ n1 = 0 by omega) with rfl | hn0
  · rcases (show bn1 = 0 ∨ ¬ bn1 = 0 by omega) with rfl | hb0
    · rcases (Classical.em (s1 = (⟨#[]⟩ : ByteArray))) with rfl | hs0
      · rcases (show ln1 = 0 ∨ ¬ ln1 = 0 by omega) with rfl | hl0
        · go_enter Tryz.func109, Tryz.ntmps109
          go_wp2
          go_ret
          exact ⟨by rw [HB.out]; first | (simp [bareQ, *]; done) | (simp [bareQ, *]; rfl), hB1⟩
        · have hl1 : ((ln1 : Int) == 0) = false := by rw [beq_eq_false_iff_ne]; omega
          go_enter Tryz.func109, Tryz.ntmps109
          go_wp2
          go_ret
          exact ⟨by rw [HB.out]; first | (simp [bareQ, *]; done) | (simp [bareQ, *]; rfl), hB1⟩
      · have hs1 : s1.toList.isEmpty = false := by rw [← decide_eq_emptyBytes]; exact decide_eq_false hs0
        have hs2 : (s1.size == 0) = false := by rw [beq_eq_false_iff_ne]; exact fun e => hs0 (by cases s1 with | mk d => simp only [ByteArray.size] at e; rw [Array.eq_empty_of_size_eq_zero e])
        go_enter Tryz.func109, Tryz.ntmps109
        go_wp2
        go_ret
        exact ⟨by rw [HB.out]; first | (simp [bareQ, *]; done) | (simp [bareQ, *]; rfl), hB1⟩
    · have hb1 : ((bn1 : Int) == 0) = false := by rw [beq_eq_false_iff_ne]; omega
      go_enter Tryz.func109, Tryz.ntmps109
      go_wp2
      go_ret
      exact ⟨by rw [HB.out]; first | (simp [bareQ, *]; done) | (simp [bareQ, *]; rfl), hB1⟩
  · have hn1 : (n1 == 0) = false := by rw [beq_eq_false_iff_ne]; exact hn0
    go_enter Tryz.func109, Tryz.ntmps109
    go_wp2
    go_ret
    exact ⟨by rw [HB.out]; first | (simp [bareQ, *]; done) | (simp [bareQ, *]; rfl), hB1⟩

end Go.Proofs.YtpkonagjnfphkaaGreatDoor

namespace Go.Proofs.YtpkonagjnfphkaaGreatDoor
open Go.RowKit Trc Cb
set_option linter.unusedSimpArgs false
set_option linter.unusedVariables false
theorem ofA_lt (x : It) : ofA x < 4294967296 := by unfold ofA; split <;> omega
theorem ofB_lt (x : It) : ofB x < 4294967296 := by unfold ofB; split <;> omega
theorem okE_mk {n m : Nat} (hn : n < 4294967296) (hm : m < 4294967296) (hc : Dig.chkP n m = 0) : okE (epI n m) = true ∧ ofA (epI n m) = n ∧ ofB (epI n m) = m := by
  have h0 : n = 0 → m = 0 := fun h => by
    unfold Dig.chkP at hc
    split at hc
    · cases hc
    · rename_i h2; exact Decidable.byContradiction fun h3 => h2 ⟨h, h3⟩
  have hab : ofA (epI n m) = n ∧ ofB (epI n m) = m := by
    by_cases h : n = 0
    · obtain rfl := h
      obtain rfl := h0 rfl
      exact ⟨by unfold ofA; rw [readU_ep0]; rfl, by unfold ofB; rw [readU_ep0]; rfl⟩
    · exact ⟨by unfold ofA; rw [readU_ep n m h]; simp [g5]; omega, by unfold ofB; rw [readU_ep n m h]; simp [g5]; omega⟩
  refine ⟨?_, hab⟩
  unfold okE
  rw [hab.1, hab.2, sameB_refl, hc]; rfl
theorem okE_item {x : It} (h : okE x = true) : x = epI (ofA x) (ofB x) ∧ Dig.chkP (ofA x) (ofB x) = 0 := by
  unfold okE at h
  rw [Bool.and_eq_true] at h
  exact ⟨(sameB_iff x _).1 h.2, of_decide_eq_true h.1⟩
/-- The shape of an endpoint's item that is not none's. -/
theorem ep_shape {n m : Nat} (h : n ≠ 0) : shB (epI n m) [1, 4] = true ∧ (epI n m).l[1]? = some (lI [uI n, uI m]) ∧ shB (lI [uI n, uI m]) [1, 1] = true := by
  unfold epI
  rw [if_neg h]
  exact ⟨rfl, rfl, rfl⟩
theorem okE_far {x : It} (h0 : sameB x (epI 0 0) = false) (hk : okE x = true) : ∃ n m, n ≠ 0 ∧ n < 4294967296 ∧ m < 4294967296 ∧ x = epI n m ∧ ofA x = n ∧ ofB x = m := by
  obtain ⟨h1, h2⟩ := okE_item hk
  refine ⟨ofA x, ofB x, fun h => ?_, ofA_lt x, ofB_lt x, h1, rfl, rfl⟩
  rw [h] at h1
  have : sameB x (epI 0 0) = true := by rw [h1]; unfold epI; rw [if_pos rfl, if_pos rfl]; exact sameB_refl _
  rw [h0] at this
  cases this
theorem bare_ep {n m : Nat} (h : n ≠ 0) : bareB (epI n m) = true := by
  unfold epI
  rw [if_neg h]
  rfl
/-- The other way: what the reference reads is an endpoint's item. -/
theorem okE_of {x : It} {n m : Nat} (hn : n < 4294967296) (hm : m < 4294967296) (h : n ≠ 0) (hx : sameB x (epI n m) = true) : okE x = true ∧ ofA x = n ∧ ofB x = m := by
  have := (sameB_iff x _).1 hx
  subst this
  exact okE_mk hn hm (by unfold Dig.chkP; rw [if_neg (fun e => h e.1)])
end Go.Proofs.YtpkonagjnfphkaaGreatDoor

namespace Go.Proofs.YtpkonagjnfphkaaGreatDoor
open Go.RowKit Trc Cb
set_option linter.unusedSimpArgs false
set_option linter.unusedVariables false
namespace Prm
abbrev bI (b : List UInt8) : It := .mk 2 0 b ⟨#[]⟩ []
/-- The items of a primary, its sum aside. -/
def prL (p : Pr) : List It := [uI 7, uI p.flags, uI p.sum.toNat, epI p.toN p.toS, epI p.srN p.srS, epI p.rpN p.rpS, lI [uI p.time, uI p.seq], uI p.life]
/-- A list with so many noughts as its last item's bytes. -/
def zeroIt (k : Nat) (L : List It) : It := lI (L ++ [bI (List.replicate (Sum.wd k) 0)])
/-- A list with its sum. -/
def sealIt (k : Nat) (L : List It) : It := if k = 0 then lI L else lI (L ++ [bI (Oct.putB (Sum.sumN k (bytesOf (zeroIt k L))) (Sum.wd k))])
def encPr (p : Pr) : List UInt8 := bytesOf (sealIt p.sum.toNat (prL p))
def twoB : List It → Bool
  | [t, s] => decide (t.k = 1 ∧ t.n ≤ 4611686018427387903 ∧ s.k = 1 ∧ s.n ≤ 4294967295)
  | _ => false
def twoT : List It → Nat
  | [t, _] => t.n.toNat
  | _ => 0
def twoS : List It → Nat
  | [_, s] => s.n.toNat
  | _ => 0
def lastB (k : Nat) : List It → Bool
  | [] => decide (k = 0)
  | [c] => decide (k ≠ 0 ∧ c.k = 2 ∧ c.b.length = Sum.wd k)
  | _ => false
def mkPr (a1 a2 a3 a4 a5 a6 a7 : It) : Pr := ⟨a1.n.toNat, a2.n, ofA a3, ofB a3, ofA a4, ofB a4, ofA a5, ofB a5, twoT a6.l, twoS a6.l, a7.n.toNat⟩
def rdB (a0 a1 a2 a3 a4 a5 a6 a7 : It) (r : List It) : Bool :=
  decide ((a0.k = 1 ∧ a0.n = 7) ∧ (a1.k = 1 ∧ a1.n ≤ 4294967295) ∧ (a2.k = 1 ∧ a2.n ≤ 2) ∧ (okE a3 = true ∧ okE a4 = true ∧ okE a5 = true) ∧ (a6.k = 4 ∧ twoB a6.l = true) ∧ (a7.k = 1 ∧ a7.n ≤ 4611686018427387903) ∧ okPr (mkPr a1 a2 a3 a4 a5 a6 a7) = true ∧ lastB a2.n.toNat r = true)
/-- The primary of an item. -/
def readPr (x : It) : Option Pr := match x.l with
  | a0 :: a1 :: a2 :: a3 :: a4 :: a5 :: a6 :: a7 :: r => if x.k = 4 ∧ rdB a0 a1 a2 a3 a4 a5 a6 a7 r = true then some (mkPr a1 a2 a3 a4 a5 a6 a7) else none
  | _ => none
/-- The primary of bytes, or an error. -/
def decPr (b : List UInt8) : Except Int Pr := match decP b with
  | .error e => .error e
  | .ok x => match readPr x with
    | none => .error 140
    | some p => if encPr p = b then .ok p else .error 110
theorem readPr_some {x : It} {p : Pr} (h : readPr x = some p) : x.k = 4 ∧ ∃ a0 a1 a2 a3 a4 a5 a6 a7 r, x.l = a0 :: a1 :: a2 :: a3 :: a4 :: a5 :: a6 :: a7 :: r ∧ rdB a0 a1 a2 a3 a4 a5 a6 a7 r = true ∧ p = mkPr a1 a2 a3 a4 a5 a6 a7 := by
  unfold readPr at h
  split at h
  · rename_i a0 a1 a2 a3 a4 a5 a6 a7 r hl
    split at h
    · rename_i hc
      exact ⟨hc.1, a0, a1, a2, a3, a4, a5, a6, a7, r, hl, hc.2, (Option.some.inj h).symm⟩
    · cases h
  · cases h
theorem readPr_short {x : It} (h : x.l.length < 8) : readPr x = none := by
  unfold readPr
  split
  · rename_i hl; rw [hl] at h; simp at h; omega
  · rfl
theorem readPr_kind {x : It} (h : x.k ≠ 4) : readPr x = none := by
  unfold readPr
  split
  · rw [if_neg (fun e => h e.1)]
  · rfl
theorem readPr_at {x : It} {a0 a1 a2 a3 a4 a5 a6 a7 : It} {r : List It} (h : x.l = a0 :: a1 :: a2 :: a3 :: a4 :: a5 :: a6 :: a7 :: r) (hk : x.k = 4) : readPr x = if rdB a0 a1 a2 a3 a4 a5 a6 a7 r = true then some (mkPr a1 a2 a3 a4 a5 a6 a7) else none := by
  unfold readPr
  rw [h]
  simp only [hk, true_and]
/-- What is read may be, and its sum's item is at hand. -/
theorem readPr_ok {x : It} {p : Pr} (h : readPr x = some p) (hn : nOk x) : okPr p = true ∧ p.Ok := by
  obtain ⟨hk, a0, a1, a2, a3, a4, a5, a6, a7, r, hl, hr, rfl⟩ := readPr_some h
  unfold rdB at hr
  simp only [decide_eq_true_eq] at hr
  obtain ⟨_, ⟨_, h1⟩, ⟨_, h2⟩, _, ⟨_, h6⟩, ⟨_, h7⟩, ho, _⟩ := hr
  have hm : ∀ y ∈ x.l, nOk y := fun y hy => nOkL_mem ((nOk_eq x).1 hn).2 hy
  have n2 := ((nOk_eq a2).1 (hm a2 (by rw [hl]; simp))).1
  refine ⟨ho, ?_⟩
  have h6' : twoT a6.l < 18446744073709551616 ∧ twoS a6.l < 4294967296 := by
    unfold twoB at h6
    split at h6
    · rename_i t s e
      simp only [decide_eq_true_eq] at h6
      rw [e]
      exact ⟨by show t.n.toNat < _; omega, by show s.n.toNat < _; omega⟩
    · cases h6
  exact ⟨by show a1.n.toNat < _; omega, by show _ ≤ a2.n; omega, by show a2.n ≤ _; omega, ofA_lt _, ofB_lt _, ofA_lt _, ofB_lt _, ofA_lt _, ofB_lt _, h6'.1, h6'.2, by show a7.n.toNat < _; omega⟩
end Prm
end Go.Proofs.YtpkonagjnfphkaaGreatDoor

namespace Go.Proofs.YtpkonagjnfphkaaGreatDoor
open Go.RowKit Trc Cb
set_option linter.unusedSimpArgs false
set_option linter.unusedVariables false
namespace Prm
/-- An item that may be, of its kind and size, so deep. -/
structure Fine (d : Nat) (x : It) : Prop where
  r : rightB x = true
  d : depth x ≤ d
  n : nOk x
  k : kwB x
theorem runes_no : (runes (⟨#[]⟩ : ByteArray)).2 = true := by decide
theorem fine_u {n : Nat} (h : n < 18446744073709551616) (d : Nat) : Fine (d + 1) (uI n) := by
  refine ⟨?_, ?_, ?_, ?_⟩
  · rw [rightB_eq]; simp [ownB, bareB, It.k, It.n, It.b, It.s, It.l, rightL, runes_no]; try rfl
  · simp [depth, depthL]
  · rw [nOk_eq]; exact ⟨⟨by simp [It.n], by simp [It.n]; omega⟩, by simp [It.l, nOkL]⟩
  · rw [kwB_eq]; exact ⟨by simp [It.k], by simp [It.l, kwL]⟩
theorem fine_b (b : List UInt8) (d : Nat) : Fine (d + 1) (bI b) := by
  refine ⟨?_, ?_, ?_, ?_⟩
  · rw [rightB_eq]; simp [ownB, bareB, It.k, It.n, It.b, It.s, It.l, rightL, runes_no]; try rfl
  · simp [depth, depthL]
  · rw [nOk_eq]; exact ⟨⟨by simp [It.n], by simp [It.n]⟩, by simp [It.l, nOkL]⟩
  · rw [kwB_eq]; exact ⟨by simp [It.k], by simp [It.l, kwL]⟩
theorem fine_l {L : List It} {d : Nat} (h : ∀ x ∈ L, Fine d x) : Fine (d + 1) (lI L) := by
  refine ⟨?_, ?_, ?_, ?_⟩
  · rw [rightB_eq]
    have h1 : rightL L = true := by rw [rightL_all, List.all_eq_true]; exact fun x hx => (h x hx).r
    have h2 : ownB (lI L) = true := by simp [ownB, bareB, It.k, It.n, It.b, It.s, It.l, runes_no]; try rfl
    rw [h2]; exact h1
  · rw [depth_eq]
    have : ∀ l : List It, (∀ x ∈ l, depth x ≤ d) → depthL l ≤ d := by
      intro l
      induction l with
      | nil => intro _; simp [depthL]
      | cons x l ih =>
        intro hl
        have h1 := hl x (by simp)
        have h2 := ih fun y hy => hl y (by simp [hy])
        simp only [depthL]
        omega
    have := this L fun x hx => (h x hx).d
    exact Nat.succ_le_succ this
  · rw [nOk_eq]; exact ⟨⟨by simp [It.n], by simp [It.n]⟩, nOkL_all fun x hx => (h x hx).n⟩
  · rw [kwB_eq]; exact ⟨by simp [It.k], kwL_all fun x hx => (h x hx).k⟩
theorem Fine.mono {d e : Nat} {x : It} (h : Fine d x) (hd : d ≤ e) : Fine e x := ⟨h.r, Nat.le_trans h.d hd, h.n, h.k⟩
theorem fine_ep {n m : Nat} (hn : n < 4294967296) (hm : m < 4294967296) (d : Nat) : Fine (d + 3) (epI n m) := by
  unfold epI
  split
  · refine fine_l fun x hx => ?_
    simp only [List.mem_cons, List.not_mem_nil, or_false] at hx
    rcases hx with rfl | rfl <;> exact fine_u (by omega) _
  · refine fine_l fun x hx => ?_
    simp only [List.mem_cons, List.not_mem_nil, or_false] at hx
    rcases hx with rfl | rfl
    · exact fine_u (by omega) _
    · refine fine_l fun x hx => ?_
      simp only [List.mem_cons, List.not_mem_nil, or_false] at hx
      rcases hx with rfl | rfl <;> exact fine_u (by omega) _
theorem fine_pr {p : Pr} (h : p.Ok) (h0 : 0 ≤ p.sum) : ∀ x ∈ prL p, Fine 4 x := by
  intro x hx
  have := h.f; have := h.s1; have := h.t; have := h.q; have := h.l
  simp only [prL, List.mem_cons, List.not_mem_nil, or_false] at hx
  rcases hx with rfl | rfl | rfl | rfl | rfl | rfl | rfl | rfl
  · exact fine_u (by omega) _
  · exact fine_u (by omega) _
  · exact fine_u (by omega) _
  · exact fine_ep h.tn h.ts 1
  · exact fine_ep h.sn h.ss 1
  · exact fine_ep h.rn h.rs 1
  · refine fine_l fun x hx => ?_
    simp only [List.mem_cons, List.not_mem_nil, or_false] at hx
    rcases hx with rfl | rfl <;> exact fine_u (by omega) _
  · exact fine_u (by omega) _
theorem fine_app {d : Nat} {L : List It} (h : ∀ x ∈ L, Fine (d + 1) x) (b : List UInt8) : ∀ x ∈ L ++ [bI b], Fine (d + 1) x := by
  intro x hx
  rcases List.mem_append.1 hx with hx | hx
  · exact h x hx
  · simp only [List.mem_cons, List.not_mem_nil, or_false] at hx
    subst hx
    exact fine_b _ _
theorem fine_zero {d : Nat} {L : List It} (h : ∀ x ∈ L, Fine (d + 1) x) (k : Nat) : Fine (d + 2) (zeroIt k L) := fine_l (fine_app h _)
theorem fine_seal {d : Nat} {L : List It} (h : ∀ x ∈ L, Fine (d + 1) x) (k : Nat) : Fine (d + 2) (sealIt k L) := by
  unfold sealIt
  split
  · exact fine_l h
  · exact fine_l (fine_app h _)
theorem cnt_l (L : List It) : cnt (lI L) = 1 + cntL L := by have h0 : (⟨#[]⟩ : ByteArray).size = 0 := rfl; simp [Cb.cnt, h0]
theorem cnt_bI (b : List UInt8) : cnt (bI b) = 1 + b.length := by have h0 : (⟨#[]⟩ : ByteArray).size = 0 := rfl; simp [Cb.cnt, cntL, h0]
theorem cnt_uI (n : Nat) : cnt (uI n) = 1 := by have h0 : (⟨#[]⟩ : ByteArray).size = 0 := rfl; simp [Cb.cnt, cntL, h0]
theorem cnt_epI (n m : Nat) : cnt (epI n m) ≤ 5 := by
  unfold epI
  split
  · rw [cnt_l]; simp only [cntL, cnt_uI]; omega
  · rw [cnt_l]; simp only [cntL, cnt_uI, cnt_l]; omega
theorem wd_le (k : Nat) : Sum.wd k ≤ 4 := by unfold Sum.wd; split <;> omega
theorem put_len {k : Nat} (l : List UInt8) (h : k ≤ 2) : (Oct.putB (Sum.sumN k l) (Sum.wd k)).length = Sum.wd k := by
  by_cases h0 : k = 0
  · subst h0; rfl
  · rw [Sum.put_all (by omega), Oct.beB_len]
theorem put_le (k : Nat) (l : List UInt8) : (Oct.putB (Sum.sumN k l) (Sum.wd k)).length ≤ 8 := Sum.putB_le _ _
theorem cnt_zero (k : Nat) (L : List It) : cnt (zeroIt k L) ≤ 6 + cntL L := by
  have := wd_le k
  unfold zeroIt
  rw [cnt_l, cntL_app]
  simp only [cntL, cnt_bI, List.length_replicate]; omega
theorem cnt_seal (k : Nat) (L : List It) : cnt (sealIt k L) ≤ 10 + cntL L := by
  unfold sealIt
  split
  · rw [cnt_l]; omega
  · have := put_le k (bytesOf (zeroIt k L))
    rw [cnt_l, cntL_app]
    simp only [cntL, cnt_bI]; omega
theorem cnt_pr (p : Pr) : cntL (prL p) ≤ 30 := by
  have h1 := cnt_epI p.toN p.toS
  have h2 := cnt_epI p.srN p.srS
  have h3 := cnt_epI p.rpN p.rpS
  unfold prL
  simp only [cntL, cnt_uI, cnt_l]; omega
theorem bytes_le (x : It) : (bytesOf x).length ≤ 9 * cnt x := by
  have := bytesL_le [x]
  simpa [bytesL, cntL] using this
theorem chk_fine {x : It} (h : Fine 8 x) (hl : (bytesOf x).length ≤ 65536) : chk x = 0 := by
  unfold chk
  rw [h.r, if_neg (by simp), if_neg (by have := h.d; omega), if_neg (by omega)]
theorem chk_zeroPr {p : Pr} (h : p.Ok) (h0 : 0 ≤ p.sum) (k : Nat) : chk (zeroIt k (prL p)) = 0 ∧ Fine 5 (zeroIt k (prL p)) ∧ cnt (zeroIt k (prL p)) ≤ 40 := by
  have h1 := fine_zero (d := 3) (fine_pr h h0) k
  have h2 := cnt_zero k (prL p)
  have h3 := cnt_pr p
  have h4 := bytes_le (zeroIt k (prL p))
  exact ⟨chk_fine (h1.mono (by omega)) (by omega), h1, by omega⟩
theorem chk_sealPr {p : Pr} (h : p.Ok) (h0 : 0 ≤ p.sum) (k : Nat) : chk (sealIt k (prL p)) = 0 ∧ Fine 5 (sealIt k (prL p)) ∧ cnt (sealIt k (prL p)) ≤ 40 := by
  have h1 := fine_seal (d := 3) (fine_pr h h0) k
  have h2 := cnt_seal k (prL p)
  have h3 := cnt_pr p
  have h4 := bytes_le (sealIt k (prL p))
  exact ⟨chk_fine (h1.mono (by omega)) (by omega), h1, by omega⟩
theorem read_seal {p : Pr} (h : okPr p = true) (ho : p.Ok) : readPr (sealIt p.sum.toNat (prL p)) = some p := by
  obtain ⟨hf, hs, ht, hr, htm, hlf⟩ := okPr_parts h
  have e3 := okE_mk ho.tn ho.ts (chkP_pos ht.1)
  have e4 := okE_mk ho.sn ho.ss (chkP_pos ht.2)
  have e5 := okE_mk ho.rn ho.rs hr
  have hq := ho.q; have hfl := ho.f
  have hm : mkPr (uI p.flags) (uI p.sum.toNat) (epI p.toN p.toS) (epI p.srN p.srS) (epI p.rpN p.rpS) (lI [uI p.time, uI p.seq]) (uI p.life) = p := by
    unfold mkPr
    rw [e3.2.1, e3.2.2, e4.2.1, e4.2.2, e5.2.1, e5.2.2]
    cases p
    simp only [It.n, It.l, twoT, twoS, Int.toNat_natCast, Pr.mk.injEq, and_true, true_and]
    simp only at hs
    omega
  have hx : ∃ r, sealIt p.sum.toNat (prL p) = lI (prL p ++ r) ∧ lastB p.sum.toNat r = true := by
    unfold sealIt
    split
    · rename_i h0; exact ⟨[], by simp, by simp [lastB, h0]⟩
    · rename_i h0
      refine ⟨_, rfl, ?_⟩
      have := put_len (k := p.sum.toNat) (bytesOf (zeroIt p.sum.toNat (prL p))) (by omega)
      simp [lastB, It.k, It.b, this, h0]
  obtain ⟨r, hx, hl⟩ := hx
  rw [hx, readPr_at (x := lI (prL p ++ r)) (a0 := uI 7) (a1 := uI p.flags) (a2 := uI p.sum.toNat) (a3 := epI p.toN p.toS) (a4 := epI p.srN p.srS) (a5 := epI p.rpN p.rpS) (a6 := lI [uI p.time, uI p.seq]) (a7 := uI p.life) (r := r) rfl rfl]
  rw [if_pos, hm]
  unfold rdB
  rw [hm, decide_eq_true_eq]
  refine ⟨⟨rfl, rfl⟩, ⟨rfl, ?_⟩, ⟨rfl, ?_⟩, ⟨e3.1, e4.1, e5.1⟩, ⟨rfl, ?_⟩, ⟨rfl, ?_⟩, h, ?_⟩
  · show (p.flags : Int) ≤ _; omega
  · show (p.sum.toNat : Int) ≤ _; omega
  · show twoB [uI p.time, uI p.seq] = true
    unfold twoB
    rw [decide_eq_true_eq]
    exact ⟨rfl, by show (p.time : Int) ≤ _; omega, rfl, by show (p.seq : Int) ≤ _; omega⟩
  · show (p.life : Int) ≤ _; omega
  · show lastB (p.sum.toNat : Int).toNat r = true
    rw [Int.toNat_natCast]; exact hl
/-- A primary is read as it is. -/
theorem dec_enc {p : Pr} (h : okPr p = true) (ho : p.Ok) : decPr (encPr p) = .ok p := by
  have h1 := chk_sealPr ho (okPr_parts h).2.1.1 p.sum.toNat
  unfold decPr encPr
  rw [dec_read h1.1 h1.2.1.n (by omega)]
  simp only [read_seal h ho]
  exact if_pos trivial
theorem enc_dec {b : List UInt8} {p : Pr} (h : decPr b = .ok p) : encPr p = b ∧ okPr p = true ∧ p.Ok := by
  unfold decPr at h
  split at h
  · cases h
  · rename_i x hx
    split at h
    · cases h
    · rename_i q hq
      split at h
      · rename_i he
        cases h
        have := dec_got hx
        exact ⟨he, (readPr_ok hq this.2.2.2.2).1, (readPr_ok hq this.2.2.2.2).2⟩
      · cases h
end Prm
end Go.Proofs.YtpkonagjnfphkaaGreatDoor
