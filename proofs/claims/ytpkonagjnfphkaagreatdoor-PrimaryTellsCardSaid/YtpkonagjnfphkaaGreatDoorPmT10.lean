/-
  PrZ, PrM, OctetA, OctetB: several texts in one (bundle.py).
-/
import Derived.Test.YtpkonagjnfphkaaGreatDoorPmT09
import Derived.Test.YtpkonagjnfphkaaGreatDoorPmT02
import Derived.WalkLawsBesides
import Derived.Defers
import Derived.Recover
import Derived.Lib.Hide
import Derived.Laws.Bits64b
namespace Go.Proofs.YtpkonagjnfphkaaGreatDoor
open Go.RowKit Trc
set_option linter.unusedSimpArgs false
set_option linter.unusedVariables false
namespace Prm
/-- A primary. -/
structure Pr where
  flags : Nat
  sum : Int
  toN : Nat
  toS : Nat
  srN : Nat
  srS : Nat
  rpN : Nat
  rpS : Nat
  time : Nat
  seq : Nat
  life : Nat
/-- Its fields are within their types. -/
structure Pr.Ok (p : Pr) : Prop where
  f : p.flags < 4294967296
  s0 : -9223372036854775808 ≤ p.sum
  s1 : p.sum ≤ 9223372036854775807
  tn : p.toN < 4294967296
  ts : p.toS < 4294967296
  sn : p.srN < 4294967296
  ss : p.srS < 4294967296
  rn : p.rpN < 4294967296
  rs : p.rpS < 4294967296
  t : p.time < 18446744073709551616
  q : p.seq < 4294967296
  l : p.life < 18446744073709551616
def flagsB (f : Nat) : Bool := decide (f ≤ 418 ∧ (f % 128 = 0 ∨ f % 128 = 2 ∨ f % 128 = 32 ∨ f % 128 = 34) ∧ f / 128 ≤ 2)
set_option maxRecDepth 100000 in
theorem flags_small : ∀ f, f < 419 → (decide (f &&& 418 = f ∧ f / 128 ≤ 2)) = flagsB f := by decide
theorem flags_eq (f : Nat) : (decide (f &&& 418 = f ∧ f / 128 ≤ 2)) = flagsB f := by
  by_cases h : f < 419
  · exact flags_small f h
  · have h1 : f &&& 418 ≤ 418 := Nat.and_le_right
    unfold flagsB
    rw [decide_eq_false (by omega), decide_eq_false (by omega)]
def okPr (p : Pr) : Bool := flagsB p.flags && (decide (0 ≤ p.sum ∧ p.sum ≤ 2) && (decide (p.toN ≠ 0 ∧ p.srN ≠ 0) && (decide (Dig.chkP p.rpN p.rpS = 0) && decide (p.time ≤ 4611686018427387903 ∧ p.life ≤ 4611686018427387903))))
theorem okPr_parts {p : Pr} (h : okPr p = true) : flagsB p.flags = true ∧ (0 ≤ p.sum ∧ p.sum ≤ 2) ∧ (p.toN ≠ 0 ∧ p.srN ≠ 0) ∧ Dig.chkP p.rpN p.rpS = 0 ∧ p.time ≤ 4611686018427387903 ∧ p.life ≤ 4611686018427387903 := by
  unfold okPr at h
  simp only [Bool.and_eq_true, decide_eq_true_eq] at h
  exact h
theorem chkP_pos {n m : Nat} (h : n ≠ 0) : Dig.chkP n m = 0 := by unfold Dig.chkP; rw [if_neg (fun e => h e.1)]
end Prm
end Go.Proofs.YtpkonagjnfphkaaGreatDoor

namespace Go.Proofs.YtpkonagjnfphkaaGreatDoor
open Go.RowKit
set_option linter.unusedSimpArgs false
set_option linter.unusedVariables false

theorem prMust_yes (e : Int) (w : World) : Calls Tryz.prog 42 #[.bool true, .int .i64 e] w fun en w' => en = .returned (.tuple #[]) ∧ w = w' := by
  go_enter Tryz.func42, Tryz.ntmps42
  go_wp2
  go_end0
  exact ⟨rfl, rfl⟩
theorem prMust_no (e : Int) (w : World) : Calls Tryz.prog 42 #[.bool false, .int .i64 e] w fun en w' => en = .panicked (gup e) ∧ w = w' := by
  go_enter Tryz.func42, Tryz.ntmps42
  go_wp2
  exact ⟨rfl, rfl, rfl⟩
theorem prCaught_idle (p : Addr) (g : FuncId) (caps : Array Value) (w : World) :
    CallsD Tryz.prog 40 #[.pointer (some p), .func (.func g) #[] caps] .returning w fun e u' w' => e = .returned (.tuple #[]) ∧ u' = .returning ∧ w' = w := by
  refine callsD_of_wpS Tryz.func40 rfl fun c₀ cs hu => ?_
  apply wpS_seq
  apply wpS_region
  simp [wpOpsS, go_sem, recoverD, hu, Tryz.ntmps40, Exit.thenS, Array.replicate_succ]
  refine wpS_of_wp ?_
  go_wp2
  cases c₀
  simp_all [bodyPostS, results, Tryz.results40, Exit.thenS]
set_option maxRecDepth 100000 in
/-- What is given up with is noted, and what was under way is cleared. -/
theorem prCaught_gup (p : Nat) (e e0 : Int) (g : FuncId) (caps : Array Value) (hg : Enters Tryz.prog g) (w : World) (hc : w.cell? ⟨p, 0, none⟩ = some (.int .i64 e0)) (hz : w.frozen? ⟨p, 0, none⟩ = false) {R : World → Prop}
    (hcl : Calls Tryz.prog g caps (w.setCell ⟨p, 0, none⟩ (.int .i64 e)) fun en w' => en = .returned (.tuple #[]) ∧ R w') :
    CallsD Tryz.prog 40 #[.pointer (some ⟨p, 0, none⟩), .func (.func g) #[] caps] (.panicking (gup e)) w fun en u' w' => en = .returned (.tuple #[]) ∧ u' = .panicking (gupR e) ∧ R w' := by
  refine callsD_of_wpS Tryz.func40 rfl fun c₀ cs hu => ?_
  have HC := Lib.hid hcl
  clear hcl
  have hta : ∀ (e : Int) (w : World), (Instr.typeAssert (.iface 33 (.int .i64 e)) 20 33 false).run Tryz.prog w = .ok (.int .i64 e) w := fun _ _ => by kernel_rfl
  apply wpS_seq
  apply wpS_region
  simp [wpOpsS, go_sem, recoverD, hu, Tryz.ntmps40, Exit.thenS, Array.replicate_succ]
  refine wpS_of_wp ?_
  unfold Enters at hg
  go_wp2_with (refine HC.out.mono ?_; rintro en w1 ⟨rfl, hr⟩)
  cases c₀
  simp_all [bodyPostS, results, Tryz.results40, Exit.thenS]
end Go.Proofs.YtpkonagjnfphkaaGreatDoor

namespace Go.Proofs.YtpkonagjnfphkaaGreatDoor
open Go.RowKit
set_option linter.unusedSimpArgs false
set_option linter.unusedVariables false

/-- slices.Index of numbers. -/
theorem indexI_c (l : List Int) (v : Value) (n : Nat) (x : Int) (w : World) (hv : Sl w 1 v n (l.map (.int .i64))) (hn : n ≤ 9223372036854775807) :
    Calls Tryz.prog 161 #[v, .int .i64 x] w fun e w' => e = .returned (.int .i64 (idx (fun y => x == y) l)) ∧ w = w' := by
  have hln : l.length = n := by have := hv.1; simpa using this
  obtain ⟨a1, c1, rfl⟩ := hv.len
  have Hln := Lib.hid hln; clear hln
  go_enter Tryz.func161, Tryz.ntmps161
  go_wp2
  go_loop [8] (fun i => ∃ k : Nat, k ≤ n ∧ i = .int .i64 k ∧ (∀ j, j < k → ∀ hj : j < l.length, (x == l[j]) = false)) (fun i => n - (intOf i).toNat)
  case atStart => exact ⟨0, Nat.zero_le _, rfl, by intro j hj; omega⟩
  case round =>
    obtain ⟨k, hk, rfl, hno⟩ := hrel
    have Hno := Lib.hid hno; clear hno
    by_cases hlt : k < n
    · have hlt' : k < l.length := by rw [Hln.out]; exact hlt
      obtain ⟨b, off, rfl, hc⟩ := hv.cellAt (k := k) (by omega) (by omega)
      have hc1 : w.cell? ⟨b, off + k, none⟩ = some (.int .i64 l[k]) := by
        simpa [hlt'] using hc
      clear hc
      cases hpk : (x == l[k]) with
      | true =>
        go_wp2
        go_ret
        exact ⟨retI (idx_some (p := fun y => x == y) hlt' Hno.out hpk).symm, rfl⟩
      | false =>
        go_wp2
        go_round
        case rel =>
          refine ⟨k + 1, by omega, by go_num, fun j hj hj' => ?_⟩
          rcases Nat.lt_or_ge j k with h | h
          · exact Hno.out j h hj'
          · obtain rfl : j = k := by omega
            exact hpk
        case measure => simp [intOf]; omega
    · obtain rfl : k = n := by omega
      go_wp2
      go_ret
      exact ⟨retI (idx_none (p := fun y => x == y) fun j hj => Hno.out j (by rw [← Hln.out]; exact hj) hj).symm, rfl⟩

theorem containsI_c (l : List Int) (v : Value) (n : Nat) (x : Int) (w : World) (hv : Sl w 1 v n (l.map (.int .i64))) (hn : n ≤ 9223372036854775807) :
    Calls Tryz.prog 142 #[v, .int .i64 x] w fun e w' => e = .returned (.bool (l.any fun y => x == y)) ∧ w = w' := by
  go_enter Tryz.func142, Tryz.ntmps142
  go_wp2_with (go_at_call 161; refine (indexI_c l v n x _ hv hn).mono ?_; rintro e w1 ⟨rfl, rfl⟩)
  go_ret
  exact ⟨retB (idx_any _ l), rfl⟩

theorem widths_c (w : World) : Calls Tryz.prog 141 #[] w (Ret (.agg #[.int .i64 1, .int .i64 2, .int .i64 4, .int .i64 8]) w) := by
  go_enter Tryz.func141, Tryz.ntmps141
  go_wp2
  exact bodyPost_ret (v := .agg #[.int .i64 1, .int .i64 2, .int .i64 4, .int .i64 8]) (by simp [results, Tryz.results141, go_sem]) rfl ⟨rfl, below_alloc _ _⟩

namespace Oct
/-- Is it a width? -/
def okW (n : Int) : Bool := n == 1 || n == 2 || n == 4 || n == 8
theorem okW_any (n : Int) : ([1, 2, 4, 8].any fun y => n == y) = okW n := by simp [okW, Bool.or_assoc]
theorem okW_cases {n : Int} (h : okW n = true) : n = 1 ∨ n = 2 ∨ n = 4 ∨ n = 8 := by simpa [okW, or_assoc] using h
theorem mem4 {x : Int} (h : x ∈ [(1 : Int), 2, 4, 8]) : okW x = true := by simp at h; simp [okW]; omega
end Oct

theorem sl4 (w : World) (k : Nat) (hk : k = w.heap.size) (T : TypeId) : Sl (w.alloc (.cells #[.int .i64 1, .int .i64 2, .int .i64 4, .int .i64 8] T)) 1 (.slice (some ⟨k, 0, none⟩) 4 4) 4 ([1, 2, 4, 8].map (.int .i64)) := by
  subst hk
  exact Sl.of_own (World.ownsRow_lit w #[.int .i64 1, .int .i64 2, .int .i64 4, .int .i64 8] 4 (size := 1) (e := T) (Nat.le_refl _) (by decide) rfl)

theorem is_c (n : Int) (w : World) : Calls Tryz.prog 118 #[.int .i64 n] w (Ret (.bool (Oct.okW n)) w) := by
  go_enter Tryz.func118, Tryz.ntmps118
  go_wp2_with (first
    | (go_at_call 141; refine (widths_c _).mono ?_; rintro e w1 ⟨rfl, hb⟩)
    | (go_at_call 142; refine (containsI_c [1, 2, 4, 8] _ 4 _ _ (sl4 _ _ rfl _) (by decide)).mono ?_; rintro e w2 ⟨rfl, rfl⟩))
  go_ret
  exact ⟨retB (by simp [Oct.okW, Bool.or_assoc]), below_up hb (below_alloc _ _)⟩

theorem widthR_c (n : Int) (w : World) : Calls Tryz.prog 128 #[.int .i64 n] w fun e w' => e = .returned (.bool (Oct.okW n)) ∧ w = w' := by
  go_enter Tryz.func128, Tryz.ntmps128
  go_wp2
  all_goals
    go_ret
    exact ⟨retB (by unfold Oct.okW; simp [*]), rfl⟩

namespace Oct
/-- Has n no more than k bytes? -/
def fitsB (k : Int) (n : Int) : Bool := decide (n < 256 ^ k.toNat)
def leastF (n : Int) : Int := if n < 256 then 1 else if n < 65536 then 2 else if n < 4294967296 then 4 else 8
theorem leastF_ok (n : Int) : okW (leastF n) = true := by unfold leastF; split; · rfl
                                                          split; · rfl
                                                          split <;> rfl
def firstF (p : Int → Bool) (l : List Int) : Int := (l.find? p).getD 0
theorem least_find {n : Int} (h1 : n ≤ 18446744073709551615) : firstF (fun k => fitsB k n) [1, 2, 4, 8] = leastF n := by
  unfold firstF leastF fitsB
  have e1 : (256 : Int) ^ (1 : Int).toNat = 256 := by decide
  have e2 : (256 : Int) ^ (2 : Int).toNat = 65536 := by decide
  have e4 : (256 : Int) ^ (4 : Int).toNat = 4294967296 := by decide
  have e8 : (256 : Int) ^ (8 : Int).toNat = 18446744073709551616 := by decide
  simp only [List.find?, e1, e2, e4, e8]
  by_cases h : n < 256
  · simp [h]
  · by_cases h2 : n < 65536
    · simp [h, h2]
    · by_cases h3 : n < 4294967296
      · simp [h, h2, h3]
      · have h4 : n < 18446744073709551616 := by omega
        simp [h, h2, h3, h4]
end Oct
theorem fits_c (k n : Int) (w : World) (hk : Oct.okW k = true) (h0 : 0 ≤ n) (h1 : n ≤ 18446744073709551615) : Calls Tryz.prog 119 #[.agg #[.int .i64 k, .int .u64 n]] w (Ret (.bool (Oct.fitsB k n)) w) := by
  rcases Oct.okW_cases hk with rfl | rfl | rfl | rfl
  all_goals
    clear hk
    go_enter Tryz.func119, Tryz.ntmps119
    go_wp2
    all_goals
      go_ret
      refine ⟨retB ?_, below_alloc _ _⟩
      rw [Bool.eq_iff_iff]
      simp [Oct.fitsB]
      omega

/-- slices.IndexFunc of numbers. -/
theorem indexFI_c (l : List Int) (v : Value) (n : Nat) (w : World) (hv : Sl w 1 v n (l.map (.int .i64))) (hn : n * 8 ≤ 140737488351232) (f : FuncId) (hf : Enters Tryz.prog f) (caps : Array Value) (p : Int → Bool)
    (hp : ∀ x ∈ l, ∀ w1, Below w.heap.size w w1 → Calls Tryz.prog f (#[.int .i64 x] ++ caps) w1 (Ret (.bool (p x)) w1)) :
    Calls Tryz.prog 186 #[v, .func (.func f) #[] caps] w (Ret (.int .i64 (idx p l)) w) := by
  have hln : l.length = n := by have := hv.1; simpa using this
  obtain ⟨a1, c1, rfl⟩ := hv.len
  have Hln := Lib.hid hln; clear hln
  go_enter Tryz.func186, Tryz.ntmps186
  go_wp2
  go_loopw [8] (fun i wr => ∃ k : Nat, k ≤ n ∧ i = .int .i64 k ∧ (∀ j, j < k → ∀ hj : j < l.length, p l[j] = false) ∧ Below w.heap.size w wr) (fun i _ => n - (intOf i).toNat)
  case atStart => exact ⟨0, Nat.zero_le _, rfl, by intro j hj; omega, Below.refl _ _⟩
  case round =>
    obtain ⟨k, hk, rfl, hno, hB⟩ := hrel
    have hm : n ≤ 9223372036854775807 := by omega
    have Hno := Lib.hid hno; clear hno
    by_cases hlt : k < n
    · have hlt' : k < l.length := by rw [Hln.out]; exact hlt
      obtain ⟨b, off, rfl, hc⟩ := (hv.up hB).cellAt (k := k) (by omega) (by omega)
      have hc1 : wr.cell? ⟨b, off + k, none⟩ = some (.int .i64 l[k]) := by
        simpa [hlt'] using hc
      have hcall := hp l[k] (List.getElem_mem hlt') wr hB
      unfold Enters at hf
      by_cases hpk : p l[k] = true
      · rw [hpk] at hcall
        have Hpk := Lib.hid hpk; clear hpk
        go_wp2_with (refine hcall.mono ?_; rintro e w1 ⟨rfl, hb⟩)
        go_ret
        exact ⟨retI (idx_some hlt' Hno.out Hpk.out).symm, hB.trans (hb.mono hB.size)⟩
      · have hpk : p l[k] = false := by simpa using hpk
        rw [hpk] at hcall
        have Hpk := Lib.hid hpk; clear hpk
        go_wp2_with (refine hcall.mono ?_; rintro e w1 ⟨rfl, hb⟩)
        go_roundw
        case rel =>
          refine ⟨k + 1, by omega, by go_num, fun j hj hj' => ?_, hB.trans (hb.mono hB.size)⟩
          rcases Nat.lt_or_ge j k with h | h
          · exact Hno.out j h hj'
          · obtain rfl : j = k := by omega
            exact Hpk.out
        case measure => simp [intOf]; omega
    · obtain rfl : k = n := by omega
      go_wp2
      go_ret
      exact ⟨retI (idx_none fun j hj => Hno.out j (by rw [← Hln.out]; exact hj) hj).symm, hB⟩

theorem idx_find {p : Int → Bool} {l : List Int} : (idx p l = -1 ∧ Oct.firstF p l = 0) ∨ ∃ k : Nat, ∃ h : k < l.length, idx p l = k ∧ Oct.firstF p l = l[k] := by
  cases h : l.findIdx? p with
  | none =>
    left
    refine ⟨by simp [idx, h], ?_⟩
    rw [List.findIdx?_eq_none_iff] at h
    have : l.find? p = none := List.find?_eq_none.2 (by intro x hx; simp [h x hx])
    simp [Oct.firstF, this]
  | some i =>
    right
    have h' := h
    rw [List.findIdx?_eq_some_iff_getElem] at h
    obtain ⟨hi, hp, hj⟩ := h
    refine ⟨i, hi, by simp [idx, h'], ?_⟩
    have : l.find? p = some l[i] := by
      rw [List.find?_eq_some_iff_getElem]
      exact ⟨hp, i, hi, rfl, fun j hji => by have := hj j hji; simpa using this⟩
    simp [Oct.firstF, this]

theorem first_c (l : List Int) (v : Value) (n : Nat) (w : World) (hv : Sl w 1 v n (l.map (.int .i64))) (hn : n * 8 ≤ 140737488351232) (f : FuncId) (hf : Enters Tryz.prog f) (caps : Array Value) (p : Int → Bool)
    (hp : ∀ x ∈ l, ∀ w1, Below w.heap.size w w1 → Calls Tryz.prog f (#[.int .i64 x] ++ caps) w1 (Ret (.bool (p x)) w1)) :
    Calls Tryz.prog 183 #[.func (.func f) #[] caps, v] w (Ret (.int .i64 (Oct.firstF p l)) w) := by
  have hln : l.length = n := by have := hv.1; simpa using this
  rcases @idx_find p l with ⟨hi, hF⟩ | ⟨k, hk, hi, hF⟩
  · rw [hF]
    have Hi := Lib.hid hi; clear hi hF hln
    go_enter Tryz.func183, Tryz.ntmps183
    go_wp2_with (go_at_call 186; refine (indexFI_c l v n _ hv hn f hf caps p hp).mono ?_; rw [Hi.out]; rintro e w1 ⟨rfl, hb⟩)
    go_ret
    exact ⟨rfl, hb⟩
  · rw [hF]
    have Hi := Lib.hid hi; clear hi hF
    have hkn : k < n := by omega
    have Hln := Lib.hid hln; clear hln
    obtain ⟨a1, c1, rfl⟩ := hv.len
    go_enter Tryz.func183, Tryz.ntmps183
    go_wp2_with fail
    refine (indexFI_c l _ n _ hv hn f hf caps p hp).mono ?_
    rw [Hi.out]
    rintro e w1 ⟨rfl, hb⟩
    obtain ⟨b, off, rfl, hc⟩ := (hv.up hb).cellAt (k := k) (by omega) (by omega)
    have hc1 : w1.cell? ⟨b, off + k, none⟩ = some (.int .i64 l[k]) := by
      simpa [hk] using hc
    go_wp2
    go_ret
    exact ⟨rfl, hb⟩

theorem least1_c (k n : Int) (b : Nat) (w : World) (hc : w.cell? ⟨b, 0, none⟩ = some (.int .u64 n)) (hk : Oct.okW k = true) (h0 : 0 ≤ n) (h1 : n ≤ 18446744073709551615) :
    Calls Tryz.prog 184 #[.int .i64 k, .pointer (some ⟨b, 0, none⟩)] w (Ret (.bool (Oct.fitsB k n)) w) := by
  go_enter Tryz.func184, Tryz.ntmps184
  go_wp2_with (go_at_call 119; refine (fits_c k n _ hk h0 h1).mono ?_; rintro e w1 ⟨rfl, hb⟩)
  go_ret
  exact ⟨rfl, hb⟩

theorem enters_least1 : Enters Tryz.prog 184 := enters_of Tryz.func184 (by kernel_rfl) rfl

theorem least_c (n : Int) (w : World) (h0 : 0 ≤ n) (h1 : n ≤ 18446744073709551615) : Calls Tryz.prog 179 #[.int .u64 n] w (Ret (.int .i64 (Oct.leastF n)) w) := by
  have hmf : ∀ (fn : Fn) (first cap : Array Value) (w : World), (Instr.makeFunc fn first cap).run Tryz.prog w = .ok (.func fn first cap) w := fun _ _ _ _ => rfl
  rw [← Oct.least_find h1]
  go_enter Tryz.func179, Tryz.ntmps179
  go_wp2_with (first
    | (go_at_call 141; refine (widths_c _).mono ?_; rintro e w1 ⟨rfl, hb⟩)
    | (go_at_call 183; refine (first_c [1, 2, 4, 8] _ 4 _ (sl4 _ _ rfl _) (by decide) _ enters_least1 #[.pointer (some ⟨w.heap.size, 0, none⟩)] (fun k => Oct.fitsB k n) (fun x hx w2 hB => Calls.cast rfl (least1_c x n w.heap.size w2 (cell_up hB (cell_up (below_alloc _ _) (cell_up hb (cell_new _ _ _)))) (Oct.mem4 hx) h0 h1))).mono ?_; rintro e w3 ⟨rfl, hb3⟩))
  go_ret
  exact ⟨rfl, below_up (below_new hb) (below_new hb3)⟩
end Go.Proofs.YtpkonagjnfphkaaGreatDoor

namespace Go.Proofs.YtpkonagjnfphkaaGreatDoor
open Go.RowKit
set_option linter.unusedSimpArgs false
set_option linter.unusedVariables false

theorem slT_u8 : SlT Tryz.prog 48 5 1 1 := SlT.mk' Tryz.underlying48 (z := .int .u8 0) (by kernel_rfl) rfl (by decide)

/-! ### The plain law: a number's bytes, highest ahead -/
namespace Oct
def beB : Nat → Int → List UInt8
  | 0, _ => []
  | k + 1, n => beB k (n / 256) ++ [UInt8.ofNat (n % 256).toNat]
theorem beB_len (k : Nat) (n : Int) : (beB k n).length = k := by
  induction k generalizing n with
  | zero => rfl
  | succ k ih => simp [beB, ih]
/-- The number of bytes. -/
def beV (l : List UInt8) : Int := l.foldl (fun a b => a * 256 + (b.toNat : Int)) 0
theorem beV_snoc (l : List UInt8) (b : UInt8) : beV (l ++ [b]) = beV l * 256 + (b.toNat : Int) := by simp [beV]
theorem byte_mod (n : Int) : ((UInt8.ofNat (n % 256).toNat).toNat : Int) = n % 256 := by
  simp only [UInt8.toNat_ofNat']
  omega
theorem beV_lo (l : List UInt8) : 0 ≤ beV l := by
  suffices ∀ (a : Int), 0 ≤ a → 0 ≤ l.foldl (fun a b => a * 256 + (b.toNat : Int)) a from this 0 (by decide)
  induction l with
  | nil => intro a h; exact h
  | cons b l ih => intro a h; exact ih _ (by show 0 ≤ a * 256 + (b.toNat : Int); omega)
theorem beV_hi (l : List UInt8) : beV l < 256 ^ l.length := by
  suffices ∀ (l : List UInt8) (a : Int), 0 ≤ a → l.foldl (fun a b => a * 256 + (b.toNat : Int)) a < (a + 1) * 256 ^ l.length by
    have := this l 0 (by decide); simpa [beV] using this
  intro l
  induction l with
  | nil => intro a h; simp; omega
  | cons b l ih =>
    intro a h
    have hb : (b.toNat : Int) < 256 := by have := b.toNat_lt; omega
    have := ih (a * 256 + (b.toNat : Int)) (by omega)
    refine Int.lt_of_lt_of_le this ?_
    rw [List.length_cons, Int.pow_succ, Int.mul_comm (256 ^ l.length) 256, ← Int.mul_assoc]
    refine Int.mul_le_mul_of_nonneg_right (by omega) ?_
    exact Int.le_of_lt (Int.pow_pos (by decide))
theorem beV_beB (k : Nat) (n : Int) (h0 : 0 ≤ n) (h1 : n < 256 ^ k) : beV (beB k n) = n := by
  induction k generalizing n with
  | zero => simp [beB, beV]; simp at h1; omega
  | succ k ih =>
    rw [Int.pow_succ] at h1
    rw [beB, beV_snoc, byte_mod, ih (n / 256) (by omega) (by omega)]
    omega
theorem beB_beV (l : List UInt8) : beB l.length (beV l) = l := by
  suffices ∀ (k : Nat) (l : List UInt8), l.length = k → beB k (beV l) = l from this _ l rfl
  intro k
  induction k with
  | zero => intro l h; rw [List.eq_nil_of_length_eq_zero h]; rfl
  | succ k ih =>
    intro l h
    obtain ⟨l', b, rfl⟩ : ∃ l' b, l = l' ++ [b] := ⟨l.dropLast, l.getLast (by intro e; rw [e] at h; cases h), (List.dropLast_concat_getLast _).symm⟩
    have hl : l'.length = k := by simp at h; exact h
    have hb : (b.toNat : Int) < 256 := by have := b.toNat_lt; omega
    rw [beB, beV_snoc]
    have e1 : (beV l' * 256 + (b.toNat : Int)) / 256 = beV l' := by omega
    have e2 : ((beV l' * 256 + (b.toNat : Int)) % 256).toNat = b.toNat := by omega
    rw [e1, e2, ih l' hl]
    simp
/-- What Put answers: its bytes, its error. -/
def putB (n w : Int) : List UInt8 := if okW w && fitsB w n then beB w.toNat n else []
def putE (n w : Int) : Int := if okW w then (if fitsB w n then 0 else 4) else 2
end Oct

/-- One byte more, of a literal block. -/
theorem sl1 (w : World) (k : Nat) (hk : k = w.heap.size) (x : Value) (T : TypeId) : Sl (w.alloc (.cells #[x] T)) 1 (.slice (some ⟨k, 0, none⟩) 1 1) 1 [x] := by
  subst hk
  exact Sl.of_own (World.ownsRow_lit w #[x] 1 (size := 1) (e := T) (Nat.le_refl _) (by decide) rfl)

/-- A result that is bytes and an error. -/
def RetBy (base : Nat) (l : List UInt8) (er : Int) (w : World) (e : Ending) (w' : World) : Prop :=
  ∃ v, e = .returned (.tuple #[v, .int .i64 er]) ∧ w'.ownsRow base 5 1 v l.length (by8 l) ∧ Below w.heap.size w w'

theorem RetBy.of {base : Nat} {l l' : List UInt8} {er er' : Int} {v : Value} {w w' : World} (hl : l = l') (he : er = er') (ho : w'.ownsRow base 5 1 v l'.length (by8 l')) (hB : Below w.heap.size w w') :
    RetBy base l er w (.returned (.tuple #[v, .int .i64 er'])) w' := by subst hl he; exact ⟨v, rfl, ho, hB⟩

set_option maxHeartbeats 1000000 in
theorem put_bad_c (n wd : Int) (w : World) (hw : Oct.okW wd = false) :
    Calls Tryz.prog 93 #[.int .u64 n, .int .i64 wd] w (RetBy w.heap.size [] 2 w) := by
  have Hw := Lib.hid hw; clear hw
  go_enter Tryz.func93, Tryz.ntmps93
  go_wp2
  refine wp_scope_fwd 0 rfl ?_
  go_wp2_with (go_at_call 118; refine (is_c _ _).mono ?_; rw [Hw.out]; rintro e w1 ⟨rfl, hb⟩)
  go_step3
  go_wp2
  refine jump_fwd ?_
  go_wp2
  rw [jump_ret]
  go_ret2
  exact ⟨_, rfl, World.ownsRow_nil _ _ _ _, below_new hb⟩

theorem put_long_c (n wd : Int) (w : World) (h0 : 0 ≤ n) (h1 : n ≤ 18446744073709551615) (hw : Oct.okW wd = true) (hf : Oct.fitsB wd n = false) :
    Calls Tryz.prog 93 #[.int .u64 n, .int .i64 wd] w (RetBy w.heap.size [] 4 w) := by
  have Hw := Lib.hid hw
  have Hf := Lib.hid hf
  clear hf
  go_enter Tryz.func93, Tryz.ntmps93
  go_wp2
  refine wp_scope_fwd 0 rfl ?_
  go_wp2_with fail
  refine (is_c _ _).mono ?_
  rw [Hw.out]
  rintro e w1 ⟨rfl, hb⟩
  have a0 : w1.cell? ⟨w.heap.size, 0, none⟩ = some (.int .i64 wd) := cell_up hb (by simp [go_sem])
  have a1 : w1.cell? ⟨w.heap.size, 1, none⟩ = some (.int .u64 n) := cell_up hb (by simp [go_sem])
  have hb := below_new hb
  clear hw
  go_wp2_with fail
  refine (fits_c wd n _ Hw.out h0 h1).mono ?_
  rw [Hf.out]
  rintro e w2 ⟨rfl, hb2⟩
  go_wp2
  go_step3
  go_wp2
  refine jump_fwd ?_
  go_wp2
  rw [jump_ret]
  go_ret2
  exact ⟨_, rfl, World.ownsRow_nil _ _ _ _, below_up hb hb2⟩

namespace Oct
def pre (wd j : Nat) (n : Int) : List UInt8 := beB j (n / 256 ^ (wd - j))
theorem pre_zero (wd : Nat) (n : Int) : pre wd 0 n = [] := rfl
theorem pre_succ (wd j : Nat) (n : Int) (h : j < wd) : pre wd (j + 1) n = pre wd j n ++ [UInt8.ofNat (n / 256 ^ (wd - (j + 1)) % 256).toNat] := by
  unfold pre
  rw [beB]
  congr 2
  rw [Int.ediv_ediv_of_nonneg (Int.le_of_lt (Int.pow_pos (by decide))), ← Int.pow_succ]
  congr 2
  omega
theorem pre_all (wd : Nat) (n : Int) : pre wd wd n = beB wd n := by unfold pre; simp
theorem pre_len (wd j : Nat) (n : Int) : (pre wd j n).length = j := beB_len _ _
/-- The bytes grow by one: in the cells. -/
theorem pre_cells (wd j : Nat) (n m : Int) (h : j < wd) (hm : n / 256 ^ (wd - (j + 1)) % 256 = m) : by8 (pre wd j n) ++ [.int .u8 m] = by8 (pre wd (j + 1) n) := by
  rw [pre_succ wd j n h, by8_app]
  congr 1
  simp only [by8, List.map_cons, List.map_nil]
  rw [byte_mod, hm]
end Oct

set_option maxHeartbeats 1000000 in
theorem put_ok_c (n wd : Int) (w : World) (h0 : 0 ≤ n) (h1 : n ≤ 18446744073709551615) (hw : Oct.okW wd = true) (hf : Oct.fitsB wd n = true) :
    Calls Tryz.prog 93 #[.int .u64 n, .int .i64 wd] w (RetBy w.heap.size (Oct.beB wd.toNat n) 0 w) := by
  have Hw := Lib.hid hw
  have Hf := Lib.hid hf
  clear hf
  rcases Oct.okW_cases hw with rfl | rfl | rfl | rfl
  · clear hw
    go_enter Tryz.func93, Tryz.ntmps93
    go_wp2
    refine wp_scope_fwd 0 rfl ?_
    go_wp2_with fail
    refine (is_c _ _).mono ?_
    rw [Hw.out]
    rintro e w1 ⟨rfl, hb⟩
    have a0 : w1.cell? ⟨w.heap.size, 0, none⟩ = some (.int .i64 1) := cell_up hb (by simp [go_sem])
    have a1 : w1.cell? ⟨w.heap.size, 1, none⟩ = some (.int .u64 n) := cell_up hb (by simp [go_sem])
    have hb := below_new hb
    go_wp2_with fail
    refine (fits_c 1 n _ Hw.out h0 h1).mono ?_
    rw [Hf.out]
    rintro e w2 ⟨rfl, hb2⟩
    have hB := below_up hb hb2
    clear hb hb2 a0 a1
    go_wp2
    go_loopw [4, 7] (fun o i wr => ∃ j : Nat, j ≤ 1 ∧ i = .int .i64 (1 - 1 - (j : Int)) ∧ wr.ownsRow w.heap.size 5 1 o j (by8 (Oct.pre 1 j n)) ∧ Below w.heap.size w wr) (fun _ i _ => (intOf i + 1).toNat)
    case atStart => exact ⟨0, by decide, rfl, World.ownsRow_nil _ _ _ _, hB⟩
    case round =>
      obtain ⟨j, hj, rfl, ho, hB⟩ := hrel
      have hjs : j = 0 ∨ j = 1 := by omega
      rcases hjs with rfl | rfl
      · go_wp2_with (at_builtin; refine wpList_app rfl _ _ 48 rfl slT_u8 w.heap.size rfl (ho.alloc _) rfl (sl1 _ _ rfl _ _) (by intro u hu; simp at hu; subst hu; rfl) (by decide) (by decide) (by have := hB.size; simp; omega) ?_; intro o' w3 ho' hg' _)
        go_roundw
        case rel => exact ⟨1, by decide, by rfl, by rw [Oct.pre_cells 1 0 n _ (by decide) (by first | (simp; done) | (simp; omega))] at ho'; exact ho', grown_below (hB.alloc hB.size _) hg' (fun k hk => ((ho.lt k hk).1))⟩
        case measure => simp [intOf]
      · go_wp2
        rw [jump_ret]
        go_ret2
        exact ⟨_, rfl, by rw [Oct.beB_len]; rw [Oct.pre_all] at ho; exact ho, hB⟩
  · clear hw
    go_enter Tryz.func93, Tryz.ntmps93
    go_wp2
    refine wp_scope_fwd 0 rfl ?_
    go_wp2_with fail
    refine (is_c _ _).mono ?_
    rw [Hw.out]
    rintro e w1 ⟨rfl, hb⟩
    have a0 : w1.cell? ⟨w.heap.size, 0, none⟩ = some (.int .i64 2) := cell_up hb (by simp [go_sem])
    have a1 : w1.cell? ⟨w.heap.size, 1, none⟩ = some (.int .u64 n) := cell_up hb (by simp [go_sem])
    have hb := below_new hb
    go_wp2_with fail
    refine (fits_c 2 n _ Hw.out h0 h1).mono ?_
    rw [Hf.out]
    rintro e w2 ⟨rfl, hb2⟩
    have hB := below_up hb hb2
    clear hb hb2 a0 a1
    go_wp2
    go_loopw [4, 7] (fun o i wr => ∃ j : Nat, j ≤ 2 ∧ i = .int .i64 (2 - 1 - (j : Int)) ∧ wr.ownsRow w.heap.size 5 1 o j (by8 (Oct.pre 2 j n)) ∧ Below w.heap.size w wr) (fun _ i _ => (intOf i + 1).toNat)
    case atStart => exact ⟨0, by decide, rfl, World.ownsRow_nil _ _ _ _, hB⟩
    case round =>
      obtain ⟨j, hj, rfl, ho, hB⟩ := hrel
      have hjs : j = 0 ∨ j = 1 ∨ j = 2 := by omega
      rcases hjs with rfl | rfl | rfl
      · go_wp2_with (at_builtin; refine wpList_app rfl _ _ 48 rfl slT_u8 w.heap.size rfl (ho.alloc _) rfl (sl1 _ _ rfl _ _) (by intro u hu; simp at hu; subst hu; rfl) (by decide) (by decide) (by have := hB.size; simp; omega) ?_; intro o' w3 ho' hg' _)
        go_roundw
        case rel => exact ⟨1, by decide, by rfl, by rw [Oct.pre_cells 2 0 n _ (by decide) (by first | (simp; done) | (simp; omega))] at ho'; exact ho', grown_below (hB.alloc hB.size _) hg' (fun k hk => ((ho.lt k hk).1))⟩
        case measure => simp [intOf]
      · go_wp2_with (at_builtin; refine wpList_app rfl _ _ 48 rfl slT_u8 w.heap.size rfl (ho.alloc _) rfl (sl1 _ _ rfl _ _) (by intro u hu; simp at hu; subst hu; rfl) (by decide) (by decide) (by have := hB.size; simp; omega) ?_; intro o' w3 ho' hg' _)
        go_roundw
        case rel => exact ⟨2, by decide, by rfl, by rw [Oct.pre_cells 2 1 n _ (by decide) (by first | (simp; done) | (simp; omega))] at ho'; exact ho', grown_below (hB.alloc hB.size _) hg' (fun k hk => ((ho.lt k hk).1))⟩
        case measure => simp [intOf]
      · go_wp2
        rw [jump_ret]
        go_ret2
        exact ⟨_, rfl, by rw [Oct.beB_len]; rw [Oct.pre_all] at ho; exact ho, hB⟩
  · clear hw
    go_enter Tryz.func93, Tryz.ntmps93
    go_wp2
    refine wp_scope_fwd 0 rfl ?_
    go_wp2_with fail
    refine (is_c _ _).mono ?_
    rw [Hw.out]
    rintro e w1 ⟨rfl, hb⟩
    have a0 : w1.cell? ⟨w.heap.size, 0, none⟩ = some (.int .i64 4) := cell_up hb (by simp [go_sem])
    have a1 : w1.cell? ⟨w.heap.size, 1, none⟩ = some (.int .u64 n) := cell_up hb (by simp [go_sem])
    have hb := below_new hb
    go_wp2_with fail
    refine (fits_c 4 n _ Hw.out h0 h1).mono ?_
    rw [Hf.out]
    rintro e w2 ⟨rfl, hb2⟩
    have hB := below_up hb hb2
    clear hb hb2 a0 a1
    go_wp2
    go_loopw [4, 7] (fun o i wr => ∃ j : Nat, j ≤ 4 ∧ i = .int .i64 (4 - 1 - (j : Int)) ∧ wr.ownsRow w.heap.size 5 1 o j (by8 (Oct.pre 4 j n)) ∧ Below w.heap.size w wr) (fun _ i _ => (intOf i + 1).toNat)
    case atStart => exact ⟨0, by decide, rfl, World.ownsRow_nil _ _ _ _, hB⟩
    case round =>
      obtain ⟨j, hj, rfl, ho, hB⟩ := hrel
      have hjs : j = 0 ∨ j = 1 ∨ j = 2 ∨ j = 3 ∨ j = 4 := by omega
      rcases hjs with rfl | rfl | rfl | rfl | rfl
      · go_wp2_with (at_builtin; refine wpList_app rfl _ _ 48 rfl slT_u8 w.heap.size rfl (ho.alloc _) rfl (sl1 _ _ rfl _ _) (by intro u hu; simp at hu; subst hu; rfl) (by decide) (by decide) (by have := hB.size; simp; omega) ?_; intro o' w3 ho' hg' _)
        go_roundw
        case rel => exact ⟨1, by decide, by rfl, by rw [Oct.pre_cells 4 0 n _ (by decide) (by first | (simp; done) | (simp; omega))] at ho'; exact ho', grown_below (hB.alloc hB.size _) hg' (fun k hk => ((ho.lt k hk).1))⟩
        case measure => simp [intOf]
      · go_wp2_with (at_builtin; refine wpList_app rfl _ _ 48 rfl slT_u8 w.heap.size rfl (ho.alloc _) rfl (sl1 _ _ rfl _ _) (by intro u hu; simp at hu; subst hu; rfl) (by decide) (by decide) (by have := hB.size; simp; omega) ?_; intro o' w3 ho' hg' _)
        go_roundw
        case rel => exact ⟨2, by decide, by rfl, by rw [Oct.pre_cells 4 1 n _ (by decide) (by first | (simp; done) | (simp; omega))] at ho'; exact ho', grown_below (hB.alloc hB.size _) hg' (fun k hk => ((ho.lt k hk).1))⟩
        case measure => simp [intOf]
      · go_wp2_with (at_builtin; refine wpList_app rfl _ _ 48 rfl slT_u8 w.heap.size rfl (ho.alloc _) rfl (sl1 _ _ rfl _ _) (by intro u hu; simp at hu; subst hu; rfl) (by decide) (by decide) (by have := hB.size; simp; omega) ?_; intro o' w3 ho' hg' _)
        go_roundw
        case rel => exact ⟨3, by decide, by rfl, by rw [Oct.pre_cells 4 2 n _ (by decide) (by first | (simp; done) | (simp; omega))] at ho'; exact ho', grown_below (hB.alloc hB.size _) hg' (fun k hk => ((ho.lt k hk).1))⟩
        case measure => simp [intOf]
      · go_wp2_with (at_builtin; refine wpList_app rfl _ _ 48 rfl slT_u8 w.heap.size rfl (ho.alloc _) rfl (sl1 _ _ rfl _ _) (by intro u hu; simp at hu; subst hu; rfl) (by decide) (by decide) (by have := hB.size; simp; omega) ?_; intro o' w3 ho' hg' _)
        go_roundw
        case rel => exact ⟨4, by decide, by rfl, by rw [Oct.pre_cells 4 3 n _ (by decide) (by first | (simp; done) | (simp; omega))] at ho'; exact ho', grown_below (hB.alloc hB.size _) hg' (fun k hk => ((ho.lt k hk).1))⟩
        case measure => simp [intOf]
      · go_wp2
        rw [jump_ret]
        go_ret2
        exact ⟨_, rfl, by rw [Oct.beB_len]; rw [Oct.pre_all] at ho; exact ho, hB⟩
  · clear hw
    go_enter Tryz.func93, Tryz.ntmps93
    go_wp2
    refine wp_scope_fwd 0 rfl ?_
    go_wp2_with fail
    refine (is_c _ _).mono ?_
    rw [Hw.out]
    rintro e w1 ⟨rfl, hb⟩
    have a0 : w1.cell? ⟨w.heap.size, 0, none⟩ = some (.int .i64 8) := cell_up hb (by simp [go_sem])
    have a1 : w1.cell? ⟨w.heap.size, 1, none⟩ = some (.int .u64 n) := cell_up hb (by simp [go_sem])
    have hb := below_new hb
    go_wp2_with fail
    refine (fits_c 8 n _ Hw.out h0 h1).mono ?_
    rw [Hf.out]
    rintro e w2 ⟨rfl, hb2⟩
    have hB := below_up hb hb2
    clear hb hb2 a0 a1
    go_wp2
    go_loopw [4, 7] (fun o i wr => ∃ j : Nat, j ≤ 8 ∧ i = .int .i64 (8 - 1 - (j : Int)) ∧ wr.ownsRow w.heap.size 5 1 o j (by8 (Oct.pre 8 j n)) ∧ Below w.heap.size w wr) (fun _ i _ => (intOf i + 1).toNat)
    case atStart => exact ⟨0, by decide, rfl, World.ownsRow_nil _ _ _ _, hB⟩
    case round =>
      obtain ⟨j, hj, rfl, ho, hB⟩ := hrel
      have hjs : j = 0 ∨ j = 1 ∨ j = 2 ∨ j = 3 ∨ j = 4 ∨ j = 5 ∨ j = 6 ∨ j = 7 ∨ j = 8 := by omega
      rcases hjs with rfl | rfl | rfl | rfl | rfl | rfl | rfl | rfl | rfl
      · go_wp2_with (at_builtin; refine wpList_app rfl _ _ 48 rfl slT_u8 w.heap.size rfl (ho.alloc _) rfl (sl1 _ _ rfl _ _) (by intro u hu; simp at hu; subst hu; rfl) (by decide) (by decide) (by have := hB.size; simp; omega) ?_; intro o' w3 ho' hg' _)
        go_roundw
        case rel => exact ⟨1, by decide, by rfl, by rw [Oct.pre_cells 8 0 n _ (by decide) (by first | (simp; done) | (simp; omega))] at ho'; exact ho', grown_below (hB.alloc hB.size _) hg' (fun k hk => ((ho.lt k hk).1))⟩
        case measure => simp [intOf]
      · go_wp2_with (at_builtin; refine wpList_app rfl _ _ 48 rfl slT_u8 w.heap.size rfl (ho.alloc _) rfl (sl1 _ _ rfl _ _) (by intro u hu; simp at hu; subst hu; rfl) (by decide) (by decide) (by have := hB.size; simp; omega) ?_; intro o' w3 ho' hg' _)
        go_roundw
        case rel => exact ⟨2, by decide, by rfl, by rw [Oct.pre_cells 8 1 n _ (by decide) (by first | (simp; done) | (simp; omega))] at ho'; exact ho', grown_below (hB.alloc hB.size _) hg' (fun k hk => ((ho.lt k hk).1))⟩
        case measure => simp [intOf]
      · go_wp2_with (at_builtin; refine wpList_app rfl _ _ 48 rfl slT_u8 w.heap.size rfl (ho.alloc _) rfl (sl1 _ _ rfl _ _) (by intro u hu; simp at hu; subst hu; rfl) (by decide) (by decide) (by have := hB.size; simp; omega) ?_; intro o' w3 ho' hg' _)
        go_roundw
        case rel => exact ⟨3, by decide, by rfl, by rw [Oct.pre_cells 8 2 n _ (by decide) (by first | (simp; done) | (simp; omega))] at ho'; exact ho', grown_below (hB.alloc hB.size _) hg' (fun k hk => ((ho.lt k hk).1))⟩
        case measure => simp [intOf]
      · go_wp2_with (at_builtin; refine wpList_app rfl _ _ 48 rfl slT_u8 w.heap.size rfl (ho.alloc _) rfl (sl1 _ _ rfl _ _) (by intro u hu; simp at hu; subst hu; rfl) (by decide) (by decide) (by have := hB.size; simp; omega) ?_; intro o' w3 ho' hg' _)
        go_roundw
        case rel => exact ⟨4, by decide, by rfl, by rw [Oct.pre_cells 8 3 n _ (by decide) (by first | (simp; done) | (simp; omega))] at ho'; exact ho', grown_below (hB.alloc hB.size _) hg' (fun k hk => ((ho.lt k hk).1))⟩
        case measure => simp [intOf]
      · go_wp2_with (at_builtin; refine wpList_app rfl _ _ 48 rfl slT_u8 w.heap.size rfl (ho.alloc _) rfl (sl1 _ _ rfl _ _) (by intro u hu; simp at hu; subst hu; rfl) (by decide) (by decide) (by have := hB.size; simp; omega) ?_; intro o' w3 ho' hg' _)
        go_roundw
        case rel => exact ⟨5, by decide, by rfl, by rw [Oct.pre_cells 8 4 n _ (by decide) (by first | (simp; done) | (simp; omega))] at ho'; exact ho', grown_below (hB.alloc hB.size _) hg' (fun k hk => ((ho.lt k hk).1))⟩
        case measure => simp [intOf]
      · go_wp2_with (at_builtin; refine wpList_app rfl _ _ 48 rfl slT_u8 w.heap.size rfl (ho.alloc _) rfl (sl1 _ _ rfl _ _) (by intro u hu; simp at hu; subst hu; rfl) (by decide) (by decide) (by have := hB.size; simp; omega) ?_; intro o' w3 ho' hg' _)
        go_roundw
        case rel => exact ⟨6, by decide, by rfl, by rw [Oct.pre_cells 8 5 n _ (by decide) (by first | (simp; done) | (simp; omega))] at ho'; exact ho', grown_below (hB.alloc hB.size _) hg' (fun k hk => ((ho.lt k hk).1))⟩
        case measure => simp [intOf]
      · go_wp2_with (at_builtin; refine wpList_app rfl _ _ 48 rfl slT_u8 w.heap.size rfl (ho.alloc _) rfl (sl1 _ _ rfl _ _) (by intro u hu; simp at hu; subst hu; rfl) (by decide) (by decide) (by have := hB.size; simp; omega) ?_; intro o' w3 ho' hg' _)
        go_roundw
        case rel => exact ⟨7, by decide, by rfl, by rw [Oct.pre_cells 8 6 n _ (by decide) (by first | (simp; done) | (simp; omega))] at ho'; exact ho', grown_below (hB.alloc hB.size _) hg' (fun k hk => ((ho.lt k hk).1))⟩
        case measure => simp [intOf]
      · go_wp2_with (at_builtin; refine wpList_app rfl _ _ 48 rfl slT_u8 w.heap.size rfl (ho.alloc _) rfl (sl1 _ _ rfl _ _) (by intro u hu; simp at hu; subst hu; rfl) (by decide) (by decide) (by have := hB.size; simp; omega) ?_; intro o' w3 ho' hg' _)
        go_roundw
        case rel => exact ⟨8, by decide, by rfl, by rw [Oct.pre_cells 8 7 n _ (by decide) (by first | (simp; done) | (simp; omega))] at ho'; exact ho', grown_below (hB.alloc hB.size _) hg' (fun k hk => ((ho.lt k hk).1))⟩
        case measure => simp [intOf]
      · go_wp2
        rw [jump_ret]
        go_ret2
        exact ⟨_, rfl, by rw [Oct.beB_len]; rw [Oct.pre_all] at ho; exact ho, hB⟩

namespace Oct
theorem fitsB_lt {wd n : Int} (hf : fitsB wd n = true) : n < 256 ^ wd.toNat := by simpa [fitsB] using hf
end Oct
/-- octet.Put. -/
theorem put_c (n wd : Int) (w : World) (h0 : 0 ≤ n) (h1 : n ≤ 18446744073709551615) :
    Calls Tryz.prog 93 #[.int .u64 n, .int .i64 wd] w (RetBy w.heap.size (Oct.putB n wd) (Oct.putE n wd) w) := by
  unfold Oct.putB Oct.putE
  cases hw : Oct.okW wd with
  | false => exact put_bad_c n wd w hw
  | true =>
    cases hf : Oct.fitsB wd n with
    | false => exact put_long_c n wd w h0 h1 hw hf
    | true => exact put_ok_c n wd w h0 h1 hw hf
end Go.Proofs.YtpkonagjnfphkaaGreatDoor
