/-
  CbA, NmA, NmBd: several texts in one (bundle.py).
-/
import Derived.Test.YtpfgepgjpnekdaaDoorNmH06
import Derived.Test.YtpfgepgjpnekdaaDoorNmH05
import Derived.WalkLawsBesides
import Derived.Defers
import Derived.Recover
import Derived.Lib.Hide
namespace Go.Proofs.YtpfgepgjpnekdaaDoor
open Go.RowKit
set_option linter.unusedSimpArgs false
set_option linter.unusedVariables false

/-- What must gives up with. -/
abbrev gup (e : Int) : List PanicEntry := [{ v := .iface 26 (.int .i64 e), recovered := false }]
abbrev gupR (e : Int) : List PanicEntry := [{ v := .iface 26 (.int .i64 e), recovered := true }]
end Go.Proofs.YtpfgepgjpnekdaaDoor

namespace Go.Proofs.YtpfgepgjpnekdaaDoor
open Go.RowKit
set_option linter.unusedSimpArgs false
set_option linter.unusedVariables false

theorem nmMust_yes (e : Int) (w : World) : Calls Tryd.prog 39 #[.bool true, .int .i64 e] w fun en w' => en = .returned (.tuple #[]) ∧ w = w' := by
  go_enter Tryd.func39, Tryd.ntmps39
  go_wp2
  go_end0
  exact ⟨rfl, rfl⟩
theorem nmMust_no (e : Int) (w : World) : Calls Tryd.prog 39 #[.bool false, .int .i64 e] w fun en w' => en = .panicked (gup e) ∧ w = w' := by
  go_enter Tryd.func39, Tryd.ntmps39
  go_wp2
  exact ⟨rfl, rfl, rfl⟩
theorem nmCaught_idle (p : Addr) (g : FuncId) (caps : Array Value) (w : World) :
    CallsD Tryd.prog 37 #[.pointer (some p), .func (.func g) #[] caps] .returning w fun e u' w' => e = .returned (.tuple #[]) ∧ u' = .returning ∧ w' = w := by
  refine callsD_of_wpS Tryd.func37 rfl fun c₀ cs hu => ?_
  apply wpS_seq
  apply wpS_region
  simp [wpOpsS, go_sem, recoverD, hu, Tryd.ntmps37, Exit.thenS, Array.replicate_succ]
  refine wpS_of_wp ?_
  go_wp2
  cases c₀
  simp_all [bodyPostS, results, Tryd.results37, Exit.thenS]
set_option maxRecDepth 100000 in
/-- What is given up with is noted, and what was under way is cleared. -/
theorem nmCaught_gup (p : Nat) (e e0 : Int) (g : FuncId) (caps : Array Value) (hg : Enters Tryd.prog g) (w : World) (hc : w.cell? ⟨p, 0, none⟩ = some (.int .i64 e0)) (hz : w.frozen? ⟨p, 0, none⟩ = false) {R : World → Prop}
    (hcl : Calls Tryd.prog g caps (w.setCell ⟨p, 0, none⟩ (.int .i64 e)) fun en w' => en = .returned (.tuple #[]) ∧ R w') :
    CallsD Tryd.prog 37 #[.pointer (some ⟨p, 0, none⟩), .func (.func g) #[] caps] (.panicking (gup e)) w fun en u' w' => en = .returned (.tuple #[]) ∧ u' = .panicking (gupR e) ∧ R w' := by
  refine callsD_of_wpS Tryd.func37 rfl fun c₀ cs hu => ?_
  have HC := Lib.hid hcl
  clear hcl
  have hta : ∀ (e : Int) (w : World), (Instr.typeAssert (.iface 26 (.int .i64 e)) 20 26 false).run Tryd.prog w = .ok (.int .i64 e) w := fun _ _ => by kernel_rfl
  apply wpS_seq
  apply wpS_region
  simp [wpOpsS, go_sem, recoverD, hu, Tryd.ntmps37, Exit.thenS, Array.replicate_succ]
  refine wpS_of_wp ?_
  unfold Enters at hg
  go_wp2_with (refine HC.out.mono ?_; rintro en w1 ⟨rfl, hr⟩)
  cases c₀
  simp_all [bodyPostS, results, Tryd.results37, Exit.thenS]
end Go.Proofs.YtpfgepgjpnekdaaDoor

namespace Go.Proofs.YtpfgepgjpnekdaaDoor
open Go.RowKit
set_option linter.unusedSimpArgs false
set_option linter.unusedVariables false

namespace Dig
theorem uintM_eq : ∀ (l : List UInt8) (a : Nat), Lib.parseUintM (2 ^ 64 - 1) a l = Lib.parseUint10 a l
  | [], a => rfl
  | c :: l, a => by
    rw [Lib.parseUintM, Lib.parseUint10, uintM_eq l]
    have e : (2 ^ 64 - 1 < a * 10 + (c.toNat - 48)) = (18446744073709551616 ≤ a * 10 + (c.toNat - 48)) := propext (by omega)
    simp only [e]
theorem uintB_eq (l : List UInt8) : Lib.parseUintB 64 l = Lib.parseMag l := by
  unfold Lib.parseUintB Lib.parseMag
  rw [uintM_eq]
theorem toNum_none {l : List UInt8} {bound : Nat} (hb : bound < 10000000000000000000) (h : ∀ n, ¬ (Lib.parseMag l = .ok n ∧ n ≤ bound ∧ Lib.decDigits n = l)) : toNum l bound = none := by
  cases hn : toNum l bound with
  | none => rfl
  | some n => exact absurd ((bounded_iff l bound n (by omega)).2 ((toNum_iff l bound n hb).1 hn)) (h n)
theorem toNum_some {l : List UInt8} {bound n : Nat} (hb : bound < 10000000000000000000) (h1 : Lib.parseMag l = .ok n) (h2 : n ≤ bound) (h3 : Lib.decDigits n = l) : toNum l bound = some n :=
  (toNum_iff l bound n hb).2 ((bounded_iff l bound n (by omega)).1 ⟨h1, h2, h3⟩)
theorem toNum_le {l : List UInt8} {bound n : Nat} (h : toNum l bound = some n) : n ≤ bound := by
  unfold toNum at h
  split at h
  · cases h
  · split at h
    · cases h
    · cases h; omega
end Dig
/-- What ParseUint tells of what is no number. -/
def NoNum (w : World) (en : Ending) (w' : World) : Prop := Below w.heap.size w w' ∧ ∃ (n : Int) (t : TypeId) (p : Addr), en = .returned (.tuple #[.int .u64 n, .iface t (.pointer (some p))])
theorem pu_ok (l : List UInt8) (hl : l.length ≤ 281474976710656) (u : Nat) (h : Lib.parseMag l = .ok u) (w : World) :
    Calls Tryd.prog 81 #[strV l, .int .i64 10, .int .i64 64] w (Ret (.tuple #[.int .u64 u, .nilIface]) w) := by
  have hq : Calls Tryd.prog 81 #[strV l, .int .i64 10, .int .i64 64] w _ := Any.strconv_ParseUint_10_at64_ok laysPu14 ⟨l.toArray⟩ (by show l.toArray.size ≤ _; simp; omega) u (by rw [Dig.uintB_eq]; exact h) w
  refine hq.mono fun en w' ⟨he, hw⟩ => ⟨he, ?_⟩
  rcases hw with rfl | rfl
  · exact Below.refl _ _
  · exact Lib.bytesWorld_below _ _ _
theorem pu_no (l : List UInt8) (hl : l.length ≤ 281474976710656) (h : ∀ u, Lib.parseMag l ≠ .ok u) (w : World) (hT : NmT w) :
    Calls Tryd.prog 81 #[strV l, .int .i64 10, .int .i64 64] w (NoNum w) := by
  obtain ⟨v1, h1, k1⟩ := hT.syn
  obtain ⟨v2, h2, k2⟩ := hT.rng
  have hsz : (⟨l.toArray⟩ : ByteArray).size ≤ 281474976710656 := by show l.toArray.size ≤ _; simp; omega
  cases hp : Lib.parseMag l with
  | ok u => exact absurd hp (h u)
  | «syntax» =>
    have hq : Calls Tryd.prog 81 #[strV l, .int .i64 10, .int .i64 64] w _ := Any.strconv_ParseUint_10_at64_syntax laysPu14 ⟨l.toArray⟩ hsz (by rw [Dig.uintB_eq]; exact hp) v1 w h1 k1
    exact hq.mono fun en w' ⟨N, he, _, _, hb⟩ => ⟨hb, _, _, _, he⟩
  | range =>
    have hq : Calls Tryd.prog 81 #[strV l, .int .i64 10, .int .i64 64] w _ := Any.strconv_ParseUint_10_at64_range laysPu14 ⟨l.toArray⟩ hsz (by rw [Dig.uintB_eq]; exact hp) v2 w h2 k2
    exact hq.mono fun en w' ⟨N, he, _, _, hb⟩ => ⟨hb, _, _, _, he⟩
/-- What bounded tells. -/
def Bdd (l : List UInt8) (bound : Nat) (w : World) (en : Ending) (w' : World) : Prop := Below w.heap.size w w' ∧ match Dig.toNum l bound with
  | some n => en = .returned (.int .u64 n)
  | none => en = .panicked (gup 130)
theorem Bdd.no {l : List UInt8} {bound : Nat} (hb : bound < 10000000000000000000) (h : ∀ n, ¬ (Lib.parseMag l = .ok n ∧ n ≤ bound ∧ Lib.decDigits n = l)) {w w' : World} (hw : Below w.heap.size w w') : Bdd l bound w (.panicked (gup 130)) w' :=
  ⟨hw, by rw [Dig.toNum_none hb h]⟩
set_option maxHeartbeats 1000000 in
set_option maxRecDepth 100000 in
theorem bounded_c (l : List UInt8) (hl : l.length ≤ 281474976710656) (bound : Nat) (hbd : bound < 10000000000000000000) (w : World) (hT : NmT w) :
    Calls Tryd.prog 43 #[strV l, .int .u64 bound] w (Bdd l bound w) := by
  have HT := Lib.hid hT
  clear hT
  by_cases hp : ∃ u, Lib.parseMag l = .ok u
  · obtain ⟨u, hu⟩ := hp
    have HU := Lib.hid hu
    have hu64 := Lib.parseMag_lt hu
    have hpu := Lib.hid (pu_ok l hl u hu w)
    clear hu
    by_cases hle : u ≤ bound
    · have hd : decide ((u : Int) ≤ (bound : Int)) = true := by simp; omega
      by_cases he : Lib.decDigits u = l
      · have HE := Lib.hid (Dig.toNum_some hbd HU.out hle he)
        have hbe : (Lib.decDigits u == l) = true := by simp [he]
        clear he
        go_enter Tryd.func43, Tryd.ntmps43
        go_wp2_with (first
          | (go_at_call 81; refine hpu.out.mono ?_; rintro e w1 ⟨rfl, hb1⟩)
          | (go_at_call 53; refine (num64_c u hu64 _ (HT.out.up hb1)).mono ?_; rintro e w2 ⟨rfl, hb2⟩)
          | (go_at_call 39; (with_reducible refine (nmMust_yes _ _).mono ?_); rintro e w3 ⟨rfl, rfl⟩))
        go_ret
        exact ⟨below_up hb1 hb2, by rw [HE.out]; rfl⟩
      · have hbe : (Lib.decDigits u == l) = false := by simp [he]
        go_enter Tryd.func43, Tryd.ntmps43
        go_wp2_with (first
          | (go_at_call 81; refine hpu.out.mono ?_; rintro e w1 ⟨rfl, hb1⟩)
          | (go_at_call 53; refine (num64_c u hu64 _ (HT.out.up hb1)).mono ?_; rintro e w2 ⟨rfl, hb2⟩)
          | (go_at_call 39; (with_reducible refine (nmMust_no _ _).mono ?_); rintro e w3 ⟨rfl, rfl⟩))
        exact ⟨rfl, Bdd.no hbd (fun n hn => he (by have := HU.out.symm.trans hn.1; simp only [Lib.NumEnd.ok.injEq] at this; subst this; exact hn.2.2)) (below_up hb1 hb2)⟩
    · have hd : decide ((u : Int) ≤ (bound : Int)) = false := by simp; omega
      go_enter Tryd.func43, Tryd.ntmps43
      go_wp2_with (first
        | (go_at_call 81; refine hpu.out.mono ?_; rintro e w1 ⟨rfl, hb1⟩)
        | (go_at_call 39; (with_reducible refine (nmMust_no _ _).mono ?_); rintro e w3 ⟨rfl, rfl⟩))
      exact ⟨rfl, Bdd.no hbd (fun n hn => hle (by have := HU.out.symm.trans hn.1; simp only [Lib.NumEnd.ok.injEq] at this; subst this; exact hn.2.1)) hb1⟩
  · have hpu := Lib.hid (pu_no l hl (fun u hu => hp ⟨u, hu⟩) w HT.out)
    go_enter Tryd.func43, Tryd.ntmps43
    go_wp2_with (first
      | (go_at_call 81; refine hpu.out.mono ?_; rintro e w1 ⟨hb1, n, t, p, rfl⟩)
      | (go_at_call 39; (with_reducible refine (nmMust_no _ _).mono ?_); rintro e w3 ⟨rfl, rfl⟩))
    exact ⟨rfl, Bdd.no hbd (fun n hn => hp ⟨n, hn.1⟩) hb1⟩
end Go.Proofs.YtpfgepgjpnekdaaDoor
