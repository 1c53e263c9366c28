/-
  CbA, NmA, NmBd, NmUp, PiO: several texts in one (bundle.py).
-/
import Derived.Test.YtpfgepgjpnekdaaDoorNmI02
import Derived.WalkLawsBesides
import Derived.Defers
import Derived.Recover
import Derived.Lib.Hide
import Derived.Test.YtpfgepgjpnekdaaDoorNmI13
import Derived.Test.YtpfgepgjpnekdaaDoorNmI03
import Derived.Lib.OthersKept
namespace Go.Proofs.YtpfgepgjpnekdaaDoor
open Go.RowKit
set_option linter.unusedSimpArgs false
set_option linter.unusedVariables false

/-- What must gives up with. -/
abbrev gup (e : Int) : List PanicEntry := [{ v := .iface 26 (.int .i64 e), recovered := false }]
abbrev gupR (e : Int) : List PanicEntry := [{ v := .iface 26 (.int .i64 e), recovered := true }]
end Go.Proofs.YtpfgepgjpnekdaaDoor

namespace Go.Proofs.YtpfgepgjpnekdaaDoor
open Go.RowKit
set_option linter.unusedSimpArgs false
set_option linter.unusedVariables false

theorem nmMust_yes (e : Int) (w : World) : Calls Tryd.prog 39 #[.bool true, .int .i64 e] w fun en w' => en = .returned (.tuple #[]) ∧ w = w' := by
  go_enter Tryd.func39, Tryd.ntmps39
  go_wp2
  go_end0
  exact ⟨rfl, rfl⟩
theorem nmMust_no (e : Int) (w : World) : Calls Tryd.prog 39 #[.bool false, .int .i64 e] w fun en w' => en = .panicked (gup e) ∧ w = w' := by
  go_enter Tryd.func39, Tryd.ntmps39
  go_wp2
  exact ⟨rfl, rfl, rfl⟩
theorem nmCaught_idle (p : Addr) (g : FuncId) (caps : Array Value) (w : World) :
    CallsD Tryd.prog 37 #[.pointer (some p), .func (.func g) #[] caps] .returning w fun e u' w' => e = .returned (.tuple #[]) ∧ u' = .returning ∧ w' = w := by
  refine callsD_of_wpS Tryd.func37 rfl fun c₀ cs hu => ?_
  apply wpS_seq
  apply wpS_region
  simp [wpOpsS, go_sem, recoverD, hu, Tryd.ntmps37, Exit.thenS, Array.replicate_succ]
  refine wpS_of_wp ?_
  go_wp2
  cases c₀
  simp_all [bodyPostS, results, Tryd.results37, Exit.thenS]
set_option maxRecDepth 100000 in
/-- What is given up with is noted, and what was under way is cleared. -/
theorem nmCaught_gup (p : Nat) (e e0 : Int) (g : FuncId) (caps : Array Value) (hg : Enters Tryd.prog g) (w : World) (hc : w.cell? ⟨p, 0, none⟩ = some (.int .i64 e0)) (hz : w.frozen? ⟨p, 0, none⟩ = false) {R : World → Prop}
    (hcl : Calls Tryd.prog g caps (w.setCell ⟨p, 0, none⟩ (.int .i64 e)) fun en w' => en = .returned (.tuple #[]) ∧ R w') :
    CallsD Tryd.prog 37 #[.pointer (some ⟨p, 0, none⟩), .func (.func g) #[] caps] (.panicking (gup e)) w fun en u' w' => en = .returned (.tuple #[]) ∧ u' = .panicking (gupR e) ∧ R w' := by
  refine callsD_of_wpS Tryd.func37 rfl fun c₀ cs hu => ?_
  have HC := Lib.hid hcl
  clear hcl
  have hta : ∀ (e : Int) (w : World), (Instr.typeAssert (.iface 26 (.int .i64 e)) 20 26 false).run Tryd.prog w = .ok (.int .i64 e) w := fun _ _ => by kernel_rfl
  apply wpS_seq
  apply wpS_region
  simp [wpOpsS, go_sem, recoverD, hu, Tryd.ntmps37, Exit.thenS, Array.replicate_succ]
  refine wpS_of_wp ?_
  unfold Enters at hg
  go_wp2_with (refine HC.out.mono ?_; rintro en w1 ⟨rfl, hr⟩)
  cases c₀
  simp_all [bodyPostS, results, Tryd.results37, Exit.thenS]
end Go.Proofs.YtpfgepgjpnekdaaDoor

namespace Go.Proofs.YtpfgepgjpnekdaaDoor
open Go.RowKit
set_option linter.unusedSimpArgs false
set_option linter.unusedVariables false

namespace Dig
theorem uintM_eq : ∀ (l : List UInt8) (a : Nat), Lib.parseUintM (2 ^ 64 - 1) a l = Lib.parseUint10 a l
  | [], a => rfl
  | c :: l, a => by
    rw [Lib.parseUintM, Lib.parseUint10, uintM_eq l]
    have e : (2 ^ 64 - 1 < a * 10 + (c.toNat - 48)) = (18446744073709551616 ≤ a * 10 + (c.toNat - 48)) := propext (by omega)
    simp only [e]
theorem uintB_eq (l : List UInt8) : Lib.parseUintB 64 l = Lib.parseMag l := by
  unfold Lib.parseUintB Lib.parseMag
  rw [uintM_eq]
theorem toNum_none {l : List UInt8} {bound : Nat} (hb : bound < 10000000000000000000) (h : ∀ n, ¬ (Lib.parseMag l = .ok n ∧ n ≤ bound ∧ Lib.decDigits n = l)) : toNum l bound = none := by
  cases hn : toNum l bound with
  | none => rfl
  | some n => exact absurd ((bounded_iff l bound n (by omega)).2 ((toNum_iff l bound n hb).1 hn)) (h n)
theorem toNum_some {l : List UInt8} {bound n : Nat} (hb : bound < 10000000000000000000) (h1 : Lib.parseMag l = .ok n) (h2 : n ≤ bound) (h3 : Lib.decDigits n = l) : toNum l bound = some n :=
  (toNum_iff l bound n hb).2 ((bounded_iff l bound n (by omega)).1 ⟨h1, h2, h3⟩)
theorem toNum_le {l : List UInt8} {bound n : Nat} (h : toNum l bound = some n) : n ≤ bound := by
  unfold toNum at h
  split at h
  · cases h
  · split at h
    · cases h
    · cases h; omega
end Dig
/-- What ParseUint tells of what is no number. -/
def NoNum (w : World) (en : Ending) (w' : World) : Prop := Below w.heap.size w w' ∧ ∃ (n : Int) (t : TypeId) (p : Addr), en = .returned (.tuple #[.int .u64 n, .iface t (.pointer (some p))])
theorem pu_ok (l : List UInt8) (hl : l.length ≤ 281474976710656) (u : Nat) (h : Lib.parseMag l = .ok u) (w : World) :
    Calls Tryd.prog 81 #[strV l, .int .i64 10, .int .i64 64] w (Ret (.tuple #[.int .u64 u, .nilIface]) w) := by
  have hq : Calls Tryd.prog 81 #[strV l, .int .i64 10, .int .i64 64] w _ := Any.strconv_ParseUint_10_at64_ok laysPu14 ⟨l.toArray⟩ (by show l.toArray.size ≤ _; simp; omega) u (by rw [Dig.uintB_eq]; exact h) w
  refine hq.mono fun en w' ⟨he, hw⟩ => ⟨he, ?_⟩
  rcases hw with rfl | rfl
  · exact Below.refl _ _
  · exact Lib.bytesWorld_below _ _ _
theorem pu_no (l : List UInt8) (hl : l.length ≤ 281474976710656) (h : ∀ u, Lib.parseMag l ≠ .ok u) (w : World) (hT : NmT w) :
    Calls Tryd.prog 81 #[strV l, .int .i64 10, .int .i64 64] w (NoNum w) := by
  obtain ⟨v1, h1, k1⟩ := hT.syn
  obtain ⟨v2, h2, k2⟩ := hT.rng
  have hsz : (⟨l.toArray⟩ : ByteArray).size ≤ 281474976710656 := by show l.toArray.size ≤ _; simp; omega
  cases hp : Lib.parseMag l with
  | ok u => exact absurd hp (h u)
  | «syntax» =>
    have hq : Calls Tryd.prog 81 #[strV l, .int .i64 10, .int .i64 64] w _ := Any.strconv_ParseUint_10_at64_syntax laysPu14 ⟨l.toArray⟩ hsz (by rw [Dig.uintB_eq]; exact hp) v1 w h1 k1
    exact hq.mono fun en w' ⟨N, he, _, _, hb⟩ => ⟨hb, _, _, _, he⟩
  | range =>
    have hq : Calls Tryd.prog 81 #[strV l, .int .i64 10, .int .i64 64] w _ := Any.strconv_ParseUint_10_at64_range laysPu14 ⟨l.toArray⟩ hsz (by rw [Dig.uintB_eq]; exact hp) v2 w h2 k2
    exact hq.mono fun en w' ⟨N, he, _, _, hb⟩ => ⟨hb, _, _, _, he⟩
/-- What bounded tells. -/
def Bdd (l : List UInt8) (bound : Nat) (w : World) (en : Ending) (w' : World) : Prop := Below w.heap.size w w' ∧ match Dig.toNum l bound with
  | some n => en = .returned (.int .u64 n)
  | none => en = .panicked (gup 130)
theorem Bdd.no {l : List UInt8} {bound : Nat} (hb : bound < 10000000000000000000) (h : ∀ n, ¬ (Lib.parseMag l = .ok n ∧ n ≤ bound ∧ Lib.decDigits n = l)) {w w' : World} (hw : Below w.heap.size w w') : Bdd l bound w (.panicked (gup 130)) w' :=
  ⟨hw, by rw [Dig.toNum_none hb h]⟩
set_option maxHeartbeats 1000000 in
set_option maxRecDepth 100000 in
theorem bounded_c (l : List UInt8) (hl : l.length ≤ 281474976710656) (bound : Nat) (hbd : bound < 10000000000000000000) (w : World) (hT : NmT w) :
    Calls Tryd.prog 43 #[strV l, .int .u64 bound] w (Bdd l bound w) := by
  have HT := Lib.hid hT
  clear hT
  by_cases hp : ∃ u, Lib.parseMag l = .ok u
  · obtain ⟨u, hu⟩ := hp
    have HU := Lib.hid hu
    have hu64 := Lib.parseMag_lt hu
    have hpu := Lib.hid (pu_ok l hl u hu w)
    clear hu
    by_cases hle : u ≤ bound
    · have hd : decide ((u : Int) ≤ (bound : Int)) = true := by simp; omega
      by_cases he : Lib.decDigits u = l
      · have HE := Lib.hid (Dig.toNum_some hbd HU.out hle he)
        have hbe : (Lib.decDigits u == l) = true := by simp [he]
        clear he
        go_enter Tryd.func43, Tryd.ntmps43
        go_wp2_with (first
          | (go_at_call 81; refine hpu.out.mono ?_; rintro e w1 ⟨rfl, hb1⟩)
          | (go_at_call 53; refine (num64_c u hu64 _ (HT.out.up hb1)).mono ?_; rintro e w2 ⟨rfl, hb2⟩)
          | (go_at_call 39; (with_reducible refine (nmMust_yes _ _).mono ?_); rintro e w3 ⟨rfl, rfl⟩))
        go_ret
        exact ⟨below_up hb1 hb2, by rw [HE.out]; rfl⟩
      · have hbe : (Lib.decDigits u == l) = false := by simp [he]
        go_enter Tryd.func43, Tryd.ntmps43
        go_wp2_with (first
          | (go_at_call 81; refine hpu.out.mono ?_; rintro e w1 ⟨rfl, hb1⟩)
          | (go_at_call 53; refine (num64_c u hu64 _ (HT.out.up hb1)).mono ?_; rintro e w2 ⟨rfl, hb2⟩)
          | (go_at_call 39; (with_reducible refine (nmMust_no _ _).mono ?_); rintro e w3 ⟨rfl, rfl⟩))
        exact ⟨rfl, Bdd.no hbd (fun n hn => he (by have := HU.out.symm.trans hn.1; simp only [Lib.NumEnd.ok.injEq] at this; subst this; exact hn.2.2)) (below_up hb1 hb2)⟩
    · have hd : decide ((u : Int) ≤ (bound : Int)) = false := by simp; omega
      go_enter Tryd.func43, Tryd.ntmps43
      go_wp2_with (first
        | (go_at_call 81; refine hpu.out.mono ?_; rintro e w1 ⟨rfl, hb1⟩)
        | (go_at_call 39; (with_reducible refine (nmMust_no _ _).mono ?_); rintro e w3 ⟨rfl, rfl⟩))
      exact ⟨rfl, Bdd.no hbd (fun n hn => hle (by have := HU.out.symm.trans hn.1; simp only [Lib.NumEnd.ok.injEq] at this; subst this; exact hn.2.1)) hb1⟩
  · have hpu := Lib.hid (pu_no l hl (fun u hu => hp ⟨u, hu⟩) w HT.out)
    go_enter Tryd.func43, Tryd.ntmps43
    go_wp2_with (first
      | (go_at_call 81; refine hpu.out.mono ?_; rintro e w1 ⟨hb1, n, t, p, rfl⟩)
      | (go_at_call 39; (with_reducible refine (nmMust_no _ _).mono ?_); rintro e w3 ⟨rfl, rfl⟩))
    exact ⟨rfl, Bdd.no hbd (fun n hn => hp ⟨n, hn.1⟩) hb1⟩
end Go.Proofs.YtpfgepgjpnekdaaDoor

namespace Go.Proofs.YtpfgepgjpnekdaaDoor
open Go.RowKit
set_option linter.unusedSimpArgs false
set_option linter.unusedVariables false

theorem bytes_get! (l : List UInt8) (p : Nat) (h : p < l.length) : (⟨l.toArray⟩ : ByteArray).get! p = l[p] := by
  rw [Dig.get!_lt _ _ (by show p < l.toArray.size; simpa using h)]
theorem bytes_extract (l : List UInt8) (a b : Nat) : (⟨l.toArray⟩ : ByteArray).extract a b = ⟨((l.take b).drop a).toArray⟩ := by
  apply ByteArray.ext
  rw [ByteArray.data_extract]
  apply Array.ext'
  simp [Array.toList_extract, List.drop_take]
/-- What upTo tells. -/
def UpTo (c : UInt8) (l : List UInt8) (b : Nat) (T : TypeId) (w : World) (en : Ending) (w' : World) : Prop := match Dig.cut c l with
  | some p => en = .returned (strV p.1) ∧ But (· = b) w w' ∧ RowAt w' b #[strV p.2] T
  | none => en = .panicked (gup 130) ∧ Below w.heap.size w w'
theorem upTo_hit {c : UInt8} (hc : c.toNat < 128) {l : List UInt8} {s : ByteArray} (hs : s = ⟨l.toArray⟩) {p r k : Nat} (hlt : p < s.size) (HI : ∀ j, j < p → s.get! j ≠ c) (HC : (r < 128 ∧ k = 1 ∧ (s.get! p).toNat = r) ∨ (128 ≤ r ∧ ∀ j, p ≤ j → j < p + k → 128 ≤ (s.get! j).toNat)) (hr : r = c.toNat) :
    Dig.cut c l = some (l.take p, l.drop (p + 1)) ∧ s.extract 0 p = ⟨(l.take p).toArray⟩ ∧ s.extract (p + 1) s.size = ⟨(l.drop (p + 1)).toArray⟩ := by
  subst hs
  have hsz : (⟨l.toArray⟩ : ByteArray).size = l.length := by show l.toArray.size = _; simp
  rw [hsz] at hlt
  have hp : (( ⟨l.toArray⟩ : ByteArray).get! p).toNat = r := by rcases HC with h | h; exact h.2.2; omega
  rw [bytes_get! l p hlt] at hp
  refine ⟨Dig.cut_at c l p hlt (fun j hj hjp => ?_) (UInt8.toNat_inj.1 (by omega)), by rw [bytes_extract]; simp, by rw [bytes_extract, hsz, List.take_length]⟩
  have := HI j hjp
  rwa [bytes_get! l j hj] at this
theorem upTo_miss {c : UInt8} (hc : c.toNat < 128) {s : ByteArray} {p r k : Nat} (HI : ∀ j, j < p → s.get! j ≠ c) (HC : (r < 128 ∧ k = 1 ∧ (s.get! p).toNat = r) ∨ (128 ≤ r ∧ ∀ j, p ≤ j → j < p + k → 128 ≤ (s.get! j).toNat)) (hr : r ≠ c.toNat) : ∀ j, j < p + k → s.get! j ≠ c := by
  intro j hj e
  rcases Nat.lt_or_ge j p with h | h
  · exact HI j h e
  · rcases HC with ⟨h1, rfl, h2⟩ | ⟨h1, h2⟩
    · obtain rfl : j = p := by omega
      rw [e] at h2
      exact hr h2.symm
    · have := h2 j h hj
      rw [e] at this
      omega
theorem upTo_none {c : UInt8} {l : List UInt8} {s : ByteArray} (hs : s = ⟨l.toArray⟩) {p : Nat} (hp : p = s.size) (HI : ∀ j, j < p → s.get! j ≠ c) : Dig.cut c l = none := by
  subst hs
  have hsz : (⟨l.toArray⟩ : ByteArray).size = l.length := by show l.toArray.size = _; simp
  refine Dig.cut_none c l fun j hj => ?_
  have := HI j (by omega)
  rwa [bytes_get! l j hj] at this
set_option maxHeartbeats 4000000 in
set_option maxRecDepth 100000 in
theorem upTo_c (c : UInt8) (hc : c.toNat < 128) (l : List UInt8) (hl : l.length ≤ 281474976710656) (b : Nat) (T : TypeId) (w : World) (hR : RowAt w b #[strV l] T) :
    Calls Tryd.prog 42 #[.pointer (some ⟨b, 0, none⟩), .int .i32 c.toNat] w (UpTo c l b T w) := by
  have hlc := hR.cell (i := 0) (v := strV l) rfl
  have hlf := hR.fz 0
  have hbl := hR.lt
  obtain ⟨s, hs⟩ : ∃ s : ByteArray, s = ⟨l.toArray⟩ := ⟨_, rfl⟩
  have hsz : s.size = l.length := by rw [hs]; show l.toArray.size = _; simp
  have HR := Lib.hid hR
  have HSZ := Lib.hid hsz
  have HS := Lib.hid hs
  have hit : (w.alloc (.stringIter s 0)).heap[w.heap.size]? = some (.stringIter s 0) := heap_alloc_new w _
  have hb0 := below_alloc w (.stringIter s 0)
  have hlm : s.size ≤ 281474976710656 := by omega
  rw [show strV l = .string s by rw [hs]] at hlc
  clear hR hsz hs
  go_enter Tryd.func42, Tryd.ntmps42
  go_wp2
  change Code.wp _ _ _ _ (w.alloc (.stringIter s 0))
  go_loopw [5, 6] (fun v5 v6 wr => ∃ p : Nat, p ≤ s.size ∧ wr.heap[w.heap.size]? = some (.stringIter s p) ∧ Below w.heap.size w wr ∧ RowKit.Hid (∀ j, j < p → s.get! j ≠ c)) (fun _ _ wr => s.size - wr.iterPos w.heap.size)
  case atStart => exact ⟨0, Nat.zero_le _, hit, hb0, Lib.hid (fun j hj => absurd hj (by omega))⟩
  case round =>
    clear hit hb0
    obtain ⟨p, hp, hit, hB, HI⟩ := hrel
    have hpI : (p : Int) ≤ (s.size : Int) := by omega
    have hpos := iterPos_of hit
    by_cases hlt : p < s.size
    · have hnx := fun ty => Lib.run_next_any_at (P := Tryd.prog) wr w.heap.size s p ty hit hlt
      obtain ⟨r, k, hd, hk1, hk2, hcase⟩ := Dig.dec_cases s p hlt
      rw [hd] at hnx
      have hit3 := Lib.iterAt_heap wr w.heap.size s p (p + k) hit
      have hB2 : Below w.heap.size w (wr.iterAt w.heap.size s (p + k)) := Lib.below_iterAt hB (Nat.le_refl _) _ _
      have hlc2 := (hB2.cell (p := ⟨b, 0, none⟩) hbl).trans hlc
      have hlf2 := (hB2.frozen (p := ⟨b, 0, none⟩) hbl).trans hlf
      obtain ⟨W2, hW2⟩ : ∃ W2, wr.iterAt w.heap.size s (p + k) = W2 := ⟨_, rfl⟩
      simp only [hW2] at hnx hit3 hB2 hlc2 hlf2
      have HPOS := Lib.hid hpos
      have HC := Lib.hid hcase
      clear hd hW2 hcase hB hit hpos
      by_cases hrc : (r : Int) = (c.toNat : Int)
      · have db : ((r : Int) == (c.toNat : Int)) = true := by simp [hrc]
        have hw1 : IntKind.i64.wrap ((p : Int) + 1) = (p : Int) + 1 := by rw [IntKind.wrap_i64]; omega
        have HH := Lib.hid (upTo_hit hc HS.out hlt HI.out HC.out (by omega))
        clear hrc
        go_wp2
        go_ret
        obtain ⟨h1, h2, h3⟩ := HH.out
        unfold UpTo
        rw [h1]
        refine ⟨by show Ending.returned (.string (s.extract 0 p)) = _; rw [h2], (But.of_below hB2).trans (But.setCell _ _ _ (.inl rfl)), ?_⟩
        have := (HR.out.below hB2).set 0 (.string (s.extract (p + 1) s.size))
        rw [h3] at this ⊢
        exact this
      · have db : ((r : Int) == (c.toNat : Int)) = false := by simp; omega
        go_wp2
        go_roundw
        case rel => exact ⟨p + k, hk2, hit3, hB2, Lib.hid (upTo_miss hc HI.out HC.out (by omega))⟩
        case measure => rw [HPOS.out, iterPos_of hit3]; omega
    · have hnx := fun ty => Lib.run_next_end_at (P := Tryd.prog) wr w.heap.size s p ty hit hlt
      go_wp2
      refine ⟨rfl, ?_⟩
      unfold UpTo
      rw [upTo_none HS.out (by omega : p = s.size) HI.out]
      exact ⟨rfl, hB⟩
set_option maxRecDepth 100000 in
theorem rest_c (l : List UInt8) (b : Nat) (T : TypeId) (w : World) (hR : RowAt w b #[strV l] T) :
    Calls Tryd.prog 44 #[.pointer (some ⟨b, 0, none⟩)] w fun en w' => en = .returned (strV l) ∧ But (· = b) w w' := by
  have hlc := hR.cell (i := 0) (v := strV l) rfl
  have hlf := hR.fz 0
  have hbl := hR.lt
  go_enter Tryd.func44, Tryd.ntmps44
  go_wp2
  go_ret
  exact ⟨rfl, But.setCell _ _ _ (.inl rfl)⟩
end Go.Proofs.YtpfgepgjpnekdaaDoor

namespace Go.Proofs.YtpfgepgjpnekdaaDoor
open Go.RowKit

section
variable {P : Program} {md : Region.Mode} {ops : Array Oper} {Q : Exit → Act → World → Prop} {O : Nat → Prop}

def wpPo (P : Program) (O : Nat → Prop) (ops : Array Oper) (Q : Exit → Act → World → Prop) : List (Nat × Bool) → Act → World → Prop
  | [], a, w => Q .normal a w
  | (i, false) :: r, a, w => ∃ o v, ops[i]? = some o ∧ YieldsIf P ops (But O w) o v a ∧ wpPo P O ops Q r (a.put o.dst v) w
  | (i, true) :: r, a, w => ∃ o, ops[i]? = some o ∧ Region.wanted o (yielded ops a.tmps) = true ∧ o.wp P a w (fun a' w' => But O w w' ∧ wpPo P O ops Q r a' w') Q

theorem held_of_po (hs : Region.noSelect ops = true) (hQ : ∀ c (a : Act) d v w, Q (.panic c) (a.put d v) w → Q (.panic c) a w) : ∀ (π : List (Nat × Bool)) (listed : Array Bool) (a : Act) (w : World),
    piB md ops π listed = true → wpPo P O ops Q π a w → wpAnyH P md ops Q (But O w) π.length listed a w
  | [], _, _, _, hB, h => ⟨by simpa [piB] using hB, h⟩
  | (i, false) :: r, listed, a, w, hB, h => by
    obtain ⟨o, v, hi, hy, h⟩ := h
    simp only [piB, Bool.and_eq_true] at hB
    exact wpAnyH_take hi hs hB.1.2 hB.1.1 (fun c a w hq => hQ c a o.dst v w hq) hy (But.refl _ _) (held_of_po hs hQ r _ _ _ hB.2 h)
  | (i, true) :: r, listed, a, w, hB, h => by
    obtain ⟨o, hi, hw, h⟩ := h
    simp only [piB, Bool.and_eq_true, decide_eq_true_eq] at hB
    refine ⟨fun h0 => (by rw [hB.1] at h0; cases h0), fun j hj => ?_⟩
    rw [hB.1] at hj
    obtain rfl : j = i := by simpa using hj
    unfold wpOp
    simp only [hi, hw, if_true]
    exact .inl (Oper.wp_mono (fun a' w' h' => ⟨h'.1, held_sub (fun _ hx => h'.1.trans hx) _ _ _ _ (held_of_po hs hQ r _ _ _ hB.2 h'.2)⟩) h)

theorem wp_region_po {id : Nat} {a : Act} {w : World} (O : Nat → Prop) (π : List (Nat × Bool)) (hm : P.follows .mixedOrders = true) (hs : Region.noSelect ops = true) (hB : piB .any ops π (Array.replicate ops.size false) = true) (hl : π.length = ops.size)
    (hQ : ∀ c (a : Act) d v w, Q (.panic c) (a.put d v) w → Q (.panic c) a w) (h : ∀ Wd, Below w.heap.size w Wd → wpPo P O ops Q π a Wd) : (Code.region id ops true).wp P Q a w :=
  wp_region_held (S := But O w.drew) hm (by have := held_of_po (md := .any) hs hQ π _ _ _ hB (h w.drew (Below.refl _ _).drew); rw [hl] at this; exact this)

theorem po_q {i : Nat} {o : Oper} {v : Value} {r : List (Nat × Bool)} {a : Act} {w : World} (hi : ops[i]? = some o) (hw : Region.wanted o (yielded ops a.tmps) = true) (hy : ∀ w', But O w w' → (execOp a.eval o).run P w' = .ok (.value v) w')
    (h : wpPo P O ops Q r (a.put o.dst v) w) : wpPo P O ops Q ((i, false) :: r) a w := ⟨o, v, hi, .inl ⟨hw, hy⟩, h⟩
theorem po_no {i : Nat} {o : Oper} {r : List (Nat × Bool)} {a : Act} {w : World} (hi : ops[i]? = some o) (hw : Region.wanted o (yielded ops a.tmps) = false)
    (h : wpPo P O ops Q r (a.put o.dst undef) w) : wpPo P O ops Q ((i, false) :: r) a w := ⟨o, undef, hi, .inr ⟨hw, rfl⟩, h⟩
theorem po_c {i : Nat} {o : Oper} {r : List (Nat × Bool)} {a : Act} {w : World} (hi : ops[i]? = some o) (hw : Region.wanted o (yielded ops a.tmps) = true)
    (h : ∀ K : Act → World → Prop, Shut (∀ a' w', But O w w' → wpPo P O ops Q r a' w' → K a' w') → o.wp P a w K Q) : wpPo P O ops Q ((i, true) :: r) a w :=
  ⟨o, hi, hw, h _ (fun _ _ h1 h2 => ⟨h1, h2⟩)⟩
theorem po_load {i : Nat} {o : Oper} {r : List (Nat × Bool)} {a : Act} {w : World} (hi : ops[i]? = some o) (hw : Region.wanted o (yielded ops a.tmps) = true)
    (ty : TypeId) (x : Operand) (ho : o.op = .load ty x) (b off : Nat) (hx : a.eval x = .pointer (some ⟨b, off, none⟩)) (cs : List Value) (d : TypeDesc) (hr : w.rangeAt b off cs) (hO : ¬ O b)
    (hu : P.underlying ty = some d) (hd : d.isRow = true) (hn : (P.info? ty).map (·.size) = some cs.length) (h : wpPo P O ops Q r (a.put o.dst (.agg cs.toArray)) w) : wpPo P O ops Q ((i, false) :: r) a w :=
  ⟨o, _, hi, yieldsIf_load_mid hw ty x ho b off hx cs d (fun _ hb j v hj => hb.cell (hr j v hj) hO) hu hd hn, h⟩
theorem po_look {i : Nat} {o : Oper} {v : Value} {r : List (Nat × Bool)} {a : Act} {w : World} (hi : ops[i]? = some o) (hw : Region.wanted o (yielded ops a.tmps) = true) (t : TypeId) (m x : Operand) (c : Bool) (ho : o.op = .lookup t m x c)
    {mv xv : Value} (hm : a.eval m = mv) (hx : a.eval x = xv) (hr : ∀ w', But O w w' → (Instr.lookup t mv xv c).run P w' = .ok v w')
    (h : wpPo P O ops Q r (a.put o.dst v) w) : wpPo P O ops Q ((i, false) :: r) a w :=
  po_q hi hw (fun w' hb => by unfold execOp; simp only [ho, hm, hx, Sem.run_bind, Sem.run_pure, Result.andThen_ok, hr w' hb]) h
theorem po_put {i : Nat} {o : Oper} {r : List (Nat × Bool)} {a : Act} {w w' : World} (hi : ops[i]? = some o) (hw : Region.wanted o (yielded ops a.tmps) = true) (t : TypeId) (m x y : Operand) (ho : o.op = .mapUpdate t m x y)
    {mv xv yv : Value} (hm : a.eval m = mv) (hx : a.eval x = xv) (hy : a.eval y = yv) (hr : (Instr.mapUpdate t mv xv yv).run P w = .ok () w') (hb : But O w w')
    (h : wpPo P O ops Q r (a.put o.dst undef) w') : wpPo P O ops Q ((i, true) :: r) a w :=
  ⟨o, hi, hw, by
    unfold Oper.wp execOp
    simp only [ho, hm, hx, hy, Sem.run_bind, Sem.run_pure, Result.andThen_ok, hr]
    exact ⟨hb, h⟩⟩
theorem pi_look {i : Nat} {o : Oper} {v : Value} {r : List (Nat × Bool)} {a : Act} {w : World} (hi : ops[i]? = some o) (hw : Region.wanted o (yielded ops a.tmps) = true) (t : TypeId) (m x : Operand) (c : Bool) (ho : o.op = .lookup t m x c)
    {mv xv : Value} (hm : a.eval m = mv) (hx : a.eval x = xv) (hr : ∀ w', Below w.heap.size w w' → (Instr.lookup t mv xv c).run P w' = .ok v w')
    (h : wpPi P ops Q r (a.put o.dst v) w) : wpPi P ops Q ((i, false) :: r) a w :=
  pi_q hi hw (fun w' hb => by unfold execOp; simp only [ho, hm, hx, Sem.run_bind, Sem.run_pure, Result.andThen_ok, hr w' hb]) h
theorem po_nil {a : Act} {w : World} (h : Q .normal a w) : wpPo P O ops Q [] a w := h
end
end Go.Proofs.YtpfgepgjpnekdaaDoor
