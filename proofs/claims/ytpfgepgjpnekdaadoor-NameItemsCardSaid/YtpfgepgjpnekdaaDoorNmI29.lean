/-
  NmRp: several texts in one (bundle.py).
-/
import Derived.Test.YtpfgepgjpnekdaaDoorNmI27
import Derived.Test.YtpfgepgjpnekdaaDoorNmI28
namespace Go.Proofs.YtpfgepgjpnekdaaDoor
open Go.RowKit Trc
set_option linter.unusedSimpArgs false
set_option linter.unusedVariables false
theorem cut_ex (c : UInt8) (l : List UInt8) : ∃ x1 x2 b, CutV c l = .tuple #[strV x1, strV x2, .bool b] ∧ x1.length ≤ l.length ∧ x2.length ≤ l.length ∧ (b = true → Dig.cut c l = some (x1, x2)) ∧ (b = false → Dig.cut c l = none) := by
  cases h : Dig.cut c l with
  | none => exact ⟨l, [], false, by unfold CutV; rw [h], Nat.le_refl _, by simp, (fun e => by cases e), fun _ => rfl⟩
  | some p =>
    obtain ⟨a, b⟩ := p
    have hl := congrArg List.length (Dig.cut_some h).1
    simp only [List.length_append, List.length_cons] at hl
    exact ⟨a, b, true, by unfold CutV; rw [h], by omega, by omega, fun _ => rfl, fun e => by cases e⟩
theorem num_ex (l : List UInt8) (bound : Nat) : ∃ n f, NumV l bound = .tuple #[.int .u64 ((n : Nat) : Int), .bool f] ∧ (f = true → Dig.toNum l bound = some n) ∧ (f = false → Dig.toNum l bound = none) := by
  cases h : Dig.toNum l bound with
  | none => exact ⟨0, false, NumV.no h, (fun e => by cases e), fun _ => rfl⟩
  | some n => exact ⟨n, true, NumV.yes h, (fun _ => rfl), fun e => by cases e⟩
/-- What parse tells. -/
def EpO (q : Option (Nat × Nat)) : Value := match q with
  | some p => .tuple #[epV p.1 p.2, .bool true]
  | none => .tuple #[.agg #[.int .u32 0, .int .u32 0], .bool false]
theorem rCutD (l : List UInt8) (hl : l.length ≤ 281474976710656) (w : World) : Calls Tryd.prog 46 #[strV l, .int .u8 46] w (Ret (CutV 46 l) w) := rCut_c 46 (by decide) l hl w
theorem rCutB (l : List UInt8) (hl : l.length ≤ 281474976710656) (w : World) : Calls Tryd.prog 46 #[strV l, .int .u8 32] w (Ret (CutV 32 l) w) := rCut_c 32 (by decide) l hl w
theorem rNumM (l : List UInt8) (hl : l.length ≤ 281474976710656) (w : World) : Calls Tryd.prog 47 #[strV l, .int .u64 4294967295] w (Ret (NumV l 4294967295) w) := rNum_c l hl 4294967295 (by decide) w
theorem rNumF (l : List UInt8) (hl : l.length ≤ 281474976710656) (w : World) : Calls Tryd.prog 47 #[strV l, .int .u64 4611686018427387903] w (Ret (NumV l 4611686018427387903) w) := rNum_c l hl 4611686018427387903 (by decide) w
theorem ext_list (l : List UInt8) (k : Nat) : ((⟨l.toArray⟩ : ByteArray).extract 0 k).toList = l.take k := by
  rw [bytes_extract, ByteArray.toList_eq]
  simp
theorem ext_from (l : List UInt8) (k : Nat) : (⟨l.toArray⟩ : ByteArray).extract k l.length = ⟨(l.drop k).toArray⟩ := by
  rw [bytes_extract, List.take_length]
theorem rNobody_c (n m : Nat) (w : World) : Calls Tryd.prog 48 #[epV n m] w (Ret (.bool (decide (n = 0 ∧ m = 0))) w) := by
  by_cases h : n = 0
  · subst h
    by_cases hm : m = 0
    · subst hm
      rw [show decide ((0 : Nat) = 0 ∧ (0 : Nat) = 0) = true from rfl]
      go_enter Tryd.func48, Tryd.ntmps48
      go_wp2
      go_ret
      exact ⟨rfl, below_alloc _ _⟩
    · have hd : (((m : Int)) == 0) = false := by simp; omega
      rw [show decide ((0 : Nat) = 0 ∧ m = 0) = false from decide_eq_false (fun e => hm e.2)]
      go_enter Tryd.func48, Tryd.ntmps48
      go_wp2
      go_ret
      exact ⟨rfl, below_alloc _ _⟩
  · have hd : (((n : Int)) == 0) = false := by simp; omega
    rw [show decide (n = 0 ∧ m = 0) = false from decide_eq_false (fun e => h e.1)]
    go_enter Tryd.func48, Tryd.ntmps48
    go_wp2
    go_ret
    exact ⟨rfl, below_alloc _ _⟩
set_option maxHeartbeats 2000000 in
set_option maxRecDepth 100000 in
theorem rparse_none (l : List UInt8) (hl : l.length ≤ 281474976710656) (w : World) (h : l = Dig.nobodyL) : Calls Tryd.prog 45 #[strV l] w (Ret (EpO (Dig.endP l)) w) := by
  have hbe : (l == [100, 116, 110, 58, 110, 111, 110, 101]) = true := by rw [h]; decide
  rw [show Dig.endP l = some (0, 0) by unfold Dig.endP; rw [if_pos h]]
  clear h
  go_enter Tryd.func45, Tryd.ntmps45
  go_wp2
  refine bodyPost_ret (v := EpO (some (0, 0))) (by simp [EpO, results, Tryd.results45, go_sem]) rfl ?_
  exact ⟨rfl, below_alloc _ _⟩
set_option maxHeartbeats 2000000 in
set_option maxRecDepth 100000 in
theorem rparse_pre (l : List UInt8) (hl : l.length ≤ 281474976710656) (w : World) (h : l ≠ Dig.nobodyL) (h2 : l.take 4 ≠ Dig.ipnL) : Calls Tryd.prog 45 #[strV l] w (Ret (EpO (Dig.endP l)) w) := by
  have hbe : (l == [100, 116, 110, 58, 110, 111, 110, 101]) = false := beq_eq_false_iff_ne.2 h
  rw [show Dig.endP l = none by unfold Dig.endP; rw [if_neg h, if_neg h2]]
  have hlz : (⟨l.toArray⟩ : ByteArray).size = l.length := by show l.toArray.size = _; simp
  clear h
  by_cases h4 : l.length < 4
  · have hd : decide ((l.length : Int) < 4) = true := decide_eq_true (by omega)
    clear h2
    go_enter Tryd.func45, Tryd.ntmps45
    go_wp2
    refine bodyPost_ret (v := EpO none) (by simp [EpO, results, Tryd.results45, go_sem]) rfl ?_
    exact ⟨rfl, below_alloc _ _⟩
  · have hd : decide ((l.length : Int) < 4) = false := decide_eq_false (by omega)
    have hne : (((⟨l.toArray⟩ : ByteArray).extract 0 4).toList == [105, 112, 110, 58]) = false := by rw [ext_list]; exact beq_eq_false_iff_ne.2 h2
    clear h2
    go_enter Tryd.func45, Tryd.ntmps45
    go_wp2
    refine bodyPost_ret (v := EpO none) (by simp [EpO, results, Tryd.results45, go_sem]) rfl ?_
    exact ⟨rfl, below_alloc _ _⟩
set_option maxHeartbeats 2000000 in
set_option maxRecDepth 100000 in
theorem rparse_ipn (l : List UInt8) (hl : l.length ≤ 281474976710656) (w : World) (h : l ≠ Dig.nobodyL) (h2 : l.take 4 = Dig.ipnL) : Calls Tryd.prog 45 #[strV l] w (Ret (EpO (Dig.endP l)) w) := by
  have hbe : (l == [100, 116, 110, 58, 110, 111, 110, 101]) = false := beq_eq_false_iff_ne.2 h
  have hlz : (⟨l.toArray⟩ : ByteArray).size = l.length := by show l.toArray.size = _; simp
  have h4 : ¬ l.length < 4 := fun e => by have := congrArg List.length h2; rw [List.length_take] at this; simp only [Dig.ipnL, List.length_cons, List.length_nil] at this; omega
  have hd : decide ((l.length : Int) < 4) = false := decide_eq_false (by omega)
  have hd4 : (4 : Int) ≤ (l.length : Int) := by omega
  have hne : (((⟨l.toArray⟩ : ByteArray).extract 0 4).toList == [105, 112, 110, 58]) = true := by rw [ext_list, h2]; rfl
  have hext := ext_from l 4
  have hl4 : (l.drop 4).length ≤ 281474976710656 := by rw [List.length_drop]; omega
  have HQ := Lib.hid (show Dig.endP l = match Dig.cut 46 (l.drop 4) with
    | none => none
    | some (a, b) => match Dig.toNum a 4294967295, Dig.toNum b 4294967295 with
      | some n, some m => if n = 0 then none else some (n, m)
      | _, _ => none by unfold Dig.endP; rw [if_neg h, if_pos h2]; rfl)
  obtain ⟨x1, x2, b1, hc, hx1, hx2, hcy, hcn⟩ := cut_ex 46 (l.drop 4)
  obtain ⟨n1, f1, hn1, hny1, hnn1⟩ := num_ex x1 4294967295
  obtain ⟨n2, f2, hn2, hny2, hnn2⟩ := num_ex x2 4294967295
  have HC := Lib.hid hc
  have HN1 := Lib.hid hn1
  have HN2 := Lib.hid hn2
  have HA := Lib.hid (And.intro hcy (And.intro hcn (And.intro hny1 (And.intro hnn1 (And.intro hny2 hnn2)))))
  have Z0 := RowAt.new w #[.int .u32 0, .int .u32 0] 25
  have hB0 := below_alloc w (.cells #[.int .u32 0, .int .u32 0] 25)
  clear h h2 hc hn1 hn2 hcy hcn hny1 hnn1 hny2 hnn2
  cases b1 with
  | false =>
    have HR := Lib.hid (show Dig.endP l = none by rw [HQ.out, HA.out.2.1 rfl])
    go_enter Tryd.func45, Tryd.ntmps45
    go_wp2_with (first
        | (go_at_call 46; refine (rCutD _ hl4 _).mono ?_; rw [HC.out]; rintro en w1 ⟨rfl, hb1⟩; have y0 := Z0.below hb1)
        | (go_at_call 47; (with_reducible refine (rNumM x1 (by omega) w1).mono ?_); rw [HN1.out]; rintro en w2 ⟨rfl, hb2⟩)
        | (go_at_call 47; (with_reducible refine (rNumM x2 (by omega) w2).mono ?_); rw [HN2.out]; rintro en w3 ⟨rfl, hb3⟩; have y3 := (Z0.below hb1).below (below_up hb2 hb3); have z0 := y3.cell (i := 0) rfl; have z1 := y3.cell (i := 1) rfl; have f0 := y3.fz 0; have f1 := y3.fz 1; have D3 := below_up hB0 (below_up hb1 (below_up hb2 hb3))))
    rw [HR.out]
    have Z4 := (y3.set 0 (.int .u32 0)).set 1 (.int .u32 0)
    have g0 := Z4.cell (i := 0) (v := .int .u32 0) rfl
    have g1 := Z4.cell (i := 1) (v := .int .u32 0) rfl
    refine bodyPost_ret (v := EpO none) (by simp [EpO, results, Tryd.results45, go_sem, g0, g1]) rfl ?_
    exact ⟨rfl, (D3.setCell (by simp) _).setCell (by simp) _⟩
  | true =>
    cases f1 with
    | false =>
      have HR := Lib.hid (show Dig.endP l = none by rw [HQ.out, HA.out.1 rfl]; simp only [HA.out.2.2.2.1 rfl])
      go_enter Tryd.func45, Tryd.ntmps45
      go_wp2_with (first
          | (go_at_call 46; refine (rCutD _ hl4 _).mono ?_; rw [HC.out]; rintro en w1 ⟨rfl, hb1⟩; have y0 := Z0.below hb1)
          | (go_at_call 47; (with_reducible refine (rNumM x1 (by omega) w1).mono ?_); rw [HN1.out]; rintro en w2 ⟨rfl, hb2⟩)
          | (go_at_call 47; (with_reducible refine (rNumM x2 (by omega) w2).mono ?_); rw [HN2.out]; rintro en w3 ⟨rfl, hb3⟩; have y3 := (Z0.below hb1).below (below_up hb2 hb3); have z0 := y3.cell (i := 0) rfl; have z1 := y3.cell (i := 1) rfl; have f0 := y3.fz 0; have f1 := y3.fz 1; have D3 := below_up hB0 (below_up hb1 (below_up hb2 hb3))))
      rw [HR.out]
      have Z4 := (y3.set 0 (.int .u32 0)).set 1 (.int .u32 0)
      have g0 := Z4.cell (i := 0) (v := .int .u32 0) rfl
      have g1 := Z4.cell (i := 1) (v := .int .u32 0) rfl
      refine bodyPost_ret (v := EpO none) (by simp [EpO, results, Tryd.results45, go_sem, g0, g1]) rfl ?_
      exact ⟨rfl, (D3.setCell (by simp) _).setCell (by simp) _⟩
    | true =>
      cases f2 with
      | false =>
        have HR := Lib.hid (show Dig.endP l = none by rw [HQ.out, HA.out.1 rfl]; simp only [HA.out.2.2.1 rfl, HA.out.2.2.2.2.2 rfl])
        go_enter Tryd.func45, Tryd.ntmps45
        go_wp2_with (first
            | (go_at_call 46; refine (rCutD _ hl4 _).mono ?_; rw [HC.out]; rintro en w1 ⟨rfl, hb1⟩; have y0 := Z0.below hb1)
            | (go_at_call 47; (with_reducible refine (rNumM x1 (by omega) w1).mono ?_); rw [HN1.out]; rintro en w2 ⟨rfl, hb2⟩)
            | (go_at_call 47; (with_reducible refine (rNumM x2 (by omega) w2).mono ?_); rw [HN2.out]; rintro en w3 ⟨rfl, hb3⟩; have y3 := (Z0.below hb1).below (below_up hb2 hb3); have z0 := y3.cell (i := 0) rfl; have z1 := y3.cell (i := 1) rfl; have f0 := y3.fz 0; have f1 := y3.fz 1; have D3 := below_up hB0 (below_up hb1 (below_up hb2 hb3))))
        rw [HR.out]
        have Z4 := (y3.set 0 (.int .u32 0)).set 1 (.int .u32 0)
        have g0 := Z4.cell (i := 0) (v := .int .u32 0) rfl
        have g1 := Z4.cell (i := 1) (v := .int .u32 0) rfl
        refine bodyPost_ret (v := EpO none) (by simp [EpO, results, Tryd.results45, go_sem, g0, g1]) rfl ?_
        exact ⟨rfl, (D3.setCell (by simp) _).setCell (by simp) _⟩
      | true =>
        by_cases h0 : n1 = 0
        · have hd0 : ((n1 : Int) == 0) = true := by simp [h0]
          have H0 := Lib.hid h0
          clear h0
          have HR := Lib.hid (show Dig.endP l = none by rw [HQ.out, HA.out.1 rfl]; simp only [HA.out.2.2.1 rfl, HA.out.2.2.2.2.1 rfl, H0.out, if_true])
          go_enter Tryd.func45, Tryd.ntmps45
          go_wp2_with (first
              | (go_at_call 46; refine (rCutD _ hl4 _).mono ?_; rw [HC.out]; rintro en w1 ⟨rfl, hb1⟩; have y0 := Z0.below hb1)
              | (go_at_call 47; (with_reducible refine (rNumM x1 (by omega) w1).mono ?_); rw [HN1.out]; rintro en w2 ⟨rfl, hb2⟩)
              | (go_at_call 47; (with_reducible refine (rNumM x2 (by omega) w2).mono ?_); rw [HN2.out]; rintro en w3 ⟨rfl, hb3⟩; have y3 := (Z0.below hb1).below (below_up hb2 hb3); have z0 := y3.cell (i := 0) rfl; have z1 := y3.cell (i := 1) rfl; have f0 := y3.fz 0; have f1 := y3.fz 1; have D3 := below_up hB0 (below_up hb1 (below_up hb2 hb3))))
          rw [HR.out]
          have Z4 := (y3.set 0 (.int .u32 0)).set 1 (.int .u32 0)
          have g0 := Z4.cell (i := 0) (v := .int .u32 0) rfl
          have g1 := Z4.cell (i := 1) (v := .int .u32 0) rfl
          refine bodyPost_ret (v := EpO none) (by simp [EpO, results, Tryd.results45, go_sem, g0, g1]) rfl ?_
          exact ⟨rfl, (D3.setCell (by simp) _).setCell (by simp) _⟩
        · have hd0 : ((n1 : Int) == 0) = false := by simp; omega
          have H0 := Lib.hid h0
          have hle1 := Dig.toNum_le (HA.out.2.2.1 rfl)
          have hle2 := Dig.toNum_le (HA.out.2.2.2.2.1 rfl)
          have hw1 : IntKind.u32.wrap (n1 : Int) = (n1 : Int) := by rw [IntKind.wrap_u32]; omega
          have hw2 : IntKind.u32.wrap (n2 : Int) = (n2 : Int) := by rw [IntKind.wrap_u32]; omega
          clear h0
          have HR := Lib.hid (show Dig.endP l = some (n1, n2) by rw [HQ.out, HA.out.1 rfl]; simp only [HA.out.2.2.1 rfl, HA.out.2.2.2.2.1 rfl, if_neg H0.out])
          go_enter Tryd.func45, Tryd.ntmps45
          go_wp2_with (first
    | (go_at_call 46; refine (rCutD _ hl4 _).mono ?_; rw [HC.out]; rintro en w1 ⟨rfl, hb1⟩; have y0 := Z0.below hb1)
    | (go_at_call 47; (with_reducible refine (rNumM x1 (by omega) w1).mono ?_); rw [HN1.out]; rintro en w2 ⟨rfl, hb2⟩)
    | (go_at_call 47; (with_reducible refine (rNumM x2 (by omega) w2).mono ?_); rw [HN2.out]; rintro en w3 ⟨rfl, hb3⟩; have y3 := (Z0.below hb1).below (below_up hb2 hb3); have z0 := y3.cell (i := 0) rfl; have z1 := y3.cell (i := 1) rfl; have f0 := y3.fz 0; have f1 := y3.fz 1; have D3 := below_up hB0 (below_up hb1 (below_up hb2 hb3))))
          rw [HR.out]
          have Z4 := (y3.set 0 (.int .u32 n1)).set 1 (.int .u32 n2)
          have g0 := Z4.cell (i := 0) (v := .int .u32 n1) rfl
          have g1 := Z4.cell (i := 1) (v := .int .u32 n2) rfl
          refine bodyPost_ret (v := EpO (some (n1, n2))) (by simp [EpO, results, Tryd.results45, go_sem, g0, g1]) rfl ?_
          exact ⟨rfl, (D3.setCell (by simp) _).setCell (by simp) _⟩
theorem rparse_c (l : List UInt8) (hl : l.length ≤ 281474976710656) (w : World) : Calls Tryd.prog 45 #[strV l] w (Ret (EpO (Dig.endP l)) w) := by
  by_cases h : l = Dig.nobodyL
  · exact rparse_none l hl w h
  · by_cases h2 : l.take 4 = Dig.ipnL
    · exact rparse_ipn l hl w h h2
    · exact rparse_pre l hl w h h2
theorem ep_ex (q : Option (Nat × Nat)) : ∃ n m b, EpO q = .tuple #[epV n m, .bool b] ∧ (b = true → q = some (n, m)) ∧ (b = false → q = none) := by
  cases q with
  | none => exact ⟨0, 0, false, rfl, (fun e => by cases e), fun _ => rfl⟩
  | some p => exact ⟨p.1, p.2, true, rfl, (fun _ => rfl), fun e => by cases e⟩
abbrev ParV (l : List UInt8) : Value := .tuple #[epV (Dig.parseP l).1.1 (Dig.parseP l).1.2, .int .i64 (Dig.parseP l).2]
set_option maxHeartbeats 1000000 in
set_option maxRecDepth 100000 in
theorem rParse_c (l : List UInt8) (hl : l.length ≤ 281474976710656) (w : World) : Calls Tryd.prog 12 #[strV l] w (Ret (ParV l) w) := by
  have hlz : (⟨l.toArray⟩ : ByteArray).size = l.length := by show l.toArray.size = _; simp
  have Z0 := RowAt.new w #[.int .u32 0, .int .u32 0] 25
  have hB0 := below_alloc w (.cells #[.int .u32 0, .int .u32 0] 25)
  by_cases h1 : 100 < l.length
  · have hd : decide ((100 : Int) < (l.length : Int)) = true := decide_eq_true (by omega)
    have hP : Dig.parseP l = ((0, 0), 3) := by unfold Dig.parseP; rw [if_pos h1]
    unfold ParV
    rw [hP]
    clear hP
    go_enter Tryd.func12, Tryd.ntmps12
    go_wp2
    refine bodyPost_ret (v := .tuple #[epV 0 0, .int .i64 3]) (by simp [results, Tryd.results12, go_sem]) rfl ?_
    exact ⟨rfl, hB0⟩
  · have hd : decide ((100 : Int) < (l.length : Int)) = false := decide_eq_false (by omega)
    cases hq : Dig.endP l with
    | none =>
      have hP : Dig.parseP l = ((0, 0), 130) := by unfold Dig.parseP; rw [if_neg h1, hq]
      unfold ParV
      rw [hP]
      have HQ := Lib.hid hq
      clear hP hq
      go_enter Tryd.func12, Tryd.ntmps12
      go_wp2_with (go_at_call 45; refine (rparse_c l hl _).mono ?_; rw [HQ.out, show EpO none = .tuple #[.agg #[.int .u32 0, .int .u32 0], .bool false] from rfl]; rintro en w1 ⟨rfl, hb1⟩; have y1 := Z0.below hb1; have D1 := below_up hB0 hb1; have Y2 := (y1.alloc (.cells #[.int .u32 0, .int .u32 0] 25)); have z0 := Y2.cell (i := 0) rfl; have z1 := Y2.cell (i := 1) rfl; have f0 := Y2.fz 0; have f1 := Y2.fz 1)
      have Y3 := (Y2.set 0 (.int .u32 0)).set 1 (.int .u32 0)
      have g0 := Y3.cell (i := 0) (v := .int .u32 0) rfl
      have g1 := Y3.cell (i := 1) (v := .int .u32 0) rfl
      refine bodyPost_ret (v := .tuple #[epV 0 0, .int .i64 130]) (by simp [results, Tryd.results12, go_sem, g0, g1]) rfl ?_
      exact ⟨rfl, ((below_up D1 (below_alloc _ _)).setCell (by simp) _).setCell (by simp) _⟩
    | some p =>
      obtain ⟨n, m⟩ := p
      have hP : Dig.parseP l = ((n, m), 0) := by unfold Dig.parseP; rw [if_neg h1, hq]
      unfold ParV
      rw [hP]
      have HQ := Lib.hid hq
      clear hP hq
      go_enter Tryd.func12, Tryd.ntmps12
      go_wp2_with (go_at_call 45; refine (rparse_c l hl _).mono ?_; rw [HQ.out, show EpO (some (n, m)) = .tuple #[epV n m, .bool true] from rfl]; rintro en w1 ⟨rfl, hb1⟩; have y1 := Z0.below hb1; have D1 := below_up hB0 hb1; have Y2 := (y1.alloc (.cells #[.int .u32 n, .int .u32 m] 25)); have z0 := Y2.cell (i := 0) rfl; have z1 := Y2.cell (i := 1) rfl; have f0 := Y2.fz 0; have f1 := Y2.fz 1)
      have Y3 := (Y2.set 0 (.int .u32 n)).set 1 (.int .u32 m)
      have g0 := Y3.cell (i := 0) (v := .int .u32 n) rfl
      have g1 := Y3.cell (i := 1) (v := .int .u32 m) rfl
      refine bodyPost_ret (v := .tuple #[epV n m, .int .i64 0]) (by simp [results, Tryd.results12, go_sem, g0, g1]) rfl ?_
      exact ⟨rfl, ((below_up D1 (below_alloc _ _)).setCell (by simp) _).setCell (by simp) _⟩
abbrev PnV (l : List UInt8) : Value := .tuple #[nmW (Dig.nameP l).1.n (Dig.nameP l).1.m (Dig.nameP l).1.t (Dig.nameP l).1.s, .int .i64 (Dig.nameP l).2]
set_option maxHeartbeats 8000000 in
set_option maxRecDepth 100000 in
theorem rParseName_c (l : List UInt8) (hl : l.length ≤ 281474976710656) (w : World) : Calls Tryd.prog 13 #[strV l] w (Ret (PnV l) w) := by
  have hlz : (⟨l.toArray⟩ : ByteArray).size = l.length := by show l.toArray.size = _; simp
  have Z0 := RowAt.new w #[.int .u32 0, .int .u32 0, .int .u64 0, .int .u32 0] 31
  have hB0 := below_alloc w (.cells #[.int .u32 0, .int .u32 0, .int .u64 0, .int .u32 0] 31)
  by_cases h1 : 100 < l.length
  · have hd : decide ((100 : Int) < (l.length : Int)) = true := decide_eq_true (by omega)
    have hP : Dig.nameP l = (⟨0, 0, 0, 0⟩, 3) := by unfold Dig.nameP; rw [if_pos h1]
    unfold PnV
    rw [hP]
    clear hP
    go_enter Tryd.func13, Tryd.ntmps13
    go_wp2
    refine bodyPost_ret (v := .tuple #[.agg #[.int .u32 0, .int .u32 0, .int .u64 0, .int .u32 0], .int .i64 3]) (by simp [results, Tryd.results13, go_sem]) rfl ?_
    exact ⟨rfl, hB0⟩
  · have hd : decide ((100 : Int) < (l.length : Int)) = false := decide_eq_false (by omega)
    have HP := Lib.hid (show Dig.nameP l = match Dig.nameQ l with | some p => (p, 0) | none => (⟨0, 0, 0, 0⟩, 130) by unfold Dig.nameP; rw [if_neg h1]; rfl)
    obtain ⟨x1, x2, b1, hc, hx1, hx2, hcy, hcn⟩ := cut_ex 32 l
    obtain ⟨y1, y2, b2, hc2, hy1, hy2, hcy2, hcn2⟩ := cut_ex 32 x2
    obtain ⟨n, m, b3, he, hey, hen⟩ := ep_ex (Dig.endP x1)
    obtain ⟨n1, f1, hn1, hny1, hnn1⟩ := num_ex y1 4611686018427387903
    obtain ⟨n2, f2, hn2, hny2, hnn2⟩ := num_ex y2 4294967295
    have HC := Lib.hid hc
    have HC2 := Lib.hid hc2
    have HE := Lib.hid he
    have HN1 := Lib.hid hn1
    have HN2 := Lib.hid hn2
    have K1 := Lib.hid (And.intro hcy hcn)
    have K2 := Lib.hid (And.intro hcy2 hcn2)
    have K3 := Lib.hid (And.intro hey hen)
    have K4 := Lib.hid (And.intro hny1 hnn1)
    have K5 := Lib.hid (And.intro hny2 hnn2)
    clear hc hc2 he hn1 hn2 hcy hcn hcy2 hcn2 hey hen hny1 hnn1 hny2 hnn2
    cases b1 with
    | false =>
      have HR := Lib.hid (show Dig.nameP l = (⟨0, 0, 0, 0⟩, 130) by rw [HP.out, show Dig.nameQ l = none by unfold Dig.nameQ; rw [K1.out.2 rfl]])
      go_enter Tryd.func13, Tryd.ntmps13
      go_wp2_with (first
          | (go_at_call 46; (with_reducible refine (rCutB l hl _).mono ?_); rw [HC.out]; rintro en w1 ⟨rfl, hb1⟩)
          | (go_at_call 46; (with_reducible refine (rCutB x2 (by omega) _).mono ?_); rw [HC2.out]; rintro en w2 ⟨rfl, hb2⟩)
          | (go_at_call 45; refine (rparse_c x1 (by omega) w2).mono ?_; rw [HE.out]; rintro en w3 ⟨rfl, hb3⟩; have X3 := RowAt.new w3 #[.int .u32 n, .int .u32 m] 25; have hq3 := below_alloc w3 (.cells #[.int .u32 n, .int .u32 m] 25))
          | (go_at_call 47; (with_reducible refine (rNumF y1 (by omega) _).mono ?_); rw [HN1.out]; rintro en w4 ⟨rfl, hb4⟩)
          | (go_at_call 47; (with_reducible refine (rNumM y2 (by omega) _).mono ?_); rw [HN2.out]; rintro en w5 ⟨rfl, hb5⟩; have B5 := below_up hq3 (below_up hb4 hb5); have X5 := X3.below (below_up hb4 hb5); have e0 := X5.cell (i := 0) rfl; have e1 := X5.cell (i := 1) rfl; have D5 := below_up hB0 (below_up hb1 (below_up hb2 (below_up hb3 B5))); have Y5 := Z0.below (below_up hb1 (below_up hb2 (below_up hb3 B5))); have z0 := Y5.cell (i := 0) rfl; have z1 := Y5.cell (i := 1) rfl; have z2 := Y5.cell (i := 2) rfl; have z3 := Y5.cell (i := 3) rfl; have f0 := Y5.fz 0; have f1 := Y5.fz 1; have f2 := Y5.fz 2; have f3 := Y5.fz 3))
      unfold PnV
      rw [HR.out]
      have Y9 := (((Y5.set 0 (.int .u32 0)).set 1 (.int .u32 0)).set 2 (.int .u64 0)).set 3 (.int .u32 0)
      have g0 := Y9.cell (i := 0) (v := .int .u32 0) rfl
      have g1 := Y9.cell (i := 1) (v := .int .u32 0) rfl
      have g2 := Y9.cell (i := 2) (v := .int .u64 0) rfl
      have g3 := Y9.cell (i := 3) (v := .int .u32 0) rfl
      refine bodyPost_ret (v := .tuple #[.agg #[.int .u32 0, .int .u32 0, .int .u64 0, .int .u32 0], .int .i64 130]) (by simp [results, Tryd.results13, go_sem, g0, g1, g2, g3]) rfl ?_
      exact ⟨rfl, (((D5.setCell (by simp) _).setCell (by simp) _).setCell (by simp) _).setCell (by simp) _⟩
    | true =>
      cases b3 with
      | false =>
        cases b2
        all_goals
          have HR := Lib.hid (show Dig.nameP l = (⟨0, 0, 0, 0⟩, 130) by rw [HP.out, show Dig.nameQ l = none by unfold Dig.nameQ; rw [K1.out.1 rfl]; simp only [K3.out.2 rfl]])
          go_enter Tryd.func13, Tryd.ntmps13
          go_wp2_with (first
              | (go_at_call 46; (with_reducible refine (rCutB l hl _).mono ?_); rw [HC.out]; rintro en w1 ⟨rfl, hb1⟩)
              | (go_at_call 46; (with_reducible refine (rCutB x2 (by omega) _).mono ?_); rw [HC2.out]; rintro en w2 ⟨rfl, hb2⟩)
              | (go_at_call 45; refine (rparse_c x1 (by omega) w2).mono ?_; rw [HE.out]; rintro en w3 ⟨rfl, hb3⟩; have X3 := RowAt.new w3 #[.int .u32 n, .int .u32 m] 25; have hq3 := below_alloc w3 (.cells #[.int .u32 n, .int .u32 m] 25))
              | (go_at_call 47; (with_reducible refine (rNumF y1 (by omega) _).mono ?_); rw [HN1.out]; rintro en w4 ⟨rfl, hb4⟩)
              | (go_at_call 47; (with_reducible refine (rNumM y2 (by omega) _).mono ?_); rw [HN2.out]; rintro en w5 ⟨rfl, hb5⟩; have B5 := below_up hq3 (below_up hb4 hb5); have X5 := X3.below (below_up hb4 hb5); have e0 := X5.cell (i := 0) rfl; have e1 := X5.cell (i := 1) rfl; have D5 := below_up hB0 (below_up hb1 (below_up hb2 (below_up hb3 B5))); have Y5 := Z0.below (below_up hb1 (below_up hb2 (below_up hb3 B5))); have z0 := Y5.cell (i := 0) rfl; have z1 := Y5.cell (i := 1) rfl; have z2 := Y5.cell (i := 2) rfl; have z3 := Y5.cell (i := 3) rfl; have f0 := Y5.fz 0; have f1 := Y5.fz 1; have f2 := Y5.fz 2; have f3 := Y5.fz 3))
          unfold PnV
          rw [HR.out]
          have Y9 := (((Y5.set 0 (.int .u32 0)).set 1 (.int .u32 0)).set 2 (.int .u64 0)).set 3 (.int .u32 0)
          have g0 := Y9.cell (i := 0) (v := .int .u32 0) rfl
          have g1 := Y9.cell (i := 1) (v := .int .u32 0) rfl
          have g2 := Y9.cell (i := 2) (v := .int .u64 0) rfl
          have g3 := Y9.cell (i := 3) (v := .int .u32 0) rfl
          refine bodyPost_ret (v := .tuple #[.agg #[.int .u32 0, .int .u32 0, .int .u64 0, .int .u32 0], .int .i64 130]) (by simp [results, Tryd.results13, go_sem, g0, g1, g2, g3]) rfl ?_
          exact ⟨rfl, (((D5.setCell (by simp) _).setCell (by simp) _).setCell (by simp) _).setCell (by simp) _⟩
      | true =>
        cases b2 with
        | false =>
          have HR := Lib.hid (show Dig.nameP l = (⟨0, 0, 0, 0⟩, 130) by rw [HP.out, show Dig.nameQ l = none by unfold Dig.nameQ; rw [K1.out.1 rfl]; simp only [K3.out.1 rfl, K2.out.2 rfl]])
          go_enter Tryd.func13, Tryd.ntmps13
          go_wp2_with (first
              | (go_at_call 46; (with_reducible refine (rCutB l hl _).mono ?_); rw [HC.out]; rintro en w1 ⟨rfl, hb1⟩)
              | (go_at_call 46; (with_reducible refine (rCutB x2 (by omega) _).mono ?_); rw [HC2.out]; rintro en w2 ⟨rfl, hb2⟩)
              | (go_at_call 45; refine (rparse_c x1 (by omega) w2).mono ?_; rw [HE.out]; rintro en w3 ⟨rfl, hb3⟩; have X3 := RowAt.new w3 #[.int .u32 n, .int .u32 m] 25; have hq3 := below_alloc w3 (.cells #[.int .u32 n, .int .u32 m] 25))
              | (go_at_call 47; (with_reducible refine (rNumF y1 (by omega) _).mono ?_); rw [HN1.out]; rintro en w4 ⟨rfl, hb4⟩)
              | (go_at_call 47; (with_reducible refine (rNumM y2 (by omega) _).mono ?_); rw [HN2.out]; rintro en w5 ⟨rfl, hb5⟩; have B5 := below_up hq3 (below_up hb4 hb5); have X5 := X3.below (below_up hb4 hb5); have e0 := X5.cell (i := 0) rfl; have e1 := X5.cell (i := 1) rfl; have D5 := below_up hB0 (below_up hb1 (below_up hb2 (below_up hb3 B5))); have Y5 := Z0.below (below_up hb1 (below_up hb2 (below_up hb3 B5))); have z0 := Y5.cell (i := 0) rfl; have z1 := Y5.cell (i := 1) rfl; have z2 := Y5.cell (i := 2) rfl; have z3 := Y5.cell (i := 3) rfl; have f0 := Y5.fz 0; have f1 := Y5.fz 1; have f2 := Y5.fz 2; have f3 := Y5.fz 3))
          unfold PnV
          rw [HR.out]
          have Y9 := (((Y5.set 0 (.int .u32 0)).set 1 (.int .u32 0)).set 2 (.int .u64 0)).set 3 (.int .u32 0)
          have g0 := Y9.cell (i := 0) (v := .int .u32 0) rfl
          have g1 := Y9.cell (i := 1) (v := .int .u32 0) rfl
          have g2 := Y9.cell (i := 2) (v := .int .u64 0) rfl
          have g3 := Y9.cell (i := 3) (v := .int .u32 0) rfl
          refine bodyPost_ret (v := .tuple #[.agg #[.int .u32 0, .int .u32 0, .int .u64 0, .int .u32 0], .int .i64 130]) (by simp [results, Tryd.results13, go_sem, g0, g1, g2, g3]) rfl ?_
          exact ⟨rfl, (((D5.setCell (by simp) _).setCell (by simp) _).setCell (by simp) _).setCell (by simp) _⟩
        | true =>
          cases f1 with
          | false =>
            have HR := Lib.hid (show Dig.nameP l = (⟨0, 0, 0, 0⟩, 130) by rw [HP.out, show Dig.nameQ l = none by unfold Dig.nameQ; rw [K1.out.1 rfl]; simp only [K3.out.1 rfl, K2.out.1 rfl, K4.out.2 rfl]])
            go_enter Tryd.func13, Tryd.ntmps13
            go_wp2_with (first
                | (go_at_call 46; (with_reducible refine (rCutB l hl _).mono ?_); rw [HC.out]; rintro en w1 ⟨rfl, hb1⟩)
                | (go_at_call 46; (with_reducible refine (rCutB x2 (by omega) _).mono ?_); rw [HC2.out]; rintro en w2 ⟨rfl, hb2⟩)
                | (go_at_call 45; refine (rparse_c x1 (by omega) w2).mono ?_; rw [HE.out]; rintro en w3 ⟨rfl, hb3⟩; have X3 := RowAt.new w3 #[.int .u32 n, .int .u32 m] 25; have hq3 := below_alloc w3 (.cells #[.int .u32 n, .int .u32 m] 25))
                | (go_at_call 47; (with_reducible refine (rNumF y1 (by omega) _).mono ?_); rw [HN1.out]; rintro en w4 ⟨rfl, hb4⟩)
                | (go_at_call 47; (with_reducible refine (rNumM y2 (by omega) _).mono ?_); rw [HN2.out]; rintro en w5 ⟨rfl, hb5⟩; have B5 := below_up hq3 (below_up hb4 hb5); have X5 := X3.below (below_up hb4 hb5); have e0 := X5.cell (i := 0) rfl; have e1 := X5.cell (i := 1) rfl; have D5 := below_up hB0 (below_up hb1 (below_up hb2 (below_up hb3 B5))); have Y5 := Z0.below (below_up hb1 (below_up hb2 (below_up hb3 B5))); have z0 := Y5.cell (i := 0) rfl; have z1 := Y5.cell (i := 1) rfl; have z2 := Y5.cell (i := 2) rfl; have z3 := Y5.cell (i := 3) rfl; have f0 := Y5.fz 0; have f1 := Y5.fz 1; have f2 := Y5.fz 2; have f3 := Y5.fz 3))
            unfold PnV
            rw [HR.out]
            have Y9 := (((Y5.set 0 (.int .u32 0)).set 1 (.int .u32 0)).set 2 (.int .u64 0)).set 3 (.int .u32 0)
            have g0 := Y9.cell (i := 0) (v := .int .u32 0) rfl
            have g1 := Y9.cell (i := 1) (v := .int .u32 0) rfl
            have g2 := Y9.cell (i := 2) (v := .int .u64 0) rfl
            have g3 := Y9.cell (i := 3) (v := .int .u32 0) rfl
            refine bodyPost_ret (v := .tuple #[.agg #[.int .u32 0, .int .u32 0, .int .u64 0, .int .u32 0], .int .i64 130]) (by simp [results, Tryd.results13, go_sem, g0, g1, g2, g3]) rfl ?_
            exact ⟨rfl, (((D5.setCell (by simp) _).setCell (by simp) _).setCell (by simp) _).setCell (by simp) _⟩
          | true =>
            cases f2 with
            | false =>
              have HR := Lib.hid (show Dig.nameP l = (⟨0, 0, 0, 0⟩, 130) by rw [HP.out, show Dig.nameQ l = none by unfold Dig.nameQ; rw [K1.out.1 rfl]; simp only [K3.out.1 rfl, K2.out.1 rfl, K4.out.1 rfl, K5.out.2 rfl]])
              go_enter Tryd.func13, Tryd.ntmps13
              go_wp2_with (first
                  | (go_at_call 46; (with_reducible refine (rCutB l hl _).mono ?_); rw [HC.out]; rintro en w1 ⟨rfl, hb1⟩)
                  | (go_at_call 46; (with_reducible refine (rCutB x2 (by omega) _).mono ?_); rw [HC2.out]; rintro en w2 ⟨rfl, hb2⟩)
                  | (go_at_call 45; refine (rparse_c x1 (by omega) w2).mono ?_; rw [HE.out]; rintro en w3 ⟨rfl, hb3⟩; have X3 := RowAt.new w3 #[.int .u32 n, .int .u32 m] 25; have hq3 := below_alloc w3 (.cells #[.int .u32 n, .int .u32 m] 25))
                  | (go_at_call 47; (with_reducible refine (rNumF y1 (by omega) _).mono ?_); rw [HN1.out]; rintro en w4 ⟨rfl, hb4⟩)
                  | (go_at_call 47; (with_reducible refine (rNumM y2 (by omega) _).mono ?_); rw [HN2.out]; rintro en w5 ⟨rfl, hb5⟩; have B5 := below_up hq3 (below_up hb4 hb5); have X5 := X3.below (below_up hb4 hb5); have e0 := X5.cell (i := 0) rfl; have e1 := X5.cell (i := 1) rfl; have D5 := below_up hB0 (below_up hb1 (below_up hb2 (below_up hb3 B5))); have Y5 := Z0.below (below_up hb1 (below_up hb2 (below_up hb3 B5))); have z0 := Y5.cell (i := 0) rfl; have z1 := Y5.cell (i := 1) rfl; have z2 := Y5.cell (i := 2) rfl; have z3 := Y5.cell (i := 3) rfl; have f0 := Y5.fz 0; have f1 := Y5.fz 1; have f2 := Y5.fz 2; have f3 := Y5.fz 3))
              unfold PnV
              rw [HR.out]
              have Y9 := (((Y5.set 0 (.int .u32 0)).set 1 (.int .u32 0)).set 2 (.int .u64 0)).set 3 (.int .u32 0)
              have g0 := Y9.cell (i := 0) (v := .int .u32 0) rfl
              have g1 := Y9.cell (i := 1) (v := .int .u32 0) rfl
              have g2 := Y9.cell (i := 2) (v := .int .u64 0) rfl
              have g3 := Y9.cell (i := 3) (v := .int .u32 0) rfl
              refine bodyPost_ret (v := .tuple #[.agg #[.int .u32 0, .int .u32 0, .int .u64 0, .int .u32 0], .int .i64 130]) (by simp [results, Tryd.results13, go_sem, g0, g1, g2, g3]) rfl ?_
              exact ⟨rfl, (((D5.setCell (by simp) _).setCell (by simp) _).setCell (by simp) _).setCell (by simp) _⟩
            | true =>
              have hle := Dig.endP_le (K3.out.1 rfl)
              have hle1 := Dig.toNum_le (K4.out.1 rfl)
              have hle2 := Dig.toNum_le (K5.out.1 rfl)
              by_cases h0 : n = 0
              · have HNB := Lib.hid (show decide (n = 0 ∧ m = 0) = true from decide_eq_true ⟨h0, hle.2.2 h0⟩)
                have H0 := Lib.hid h0
                clear h0 hle
                have HR := Lib.hid (show Dig.nameP l = (⟨0, 0, 0, 0⟩, 130) by rw [HP.out, show Dig.nameQ l = none by unfold Dig.nameQ; rw [K1.out.1 rfl]; simp only [K3.out.1 rfl, K2.out.1 rfl, K4.out.1 rfl, K5.out.1 rfl, H0.out, if_true]])
                go_enter Tryd.func13, Tryd.ntmps13
                go_wp2_with (first
                    | (go_at_call 46; (with_reducible refine (rCutB l hl _).mono ?_); rw [HC.out]; rintro en w1 ⟨rfl, hb1⟩)
                    | (go_at_call 46; (with_reducible refine (rCutB x2 (by omega) _).mono ?_); rw [HC2.out]; rintro en w2 ⟨rfl, hb2⟩)
                    | (go_at_call 45; refine (rparse_c x1 (by omega) w2).mono ?_; rw [HE.out]; rintro en w3 ⟨rfl, hb3⟩; have X3 := RowAt.new w3 #[.int .u32 n, .int .u32 m] 25; have hq3 := below_alloc w3 (.cells #[.int .u32 n, .int .u32 m] 25))
                    | (go_at_call 47; (with_reducible refine (rNumF y1 (by omega) _).mono ?_); rw [HN1.out]; rintro en w4 ⟨rfl, hb4⟩)
                    | (go_at_call 47; (with_reducible refine (rNumM y2 (by omega) _).mono ?_); rw [HN2.out]; rintro en w5 ⟨rfl, hb5⟩; have B5 := below_up hq3 (below_up hb4 hb5); have X5 := X3.below (below_up hb4 hb5); have e0 := X5.cell (i := 0) rfl; have e1 := X5.cell (i := 1) rfl; have D5 := below_up hB0 (below_up hb1 (below_up hb2 (below_up hb3 B5))); have Y5 := Z0.below (below_up hb1 (below_up hb2 (below_up hb3 B5))); have z0 := Y5.cell (i := 0) rfl; have z1 := Y5.cell (i := 1) rfl; have z2 := Y5.cell (i := 2) rfl; have z3 := Y5.cell (i := 3) rfl; have f0 := Y5.fz 0; have f1 := Y5.fz 1; have f2 := Y5.fz 2; have f3 := Y5.fz 3)
                    | (go_at_call 48; refine (rNobody_c n m _).mono ?_; rw [HNB.out]; rintro en w6 ⟨rfl, hb6⟩; have B6 := hb6; have X6 := X5.below hb6; have i0 := X6.cell (i := 0) rfl; have i1 := X6.cell (i := 1) rfl; have D6 := below_up D5 hb6; have Y6 := Y5.below hb6; have j0 := Y6.cell (i := 0) rfl; have j1 := Y6.cell (i := 1) rfl; have j2 := Y6.cell (i := 2) rfl; have j3 := Y6.cell (i := 3) rfl; have k0 := Y6.fz 0; have k1 := Y6.fz 1; have k2 := Y6.fz 2; have k3 := Y6.fz 3))
                unfold PnV
                rw [HR.out]
                have Y9 := (((Y6.set 0 (.int .u32 0)).set 1 (.int .u32 0)).set 2 (.int .u64 0)).set 3 (.int .u32 0)
                have g0 := Y9.cell (i := 0) (v := .int .u32 0) rfl
                have g1 := Y9.cell (i := 1) (v := .int .u32 0) rfl
                have g2 := Y9.cell (i := 2) (v := .int .u64 0) rfl
                have g3 := Y9.cell (i := 3) (v := .int .u32 0) rfl
                refine bodyPost_ret (v := .tuple #[.agg #[.int .u32 0, .int .u32 0, .int .u64 0, .int .u32 0], .int .i64 130]) (by simp [results, Tryd.results13, go_sem, g0, g1, g2, g3]) rfl ?_
                exact ⟨rfl, (((D6.setCell (by simp) _).setCell (by simp) _).setCell (by simp) _).setCell (by simp) _⟩
              · have HNB := Lib.hid (show decide (n = 0 ∧ m = 0) = false from decide_eq_false (fun e => h0 e.1))
                have H0 := Lib.hid h0
                have hw2 : IntKind.u32.wrap (n2 : Int) = (n2 : Int) := by rw [IntKind.wrap_u32]; omega
                clear h0 hle
                have HR := Lib.hid (show Dig.nameP l = (⟨n, m, n1, n2⟩, 0) by rw [HP.out, show Dig.nameQ l = some ⟨n, m, n1, n2⟩ by unfold Dig.nameQ; rw [K1.out.1 rfl]; simp only [K3.out.1 rfl, K2.out.1 rfl, K4.out.1 rfl, K5.out.1 rfl, if_neg H0.out]])
                go_enter Tryd.func13, Tryd.ntmps13
                go_wp2_with (first
    | (go_at_call 46; (with_reducible refine (rCutB l hl _).mono ?_); rw [HC.out]; rintro en w1 ⟨rfl, hb1⟩)
    | (go_at_call 46; (with_reducible refine (rCutB x2 (by omega) _).mono ?_); rw [HC2.out]; rintro en w2 ⟨rfl, hb2⟩)
    | (go_at_call 45; refine (rparse_c x1 (by omega) w2).mono ?_; rw [HE.out]; rintro en w3 ⟨rfl, hb3⟩; have X3 := RowAt.new w3 #[.int .u32 n, .int .u32 m] 25; have hq3 := below_alloc w3 (.cells #[.int .u32 n, .int .u32 m] 25))
    | (go_at_call 47; (with_reducible refine (rNumF y1 (by omega) _).mono ?_); rw [HN1.out]; rintro en w4 ⟨rfl, hb4⟩)
    | (go_at_call 47; (with_reducible refine (rNumM y2 (by omega) _).mono ?_); rw [HN2.out]; rintro en w5 ⟨rfl, hb5⟩; have B5 := below_up hq3 (below_up hb4 hb5); have X5 := X3.below (below_up hb4 hb5); have e0 := X5.cell (i := 0) rfl; have e1 := X5.cell (i := 1) rfl; have D5 := below_up hB0 (below_up hb1 (below_up hb2 (below_up hb3 B5))); have Y5 := Z0.below (below_up hb1 (below_up hb2 (below_up hb3 B5))); have z0 := Y5.cell (i := 0) rfl; have z1 := Y5.cell (i := 1) rfl; have z2 := Y5.cell (i := 2) rfl; have z3 := Y5.cell (i := 3) rfl; have f0 := Y5.fz 0; have f1 := Y5.fz 1; have f2 := Y5.fz 2; have f3 := Y5.fz 3)
    | (go_at_call 48; refine (rNobody_c n m _).mono ?_; rw [HNB.out]; rintro en w6 ⟨rfl, hb6⟩; have B6 := hb6; have X6 := X5.below hb6; have i0 := X6.cell (i := 0) rfl; have i1 := X6.cell (i := 1) rfl; have D6 := below_up D5 hb6; have Y6 := Y5.below hb6; have j0 := Y6.cell (i := 0) rfl; have j1 := Y6.cell (i := 1) rfl; have j2 := Y6.cell (i := 2) rfl; have j3 := Y6.cell (i := 3) rfl; have k0 := Y6.fz 0; have k1 := Y6.fz 1; have k2 := Y6.fz 2; have k3 := Y6.fz 3))
                unfold PnV
                rw [HR.out]
                have Y9 := (((Y6.set 0 (.int .u32 n)).set 1 (.int .u32 m)).set 2 (.int .u64 n1)).set 3 (.int .u32 n2)
                have g0 := Y9.cell (i := 0) (v := .int .u32 n) rfl
                have g1 := Y9.cell (i := 1) (v := .int .u32 m) rfl
                have g2 := Y9.cell (i := 2) (v := .int .u64 n1) rfl
                have g3 := Y9.cell (i := 3) (v := .int .u32 n2) rfl
                refine bodyPost_ret (v := .tuple #[nmW n m n1 n2, .int .i64 0]) (by simp [results, Tryd.results13, go_sem, g0, g1, g2, g3]) rfl ?_
                exact ⟨rfl, (((D6.setCell (by simp) _).setCell (by simp) _).setCell (by simp) _).setCell (by simp) _⟩
end Go.Proofs.YtpfgepgjpnekdaaDoor
