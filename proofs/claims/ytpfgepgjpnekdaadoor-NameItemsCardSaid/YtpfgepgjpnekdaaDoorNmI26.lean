/-
  NmOfs, NmNu: several texts in one (bundle.py).
-/
import Derived.Test.YtpfgepgjpnekdaaDoorNmI25
import Derived.Test.YtpfgepgjpnekdaaDoorNmI21
import Derived.Test.YtpfgepgjpnekdaaDoorNmI02
import Derived.Deep.LoopGhost
namespace Go.Proofs.YtpfgepgjpnekdaaDoor
open Go.RowKit Trc Cb
set_option linter.unusedSimpArgs false
set_option linter.unusedVariables false
abbrev ofV (x : It) : Value := .tuple #[epV (if okE x then ofA x else 0) (if okE x then ofB x else 0), .int .i64 (if okE x then 0 else 130)]
abbrev nofV (x : It) : Value := .tuple #[nmW (if okN x then naN x else 0) (if okN x then naM x else 0) (if okN x then naT x else 0) (if okN x then naS x else 0), .int .i64 (if okN x then 0 else 130)]
set_option maxHeartbeats 1000000 in
set_option maxRecDepth 100000 in
theorem of_c (x : It) (r : Rw) (w : World) (hx : ItR (fun k => k < w.heap.size) w x r) (hcx : Cb.cnt x ≤ 1000000) : Calls Tryd.prog 28 #[rwV r] w (Ret (ofV x) w) := by
  obtain ⟨k1, n1, ba1, bn1, bc1, s1, la1, ln1, lc1, rfl⟩ := hx.shape
  obtain ⟨W0, hW0⟩ : ∃ W, W = (w.alloc (.cells (rwC ⟨k1, n1, .slice ba1 bn1 bc1, s1, .slice la1 ln1 lc1⟩).toArray 48)).alloc (.cells #[.int .u32 0, .int .u32 0] 25) := ⟨_, rfl⟩
  have hb0 : Below w.heap.size w W0 := by rw [hW0]; exact (below_alloc w _).alloc (by simp) _
  have hs0 : W0.heap.size = w.heap.size + 2 := by rw [hW0]; simp
  have X0 : RowAt W0 w.heap.size (rwC ⟨k1, n1, .slice ba1 bn1 bc1, s1, .slice la1 ln1 lc1⟩).toArray 48 := by
    rw [hW0]; exact (RowAt.new w _ _).below (below_alloc _ _)
  have Z0 : RowAt W0 (w.heap.size + 1) #[.int .u32 0, .int .u32 0] 25 := by
    rw [hW0]
    have := RowAt.new (w.alloc (.cells (rwC ⟨k1, n1, .slice ba1 bn1 bc1, s1, .slice la1 ln1 lc1⟩).toArray 48)) #[.int .u32 0, .int .u32 0] 25
    rwa [World.size_alloc] at this
  have hrd := readE_c x _ W0 ((hx.up hb0).mono (fun k e => by omega)) hcx
  unfold ofV
  generalize (if okE x then ofA x else 0) = a at hrd ⊢
  generalize (if okE x then ofB x else 0) = b at hrd ⊢
  generalize (if okE x then (0 : Int) else 130) = e0 at hrd ⊢
  have HRD := Lib.hid (fun (W : World) (e : W = W0) => show Calls Tryd.prog 72 #[rwV ⟨k1, n1, .slice ba1 bn1 bc1, s1, .slice la1 ln1 lc1⟩, .func (.func 25) #[] #[], .func (.func 73) #[] #[]] W (Ret (.tuple #[epV a b, .int .i64 e0]) W0) by rw [e]; exact hrd)
  have HW0 := Lib.hid hW0
  have b0 := X0.cell (i := 0) rfl
  have b1 := X0.cell (i := 1) rfl
  have b2 := X0.cell (i := 2) rfl
  have b3 := X0.cell (i := 3) rfl
  have b4 := X0.cell (i := 4) rfl
  rw [hW0] at b0 b1 b2 b3 b4
  have HZ0 := Lib.hid Z0
  have HB0 := Lib.hid hb0
  have HS0 := Lib.hid hs0
  clear X0 Z0 hb0 hs0 hrd hW0 hx hcx
  go_enter Tryd.func28, Tryd.ntmps28
  go_wp2_with fail
  refine (HRD.out _ HW0.out.symm).mono ?_
  rintro en W1 ⟨rfl, hb1⟩
  have Z1 := HZ0.out.below hb1
  have HB1 := Lib.hid hb1
  have HZ1 := Lib.hid Z1
  have z0 := Z1.cell (i := 0) rfl
  have f0 := Z1.fz 0
  have z1 := Z1.cell (i := 1) rfl
  have f1 := Z1.fz 1
  clear hb1 Z1 b0 b1 b2 b3 b4
  go_wp2
  have hZ := (HZ1.out.set 0 (.int .u32 a)).set 1 (.int .u32 b)
  have g0 := RowAt.cell hZ (i := 0) (v := .int .u32 a) rfl
  have g1 := RowAt.cell hZ (i := 1) (v := .int .u32 b) rfl
  refine bodyPost_ret (v := .tuple #[epV a b, .int .i64 e0]) (by simp [results, Tryd.results28, go_sem, g0, g1]) rfl ?_
  exact ⟨rfl, But.below (O := fun k => w.heap.size ≤ k) ((But.of_below HB0.out).trans ((But.of_below HB1.out).trans ((But.setCell _ _ _ (by simp)).trans ((But.setCell _ _ _ (by simp)))))) (fun k e => e) (Nat.le_refl _)⟩
set_option maxHeartbeats 1000000 in
set_option maxRecDepth 100000 in
theorem nof_c (x : It) (r : Rw) (w : World) (hx : ItR (fun k => k < w.heap.size) w x r) (hcx : Cb.cnt x ≤ 1000000) : Calls Tryd.prog 22 #[rwV r] w (Ret (nofV x) w) := by
  obtain ⟨k1, n1, ba1, bn1, bc1, s1, la1, ln1, lc1, rfl⟩ := hx.shape
  obtain ⟨W0, hW0⟩ : ∃ W, W = (w.alloc (.cells (rwC ⟨k1, n1, .slice ba1 bn1 bc1, s1, .slice la1 ln1 lc1⟩).toArray 48)).alloc (.cells #[.int .u32 0, .int .u32 0, .int .u64 0, .int .u32 0] 31) := ⟨_, rfl⟩
  have hb0 : Below w.heap.size w W0 := by rw [hW0]; exact (below_alloc w _).alloc (by simp) _
  have hs0 : W0.heap.size = w.heap.size + 2 := by rw [hW0]; simp
  have X0 : RowAt W0 w.heap.size (rwC ⟨k1, n1, .slice ba1 bn1 bc1, s1, .slice la1 ln1 lc1⟩).toArray 48 := by
    rw [hW0]; exact (RowAt.new w _ _).below (below_alloc _ _)
  have Z0 : RowAt W0 (w.heap.size + 1) #[.int .u32 0, .int .u32 0, .int .u64 0, .int .u32 0] 31 := by
    rw [hW0]
    have := RowAt.new (w.alloc (.cells (rwC ⟨k1, n1, .slice ba1 bn1 bc1, s1, .slice la1 ln1 lc1⟩).toArray 48)) #[.int .u32 0, .int .u32 0, .int .u64 0, .int .u32 0] 31
    rwa [World.size_alloc] at this
  have hrd := readN_c x _ W0 ((hx.up hb0).mono (fun k e => by omega)) hcx
  unfold nofV
  generalize (if okN x then naN x else 0) = a at hrd ⊢
  generalize (if okN x then naM x else 0) = b at hrd ⊢
  generalize (if okN x then naT x else 0) = c at hrd ⊢
  generalize (if okN x then naS x else 0) = d at hrd ⊢
  generalize (if okN x then (0 : Int) else 130) = e0 at hrd ⊢
  have HRD := Lib.hid (fun (W : World) (e : W = W0) => show Calls Tryd.prog 66 #[rwV ⟨k1, n1, .slice ba1 bn1 bc1, s1, .slice la1 ln1 lc1⟩, .func (.func 17) #[] #[], .func (.func 67) #[] #[]] W (Ret (.tuple #[nmW a b c d, .int .i64 e0]) W0) by rw [e]; exact hrd)
  have HW0 := Lib.hid hW0
  have b0 := X0.cell (i := 0) rfl
  have b1 := X0.cell (i := 1) rfl
  have b2 := X0.cell (i := 2) rfl
  have b3 := X0.cell (i := 3) rfl
  have b4 := X0.cell (i := 4) rfl
  rw [hW0] at b0 b1 b2 b3 b4
  have HZ0 := Lib.hid Z0
  have HB0 := Lib.hid hb0
  have HS0 := Lib.hid hs0
  clear X0 Z0 hb0 hs0 hrd hW0 hx hcx
  go_enter Tryd.func22, Tryd.ntmps22
  go_wp2_with fail
  refine (HRD.out _ HW0.out.symm).mono ?_
  rintro en W1 ⟨rfl, hb1⟩
  have Z1 := HZ0.out.below hb1
  have HB1 := Lib.hid hb1
  have HZ1 := Lib.hid Z1
  have z0 := Z1.cell (i := 0) rfl
  have f0 := Z1.fz 0
  have z1 := Z1.cell (i := 1) rfl
  have f1 := Z1.fz 1
  have z2 := Z1.cell (i := 2) rfl
  have f2 := Z1.fz 2
  have z3 := Z1.cell (i := 3) rfl
  have f3 := Z1.fz 3
  clear hb1 Z1 b0 b1 b2 b3 b4
  go_wp2
  have hZ := (((HZ1.out.set 0 (.int .u32 a)).set 1 (.int .u32 b)).set 2 (.int .u64 c)).set 3 (.int .u32 d)
  have g0 := RowAt.cell hZ (i := 0) (v := .int .u32 a) rfl
  have g1 := RowAt.cell hZ (i := 1) (v := .int .u32 b) rfl
  have g2 := RowAt.cell hZ (i := 2) (v := .int .u64 c) rfl
  have g3 := RowAt.cell hZ (i := 3) (v := .int .u32 d) rfl
  refine bodyPost_ret (v := .tuple #[nmW a b c d, .int .i64 e0]) (by simp [results, Tryd.results22, go_sem, g0, g1, g2, g3]) rfl ?_
  exact ⟨rfl, But.below (O := fun k => w.heap.size ≤ k) ((But.of_below HB0.out).trans ((But.of_below HB1.out).trans ((But.setCell _ _ _ (by simp)).trans ((But.setCell _ _ _ (by simp)).trans ((But.setCell _ _ _ (by simp)).trans ((But.setCell _ _ _ (by simp)))))))) (fun k e => e) (Nat.le_refl _)⟩
end Go.Proofs.YtpfgepgjpnekdaaDoor

namespace Go.Proofs.YtpfgepgjpnekdaaDoor
open Go.RowKit Trc
set_option linter.unusedSimpArgs false
set_option linter.unusedVariables false
set_option maxRecDepth 100000 in
theorem rRight_c (n m : Nat) (w : World) : Calls Tryd.prog 27 #[epV n m] w (Ret (.bool (decide (Dig.chkP n m = 0))) w) := by
  by_cases h : n = 0
  · subst h
    by_cases hm : m = 0
    · subst hm
      rw [show decide (Dig.chkP 0 0 = 0) = true from rfl]
      go_enter Tryd.func27, Tryd.ntmps27
      go_wp2
      go_ret
      exact ⟨rfl, below_alloc _ _⟩
    · have hd : (((m : Int)) == 0) = false := by simp; omega
      rw [show decide (Dig.chkP 0 m = 0) = false from decide_eq_false (by rw [show Dig.chkP 0 m = 2 from if_pos ⟨rfl, hm⟩]; decide)]
      go_enter Tryd.func27, Tryd.ntmps27
      go_wp2
      go_ret
      exact ⟨rfl, below_alloc _ _⟩
  · have hd : decide ((0 : Int) < (n : Int)) = true := decide_eq_true (by omega)
    have hd2 : decide (0 < n) = true := decide_eq_true (by omega)
    rw [show decide (Dig.chkP n m = 0) = true from decide_eq_true (if_neg (fun e => h e.1))]
    clear h
    go_enter Tryd.func27, Tryd.ntmps27
    go_wp2
    go_ret
    exact ⟨rfl, below_alloc _ _⟩
set_option maxRecDepth 100000 in
theorem rRightName_c (n m t s : Nat) (w : World) : Calls Tryd.prog 21 #[nmW n m t s] w (Ret (.bool (decide (Dig.chkN n t = 0))) w) := by
  by_cases h : n = 0
  · subst h
    rw [show decide (Dig.chkN 0 t = 0) = false from decide_eq_false (by rw [show Dig.chkN 0 t = 2 from if_pos (.inl rfl)]; decide)]
    go_enter Tryd.func21, Tryd.ntmps21
    go_wp2
    go_ret
    exact ⟨rfl, below_alloc _ _⟩
  · have hd2 : decide (0 < n) = true := decide_eq_true (by omega)
    by_cases ht : 4611686018427387903 < t
    · have hd3 : decide ((t : Int) ≤ 4611686018427387903) = false := decide_eq_false (by omega)
      have hd4 : decide (t ≤ 4611686018427387903) = false := decide_eq_false (by omega)
      rw [show decide (Dig.chkN n t = 0) = false from decide_eq_false (by rw [show Dig.chkN n t = 2 from if_pos (.inr ht)]; decide)]
      clear h
      go_enter Tryd.func21, Tryd.ntmps21
      go_wp2
      go_ret
      exact ⟨rfl, below_alloc _ _⟩
    · have hd3 : decide ((t : Int) ≤ 4611686018427387903) = true := decide_eq_true (by omega)
      have hd4 : decide (t ≤ 4611686018427387903) = true := decide_eq_true (by omega)
      rw [show decide (Dig.chkN n t = 0) = true from decide_eq_true (if_neg (fun e => by rcases e with e | e; exact h e; exact ht e))]
      clear h
      go_enter Tryd.func21, Tryd.ntmps21
      go_wp2
      go_ret
      exact ⟨rfl, below_alloc _ _⟩
set_option maxHeartbeats 1000000 in
set_option maxRecDepth 100000 in
theorem rNumber_c (N : Nat) (hN : N < 18446744073709551616) (w : World) : Calls Tryd.prog 68 #[.int .u64 N] w (Ret (strV (Lib.decDigits N)) w) := by
  have hdl := dec_len N hN
  go_enter Tryd.func68, Tryd.ntmps68
  go_wp2
  go_loopw [0, 3] (fun vn vs wr => ∃ (v : Nat) (A : List UInt8), vn = .int .u64 v ∧ vs = strV A ∧ v ≤ N ∧ Below w.heap.size w wr ∧ RowKit.Hid (Lib.decDigits N = Lib.decDigits v ++ A)) (fun vn _ _ => (intOf vn).toNat)
  case atStart => exact ⟨N, [], rfl, rfl, Nat.le_refl _, Below.refl _ _, Lib.hid (by simp)⟩
  case round =>
    obtain ⟨v, A, rfl, rfl, hv, hB, HI⟩ := hrel
    have hAl : A.length ≤ 20 := by have := congrArg List.length HI.out; rw [List.length_append] at this; omega
    have hr0 : (0 : Int) ≤ (v : Int) % 10 := by omega
    have hr1 : (v : Int) % 10 < 10 := by omega
    obtain ⟨d, hd⟩ : ∃ d : Nat, (v : Int) % 10 = (d : Int) := ⟨v % 10, by omega⟩
    have HDN := Lib.hid (show d = v % 10 by omega)
    have hd9 : d < 10 := by omega
    obtain ⟨q, hq⟩ : ∃ q : Nat, (v : Int) / 10 = (q : Int) := ⟨v / 10, by omega⟩
    have HQN := Lib.hid (show q = v / 10 by omega)
    have hq9 : q ≤ 18446744073709551615 := by omega
    have hw1 : IntKind.u64.wrap (48 + (d : Int)) = 48 + (d : Int) := by rw [IntKind.wrap_u64]; omega
    have hw2 : IntKind.u8.wrap (48 + (d : Int)) = 48 + (d : Int) := by rw [IntKind.wrap_u8]; omega
    have HV := Lib.hid hv
    obtain ⟨c, hc⟩ : ∃ c : UInt8, UInt8.ofNat (48 + d) = c := ⟨_, rfl⟩
    have HC := Lib.hid hc
    have hcat := fun W => run_cat [c] A (by simp only [List.length_cons, List.length_nil]; omega) W
    have hcell : Value.int .u8 (c.toNat : Int) = .int .u8 (48 + (d : Int)) := by rw [← hc, Dig.toNat_dig hd9]; simp
    have hsl : Sl (wr.alloc (.cells #[.int .u8 (48 + (d : Int))] 5)) 1 (.slice (some ⟨wr.heap.size, 0, none⟩) 1 1) 1 (by8 [c]) := by
      refine ⟨rfl, .inr ⟨wr.heap.size, 0, 1, rfl, Nat.le_refl _, by unfold maxLen; omega, fun j u hj => ?_⟩⟩
      match j, hj with
      | 0, hj =>
        have : u = .int .u8 (48 + (d : Int)) := by rw [← hcell]; simpa [by8] using hj.symm
        rw [this]; exact cell_new _ _ _
    have hcv := run_str (P := Tryd.prog) (src := 45) (dst := 9) Tryd.underlying45 Tryd.underlying5 Tryd.underlying9 hsl
    have HAp := Lib.hid (show Lib.decDigits N = Lib.decDigits v ++ A from HI.out)
    have hB2 := hB.alloc (Nat.le_trans hB.size (Nat.le_refl _)) (.cells #[.int .u8 (48 + (d : Int))] 5)
    have hnl : ¬ (9223372036854775807 < 1 + A.length) := by omega
    have hnl2 : ¬ (9223372036854775807 < A.length + 1) := by omega
    have hap := bytes_append [c] A
    clear hr0 hr1 hAl hv hdl hsl hcell hc hcat
    by_cases h0 : q = 0
    · have hd0 : ((q : Int) == 0) = true := by simp [h0]
      have HF := Lib.hid (show Lib.decDigits N = [c] ++ A by
        rw [HAp.out]
        have e1 := HQN.out
        have e2 := HDN.out
        have h9 : v < 10 := by omega
        rw [← HC.out, Lib.decDigits, dif_pos h9, show v = d by omega])
      clear h0
      go_wp2
      go_ret
      exact ⟨by rw [HF.out]; rfl, hB2⟩
    · have hd0 : ((q : Int) == 0) = false := by simp; omega
      have HN := Lib.hid (show Lib.decDigits N = Lib.decDigits q ++ ([c] ++ A) by
        rw [HAp.out]
        have e1 := HQN.out
        have e2 := HDN.out
        have h9 : ¬ v < 10 := by omega
        rw [← HC.out, Lib.decDigits, dif_neg h9, ← e1, ← e2, List.append_assoc])
      have hqv : q < v := by have := HQN.out; omega
      have HQV := Lib.hid hqv
      clear h0 hqv
      go_wp2
      exact ⟨⟨q, _, rfl, rfl, by have := HQV.out; have := HV.out; omega, hB2, HN⟩, by have := HQV.out; simp [intOf]; omega⟩
end Go.Proofs.YtpfgepgjpnekdaaDoor
