/-
  NmTx: several texts in one (bundle.py).
-/
import Derived.Test.YtpfgepgjpnekdaaDoorNmI16
import Derived.Test.YtpfgepgjpnekdaaDoorNmI19
import Derived.Test.YtpfgepgjpnekdaaDoorNmI20
namespace Go.Proofs.YtpfgepgjpnekdaaDoor
open Go.RowKit Trc
set_option linter.unusedSimpArgs false
set_option linter.unusedVariables false
theorem bytes_append (a b : List UInt8) : (⟨a.toArray⟩ : ByteArray) ++ ⟨b.toArray⟩ = ⟨(a ++ b).toArray⟩ := by
  apply ByteArray.ext
  rw [ByteArray.data_append]
  simp
theorem run_cat (a b : List UInt8) (hl : a.length + b.length ≤ 9223372036854775807) (w : World) : (binOp .add 9 (strV a) (strV b)).run Tryd.prog w = .ok (strV (a ++ b)) w := by
  go_simp
  rw [if_neg (by simp; omega), bytes_append]
/-- One text behind another one. -/
def jn (a b : List UInt8) : List UInt8 := a ++ b
theorem jn_len (a b : List UInt8) : (jn a b).length = a.length + b.length := List.length_append
theorem pt_cat {O : Nat → Prop} {ops : Array Oper} {Q : Exit → Act → World → Prop} {i : Nat} {o : Oper} {t : Pt} {f : Act} {w : World} (hi : ops[i]? = some o) (hw : Region.wanted o (yielded ops f.tmps) = true) (x y : Operand) (ho : o.op = .binOp .add 9 x y 9)
    (a b : List UInt8) (hx : f.eval x = strV a) (hy : f.eval y = strV b) (hl : a.length + b.length ≤ 9223372036854775807) (h : wpPt Tryd.prog O ops Q t (f.put o.dst (strV (jn a b))) w) : wpPt Tryd.prog O ops Q (.q i t) f w :=
  pt_q hi hw (fun w' _ => by unfold execOp; simp only [ho, hx, hy, eqGuard, Sem.run_bind, Sem.run_pure, Result.andThen_ok, Bool.not_false, if_true, run_cat a b hl w', apply_ite, ite_self]; try rfl) h
theorem dec_len (u : Nat) (h : u < 18446744073709551616) : (Lib.decDigits u).length ≤ 20 := by
  by_cases h0 : u = 0
  · subst h0
    rw [Lib.decDigits, dif_pos (by decide)]
    simp
  · rw [Lib.decDigits_length]
    have := Lib.numDigits_eq u (by omega) h
    split at this <;> omega
namespace Dig
/-- An endpoint's text. -/
def toldP (n m : Nat) : List UInt8 := if n = 0 then nobodyL else ipnL ++ Lib.decDigits n ++ [46] ++ Lib.decDigits m
/-- A name's text. -/
def nameT (n m t s : Nat) : List UInt8 := toldP n m ++ [32] ++ Lib.decDigits t ++ [32] ++ Lib.decDigits s
theorem told_len (n m : Nat) (hn : n < 4294967296) (hm : m < 4294967296) : (toldP n m).length ≤ 45 := by
  have := dec_len n (by omega)
  have := dec_len m (by omega)
  unfold toldP
  split
  · decide
  · simp only [List.length_append, ipnL, List.length_cons, List.length_nil]; omega
def chkP (n m : Nat) : Int := if n = 0 ∧ m ≠ 0 then 2 else 0
def chkN (n t : Nat) : Int := if n = 0 ∨ 4611686018427387903 < t then 2 else 0
end Dig
abbrev epV (n m : Nat) : Value := .agg #[.int .u32 n, .int .u32 m]
abbrev nmW (n m t s : Nat) : Value := nmV ⟨n, m, t, s⟩
set_option maxRecDepth 100000 in
theorem check_cN (n m : Nat) (w : World) : Calls Tryd.prog 26 #[epV n m] w (Ret (.int .i64 (Dig.chkP n m)) w) := by
  by_cases h : n = 0
  · subst h
    by_cases hm : m = 0
    · subst hm
      go_enter Tryd.func26, Tryd.ntmps26
      go_wp2
      go_ret
      exact ⟨rfl, below_alloc _ _⟩
    · have hd : (((m : Int)) != 0) = true := by simp; omega
      rw [show Dig.chkP 0 m = 2 from if_pos ⟨rfl, hm⟩]
      go_enter Tryd.func26, Tryd.ntmps26
      go_wp2
      go_ret
      exact ⟨rfl, below_alloc _ _⟩
  · have hd : (((n : Int)) == 0) = false := by simp; omega
    rw [show Dig.chkP n m = 0 from if_neg (fun e => h e.1)]
    go_enter Tryd.func26, Tryd.ntmps26
    go_wp2
    go_ret
    exact ⟨rfl, below_alloc _ _⟩
set_option maxRecDepth 100000 in
theorem checkName_cN (n m t s : Nat) (w : World) : Calls Tryd.prog 20 #[nmW n m t s] w (Ret (.int .i64 (Dig.chkN n t)) w) := by
  by_cases h : n = 0
  · subst h
    rw [show Dig.chkN 0 t = 2 from if_pos (.inl rfl)]
    go_enter Tryd.func20, Tryd.ntmps20
    go_wp2
    go_ret
    exact ⟨rfl, below_alloc _ _⟩
  · have hd : (((n : Int)) == 0) = false := by simp; omega
    by_cases ht : 4611686018427387903 < t
    · have hd2 : decide ((4611686018427387903 : Int) < (t : Int)) = true := decide_eq_true (by omega)
      rw [show Dig.chkN n t = 2 from if_pos (.inr ht)]
      go_enter Tryd.func20, Tryd.ntmps20
      go_wp2
      go_ret
      exact ⟨rfl, below_alloc _ _⟩
    · have hd2 : decide ((4611686018427387903 : Int) < (t : Int)) = false := decide_eq_false (by omega)
      rw [show Dig.chkN n t = 0 from if_neg (fun e => by rcases e with e | e; exact h e; exact ht e)]
      go_enter Tryd.func20, Tryd.ntmps20
      go_wp2
      go_ret
      exact ⟨rfl, below_alloc _ _⟩
set_option maxHeartbeats 1000000 in
set_option maxRecDepth 100000 in
theorem told_c (n m : Nat) (hn : n < 4294967296) (hm : m < 4294967296) (w : World) (hT : NmT w) : Calls Tryd.prog 50 #[epV n m] w (Ret (strV (Dig.toldP n m)) w) := by
  have HT := Lib.hid hT
  clear hT
  by_cases h : n = 0
  · subst h
    rw [show Dig.toldP 0 m = Dig.nobodyL from if_pos rfl]
    go_enter Tryd.func50, Tryd.ntmps50
    go_wp2
    go_ret
    exact ⟨rfl, below_alloc _ _⟩
  · have hd : (((n : Int)) == 0) = false := by simp; omega
    have HR := Lib.hid (show Dig.toldP n m = Dig.ipnL ++ Lib.decDigits n ++ [46] ++ Lib.decDigits m from if_neg h)
    have q0 := RowAt.new w #[.int .u32 n, .int .u32 m] 25
    have hB1 := below_alloc w (.cells #[.int .u32 n, .int .u32 m] 25)
    have dl1 := dec_len n (by omega)
    have dl2 := dec_len m (by omega)
    clear h
    go_enter Tryd.func50, Tryd.ntmps50
    go_wp2
    refine wp_region_pt (fun _ => False) (.q 0 (.q 1 (.q 5 (.q 6 (.c 2 (.q 3 (.q 4 (.c 7 (.q 8 (.q 9 .done)))))))))) (by kernel_rfl) (by kernel_rfl) (by kernel_rfl) (by decide) (fun _ _ d _ _ h => by cases d <;> exact h) (fun Wd hBd => ?_)
    try simp only [Act.put, List.getElem_toArray, List.getElem_cons_zero, List.getElem_cons_succ, List.setIfInBounds_toArray, List.set_cons_zero, List.set_cons_succ]
    have K0 := q0.below hBd
    have k0 := K0.cell (i := 0) rfl
    have k1 := K0.cell (i := 1) rfl
    have B0 := below_up hB1 hBd
    refine pt_q (v := ?_) rfl (by rfl) ?_ ?_
    rotate_left
    · intro w' hBw'
      first | (go_simp; done) | (go_simp; with_reducible rfl)
    try simp only [Act.put, List.getElem_toArray, List.getElem_cons_zero, List.getElem_cons_succ, List.setIfInBounds_toArray, List.set_cons_zero, List.set_cons_succ]
    refine pt_q (v := ?_) rfl (by rfl) ?_ ?_
    rotate_left
    · intro w' hBw'
      have qL := hBw'.cell k0 (fun e => e)
      first | (go_simp; done) | (go_simp; with_reducible rfl)
    try simp only [Act.put, List.getElem_toArray, List.getElem_cons_zero, List.getElem_cons_succ, List.setIfInBounds_toArray, List.set_cons_zero, List.set_cons_succ]
    refine pt_q (v := ?_) rfl (by rfl) ?_ ?_
    rotate_left
    · intro w' hBw'
      first | (go_simp; done) | (go_simp; with_reducible rfl)
    try simp only [Act.put, List.getElem_toArray, List.getElem_cons_zero, List.getElem_cons_succ, List.setIfInBounds_toArray, List.set_cons_zero, List.set_cons_succ]
    refine pt_q (v := ?_) rfl (by rfl) ?_ ?_
    rotate_left
    · intro w' hBw'
      have qL := hBw'.cell k1 (fun e => e)
      first | (go_simp; done) | (go_simp; with_reducible rfl)
    try simp only [Act.put, List.getElem_toArray, List.getElem_cons_zero, List.getElem_cons_succ, List.setIfInBounds_toArray, List.set_cons_zero, List.set_cons_succ]
    refine pt_c ?_
    refine pt_step rfl (by rfl) (fun K hK => ?_)
    go_simp
    refine (num32_c n hn _ (HT.out.up B0)).mono ?_
    rintro en w1 ⟨rfl, hb0⟩
    have B1 := below_up B0 hb0
    refine hK.out _ _ (But.of_below hb0) ?_
    clear hK K
    try simp only [Act.put, List.getElem_toArray, List.getElem_cons_zero, List.getElem_cons_succ, List.setIfInBounds_toArray, List.set_cons_zero, List.set_cons_succ]
    refine pt_cat rfl (by rfl) (.const (.string ⟨#[105, 112, 110, 58]⟩)) (.tmp 8) rfl (Dig.ipnL) (Lib.decDigits n) rfl rfl (by simp only [jn_len, Dig.ipnL, List.length_cons, List.length_nil]; omega) ?_
    try simp only [Act.put, List.getElem_toArray, List.getElem_cons_zero, List.getElem_cons_succ, List.setIfInBounds_toArray, List.set_cons_zero, List.set_cons_succ]
    refine pt_cat rfl (by rfl) (.tmp 9) (.const (.string ⟨#[46]⟩)) rfl (jn Dig.ipnL (Lib.decDigits n)) ([46]) rfl rfl (by simp only [jn_len, Dig.ipnL, List.length_cons, List.length_nil]; omega) ?_
    try simp only [Act.put, List.getElem_toArray, List.getElem_cons_zero, List.getElem_cons_succ, List.setIfInBounds_toArray, List.set_cons_zero, List.set_cons_succ]
    refine pt_c ?_
    refine pt_step rfl (by rfl) (fun K hK => ?_)
    go_simp
    refine (num32_c m hm _ (HT.out.up B1)).mono ?_
    rintro en w2 ⟨rfl, hb1⟩
    have B2 := below_up B1 hb1
    refine hK.out _ _ (But.of_below hb1) ?_
    clear hK K
    try simp only [Act.put, List.getElem_toArray, List.getElem_cons_zero, List.getElem_cons_succ, List.setIfInBounds_toArray, List.set_cons_zero, List.set_cons_succ]
    refine pt_cat rfl (by rfl) (.tmp 10) (.tmp 13) rfl (jn (jn Dig.ipnL (Lib.decDigits n)) [46]) (Lib.decDigits m) rfl rfl (by simp only [jn_len, Dig.ipnL, List.length_cons, List.length_nil]; omega) ?_
    try simp only [Act.put, List.getElem_toArray, List.getElem_cons_zero, List.getElem_cons_succ, List.setIfInBounds_toArray, List.set_cons_zero, List.set_cons_succ]
    refine pt_q (v := ?_) rfl (by rfl) ?_ ?_
    rotate_left
    · intro w' hBw'
      first | (go_simp; done) | (go_simp; with_reducible rfl)
    try simp only [Act.put, List.getElem_toArray, List.getElem_cons_zero, List.getElem_cons_succ, List.setIfInBounds_toArray, List.set_cons_zero, List.set_cons_succ]
    refine pt_done ?_
    go_wp2
    go_ret
    refine ⟨?_, B2⟩
    rw [HR.out]
    rfl
set_option maxRecDepth 100000 in
theorem madeE_no (n m : Nat) (e : Int) (he : e ≠ 0) (w : World) : Calls Tryd.prog 49 #[epV n m, .int .i64 e, .func (.func 50) #[] #[]] w (Ret (.tuple #[.string ⟨#[]⟩, .int .i64 e]) w) := by
  have hd : (e != 0) = true := by simpa using he
  clear he
  go_enter Tryd.func49, Tryd.ntmps49
  go_wp2
  go_ret2
  exact ⟨rfl, below_alloc _ _⟩
set_option maxRecDepth 100000 in
theorem madeE_yes (n m : Nat) (hn : n < 4294967296) (hm : m < 4294967296) (w : World) (hT : NmT w) : Calls Tryd.prog 49 #[epV n m, .int .i64 0, .func (.func 50) #[] #[]] w (Ret (.tuple #[strV (Dig.toldP n m), .int .i64 0]) w) := by
  have hent : Enters Tryd.prog 50 := enters_of Tryd.func50 (by kernel_rfl) rfl
  unfold Enters at hent
  have q0 := RowAt.new w #[.int .u32 n, .int .u32 m] 25
  have hB1 := below_alloc w (.cells #[.int .u32 n, .int .u32 m] 25)
  go_enter Tryd.func49, Tryd.ntmps49
  go_wp2_with (refine (told_c n m hn hm _ (hT.up hB1)).mono ?_; rintro en w1 ⟨rfl, hb1⟩)
  go_ret2
  exact ⟨rfl, below_up hB1 hb1⟩
set_option maxHeartbeats 1000000 in
set_option maxRecDepth 100000 in
theorem nameText1_c (n m t s : Nat) (hn : n < 4294967296) (hm : m < 4294967296) (ht : t < 18446744073709551616) (hs : s < 4294967296) (w : World) (hT : NmT w) : Calls Tryd.prog 52 #[nmW n m t s] w (Ret (strV (Dig.nameT n m t s)) w) := by
  have HT := Lib.hid hT
  clear hT
  have q0 := RowAt.new w (nmC ⟨n, m, t, s⟩).toArray 31
  have hB1 := below_alloc w (.cells (nmC ⟨n, m, t, s⟩).toArray 31)
  have dl1 := Dig.told_len n m hn hm
  have dl2 := dec_len t ht
  have dl3 := dec_len s (by omega)
  go_enter Tryd.func52, Tryd.ntmps52
  go_wp2
  refine wp_region_pt (fun _ => False) (.q 0 (.q 1 (.q 4 (.q 5 (.q 9 (.q 10 (.c 2 (.q 3 (.c 6 (.q 7 (.q 8 (.c 11 (.q 12 (.q 13 .done)))))))))))))) (by kernel_rfl) (by kernel_rfl) (by kernel_rfl) (by decide) (fun _ _ d _ _ h => by cases d <;> exact h) (fun Wd hBd => ?_)
  try simp only [Act.put, List.getElem_toArray, List.getElem_cons_zero, List.getElem_cons_succ, List.setIfInBounds_toArray, List.set_cons_zero, List.set_cons_succ]
  have K0 := q0.below hBd
  have k0 := K0.cell (i := 2) rfl
  have k1 := K0.cell (i := 3) rfl
  have B0 := below_up hB1 hBd
  refine pt_q (v := ?_) rfl (by rfl) ?_ ?_
  rotate_left
  · intro w' hBw'
    first | (go_simp; done) | (go_simp; with_reducible rfl)
  try simp only [Act.put, List.getElem_toArray, List.getElem_cons_zero, List.getElem_cons_succ, List.setIfInBounds_toArray, List.set_cons_zero, List.set_cons_succ]
  refine pt_load rfl (by rfl) 25 (.tmp 3) rfl w.heap.size 0 rfl [.int .u32 n, .int .u32 m] _ (rangeAt_sub K0.range 0 0 rfl (fun j hj => by match j, hj with | 0, _ => rfl | 1, _ => rfl)) (fun e => e) Tryd.underlying25 rfl (by kernel_rfl) ?_
  try simp only [Act.put, List.getElem_toArray, List.getElem_cons_zero, List.getElem_cons_succ, List.setIfInBounds_toArray, List.set_cons_zero, List.set_cons_succ]
  refine pt_q (v := ?_) rfl (by rfl) ?_ ?_
  rotate_left
  · intro w' hBw'
    first | (go_simp; done) | (go_simp; with_reducible rfl)
  try simp only [Act.put, List.getElem_toArray, List.getElem_cons_zero, List.getElem_cons_succ, List.setIfInBounds_toArray, List.set_cons_zero, List.set_cons_succ]
  refine pt_q (v := ?_) rfl (by rfl) ?_ ?_
  rotate_left
  · intro w' hBw'
    have qL := hBw'.cell k0 (fun e => e)
    first | (go_simp; done) | (go_simp; with_reducible rfl)
  try simp only [Act.put, List.getElem_toArray, List.getElem_cons_zero, List.getElem_cons_succ, List.setIfInBounds_toArray, List.set_cons_zero, List.set_cons_succ]
  refine pt_q (v := ?_) rfl (by rfl) ?_ ?_
  rotate_left
  · intro w' hBw'
    first | (go_simp; done) | (go_simp; with_reducible rfl)
  try simp only [Act.put, List.getElem_toArray, List.getElem_cons_zero, List.getElem_cons_succ, List.setIfInBounds_toArray, List.set_cons_zero, List.set_cons_succ]
  refine pt_q (v := ?_) rfl (by rfl) ?_ ?_
  rotate_left
  · intro w' hBw'
    have qL := hBw'.cell k1 (fun e => e)
    first | (go_simp; done) | (go_simp; with_reducible rfl)
  try simp only [Act.put, List.getElem_toArray, List.getElem_cons_zero, List.getElem_cons_succ, List.setIfInBounds_toArray, List.set_cons_zero, List.set_cons_succ]
  refine pt_c ?_
  refine pt_step rfl (by rfl) (fun K hK => ?_)
  go_simp
  refine (told_c n m hn hm _ (HT.out.up B0)).mono ?_
  rintro en w1 ⟨rfl, hb0⟩
  have B1 := below_up B0 hb0
  refine hK.out _ _ (But.of_below hb0) ?_
  clear hK K
  try simp only [Act.put, List.getElem_toArray, List.getElem_cons_zero, List.getElem_cons_succ, List.setIfInBounds_toArray, List.set_cons_zero, List.set_cons_succ]
  refine pt_cat rfl (by rfl) (.tmp 5) (.const (.string ⟨#[32]⟩)) rfl (Dig.toldP n m) ([32]) rfl rfl (by simp only [jn_len, Dig.ipnL, List.length_cons, List.length_nil]; omega) ?_
  try simp only [Act.put, List.getElem_toArray, List.getElem_cons_zero, List.getElem_cons_succ, List.setIfInBounds_toArray, List.set_cons_zero, List.set_cons_succ]
  refine pt_c ?_
  refine pt_step rfl (by rfl) (fun K hK => ?_)
  go_simp
  refine (num64_c t ht _ (HT.out.up B1)).mono ?_
  rintro en w2 ⟨rfl, hb1⟩
  have B2 := below_up B1 hb1
  refine hK.out _ _ (But.of_below hb1) ?_
  clear hK K
  try simp only [Act.put, List.getElem_toArray, List.getElem_cons_zero, List.getElem_cons_succ, List.setIfInBounds_toArray, List.set_cons_zero, List.set_cons_succ]
  refine pt_cat rfl (by rfl) (.tmp 6) (.tmp 9) rfl (jn (Dig.toldP n m) [32]) (Lib.decDigits t) rfl rfl (by simp only [jn_len, Dig.ipnL, List.length_cons, List.length_nil]; omega) ?_
  try simp only [Act.put, List.getElem_toArray, List.getElem_cons_zero, List.getElem_cons_succ, List.setIfInBounds_toArray, List.set_cons_zero, List.set_cons_succ]
  refine pt_cat rfl (by rfl) (.tmp 10) (.const (.string ⟨#[32]⟩)) rfl (jn (jn (Dig.toldP n m) [32]) (Lib.decDigits t)) ([32]) rfl rfl (by simp only [jn_len, Dig.ipnL, List.length_cons, List.length_nil]; omega) ?_
  try simp only [Act.put, List.getElem_toArray, List.getElem_cons_zero, List.getElem_cons_succ, List.setIfInBounds_toArray, List.set_cons_zero, List.set_cons_succ]
  refine pt_c ?_
  refine pt_step rfl (by rfl) (fun K hK => ?_)
  go_simp
  refine (num32_c s hs _ (HT.out.up B2)).mono ?_
  rintro en w3 ⟨rfl, hb2⟩
  have B3 := below_up B2 hb2
  refine hK.out _ _ (But.of_below hb2) ?_
  clear hK K
  try simp only [Act.put, List.getElem_toArray, List.getElem_cons_zero, List.getElem_cons_succ, List.setIfInBounds_toArray, List.set_cons_zero, List.set_cons_succ]
  refine pt_cat rfl (by rfl) (.tmp 11) (.tmp 14) rfl (jn (jn (jn (Dig.toldP n m) [32]) (Lib.decDigits t)) [32]) (Lib.decDigits s) rfl rfl (by simp only [jn_len, Dig.ipnL, List.length_cons, List.length_nil]; omega) ?_
  try simp only [Act.put, List.getElem_toArray, List.getElem_cons_zero, List.getElem_cons_succ, List.setIfInBounds_toArray, List.set_cons_zero, List.set_cons_succ]
  refine pt_q (v := ?_) rfl (by rfl) ?_ ?_
  rotate_left
  · intro w' hBw'
    first | (go_simp; done) | (go_simp; with_reducible rfl)
  try simp only [Act.put, List.getElem_toArray, List.getElem_cons_zero, List.getElem_cons_succ, List.setIfInBounds_toArray, List.set_cons_zero, List.set_cons_succ]
  refine pt_done ?_
  go_wp2
  go_ret
  exact ⟨rfl, B3⟩
set_option maxRecDepth 100000 in
theorem madeN_no (n m t s : Nat) (e : Int) (he : e ≠ 0) (w : World) : Calls Tryd.prog 51 #[nmW n m t s, .int .i64 e, .func (.func 52) #[] #[]] w (Ret (.tuple #[.string ⟨#[]⟩, .int .i64 e]) w) := by
  have hd : (e != 0) = true := by simpa using he
  clear he
  go_enter Tryd.func51, Tryd.ntmps51
  go_wp2
  go_ret2
  exact ⟨rfl, below_alloc _ _⟩
set_option maxRecDepth 100000 in
theorem madeN_yes (n m t s : Nat) (hn : n < 4294967296) (hm : m < 4294967296) (ht : t < 18446744073709551616) (hs : s < 4294967296) (w : World) (hT : NmT w) : Calls Tryd.prog 51 #[nmW n m t s, .int .i64 0, .func (.func 52) #[] #[]] w (Ret (.tuple #[strV (Dig.nameT n m t s), .int .i64 0]) w) := by
  have hent : Enters Tryd.prog 52 := enters_of Tryd.func52 (by kernel_rfl) rfl
  unfold Enters at hent
  have q0 := RowAt.new w (nmC ⟨n, m, t, s⟩).toArray 31
  have hB1 := below_alloc w (.cells (nmC ⟨n, m, t, s⟩).toArray 31)
  go_enter Tryd.func51, Tryd.ntmps51
  go_wp2_with (refine (nameText1_c n m t s hn hm ht hs _ (hT.up hB1)).mono ?_; rintro en w1 ⟨rfl, hb1⟩)
  go_ret2
  exact ⟨rfl, below_up hB1 hb1⟩
set_option maxHeartbeats 1000000 in
set_option maxRecDepth 100000 in
theorem text_c (n m : Nat) (hn : n < 4294967296) (hm : m < 4294967296) (w : World) (hT : NmT w) : Calls Tryd.prog 15 #[epV n m] w (Ret (.tuple #[if Dig.chkP n m = 0 then strV (Dig.toldP n m) else .string ⟨#[]⟩, .int .i64 (Dig.chkP n m)]) w) := by
  have HT := Lib.hid hT
  clear hT
  have q0 := RowAt.new w #[.int .u32 n, .int .u32 m] 25
  have hB1 := below_alloc w (.cells #[.int .u32 n, .int .u32 m] 25)
  by_cases hc : Dig.chkP n m = 0
  · have HC := Lib.hid hc
    rw [if_pos hc, hc]
    clear hc
    go_enter Tryd.func15, Tryd.ntmps15
    go_wp2
    refine wp_region_pt (fun _ => False) (.q 0 (.q 1 (.c 2 (.c 3 (.q 4 (.q 5 (.q 6 (.q 7 .done)))))))) (by kernel_rfl) (by kernel_rfl) (by kernel_rfl) (by decide) (fun _ _ d _ _ h => by cases d <;> exact h) (fun Wd hBd => ?_)
    try simp only [Act.put, List.getElem_toArray, List.getElem_cons_zero, List.getElem_cons_succ, List.setIfInBounds_toArray, List.set_cons_zero, List.set_cons_succ]
    have K0 := q0.below hBd
    have B0 := below_up hB1 hBd
    refine pt_load rfl (by rfl) 25 (.tmp 1) rfl w.heap.size 0 rfl [.int .u32 n, .int .u32 m] _ K0.range (fun e => e) Tryd.underlying25 rfl (by kernel_rfl) ?_
    try simp only [Act.put, List.getElem_toArray, List.getElem_cons_zero, List.getElem_cons_succ, List.setIfInBounds_toArray, List.set_cons_zero, List.set_cons_succ]
    refine pt_load rfl (by rfl) 25 (.tmp 1) rfl w.heap.size 0 rfl [.int .u32 n, .int .u32 m] _ K0.range (fun e => e) Tryd.underlying25 rfl (by kernel_rfl) ?_
    try simp only [Act.put, List.getElem_toArray, List.getElem_cons_zero, List.getElem_cons_succ, List.setIfInBounds_toArray, List.set_cons_zero, List.set_cons_succ]
    refine pt_c ?_
    refine pt_step rfl (by rfl) (fun K hK => ?_)
    go_simp
    refine (check_cN n m _).mono ?_
    rintro en w1 ⟨rfl, hb0⟩
    rw [HC.out]
    have B1 := below_up B0 hb0
    refine hK.out _ _ (But.of_below hb0) ?_
    clear hK K
    try simp only [Act.put, List.getElem_toArray, List.getElem_cons_zero, List.getElem_cons_succ, List.setIfInBounds_toArray, List.set_cons_zero, List.set_cons_succ]
    refine pt_c ?_
    refine pt_step rfl (by rfl) (fun K hK => ?_)
    go_simp
    refine (madeE_yes n m hn hm _ (HT.out.up B1)).mono ?_
    rintro en w2 ⟨rfl, hb1⟩
    have B2 := below_up B1 hb1
    refine hK.out _ _ (But.of_below hb1) ?_
    clear hK K
    try simp only [Act.put, List.getElem_toArray, List.getElem_cons_zero, List.getElem_cons_succ, List.setIfInBounds_toArray, List.set_cons_zero, List.set_cons_succ]
    refine pt_q (v := ?_) rfl (by rfl) ?_ ?_
    rotate_left
    · intro w' hBw'
      first | (go_simp; done) | (go_simp; with_reducible rfl)
    try simp only [Act.put, List.getElem_toArray, List.getElem_cons_zero, List.getElem_cons_succ, List.setIfInBounds_toArray, List.set_cons_zero, List.set_cons_succ]
    refine pt_q (v := ?_) rfl (by rfl) ?_ ?_
    rotate_left
    · intro w' hBw'
      first | (go_simp; done) | (go_simp; with_reducible rfl)
    try simp only [Act.put, List.getElem_toArray, List.getElem_cons_zero, List.getElem_cons_succ, List.setIfInBounds_toArray, List.set_cons_zero, List.set_cons_succ]
    refine pt_q (v := ?_) rfl (by rfl) ?_ ?_
    rotate_left
    · intro w' hBw'
      first | (go_simp; done) | (go_simp; with_reducible rfl)
    try simp only [Act.put, List.getElem_toArray, List.getElem_cons_zero, List.getElem_cons_succ, List.setIfInBounds_toArray, List.set_cons_zero, List.set_cons_succ]
    refine pt_q (v := ?_) rfl (by rfl) ?_ ?_
    rotate_left
    · intro w' hBw'
      first | (go_simp; done) | (go_simp; with_reducible rfl)
    try simp only [Act.put, List.getElem_toArray, List.getElem_cons_zero, List.getElem_cons_succ, List.setIfInBounds_toArray, List.set_cons_zero, List.set_cons_succ]
    refine pt_done ?_
    go_wp2
    go_ret2
    exact ⟨rfl, B2⟩
  · have h2 : Dig.chkP n m = 2 := by unfold Dig.chkP at hc ⊢; split; rfl; rename_i h; exact absurd (if_neg h) hc
    have HC := Lib.hid h2
    rw [if_neg hc, h2]
    clear hc h2
    go_enter Tryd.func15, Tryd.ntmps15
    go_wp2
    refine wp_region_pt (fun _ => False) (.q 0 (.q 1 (.c 2 (.c 3 (.q 4 (.q 5 (.q 6 (.q 7 .done)))))))) (by kernel_rfl) (by kernel_rfl) (by kernel_rfl) (by decide) (fun _ _ d _ _ h => by cases d <;> exact h) (fun Wd hBd => ?_)
    try simp only [Act.put, List.getElem_toArray, List.getElem_cons_zero, List.getElem_cons_succ, List.setIfInBounds_toArray, List.set_cons_zero, List.set_cons_succ]
    have K0 := q0.below hBd
    have B0 := below_up hB1 hBd
    refine pt_load rfl (by rfl) 25 (.tmp 1) rfl w.heap.size 0 rfl [.int .u32 n, .int .u32 m] _ K0.range (fun e => e) Tryd.underlying25 rfl (by kernel_rfl) ?_
    try simp only [Act.put, List.getElem_toArray, List.getElem_cons_zero, List.getElem_cons_succ, List.setIfInBounds_toArray, List.set_cons_zero, List.set_cons_succ]
    refine pt_load rfl (by rfl) 25 (.tmp 1) rfl w.heap.size 0 rfl [.int .u32 n, .int .u32 m] _ K0.range (fun e => e) Tryd.underlying25 rfl (by kernel_rfl) ?_
    try simp only [Act.put, List.getElem_toArray, List.getElem_cons_zero, List.getElem_cons_succ, List.setIfInBounds_toArray, List.set_cons_zero, List.set_cons_succ]
    refine pt_c ?_
    refine pt_step rfl (by rfl) (fun K hK => ?_)
    go_simp
    refine (check_cN n m _).mono ?_
    rintro en w1 ⟨rfl, hb0⟩
    rw [HC.out]
    have B1 := below_up B0 hb0
    refine hK.out _ _ (But.of_below hb0) ?_
    clear hK K
    try simp only [Act.put, List.getElem_toArray, List.getElem_cons_zero, List.getElem_cons_succ, List.setIfInBounds_toArray, List.set_cons_zero, List.set_cons_succ]
    refine pt_c ?_
    refine pt_step rfl (by rfl) (fun K hK => ?_)
    go_simp
    refine (madeE_no n m 2 (by decide) _).mono ?_
    rintro en w2 ⟨rfl, hb1⟩
    have B2 := below_up B1 hb1
    refine hK.out _ _ (But.of_below hb1) ?_
    clear hK K
    try simp only [Act.put, List.getElem_toArray, List.getElem_cons_zero, List.getElem_cons_succ, List.setIfInBounds_toArray, List.set_cons_zero, List.set_cons_succ]
    refine pt_q (v := ?_) rfl (by rfl) ?_ ?_
    rotate_left
    · intro w' hBw'
      first | (go_simp; done) | (go_simp; with_reducible rfl)
    try simp only [Act.put, List.getElem_toArray, List.getElem_cons_zero, List.getElem_cons_succ, List.setIfInBounds_toArray, List.set_cons_zero, List.set_cons_succ]
    refine pt_q (v := ?_) rfl (by rfl) ?_ ?_
    rotate_left
    · intro w' hBw'
      first | (go_simp; done) | (go_simp; with_reducible rfl)
    try simp only [Act.put, List.getElem_toArray, List.getElem_cons_zero, List.getElem_cons_succ, List.setIfInBounds_toArray, List.set_cons_zero, List.set_cons_succ]
    refine pt_q (v := ?_) rfl (by rfl) ?_ ?_
    rotate_left
    · intro w' hBw'
      first | (go_simp; done) | (go_simp; with_reducible rfl)
    try simp only [Act.put, List.getElem_toArray, List.getElem_cons_zero, List.getElem_cons_succ, List.setIfInBounds_toArray, List.set_cons_zero, List.set_cons_succ]
    refine pt_q (v := ?_) rfl (by rfl) ?_ ?_
    rotate_left
    · intro w' hBw'
      first | (go_simp; done) | (go_simp; with_reducible rfl)
    try simp only [Act.put, List.getElem_toArray, List.getElem_cons_zero, List.getElem_cons_succ, List.setIfInBounds_toArray, List.set_cons_zero, List.set_cons_succ]
    refine pt_done ?_
    go_wp2
    go_ret2
    exact ⟨rfl, B2⟩
set_option maxHeartbeats 1000000 in
set_option maxRecDepth 100000 in
theorem nameText_c (n m t s : Nat) (hn : n < 4294967296) (hm : m < 4294967296) (ht : t < 18446744073709551616) (hs : s < 4294967296) (w : World) (hT : NmT w) : Calls Tryd.prog 16 #[nmW n m t s] w (Ret (.tuple #[if Dig.chkN n t = 0 then strV (Dig.nameT n m t s) else .string ⟨#[]⟩, .int .i64 (Dig.chkN n t)]) w) := by
  have HT := Lib.hid hT
  clear hT
  have q0 := RowAt.new w (nmC ⟨n, m, t, s⟩).toArray 31
  have hB1 := below_alloc w (.cells (nmC ⟨n, m, t, s⟩).toArray 31)
  by_cases hc : Dig.chkN n t = 0
  · have HC := Lib.hid hc
    rw [if_pos hc, hc]
    clear hc
    go_enter Tryd.func16, Tryd.ntmps16
    go_wp2
    refine wp_region_pt (fun _ => False) (.q 0 (.q 1 (.c 2 (.c 3 (.q 4 (.q 5 (.q 6 (.q 7 .done)))))))) (by kernel_rfl) (by kernel_rfl) (by kernel_rfl) (by decide) (fun _ _ d _ _ h => by cases d <;> exact h) (fun Wd hBd => ?_)
    try simp only [Act.put, List.getElem_toArray, List.getElem_cons_zero, List.getElem_cons_succ, List.setIfInBounds_toArray, List.set_cons_zero, List.set_cons_succ]
    have K0 := q0.below hBd
    have B0 := below_up hB1 hBd
    refine pt_load rfl (by rfl) 31 (.tmp 1) rfl w.heap.size 0 rfl (nmC ⟨n, m, t, s⟩) _ K0.range (fun e => e) Tryd.underlying31 rfl (by kernel_rfl) ?_
    try simp only [Act.put, List.getElem_toArray, List.getElem_cons_zero, List.getElem_cons_succ, List.setIfInBounds_toArray, List.set_cons_zero, List.set_cons_succ]
    refine pt_load rfl (by rfl) 31 (.tmp 1) rfl w.heap.size 0 rfl (nmC ⟨n, m, t, s⟩) _ K0.range (fun e => e) Tryd.underlying31 rfl (by kernel_rfl) ?_
    try simp only [Act.put, List.getElem_toArray, List.getElem_cons_zero, List.getElem_cons_succ, List.setIfInBounds_toArray, List.set_cons_zero, List.set_cons_succ]
    refine pt_c ?_
    refine pt_step rfl (by rfl) (fun K hK => ?_)
    go_simp
    refine (checkName_cN n m t s _).mono ?_
    rintro en w1 ⟨rfl, hb0⟩
    rw [HC.out]
    have B1 := below_up B0 hb0
    refine hK.out _ _ (But.of_below hb0) ?_
    clear hK K
    try simp only [Act.put, List.getElem_toArray, List.getElem_cons_zero, List.getElem_cons_succ, List.setIfInBounds_toArray, List.set_cons_zero, List.set_cons_succ]
    refine pt_c ?_
    refine pt_step rfl (by rfl) (fun K hK => ?_)
    go_simp
    refine (madeN_yes n m t s hn hm ht hs _ (HT.out.up B1)).mono ?_
    rintro en w2 ⟨rfl, hb1⟩
    have B2 := below_up B1 hb1
    refine hK.out _ _ (But.of_below hb1) ?_
    clear hK K
    try simp only [Act.put, List.getElem_toArray, List.getElem_cons_zero, List.getElem_cons_succ, List.setIfInBounds_toArray, List.set_cons_zero, List.set_cons_succ]
    refine pt_q (v := ?_) rfl (by rfl) ?_ ?_
    rotate_left
    · intro w' hBw'
      first | (go_simp; done) | (go_simp; with_reducible rfl)
    try simp only [Act.put, List.getElem_toArray, List.getElem_cons_zero, List.getElem_cons_succ, List.setIfInBounds_toArray, List.set_cons_zero, List.set_cons_succ]
    refine pt_q (v := ?_) rfl (by rfl) ?_ ?_
    rotate_left
    · intro w' hBw'
      first | (go_simp; done) | (go_simp; with_reducible rfl)
    try simp only [Act.put, List.getElem_toArray, List.getElem_cons_zero, List.getElem_cons_succ, List.setIfInBounds_toArray, List.set_cons_zero, List.set_cons_succ]
    refine pt_q (v := ?_) rfl (by rfl) ?_ ?_
    rotate_left
    · intro w' hBw'
      first | (go_simp; done) | (go_simp; with_reducible rfl)
    try simp only [Act.put, List.getElem_toArray, List.getElem_cons_zero, List.getElem_cons_succ, List.setIfInBounds_toArray, List.set_cons_zero, List.set_cons_succ]
    refine pt_q (v := ?_) rfl (by rfl) ?_ ?_
    rotate_left
    · intro w' hBw'
      first | (go_simp; done) | (go_simp; with_reducible rfl)
    try simp only [Act.put, List.getElem_toArray, List.getElem_cons_zero, List.getElem_cons_succ, List.setIfInBounds_toArray, List.set_cons_zero, List.set_cons_succ]
    refine pt_done ?_
    go_wp2
    go_ret2
    exact ⟨rfl, B2⟩
  · have h2 : Dig.chkN n t = 2 := by unfold Dig.chkN at hc ⊢; split; rfl; rename_i h; exact absurd (if_neg h) hc
    have HC := Lib.hid h2
    rw [if_neg hc, h2]
    clear hc h2
    go_enter Tryd.func16, Tryd.ntmps16
    go_wp2
    refine wp_region_pt (fun _ => False) (.q 0 (.q 1 (.c 2 (.c 3 (.q 4 (.q 5 (.q 6 (.q 7 .done)))))))) (by kernel_rfl) (by kernel_rfl) (by kernel_rfl) (by decide) (fun _ _ d _ _ h => by cases d <;> exact h) (fun Wd hBd => ?_)
    try simp only [Act.put, List.getElem_toArray, List.getElem_cons_zero, List.getElem_cons_succ, List.setIfInBounds_toArray, List.set_cons_zero, List.set_cons_succ]
    have K0 := q0.below hBd
    have B0 := below_up hB1 hBd
    refine pt_load rfl (by rfl) 31 (.tmp 1) rfl w.heap.size 0 rfl (nmC ⟨n, m, t, s⟩) _ K0.range (fun e => e) Tryd.underlying31 rfl (by kernel_rfl) ?_
    try simp only [Act.put, List.getElem_toArray, List.getElem_cons_zero, List.getElem_cons_succ, List.setIfInBounds_toArray, List.set_cons_zero, List.set_cons_succ]
    refine pt_load rfl (by rfl) 31 (.tmp 1) rfl w.heap.size 0 rfl (nmC ⟨n, m, t, s⟩) _ K0.range (fun e => e) Tryd.underlying31 rfl (by kernel_rfl) ?_
    try simp only [Act.put, List.getElem_toArray, List.getElem_cons_zero, List.getElem_cons_succ, List.setIfInBounds_toArray, List.set_cons_zero, List.set_cons_succ]
    refine pt_c ?_
    refine pt_step rfl (by rfl) (fun K hK => ?_)
    go_simp
    refine (checkName_cN n m t s _).mono ?_
    rintro en w1 ⟨rfl, hb0⟩
    rw [HC.out]
    have B1 := below_up B0 hb0
    refine hK.out _ _ (But.of_below hb0) ?_
    clear hK K
    try simp only [Act.put, List.getElem_toArray, List.getElem_cons_zero, List.getElem_cons_succ, List.setIfInBounds_toArray, List.set_cons_zero, List.set_cons_succ]
    refine pt_c ?_
    refine pt_step rfl (by rfl) (fun K hK => ?_)
    go_simp
    refine (madeN_no n m t s 2 (by decide) _).mono ?_
    rintro en w2 ⟨rfl, hb1⟩
    have B2 := below_up B1 hb1
    refine hK.out _ _ (But.of_below hb1) ?_
    clear hK K
    try simp only [Act.put, List.getElem_toArray, List.getElem_cons_zero, List.getElem_cons_succ, List.setIfInBounds_toArray, List.set_cons_zero, List.set_cons_succ]
    refine pt_q (v := ?_) rfl (by rfl) ?_ ?_
    rotate_left
    · intro w' hBw'
      first | (go_simp; done) | (go_simp; with_reducible rfl)
    try simp only [Act.put, List.getElem_toArray, List.getElem_cons_zero, List.getElem_cons_succ, List.setIfInBounds_toArray, List.set_cons_zero, List.set_cons_succ]
    refine pt_q (v := ?_) rfl (by rfl) ?_ ?_
    rotate_left
    · intro w' hBw'
      first | (go_simp; done) | (go_simp; with_reducible rfl)
    try simp only [Act.put, List.getElem_toArray, List.getElem_cons_zero, List.getElem_cons_succ, List.setIfInBounds_toArray, List.set_cons_zero, List.set_cons_succ]
    refine pt_q (v := ?_) rfl (by rfl) ?_ ?_
    rotate_left
    · intro w' hBw'
      first | (go_simp; done) | (go_simp; with_reducible rfl)
    try simp only [Act.put, List.getElem_toArray, List.getElem_cons_zero, List.getElem_cons_succ, List.setIfInBounds_toArray, List.set_cons_zero, List.set_cons_succ]
    refine pt_q (v := ?_) rfl (by rfl) ?_ ?_
    rotate_left
    · intro w' hBw'
      first | (go_simp; done) | (go_simp; with_reducible rfl)
    try simp only [Act.put, List.getElem_toArray, List.getElem_cons_zero, List.getElem_cons_succ, List.setIfInBounds_toArray, List.set_cons_zero, List.set_cons_succ]
    refine pt_done ?_
    go_wp2
    go_ret2
    exact ⟨rfl, B2⟩
theorem numL_c (e : Int) (w : World) : Calls Tryd.prog 14 #[.int .i64 e] w fun en w' => en = .returned (.int .i64 e) ∧ w = w' := by
  go_enter Tryd.func14, Tryd.ntmps14
  go_wp2
  go_ret
  exact ⟨rfl, rfl⟩
end Go.Proofs.YtpfgepgjpnekdaaDoor
