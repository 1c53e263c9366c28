/-
  PrimaryBlocks, PrimaryBlocksL, PrimaryBlocksRow: several texts in one (bundle.py).
-/
import Derived.Test.YtpkonagjnfphkaaGreatDoorPmB38
import Derived.Test.YtpkonagjnfphkaaGreatDoorPmB39
import Derived.Test.YtpkonagjnfphkaaGreatDoorPmB40
import Derived.Test.YtpkonagjnfphkaaGreatDoorRows
import Derived.Test.YtpkonagjnfphkaaGreatDoorPmB01
import Derived.Test.YtpkonagjnfphkaaGreatDoorPmB36
import Derived.SizedLaws
import Derived.Test.YtpkonagjnfphkaaGreatDoorTie
import Derived.Test.YtpkonagjnfphkaaGreatDoorCards
import Derived.Lib.LaidIn
import Derived.Lib.LaidU8T
import Derived.Deep.DeepHandedRow
import Derived.Deep.DeepWitnessRowRef
import Derived.PinnedBridge
import Derived.ProofKit
import Derived.SevenTiedAt
namespace Go.Proofs.YtpkonagjnfphkaaGreatDoor
open Go.RowKit Trc Cb
set_option linter.unusedSimpArgs false
set_option linter.unusedVariables false
theorem prExec_str {ρ : Operand → Value} {o : Oper} {x : Operand} {l : List UInt8} {v : Value} {n : Nat} {w : World} (ho : o.op = .convert 48 9 x) (hx : ρ x = v) (h : Sl w 1 v n (by8 l)) :
    (execOp ρ o).run Tryz.prog w = .ok (.value (.string ⟨l.toArray⟩)) w := by
  unfold execOp
  simp only [ho, hx, Sem.run_bind, run_str Tryz.underlying48 Tryz.underlying5 Tryz.underlying9 h, Result.andThen_ok]
  rfl
theorem prExec_streq {ρ : Operand → Value} {o : Oper} {x y : Operand} {t : TypeId} {s : ByteArray} (ho : o.op = .binOp .eql 9 x y t) (hx : ρ x = .string s) (hy : ρ y = .string s) (w : World) :
    (execOp ρ o).run Tryz.prog w = .ok (.value (.bool true)) w := by
  unfold execOp
  simp only [ho, hx, hy]
  simp [go_sem]
set_option maxRecDepth 100000 in
theorem prExec_prEq {ρ : Operand → Value} {o : Oper} {x y : Operand} {t : TypeId} (ho : o.op = .binOp .eql 28 x y t) {p : Prm.Pr} (hx : ρ x = prV p) (hy : ρ y = prV p) (w : World) :
    (execOp ρ o).run Tryz.prog w = .ok (.value (.bool true)) w := by
  unfold execOp
  simp only [ho, hx, hy]
  simp [go_sem]
set_option maxHeartbeats 4000000 in
set_option maxRecDepth 100000 in
theorem primaryBlocks_law (p : Prm.Pr) (hp : p.Ok) (w : World) (hT : Tabs w) : Calls Tryz.prog 4 #[prV p] w (Ret (.bool true) w) := by
  have X0 : RowAt (w.alloc (.cells (prC p).toArray 28)) w.heap.size #[.int .u32 p.flags, .int .i64 p.sum, .int .u32 p.toN, .int .u32 p.toS, .int .u32 p.srN, .int .u32 p.srS, .int .u32 p.rpN, .int .u32 p.rpS, .int .u64 p.time, .int .u32 p.seq, .int .u64 p.life] 28 := RowAt.new w (prC p).toArray 28
  have D0 := below_alloc w (.cells (prC p).toArray 28)
  have hen := prEncode_c p hp (w.alloc (.cells (prC p).toArray 28)) (hT.up D0)
  have HCK := Lib.hid (fun W => prCheck_c p hp W)
  have HRT := Lib.hid (fun W => rRightPr_c p hp W)
  have HT := Lib.hid hT
  clear hT
  have x0 := X0.cell (i := 0) rfl
  have x1 := X0.cell (i := 1) rfl
  have x2 := X0.cell (i := 2) rfl
  have x3 := X0.cell (i := 3) rfl
  have x4 := X0.cell (i := 4) rfl
  have x5 := X0.cell (i := 5) rfl
  have x6 := X0.cell (i := 6) rfl
  have x7 := X0.cell (i := 7) rfl
  have x8 := X0.cell (i := 8) rfl
  have x9 := X0.cell (i := 9) rfl
  have x10 := X0.cell (i := 10) rfl
  by_cases hk : Prm.okPr p = true
  rotate_left
  · have hk2 : Prm.okPr p = false := by simpa using hk
    have hck := fun W => HCK.out W
    have hrt := fun W => HRT.out W
    simp only [hk2] at hck hrt
    have KCK := Lib.hid (show ∀ W, Calls Tryz.prog 23 #[prV p] W (Ret (.int .i64 2) W) from hck)
    have KRT := Lib.hid hrt
    clear hk hck hrt
    go_enter Tryz.func4, Tryz.ntmps4
    go_wp2_with fail
    refine hen.mono ?_
    rintro en w1 ⟨hb1, _, hno⟩
    have hno := hno hk2
    subst hno
    have D1 := below_up D0 hb1
    have X1 := X0.below hb1
    clear hb1 hk2 hen
    clear x0 x1 x2 x3 x4 x5 x6 x7 x8 x9 x10
    have x0 := X1.cell (i := 0) rfl
    have x1 := X1.cell (i := 1) rfl
    have x2 := X1.cell (i := 2) rfl
    have x3 := X1.cell (i := 3) rfl
    have x4 := X1.cell (i := 4) rfl
    have x5 := X1.cell (i := 5) rfl
    have x6 := X1.cell (i := 6) rfl
    have x7 := X1.cell (i := 7) rfl
    have x8 := X1.cell (i := 8) rfl
    have x9 := X1.cell (i := 9) rfl
    have x10 := X1.cell (i := 10) rfl
    go_wp2_with fail
    clear x0 x1 x2 x3 x4 x5 x6 x7 x8 x9 x10
    refine (KCK.out _).mono ?_
    rintro en w2 ⟨rfl, hb2⟩
    have D2 := below_up D1 hb2
    have X2 := X1.below hb2
    clear hb2
    have x0 := X2.cell (i := 0) rfl
    have x1 := X2.cell (i := 1) rfl
    have x2 := X2.cell (i := 2) rfl
    have x3 := X2.cell (i := 3) rfl
    have x4 := X2.cell (i := 4) rfl
    have x5 := X2.cell (i := 5) rfl
    have x6 := X2.cell (i := 6) rfl
    have x7 := X2.cell (i := 7) rfl
    have x8 := X2.cell (i := 8) rfl
    have x9 := X2.cell (i := 9) rfl
    have x10 := X2.cell (i := 10) rfl
    go_wp2_with fail
    clear x0 x1 x2 x3 x4 x5 x6 x7 x8 x9 x10
    refine (KRT.out _).mono ?_
    rintro en w3 ⟨rfl, hb3⟩
    have D3 := below_up D2 hb3
    clear hb3
    go_wp2_with (first
      | (go_at_call 12; with_reducible refine (prNum_c _ _).mono ?_; rintro en wn ⟨rfl, rfl⟩)
      | (go_at_call 8; refine (prWorks_c _ (HT.out.up D3)).mono ?_; rintro en wz ⟨rfl, hbz⟩))
    go_ret
    exact ⟨rfl, below_up D3 hbz⟩
  have HK := Lib.hid hk
  have HP := Lib.hid hp
  have HDE := Lib.hid (Prm.dec_enc hk hp)
  have hck := fun W => HCK.out W
  have hrt := fun W => HRT.out W
  simp only [hk] at hck hrt
  have KCK := Lib.hid (show ∀ W, Calls Tryz.prog 23 #[prV p] W (Ret (.int .i64 0) W) from hck)
  have KRT := Lib.hid hrt
  clear hk hp hck hrt
  go_enter Tryz.func4, Tryz.ntmps4
  go_wp2_with fail
  refine hen.mono ?_
  rintro en w1 ⟨hb1, hyes, _⟩
  obtain ⟨v1, rfl, ho⟩ := hyes HK.out
  clear hyes hen
  have hre := fun W => rEncode_c p HP.out HK.out W
  obtain ⟨l, hle⟩ : ∃ l, Prm.encPr p = l := ⟨_, rfl⟩
  rw [hle] at ho HDE
  simp only [hle] at hre
  have HRE := Lib.hid hre
  clear hle hre
  obtain ⟨q1, c1, rfl⟩ := own_slice ho
  have s1 := Sl.of_own ho
  have D1 := below_up D0 hb1
  have X1 := X0.below hb1
  clear hb1 ho X0
  clear x0 x1 x2 x3 x4 x5 x6 x7 x8 x9 x10
  have x0 := X1.cell (i := 0) rfl
  have x1 := X1.cell (i := 1) rfl
  have x2 := X1.cell (i := 2) rfl
  have x3 := X1.cell (i := 3) rfl
  have x4 := X1.cell (i := 4) rfl
  have x5 := X1.cell (i := 5) rfl
  have x6 := X1.cell (i := 6) rfl
  have x7 := X1.cell (i := 7) rfl
  have x8 := X1.cell (i := 8) rfl
  have x9 := X1.cell (i := 9) rfl
  have x10 := X1.cell (i := 10) rfl
  go_wp2_with fail
  clear x0 x1 x2 x3 x4 x5 x6 x7 x8 x9 x10
  refine (KCK.out _).mono ?_
  rintro en w2 ⟨rfl, hb2⟩
  have D2 := below_up D1 hb2
  have X2 := X1.below hb2
  have s2 := s1.up hb2
  clear hb2 X1 s1 D1
  have x0 := X2.cell (i := 0) rfl
  have x1 := X2.cell (i := 1) rfl
  have x2 := X2.cell (i := 2) rfl
  have x3 := X2.cell (i := 3) rfl
  have x4 := X2.cell (i := 4) rfl
  have x5 := X2.cell (i := 5) rfl
  have x6 := X2.cell (i := 6) rfl
  have x7 := X2.cell (i := 7) rfl
  have x8 := X2.cell (i := 8) rfl
  have x9 := X2.cell (i := 9) rfl
  have x10 := X2.cell (i := 10) rfl
  go_wp2_with fail
  clear x0 x1 x2 x3 x4 x5 x6 x7 x8 x9 x10
  refine (KRT.out _).mono ?_
  rintro en w3 ⟨rfl, hb3⟩
  have D3 := below_up D2 hb3
  have X3 := X2.below hb3
  have s3 := s2.up hb3
  clear hb3 X2 s2 D2
  go_wp2_with fail
  have hde := prDecode_c l (.slice q1 l.length c1) w3 s3 (HT.out.up D3)
  unfold PDecE at hde
  rw [HDE.out] at hde
  refine hde.mono ?_
  clear hde
  rintro en w4 ⟨hb4, rfl⟩
  have Q4 : RowAt (w4.alloc (.cells (prC p).toArray 28)) w4.heap.size (prC p).toArray 28 := RowAt.new w4 (prC p).toArray 28
  have hb5 := below_up hb4 (below_alloc w4 (.cells (prC p).toArray 28))
  have HD5 := Lib.hid (below_up D3 hb5)
  have HX5 := Lib.hid (X3.below hb5)
  have HS5 := Lib.hid (s3.up hb5)
  have HQ5 := Lib.hid Q4
  clear hb4 hb5 D3 X3 s3 Q4
  go_wp2
  refine wp_region_ptL (fun _ => False) (.q 0 (.q 1 (.q 2 (.c 3 (.q 4 (.q 5 (.q 6 (.q 7 (.q 9 (.q 12 (.c 8 (.c 10 (.q 11 (.c 13 (.q 14 (.q 15 (.q 16 (.q 17 (.q 18 (.q 19 (.q 20 (.q 21 (.q 22 (.c 23 (.q 24 (.q 25 .done)))))))))))))))))))))))))) (by kernel_rfl) (by kernel_rfl) (by kernel_rfl) (by decide) (fun _ _ d _ _ h => by cases d <;> exact h) (fun OPS HOP Wd hBd => ?_)
  try simp only [Act.put, List.getElem_toArray, List.getElem_cons_zero, List.getElem_cons_succ, List.setIfInBounds_toArray, List.set_cons_zero, List.set_cons_succ]
  have PP : RowAt Wd w.heap.size (prC p).toArray 28 := HX5.out.below hBd
  have S1 := HS5.out.up hBd
  have QQ := HQ5.out.below hBd
  refine pt_q (v := ?_) (by rw [← HOP.out]; simp only [List.getElem?_toArray, List.getElem?_cons_zero, List.getElem?_cons_succ]; rfl) (by rw [← HOP.out]; kernel_rfl) ?_ ?_
  rotate_left
  · intro w' hBw'
    first | (go_simp; done) | (go_simp; with_reducible rfl)
  try simp only [Act.put, List.getElem_toArray, List.getElem_cons_zero, List.getElem_cons_succ, List.setIfInBounds_toArray, List.set_cons_zero, List.set_cons_succ]
  refine pt_q (v := .string ⟨l.toArray⟩) (by rw [← HOP.out]; simp only [List.getElem?_toArray, List.getElem?_cons_zero, List.getElem?_cons_succ]; rfl) (by rw [← HOP.out]; kernel_rfl) (fun w' hBw' => prExec_str (v := .slice q1 l.length c1) rfl rfl (S1.but hBw' (.inr fun _ _ e => e))) ?_
  try simp only [Act.put, List.getElem_toArray, List.getElem_cons_zero, List.getElem_cons_succ, List.setIfInBounds_toArray, List.set_cons_zero, List.set_cons_succ]
  refine pt_load (by rw [← HOP.out]; simp only [List.getElem?_toArray, List.getElem?_cons_zero, List.getElem?_cons_succ]; rfl) (by rw [← HOP.out]; kernel_rfl) 28 (.tmp 1) rfl w.heap.size 0 rfl (prC p) _ PP.range (fun h => h) Tryz.underlying28 rfl (by kernel_rfl) ?_
  try simp only [Act.put, List.getElem_toArray, List.getElem_cons_zero, List.getElem_cons_succ, List.setIfInBounds_toArray, List.set_cons_zero, List.set_cons_succ]
  refine pt_c ?_
  refine pt_step (by rw [← HOP.out]; simp only [List.getElem?_toArray, List.getElem?_cons_zero, List.getElem?_cons_succ]; rfl) (by rw [← HOP.out]; kernel_rfl) (fun K hK => ?_)
  go_simp
  refine (HRE.out Wd).mono ?_
  rintro en v6 ⟨u6, rfl, ho6, hb6⟩
  have S6 := Sl.of_own ho6
  have P6 := PP.below hb6
  have Q6 := QQ.below hb6
  clear ho6
  refine hK.out _ _ (But.of_below hb6) ?_
  clear hK K
  try simp only [Act.put, List.getElem_toArray, List.getElem_cons_zero, List.getElem_cons_succ, List.setIfInBounds_toArray, List.set_cons_zero, List.set_cons_succ]
  refine pt_q (v := .string ⟨l.toArray⟩) (by rw [← HOP.out]; simp only [List.getElem?_toArray, List.getElem?_cons_zero, List.getElem?_cons_succ]; rfl) (by rw [← HOP.out]; kernel_rfl) (fun w' hBw' => prExec_str (v := u6) rfl rfl (S6.but hBw' (.inr fun _ _ e => e))) ?_
  try simp only [Act.put, List.getElem_toArray, List.getElem_cons_zero, List.getElem_cons_succ, List.setIfInBounds_toArray, List.set_cons_zero, List.set_cons_succ]
  refine pt_q (v := .bool true) (by rw [← HOP.out]; simp only [List.getElem?_toArray, List.getElem?_cons_zero, List.getElem?_cons_succ]; rfl) (by rw [← HOP.out]; kernel_rfl) (fun w' _ => prExec_streq rfl rfl rfl w') ?_
  iterate 4
    try simp only [Act.put, List.getElem_toArray, List.getElem_cons_zero, List.getElem_cons_succ, List.setIfInBounds_toArray, List.set_cons_zero, List.set_cons_succ]
    refine pt_q (v := ?_) (by rw [← HOP.out]; simp only [List.getElem?_toArray, List.getElem?_cons_zero, List.getElem?_cons_succ]; rfl) (by rw [← HOP.out]; kernel_rfl) ?_ ?_
    rotate_left
    · intro w' hBw'
      first | (go_simp; done) | (go_simp; with_reducible rfl)
  iterate 2
    try simp only [Act.put, List.getElem_toArray, List.getElem_cons_zero, List.getElem_cons_succ, List.setIfInBounds_toArray, List.set_cons_zero, List.set_cons_succ]
    refine pt_c ?_
    refine pt_step (by rw [← HOP.out]; simp only [List.getElem?_toArray, List.getElem?_cons_zero, List.getElem?_cons_succ]; rfl) (by rw [← HOP.out]; kernel_rfl) (fun K hK => ?_)
    go_simp
    refine (prNum_c 0 _).mono ?_
    rintro en wn ⟨rfl, rfl⟩
    refine hK.out _ _ (But.refl _ _) ?_
    clear hK K
  try simp only [Act.put, List.getElem_toArray, List.getElem_cons_zero, List.getElem_cons_succ, List.setIfInBounds_toArray, List.set_cons_zero, List.set_cons_succ]
  refine pt_q (v := ?_) (by rw [← HOP.out]; simp only [List.getElem?_toArray, List.getElem?_cons_zero, List.getElem?_cons_succ]; rfl) (by rw [← HOP.out]; kernel_rfl) ?_ ?_
  rotate_left
  · intro w' hBw'
    first | (go_simp; done) | (go_simp; with_reducible rfl)
  try simp only [Act.put, List.getElem_toArray, List.getElem_cons_zero, List.getElem_cons_succ, List.setIfInBounds_toArray, List.set_cons_zero, List.set_cons_succ]
  refine pt_c ?_
  refine pt_step (by rw [← HOP.out]; simp only [List.getElem?_toArray, List.getElem?_cons_zero, List.getElem?_cons_succ]; rfl) (by rw [← HOP.out]; kernel_rfl) (fun K hK => ?_)
  go_simp
  refine (prNum_c 0 _).mono ?_
  rintro en wn ⟨rfl, rfl⟩
  refine hK.out _ _ (But.refl _ _) ?_
  clear hK K
  iterate 4
    try simp only [Act.put, List.getElem_toArray, List.getElem_cons_zero, List.getElem_cons_succ, List.setIfInBounds_toArray, List.set_cons_zero, List.set_cons_succ]
    refine pt_q (v := ?_) (by rw [← HOP.out]; simp only [List.getElem?_toArray, List.getElem?_cons_zero, List.getElem?_cons_succ]; rfl) (by rw [← HOP.out]; kernel_rfl) ?_ ?_
    rotate_left
    · intro w' hBw'
      first | (go_simp; done) | (go_simp; with_reducible rfl)
  try simp only [Act.put, List.getElem_toArray, List.getElem_cons_zero, List.getElem_cons_succ, List.setIfInBounds_toArray, List.set_cons_zero, List.set_cons_succ]
  refine pt_load (by rw [← HOP.out]; simp only [List.getElem?_toArray, List.getElem?_cons_zero, List.getElem?_cons_succ]; rfl) (by rw [← HOP.out]; kernel_rfl) 28 (.tmp 6) rfl w4.heap.size 0 rfl (prC p) _ Q6.range (fun h => h) Tryz.underlying28 rfl (by kernel_rfl) ?_
  try simp only [Act.put, List.getElem_toArray, List.getElem_cons_zero, List.getElem_cons_succ, List.setIfInBounds_toArray, List.set_cons_zero, List.set_cons_succ]
  refine pt_load (by rw [← HOP.out]; simp only [List.getElem?_toArray, List.getElem?_cons_zero, List.getElem?_cons_succ]; rfl) (by rw [← HOP.out]; kernel_rfl) 28 (.tmp 1) rfl w.heap.size 0 rfl (prC p) _ P6.range (fun h => h) Tryz.underlying28 rfl (by kernel_rfl) ?_
  try simp only [Act.put, List.getElem_toArray, List.getElem_cons_zero, List.getElem_cons_succ, List.setIfInBounds_toArray, List.set_cons_zero, List.set_cons_succ]
  refine pt_q (v := .bool true) (by rw [← HOP.out]; simp only [List.getElem?_toArray, List.getElem?_cons_zero, List.getElem?_cons_succ]; rfl) (by rw [← HOP.out]; kernel_rfl) (fun w' _ => prExec_prEq rfl rfl rfl w') ?_
  iterate 2
    try simp only [Act.put, List.getElem_toArray, List.getElem_cons_zero, List.getElem_cons_succ, List.setIfInBounds_toArray, List.set_cons_zero, List.set_cons_succ]
    refine pt_q (v := ?_) (by rw [← HOP.out]; simp only [List.getElem?_toArray, List.getElem?_cons_zero, List.getElem?_cons_succ]; rfl) (by rw [← HOP.out]; kernel_rfl) ?_ ?_
    rotate_left
    · intro w' hBw'
      first | (go_simp; done) | (go_simp; with_reducible rfl)
  try simp only [Act.put, List.getElem_toArray, List.getElem_cons_zero, List.getElem_cons_succ, List.setIfInBounds_toArray, List.set_cons_zero, List.set_cons_succ]
  refine pt_c ?_
  refine pt_step (by rw [← HOP.out]; simp only [List.getElem?_toArray, List.getElem?_cons_zero, List.getElem?_cons_succ]; rfl) (by rw [← HOP.out]; kernel_rfl) (fun K hK => ?_)
  go_simp
  refine (prWorks_c _ (HT.out.up (below_up HD5.out (below_up hBd hb6)))).mono ?_
  rintro en v7 ⟨rfl, hb7⟩
  refine hK.out _ _ (But.of_below hb7) ?_
  clear hK K
  iterate 2
    try simp only [Act.put, List.getElem_toArray, List.getElem_cons_zero, List.getElem_cons_succ, List.setIfInBounds_toArray, List.set_cons_zero, List.set_cons_succ]
    refine pt_q (v := ?_) (by rw [← HOP.out]; simp only [List.getElem?_toArray, List.getElem?_cons_zero, List.getElem?_cons_succ]; rfl) (by rw [← HOP.out]; kernel_rfl) ?_ ?_
    rotate_left
    · intro w' hBw'
      first | (go_simp; done) | (go_simp; with_reducible rfl)
  try simp only [Act.put, List.getElem_toArray, List.getElem_cons_zero, List.getElem_cons_succ, List.setIfInBounds_toArray, List.set_cons_zero, List.set_cons_succ]
  refine pt_done ?_
  have HE := Lib.hid (below_up HD5.out (below_up hBd (below_up hb6 hb7)))
  clear hBd hb6 hb7 PP S1 QQ S6 P6 Q6
  go_wp2
  go_ret
  exact ⟨rfl, HE.out⟩
end Go.Proofs.YtpkonagjnfphkaaGreatDoor

namespace Go.Proofs.YtpkonagjnfphkaaGreatDoor
open Go.RowKit Trc Cb
theorem primaryBlocks_l (a0 : Int) (h0 : (Lit.int .u32 a0).wf = true) (a1 : Int) (h1 : (Lit.int .i64 a1).wf = true) (a2 : Int) (h2 : (Lit.int .u32 a2).wf = true) (a3 : Int) (h3 : (Lit.int .u32 a3).wf = true) (a4 : Int) (h4 : (Lit.int .u32 a4).wf = true) (a5 : Int) (h5 : (Lit.int .u32 a5).wf = true) (a6 : Int) (h6 : (Lit.int .u32 a6).wf = true) (a7 : Int) (h7 : (Lit.int .u32 a7).wf = true) (a8 : Int) (h8 : (Lit.int .u64 a8).wf = true) (a9 : Int) (h9 : (Lit.int .u32 a9).wf = true) (a10 : Int) (h10 : (Lit.int .u64 a10).wf = true) (w : World) (hT : Tabs w) : Calls Tryz.prog 4 #[.agg #[.int .u32 a0, .int .i64 a1, .int .u32 a2, .int .u32 a3, .int .u32 a4, .int .u32 a5, .int .u32 a6, .int .u32 a7, .int .u64 a8, .int .u32 a9, .int .u64 a10]] w (Ret (.bool true) w) := by
  obtain ⟨p, hp, e⟩ := pr_of a0 h0 a1 h1 a2 h2 a3 h3 a4 h4 a5 h5 a6 h6 a7 h7 a8 h8 a9 h9 a10 h10
  rw [e]
  exact primaryBlocks_law p hp w hT
end Go.Proofs.YtpkonagjnfphkaaGreatDoor

namespace Go.Proofs.YtpkonagjnfphkaaGreatDoor.primaryBlocksRow
open Go.ChangeShapes Go.WideShapes Go.ChangeAt Go.RowKit
open Go.ChangeMaps (open_string shut_string)
set_option linter.unusedVariables false

theorem own : ownKnob Tryz.prog.godebug = none := by kernel_rfl
theorem laidOut : laidOutB Tryz.prog = true := by kernel_rfl

open Go.Lib
/-- Where the witness's own objects lie. -/
noncomputable def low : Nat := (World.holding Tryz.prog default ⟨#[], #[], []⟩).heap.size
/-- A world that meets the condition: the settled one, the variables laid. -/
noncomputable def laidWorld (os : Os) : World :=
  let w0 := World.holding Tryz.prog os ⟨#[], #[], []⟩
  let put (h : Array Obj) (g : Nat) (cs : Array Value) : Array Obj := h.modify g fun
    | .cells _ t frozen => .cells cs t frozen
    | o => o
  let h1 := put w0.heap 1 ((List.range 16).flatMap fun i => [Value.int .u8 (Lib.accLo i), Value.int .u8 (Lib.accHi i)]).toArray
  let h2 := put h1 0 (Lib.firstTab.map fun z => Value.int .u8 z).toArray
  { w0 with heap := h2 }
theorem laid_met (os : Os) (args : Array Value) : laidMet Tryz.prog Rows.primaryBlocksRow.laid ((laidWorld os).forCall (fun _ _ => 0) ⟨#[], args, []⟩).memory :=
  (LaidIn.of_run (l := [("unicode/utf8.acceptRanges", Rows.laid_unicode_utf8_acceptRanges), ("unicode/utf8.first", Rows.laid_unicode_utf8_first)]) [1, 0] 8 (by kernel_rfl) (by kernel_rfl) (by kernel_rfl) (by kernel_rfl)).met
theorem witness_row (os : Os) {H : Type} (enc : TypeId × Value → H) :
    (OpenSpec.ofChange Rows.primaryBlocksSpec).preRow enc Tryz.prog Tryz.f4 Rows.primaryBlocksRow.domain false Rows.primaryBlocksRow.laid ((laidWorld os).forCall (fun _ _ => 0) ⟨#[], #[.agg #[.int .u32 0, .int .i64 0, .int .u32 0, .int .u32 0, .int .u32 0, .int .u32 0, .int .u32 0, .int .u32 0, .int .u64 0, .int .u32 0, .int .u64 0]], []⟩).memory #[.agg #[.int .u32 0, .int .i64 0, .int .u32 0, .int .u32 0, .int .u32 0, .int .u32 0, .int .u32 0, .int .u32 0, .int .u64 0, .int .u32 0, .int .u64 0]] := by
  have hw : (DataW.whole enc Tryz.prog ((laidWorld os).forCall (fun _ _ => 0) ⟨#[], #[.agg #[.int .u32 0, .int .i64 0, .int .u32 0, .int .u32 0, .int .u32 0, .int .u32 0, .int .u32 0, .int .u32 0, .int .u64 0, .int .u32 0, .int .u64 0]], []⟩).memory Tryz.f4.params.toList (OpenSpec.ofChange Rows.primaryBlocksSpec).vars false (#[.agg #[.int .u32 0, .int .i64 0, .int .u32 0, .int .u32 0, .int .u32 0, .int .u32 0, .int .u32 0, .int .u32 0, .int .u64 0, .int .u32 0, .int .u64 0]] : Array Value).toList 8).map (fun x => (x.1, x.2.1)) =
      some ([.agg [.lit (.int .u32 0), .lit (.int .i64 0), .agg [.lit (.int .u32 0), .lit (.int .u32 0)], .agg [.lit (.int .u32 0), .lit (.int .u32 0)], .agg [.lit (.int .u32 0), .lit (.int .u32 0)], .lit (.int .u64 0), .lit (.int .u32 0), .lit (.int .u64 0)]], []) := by kernel_rfl
  obtain ⟨⟨x1, x2, x3⟩, hx, hx1⟩ := Option.map_eq_some_iff.1 hw
  simp only [Prod.mk.injEq] at hx1
  obtain ⟨rfl, rfl⟩ := hx1
  exact OpenSpec.preRow_of_cond 8 hx (by kernel_rfl) (fun k hk => by cases hk) (by kernel_rfl) (laid_met os _)

set_option maxRecDepth 100000 in
theorem lifted (os : Os) (started : os.Started) (H : Type) (enc : TypeId × Value → H) :
    ReturnsInHanded {} Tryz.checked os 4 .any ((OpenSpec.ofChange Rows.primaryBlocksSpec).preRow enc Tryz.prog Tryz.f4 Rows.primaryBlocksRow.domain false Rows.primaryBlocksRow.laid) (Rows.primaryBlocksSpec.post enc Tryz.prog Tryz.f4 false true false false) := by
  refine returnsInHanded_of_row (C := Tryz.checked) (s := OpenSpec.ofChange Rows.primaryBlocksSpec) (F := fun _ _ _ => 0) own started (by kernel_rfl) Tryz.func4
    (witness_row_atRef (enc := enc) (C := Tryz.checked) false (laidWorld os) #[.agg #[.int .u32 0, .int .i64 0, .int .u32 0, .int .u32 0, .int .u32 0, .int .u32 0, .int .u32 0, .int .u32 0, .int .u64 0, .int .u32 0, .int .u64 0]] rfl (by kernel_rfl) (by kernel_rfl) (by kernel_rfl) (witness_row os enc)) ?_
  intro W base args ds gs before hval0 hW hcnd _ hsz0 hL hshp _
  have hsz : (DataW.weightsEach Tryz.prog (Tryz.f4.params.toList ++ Rows.primaryBlocksSpec.plain.varTypes Tryz.prog) (ds ++ gs)).all (· ≤ reachBytes) = true := hsz0
  have hval : ∀ (j : Nat) t v, Tryz.f4.params[j]? = some t → args[j]? = some v → Value.okWide Tryz.prog W .any base t v := hval0
  have hT : Tabs W :=
    utf8Tabs_of_readsT (ρ := lays197_ren) { lays197 with } ⟨by kernel_rfl, by kernel_rfl, by kernel_rfl, by kernel_rfl, by kernel_rfl, by kernel_rfl, by kernel_rfl⟩
      (by have := Lib.laidMet.reads hL (n := "unicode/utf8.first") (d := Rows.laid_unicode_utf8_first) ((.tail _ (.head _))); exact Pinned.utf8First_eq ▸ this) (by have := Lib.laidMet.reads hL (n := "unicode/utf8.acceptRanges") (d := Rows.laid_unicode_utf8_acceptRanges) (.head _); rwa [show (Rows.laid_unicode_utf8_acceptRanges : DataW Unit) = acceptData by kernel_rfl] at this)
  have hW' := hW
  obtain ⟨p, q, hA0, hV, rfl, hfz, hnd⟩ := hW
  have hA : DataW.TrodAll enc Tryz.prog W 0 (fun _ => true) true Tryz.f4.params.toList args.toList ds p := hA0
  rw [Tryz.params4] at hA hval hsz
  obtain ⟨v0, vs0, d0, ds0, p0, q0, hargs, rfl, rfl, h0, r0⟩ := trodAll_cons hA
  obtain ⟨rfl, rfl, rfl⟩ := trodAll_nil r0
  obtain rfl : args = #[v0] := by cases args; simp_all
  obtain ⟨rfl, rfl⟩ := trodVars_none hV
  have k0 := h0
  have lt0 : ∀ x ∈ p0, x.block < W.heap.size := by obtain ⟨m, hm⟩ := k0; exact DataW.trod_lt m _ _ _ hm
  obtain ⟨cs0, rfl, hsz0⟩ : ∃ cs, v0 = .agg cs ∧ cs.size = 11 := by
    have := hval 0 28 v0 rfl rfl
    simp only [Value.okWide, Tryz.underlying28] at this
    obtain ⟨cs, h1, h2, _⟩ := this
    exact ⟨cs, h1, h2.trans (by kernel_rfl)⟩
  obtain ⟨fu0, hf0⟩ := h0
  obtain ⟨_, hl0⟩ := trod_leaves 12 _ _ _ _ [22, 23, 22, 22, 22, 22, 22, 22, 26, 22, 26] hf0 (by kernel_rfl)
  obtain ⟨l0⟩ := cs0
  obtain ⟨c0_0, e0_0, L0_0⟩ := hl0 0 _ rfl
  obtain ⟨p0, rfl, wp0⟩ := Leaf.int Tryz.underlying22 L0_0
  obtain ⟨c0_1, e0_1, L0_1⟩ := hl0 1 _ rfl
  obtain ⟨p1, rfl, wp1⟩ := Leaf.int Tryz.underlying23 L0_1
  obtain ⟨c0_2, e0_2, L0_2⟩ := hl0 2 _ rfl
  obtain ⟨p2, rfl, wp2⟩ := Leaf.int Tryz.underlying22 L0_2
  obtain ⟨c0_3, e0_3, L0_3⟩ := hl0 3 _ rfl
  obtain ⟨p3, rfl, wp3⟩ := Leaf.int Tryz.underlying22 L0_3
  obtain ⟨c0_4, e0_4, L0_4⟩ := hl0 4 _ rfl
  obtain ⟨p4, rfl, wp4⟩ := Leaf.int Tryz.underlying22 L0_4
  obtain ⟨c0_5, e0_5, L0_5⟩ := hl0 5 _ rfl
  obtain ⟨p5, rfl, wp5⟩ := Leaf.int Tryz.underlying22 L0_5
  obtain ⟨c0_6, e0_6, L0_6⟩ := hl0 6 _ rfl
  obtain ⟨p6, rfl, wp6⟩ := Leaf.int Tryz.underlying22 L0_6
  obtain ⟨c0_7, e0_7, L0_7⟩ := hl0 7 _ rfl
  obtain ⟨p7, rfl, wp7⟩ := Leaf.int Tryz.underlying22 L0_7
  obtain ⟨c0_8, e0_8, L0_8⟩ := hl0 8 _ rfl
  obtain ⟨p8, rfl, wp8⟩ := Leaf.int Tryz.underlying26 L0_8
  obtain ⟨c0_9, e0_9, L0_9⟩ := hl0 9 _ rfl
  obtain ⟨p9, rfl, wp9⟩ := Leaf.int Tryz.underlying22 L0_9
  obtain ⟨c0_10, e0_10, L0_10⟩ := hl0 10 _ rfl
  obtain ⟨p10, rfl, wp10⟩ := Leaf.int Tryz.underlying26 L0_10
  obtain rfl : l0 = [.int .u32 p0, .int .i64 p1, .int .u32 p2, .int .u32 p3, .int .u32 p4, .int .u32 p5, .int .u32 p6, .int .u32 p7, .int .u64 p8, .int .u32 p9, .int .u64 p10] := by
    refine List.ext_getElem? fun i => ?_
    match i with
    | 0 => simpa [Value.cells] using e0_0
    | 1 => simpa [Value.cells] using e0_1
    | 2 => simpa [Value.cells] using e0_2
    | 3 => simpa [Value.cells] using e0_3
    | 4 => simpa [Value.cells] using e0_4
    | 5 => simpa [Value.cells] using e0_5
    | 6 => simpa [Value.cells] using e0_6
    | 7 => simpa [Value.cells] using e0_7
    | 8 => simpa [Value.cells] using e0_8
    | 9 => simpa [Value.cells] using e0_9
    | 10 => simpa [Value.cells] using e0_10
    | i + 11 => rw [List.getElem?_eq_none (by simp at hsz0; omega), List.getElem?_eq_none (by simp)]
  clear hA0 hval0
  refine (primaryBlocks_l p0 wp0 p1 wp1 p2 wp2 p3 wp3 p4 wp4 p5 wp5 p6 wp6 p7 wp7 p8 wp8 p9 wp9 p10 wp10 W hT).mono fun e W' ⟨he, bel⟩ => ?_
  subst he
  exact ⟨_, rfl, _, _, _, [], _, [], hW', trodAll_mk1 (shut_bool Tryz.underlying4 _), (trodAll_cons_mk (Below.trod laidOut (by kernel_rfl) (of_decide_eq_true (by kernel_rfl)) k0 bel lt0) trodAll_mk0), rfl, bel.frame _, fun h => by cases h⟩

theorem over : Rows.primaryBlocksRow.holds Tryz.pinned (OpenSpec.ofChange Rows.primaryBlocksSpec) :=
  OpenClaim.holds_of_wide 4 Tryz.f4 rfl rfl rfl rfl rfl rfl rfl ⟨rfl, rfl, rfl, rfl, rfl⟩ rfl rfl rfl rfl rfl (by kernel_rfl) Tryz.func4 (by kernel_rfl)
    (of_decide_eq_true (by kernel_rfl)) (by unfold Func.isWrapper; first | (rw [if_pos (by decide +kernel)]; kernel_rfl) | (rw [if_neg (by decide +kernel)]; exact ⟨rfl, rfl⟩))
    (fun os started H enc _ => by rw [OpenClaim.pre_eq_preRow]; exact lifted os started H enc)

theorem proved : Rows.PrimaryBlocksCardSaid :=
  Claim7.holds_tied_plain_at .later [] [.data, .pinned] true (true, "470b2c42ec1d750a811b4303a4b82cb10a471d475c6c98540e3c9cb4d197a111") true
    over (fun _ h => by cases h) (by kernel_rfl) (fun _ h => by cases h) primaryBlocks_row_tie rfl ⟨rfl, rfl⟩ (by kernel_rfl) rfl
    (fun f fn hf hfn => by
      obtain rfl : f = 4 := Option.some.inj ((show Tryz.prog.funcNamed "packsaddle/packsaddlelaw06.PrimaryBlocks" = some 4 by kernel_rfl).symm.trans hf) |>.symm
      obtain rfl : fn = Tryz.f4 := (Option.some.inj (Tryz.func4.symm.trans hfn)).symm
      exact ⟨by kernel_rfl, fun j t ht => by
        rw [Tryz.params4] at ht
        have h3 : t ∈ [28] := by
          have := List.mem_of_getElem? (by simpa using ht : ([28] : List TypeId)[j]? = some t)
          exact this
        simp only [List.mem_cons, List.not_mem_nil, or_false] at h3
        rcases h3 with rfl
        · exact (show Tryz.prog.wantsStandIn 28 = false by kernel_rfl)⟩)
    (by kernel_rfl)
#print axioms proved
end Go.Proofs.YtpkonagjnfphkaaGreatDoor.primaryBlocksRow
