/-
  CbWk: several texts in one (bundle.py).
-/
import Derived.Test.YtjenohodgpmchaaDoorCbK42
import Derived.Lib.SlBytesConst
import Derived.Test.YtjenohodgpmchaaDoorCbK16
import Derived.Test.YtjenohodgpmchaaDoorCbK20
import Derived.Test.YtjenohodgpmchaaDoorCbK19
namespace Go.Proofs.YtjenohodgpmchaaDoor
open Go.RowKit Cb
set_option linter.unusedSimpArgs false
set_option linter.unusedVariables false
theorem Sl.of_row {w : World} {B sz : Nat} {T : TypeId} {cs : List Value} (h : RowAt w B cs.toArray T) (n : Nat) (hn : n ≤ 1000) (hl : cs.length = n * sz) : Sl w sz (.slice (some ⟨B, 0, none⟩) n n) n cs := by
  refine ⟨hl, .inr ⟨_, 0, n, rfl, Nat.le_refl _, by simp only [maxLen]; omega, fun j u hj => ?_⟩⟩
  rw [Nat.zero_add]
  exact h.cell (by simpa using hj)
theorem exec_str {ρ : Operand → Value} {o : Oper} {x : Operand} {l : List UInt8} {v : Value} {n : Nat} {w : World} (ho : o.op = .convert 22 9 x) (hx : ρ x = v) (h : Sl w 1 v n (by8 l)) :
    (execOp ρ o).run Tryd.prog w = .ok (.value (.string ⟨l.toArray⟩)) w := by
  unfold execOp
  simp only [ho, hx, Sem.run_bind, run_str Tryd.underlying22 Tryd.underlying5 Tryd.underlying9 h, Result.andThen_ok]
  rfl
theorem exec_streq {ρ : Operand → Value} {o : Oper} {x y : Operand} {t : TypeId} {s : ByteArray} (ho : o.op = .binOp .eql 9 x y t) (hx : ρ x = .string s) (hy : ρ y = .string s) (w : World) :
    (execOp ρ o).run Tryd.prog w = .ok (.value (.bool true)) w := by
  unfold execOp
  simp only [ho, hx, hy]
  simp [go_sem]
theorem cbEnters_num : Enters Tryd.prog 13 := enters_of Tryd.func13 (by kernel_rfl) rfl
theorem cbEnters_list : Enters Tryd.prog 24 := enters_of Tryd.func24 (by kernel_rfl) rfl
theorem cbEnters_same : Enters Tryd.prog 14 := enters_of Tryd.func14 (by kernel_rfl) rfl
theorem cbEnters_depth : Enters Tryd.prog 28 := enters_of Tryd.func28 (by kernel_rfl) rfl
theorem litSlF (W : World) (l : List UInt8) (hl : l.length ≤ 1000) (f : Nat × Nat) : Sl (W.alloc (.cells (by8 l).toArray 5 f)) 1 (.slice (some ⟨W.heap.size, 0, none⟩) l.length l.length) l.length (by8 l) := by
  refine ⟨by simp [by8], .inr ⟨_, 0, l.length, rfl, Nat.le_refl _, by simp only [maxLen]; omega, fun j u hj => ?_⟩⟩
  have h : (W.alloc (.cells (by8 l).toArray 5 f)).heap[W.heap.size]? = some (.cells (by8 l).toArray 5 f) := heap_alloc_new W _
  rw [Nat.zero_add]
  unfold World.cell?
  rw [h]
  simpa using hj
set_option maxHeartbeats 8000000 in
set_option maxRecDepth 100000 in
theorem cbWorks_a (w0 wq : World) (HB : RowKit.Hid (Below w0.heap.size w0 wq)) (HT : RowKit.Hid (Tabs wq)) : Calls Tryd.prog 8 #[] wq (Ret (.bool true) w0) := by
  go_enter Tryd.func8, Tryd.ntmps8
  go_wp2_with fail
  go_at_call 23
  refine (mkUint_c 24 wq).mono ?_
  rintro en wq ⟨rfl, hq⟩
  replace HB := Lib.hid (below_up HB.out hq)
  replace HT := Lib.hid (HT.out.up hq)
  clear hq
  go_wp2_with fail
  go_at_call 15
  have hen := encode_c (fun k => k < wq.heap.size) It1 ⟨1, 24, .slice none 0 0, ⟨#[]⟩, .slice none 0 0⟩ wq (itR_flat (by decide) (by decide) slS_nil) (by decide) (by simp [kwB, kwL]) HT.out (fun k h => h)
  unfold EncE at hen
  rw [chk1, bytes1] at hen
  refine hen.mono ?_
  clear hen
  rintro en wq ⟨hq, v1, rfl, ho, _⟩
  replace ho := ho rfl
  obtain ⟨a1, c1, rfl⟩ := own_slice ho
  have S1 : RowKit.Hid (Sl wq 1 (.slice a1 2 c1) 2 (by8 [24, 24])) := Lib.hid (Sl.of_own ho)
  replace HB := Lib.hid (below_up HB.out hq)
  replace HT := Lib.hid (HT.out.up hq)
  clear hq ho
  go_wp2_with fail
  have hq := below_alloc wq (.cells #[.int .u8 1] 5)
  replace HB := Lib.hid (below_up HB.out hq)
  replace HT := Lib.hid (HT.out.up hq)
  replace S1 := Lib.hid (S1.out.up hq)
  clear hq
  have BL : RowKit.Hid (Sl _ 1 (.slice (some ⟨wq.heap.size, 0, none⟩) 1 1) 1 (by8 [1])) := Lib.hid (litSl wq [1] (by decide))
  obtain ⟨B1, hB1⟩ : ∃ B, wq.heap.size = B := ⟨_, rfl⟩
  rw [hB1] at BL ⊢
  replace hB1 := Lib.hid hB1
  go_at_call 16
  refine (mkOctets_c _ _ _ _).mono ?_
  rintro en wq ⟨rfl, hq⟩
  replace HB := Lib.hid (below_up HB.out hq)
  replace HT := Lib.hid (HT.out.up hq)
  replace S1 := Lib.hid (S1.out.up hq)
  replace BL := Lib.hid (BL.out.up hq)
  clear hq
  go_wp2_with fail
  go_at_call 25
  refine (mkText_c _ wq).mono ?_
  rintro en wq ⟨rfl, hq⟩
  replace HB := Lib.hid (below_up HB.out hq)
  replace HT := Lib.hid (HT.out.up hq)
  replace S1 := Lib.hid (S1.out.up hq)
  replace BL := Lib.hid (BL.out.up hq)
  clear hq
  go_wp2_with fail
  go_at_call 26
  refine (mkTrue_c wq).mono ?_
  rintro en wq ⟨rfl, hq⟩
  replace HB := Lib.hid (below_up HB.out hq)
  replace HT := Lib.hid (HT.out.up hq)
  replace S1 := Lib.hid (S1.out.up hq)
  replace BL := Lib.hid (BL.out.up hq)
  clear hq
  go_wp2_with fail
  have hq := below_alloc wq (.cells #[.int .i64 2, .int .u64 0, .slice (some ⟨B1, 0, none⟩) 1 1, .string ⟨#[]⟩, .slice none 0 0, .int .i64 3, .int .u64 0, .slice none 0 0, .string ⟨#[104, 105]⟩, .slice none 0 0, .int .i64 5, .int .u64 1, .slice none 0 0, .string ⟨#[]⟩, .slice none 0 0, .int .i64 6, .int .u64 0, .slice none 0 0, .string ⟨#[]⟩, .slice none 0 0] 28)
  replace HB := Lib.hid (below_up HB.out hq)
  replace HT := Lib.hid (HT.out.up hq)
  replace S1 := Lib.hid (S1.out.up hq)
  replace BL := Lib.hid (BL.out.up hq)
  clear hq
  have RL := Lib.hid (RowAt.new wq #[.int .i64 2, .int .u64 0, .slice (some ⟨B1, 0, none⟩) 1 1, .string ⟨#[]⟩, .slice none 0 0, .int .i64 3, .int .u64 0, .slice none 0 0, .string ⟨#[104, 105]⟩, .slice none 0 0, .int .i64 5, .int .u64 1, .slice none 0 0, .string ⟨#[]⟩, .slice none 0 0, .int .i64 6, .int .u64 0, .slice none 0 0, .string ⟨#[]⟩, .slice none 0 0] 28)
  obtain ⟨B2, hB2⟩ : ∃ B, wq.heap.size = B := ⟨_, rfl⟩
  rw [hB2] at RL ⊢
  replace hB2 := Lib.hid hB2
  go_at_call 24
  refine (mkList_c _ _ _ _).mono ?_
  rintro en wq ⟨rfl, hq⟩
  replace HB := Lib.hid (below_up HB.out hq)
  replace HT := Lib.hid (HT.out.up hq)
  replace S1 := Lib.hid (S1.out.up hq)
  replace BL := Lib.hid (BL.out.up hq)
  replace RL := Lib.hid (RL.out.below hq)
  clear hq
  go_wp2_with fail
  have hit2 : ItR (fun k => k < wq.heap.size) wq It2 ⟨4, 0, .slice none 0 0, ⟨#[]⟩, .slice (some ⟨B2, 0, none⟩) 4 4⟩ := by
    have hb1 := (Sl.blk BL.out (by decide)).resolve_left (by decide) B1 rfl
    unfold ItR
    refine ⟨rfl, rfl, rfl, ⟨by decide, by decide⟩, slS_nil, [⟨2, 0, .slice (some ⟨B1, 0, none⟩) 1 1, ⟨#[]⟩, .slice none 0 0⟩, ⟨3, 0, .slice none 0 0, hiS, .slice none 0 0⟩, ⟨5, 1, .slice none 0 0, ⟨#[]⟩, .slice none 0 0⟩, ⟨6, 0, .slice none 0 0, ⟨#[]⟩, .slice none 0 0⟩], ⟨?_, .inr fun k hk => ?_⟩, ?_⟩
    · exact Sl.of_row RL.out 4 (by decide) rfl
    · simp only [Value.ownBlock, Option.some.injEq] at hk; subst hk; exact RL.out.lt
    · unfold ItsR ItsR ItsR ItsR ItsR
      exact ⟨_, _, rfl, itR_flat (by decide) (by decide) ⟨BL.out, .inr fun k hk => by simp only [Value.ownBlock, Option.some.injEq] at hk; subst hk; exact hb1⟩, _, _, rfl, itR_flat (by decide) (by decide) slS_nil, _, _, rfl, itR_flat (by decide) (by decide) slS_nil, _, _, rfl, itR_flat (by decide) (by decide) slS_nil, rfl⟩
  go_at_call 15
  have hen := encode_c (fun k => k < wq.heap.size) It2 ⟨4, 0, .slice none 0 0, ⟨#[]⟩, .slice (some ⟨B2, 0, none⟩) 4 4⟩ wq hit2 (by decide) (by simp [kwB, kwL]) HT.out (fun k h => h)
  unfold EncE at hen
  rw [chk2, bytes2] at hen
  refine hen.mono ?_
  clear hen
  rintro en wq ⟨hq, v2, rfl, ho, _⟩
  replace ho := ho rfl
  obtain ⟨a2, c2, rfl⟩ := own_slice ho
  have S2 : RowKit.Hid (Sl wq 1 (.slice a2 8 c2) 8 (by8 [132, 65, 1, 98, 104, 105, 245, 246])) := Lib.hid (Sl.of_own ho)
  replace HB := Lib.hid (below_up HB.out hq)
  replace HT := Lib.hid (HT.out.up hq)
  replace S1 := Lib.hid (S1.out.up hq)
  replace BL := Lib.hid (BL.out.up hq)
  replace RL := Lib.hid (RL.out.below hq)
  clear hq ho
  clear hit2 BL RL
  go_wp2_with fail
  go_at_call 24
  refine (mkList_c _ _ _ wq).mono ?_
  rintro en wq ⟨rfl, hq⟩
  replace HB := Lib.hid (below_up HB.out hq)
  replace HT := Lib.hid (HT.out.up hq)
  replace S1 := Lib.hid (S1.out.up hq)
  replace S2 := Lib.hid (S2.out.up hq)
  clear hq
  go_wp2_with fail
  go_at_call 15
  have hen := encode_c (fun k => k < wq.heap.size) It3 ⟨4, 0, .slice none 0 0, ⟨#[]⟩, .slice none 0 0⟩ wq (itR_flat (by decide) (by decide) slS_nil) (by decide) (by simp [kwB, kwL]) HT.out (fun k h => h)
  unfold EncE at hen
  rw [chk3, bytes3] at hen
  refine hen.mono ?_
  clear hen
  rintro en wq ⟨hq, v3, rfl, ho, _⟩
  replace ho := ho rfl
  obtain ⟨a3, c3, rfl⟩ := own_slice ho
  have S3 : RowKit.Hid (Sl wq 1 (.slice a3 1 c3) 1 (by8 [128])) := Lib.hid (Sl.of_own ho)
  replace HB := Lib.hid (below_up HB.out hq)
  replace HT := Lib.hid (HT.out.up hq)
  replace S1 := Lib.hid (S1.out.up hq)
  replace S2 := Lib.hid (S2.out.up hq)
  clear hq ho
  go_wp2_with fail
  have hq := below_alloc wq (.cells #[.int .u8 24, .int .u8 23] 5)
  replace HB := Lib.hid (below_up HB.out hq)
  replace HT := Lib.hid (HT.out.up hq)
  replace S1 := Lib.hid (S1.out.up hq)
  replace S2 := Lib.hid (S2.out.up hq)
  replace S3 := Lib.hid (S3.out.up hq)
  clear hq
  have hsl := litSlF wq [24, 23] (by decide) (0, 0)
  have hsl : Sl (wq.alloc (.cells #[.int .u8 24, .int .u8 23] 5)) 1 (.slice (some ⟨wq.heap.size, 0, none⟩) 2 2) 2 (by8 [24, 23]) := hsl
  have hde := decode_c _ _ [24, 23] hsl HT.out
  unfold DecE at hde
  rw [dec1] at hde
  go_at_call 9
  refine hde.mono ?_
  clear hde hsl
  rintro en wq ⟨hq, rfl⟩
  replace HB := Lib.hid (below_up HB.out hq)
  replace HT := Lib.hid (HT.out.up hq)
  replace S1 := Lib.hid (S1.out.up hq)
  replace S2 := Lib.hid (S2.out.up hq)
  replace S3 := Lib.hid (S3.out.up hq)
  clear hq
  go_wp2_with fail
  have hq := (below_alloc wq (.cells #[.int .i64 0, .int .u64 0, .slice none 0 0, .string ⟨#[]⟩, .slice none 0 0] 28)).alloc (by simp) (.cells #[.int .u8 129] 5)
  replace HB := Lib.hid (below_up HB.out hq)
  replace HT := Lib.hid (HT.out.up hq)
  replace S1 := Lib.hid (S1.out.up hq)
  replace S2 := Lib.hid (S2.out.up hq)
  replace S3 := Lib.hid (S3.out.up hq)
  clear hq
  have hsl := litSlF (wq.alloc (.cells #[.int .i64 0, .int .u64 0, .slice none 0 0, .string ⟨#[]⟩, .slice none 0 0] 28)) [129] (by decide) (0, 0)
  rw [World.size_alloc] at hsl
  have hsl : Sl ((wq.alloc (.cells #[.int .i64 0, .int .u64 0, .slice none 0 0, .string ⟨#[]⟩, .slice none 0 0] 28)).alloc (.cells #[.int .u8 129] 5)) 1 (.slice (some ⟨wq.heap.size + 1, 0, none⟩) 1 1) 1 (by8 [129]) := hsl
  have hde := decode_c _ _ [129] hsl HT.out
  unfold DecE at hde
  rw [dec2] at hde
  go_at_call 9
  refine hde.mono ?_
  clear hde hsl
  rintro en wq ⟨hq, rfl⟩
  replace HB := Lib.hid (below_up HB.out hq)
  replace HT := Lib.hid (HT.out.up hq)
  replace S1 := Lib.hid (S1.out.up hq)
  replace S2 := Lib.hid (S2.out.up hq)
  replace S3 := Lib.hid (S3.out.up hq)
  clear hq
  go_wp2_with fail
  have hq := (below_alloc wq (.cells #[.int .i64 0, .int .u64 0, .slice none 0 0, .string ⟨#[]⟩, .slice none 0 0] 28)).alloc (by simp) (.cells #[.int .u8 128, .int .u8 0] 5)
  replace HB := Lib.hid (below_up HB.out hq)
  replace HT := Lib.hid (HT.out.up hq)
  replace S1 := Lib.hid (S1.out.up hq)
  replace S2 := Lib.hid (S2.out.up hq)
  replace S3 := Lib.hid (S3.out.up hq)
  clear hq
  have hsl := litSlF (wq.alloc (.cells #[.int .i64 0, .int .u64 0, .slice none 0 0, .string ⟨#[]⟩, .slice none 0 0] 28)) [128, 0] (by decide) (0, 0)
  rw [World.size_alloc] at hsl
  have hsl : Sl ((wq.alloc (.cells #[.int .i64 0, .int .u64 0, .slice none 0 0, .string ⟨#[]⟩, .slice none 0 0] 28)).alloc (.cells #[.int .u8 128, .int .u8 0] 5)) 1 (.slice (some ⟨wq.heap.size + 1, 0, none⟩) 2 2) 2 (by8 [128, 0]) := hsl
  have hde := decode_c _ _ [128, 0] hsl HT.out
  unfold DecE at hde
  rw [dec3] at hde
  go_at_call 9
  refine hde.mono ?_
  clear hde hsl
  rintro en wq ⟨hq, rfl⟩
  replace HB := Lib.hid (below_up HB.out hq)
  replace HT := Lib.hid (HT.out.up hq)
  replace S1 := Lib.hid (S1.out.up hq)
  replace S2 := Lib.hid (S2.out.up hq)
  replace S3 := Lib.hid (S3.out.up hq)
  clear hq
  go_wp2_with fail
  have hq := (below_alloc wq (.cells #[.int .i64 0, .int .u64 0, .slice none 0 0, .string ⟨#[]⟩, .slice none 0 0] 28)).alloc (by simp) (.cells #[.int .u8 128, .int .u8 0] 5)
  replace HB := Lib.hid (below_up HB.out hq)
  replace HT := Lib.hid (HT.out.up hq)
  replace S1 := Lib.hid (S1.out.up hq)
  replace S2 := Lib.hid (S2.out.up hq)
  replace S3 := Lib.hid (S3.out.up hq)
  clear hq
  have hsl := litSlF (wq.alloc (.cells #[.int .i64 0, .int .u64 0, .slice none 0 0, .string ⟨#[]⟩, .slice none 0 0] 28)) [128, 0] (by decide) (0, 0)
  rw [World.size_alloc] at hsl
  have hsl : Sl ((wq.alloc (.cells #[.int .i64 0, .int .u64 0, .slice none 0 0, .string ⟨#[]⟩, .slice none 0 0] 28)).alloc (.cells #[.int .u8 128, .int .u8 0] 5)) 1 (.slice (some ⟨wq.heap.size + 1, 0, none⟩) 2 2) 2 (by8 [128, 0]) := hsl
  have hde := cbFirst_c _ _ [128, 0] hsl HT.out
  unfold FstE at hde
  rw [fst3] at hde
  go_at_call 10
  refine hde.mono ?_
  clear hde hsl
  rintro en wq ⟨hq, r7, rfl, hr7⟩
  have hsh := hr7.shape
  obtain ⟨k7, n7, ba7, bn7, bc7, s7, la7, ln7, lc7, rfl⟩ := hsh
  replace hr7 : RowKit.Hid (ItR (fun k => k < wq.heap.size) wq It3 ⟨k7, n7, .slice ba7 bn7 bc7, s7, .slice la7 ln7 lc7⟩) := Lib.hid (hr7.mono fun k h => h.2)
  replace HB := Lib.hid (below_up HB.out hq)
  replace HT := Lib.hid (HT.out.up hq)
  replace S1 := Lib.hid (S1.out.up hq)
  replace S2 := Lib.hid (S2.out.up hq)
  replace S3 := Lib.hid (S3.out.up hq)
  clear hq
  have kc := Lib.run_convert_bytes_const (P := Tryd.prog) (wq.alloc (.cells #[.int .i64 k7, .int .u64 n7, .slice ba7 bn7 bc7, .string s7, .slice la7 ln7 lc7] 28)) 22 5 #[.int .u8 98, .int .u8 255, .int .u8 255] 3 3 Tryd.underlying22 Tryd.underlying5
  rw [World.size_alloc] at kc
  go_wp2_with fail
  clear kc
  have X7 := Lib.hid ((RowAt.new wq #[.int .i64 k7, .int .u64 n7, .slice ba7 bn7 bc7, .string s7, .slice la7 ln7 lc7] 28).below (below_alloc _ (.cells #[.int .u8 98, .int .u8 255, .int .u8 255] 5 (3, 4))))
  have hX7l := Lib.hid (show wq.heap.size = wq.heap.size from rfl)
  obtain ⟨B7, hB7⟩ : ∃ B, wq.heap.size = B := ⟨_, rfl⟩
  have hq := (below_alloc wq (.cells #[.int .i64 k7, .int .u64 n7, .slice ba7 bn7 bc7, .string s7, .slice la7 ln7 lc7] 28)).alloc (by simp) (.cells #[.int .u8 98, .int .u8 255, .int .u8 255] 5 (3, 4))
  replace HB := Lib.hid (below_up HB.out hq)
  replace HT := Lib.hid (HT.out.up hq)
  replace S1 := Lib.hid (S1.out.up hq)
  replace S2 := Lib.hid (S2.out.up hq)
  replace S3 := Lib.hid (S3.out.up hq)
  replace hr7 := Lib.hid (hr7.out.up hq)
  clear hq
  have hsl := litSlF (wq.alloc (.cells #[.int .i64 k7, .int .u64 n7, .slice ba7 bn7 bc7, .string s7, .slice la7 ln7 lc7] 28)) [98, 255, 255] (by decide)  (3, 4)
  rw [World.size_alloc] at hsl
  have hsl : Sl ((wq.alloc (.cells #[.int .i64 k7, .int .u64 n7, .slice ba7 bn7 bc7, .string s7, .slice la7 ln7 lc7] 28)).alloc (.cells #[.int .u8 98, .int .u8 255, .int .u8 255] 5 (3, 4))) 1 (.slice (some ⟨wq.heap.size + 1, 0, none⟩) 3 3) 3 (by8 [98, 255, 255]) := hsl
  rw [hB7] at X7 hsl ⊢
  replace hB7 := Lib.hid hB7
  clear hX7l
  have hde := decode_c _ _ [98, 255, 255] hsl HT.out
  unfold DecE at hde
  rw [dec4] at hde
  go_at_call 9
  refine hde.mono ?_
  clear hde hsl
  rintro en wq ⟨hq, rfl⟩
  replace HB := Lib.hid (below_up HB.out hq)
  replace HT := Lib.hid (HT.out.up hq)
  replace S1 := Lib.hid (S1.out.up hq)
  replace S2 := Lib.hid (S2.out.up hq)
  replace S3 := Lib.hid (S3.out.up hq)
  replace hr7 := Lib.hid (hr7.out.up hq)
  replace X7 := Lib.hid (X7.out.below hq)
  clear hq
  go_wp2_with fail
  have hq := below_alloc wq (.cells #[.int .i64 0, .int .u64 0, .slice none 0 0, .string ⟨#[]⟩, .slice none 0 0] 28)
  replace HB := Lib.hid (below_up HB.out hq)
  replace HT := Lib.hid (HT.out.up hq)
  replace S1 := Lib.hid (S1.out.up hq)
  replace S2 := Lib.hid (S2.out.up hq)
  replace S3 := Lib.hid (S3.out.up hq)
  replace hr7 := Lib.hid (hr7.out.up hq)
  replace X7 := Lib.hid (X7.out.below hq)
  clear hq
  go_at_call 27
  refine (deep_c 8 _ (by decide)).mono ?_
  rintro en wq ⟨v, rfl, ho, hq⟩
  obtain ⟨av, cv, rfl⟩ := own_slice ho
  have hsl := Sl.of_own ho
  replace HB := Lib.hid (below_up HB.out hq)
  replace HT := Lib.hid (HT.out.up hq)
  replace S1 := Lib.hid (S1.out.up hq)
  replace S2 := Lib.hid (S2.out.up hq)
  replace S3 := Lib.hid (S3.out.up hq)
  replace hr7 := Lib.hid (hr7.out.up hq)
  replace X7 := Lib.hid (X7.out.below hq)
  clear hq ho
  go_wp2_with fail
  have hde := decode_c _ _ (deepB 8) hsl HT.out
  unfold DecE at hde
  rw [dec5] at hde
  go_at_call 9
  refine hde.mono ?_
  clear hde hsl
  rintro en wq ⟨hq, rfl⟩
  replace HB := Lib.hid (below_up HB.out hq)
  replace HT := Lib.hid (HT.out.up hq)
  replace S1 := Lib.hid (S1.out.up hq)
  replace S2 := Lib.hid (S2.out.up hq)
  replace S3 := Lib.hid (S3.out.up hq)
  replace hr7 := Lib.hid (hr7.out.up hq)
  replace X7 := Lib.hid (X7.out.below hq)
  clear hq
  go_wp2_with fail
  have hq := below_alloc wq (.cells #[.int .i64 0, .int .u64 0, .slice none 0 0, .string ⟨#[]⟩, .slice none 0 0] 28)
  replace HB := Lib.hid (below_up HB.out hq)
  replace HT := Lib.hid (HT.out.up hq)
  replace S1 := Lib.hid (S1.out.up hq)
  replace S2 := Lib.hid (S2.out.up hq)
  replace S3 := Lib.hid (S3.out.up hq)
  replace hr7 := Lib.hid (hr7.out.up hq)
  replace X7 := Lib.hid (X7.out.below hq)
  clear hq
  go_at_call 27
  refine (deep_c 7 _ (by decide)).mono ?_
  rintro en wq ⟨v, rfl, ho, hq⟩
  obtain ⟨av, cv, rfl⟩ := own_slice ho
  have hsl := Sl.of_own ho
  replace HB := Lib.hid (below_up HB.out hq)
  replace HT := Lib.hid (HT.out.up hq)
  replace S1 := Lib.hid (S1.out.up hq)
  replace S2 := Lib.hid (S2.out.up hq)
  replace S3 := Lib.hid (S3.out.up hq)
  replace hr7 := Lib.hid (hr7.out.up hq)
  replace X7 := Lib.hid (X7.out.below hq)
  clear hq ho
  go_wp2_with fail
  have hde := decode_c _ _ (deepB 7) hsl HT.out
  unfold DecE at hde
  rw [dec6] at hde
  go_at_call 9
  refine hde.mono ?_
  clear hde hsl
  rintro en wq ⟨hq, r9, rfl, hr9⟩
  have hsh := hr9.shape
  obtain ⟨k9, n9, ba9, bn9, bc9, s9, la9, ln9, lc9, rfl⟩ := hsh
  replace hr9 : RowKit.Hid (ItR (fun k => k < wq.heap.size) wq (lists 7) ⟨k9, n9, .slice ba9 bn9 bc9, s9, .slice la9 ln9 lc9⟩) := Lib.hid (hr9.mono fun k h => h.2)
  replace HB := Lib.hid (below_up HB.out hq)
  replace HT := Lib.hid (HT.out.up hq)
  replace S1 := Lib.hid (S1.out.up hq)
  replace S2 := Lib.hid (S2.out.up hq)
  replace S3 := Lib.hid (S3.out.up hq)
  replace hr7 := Lib.hid (hr7.out.up hq)
  replace X7 := Lib.hid (X7.out.below hq)
  clear hq
  go_wp2_with fail
  have X9 := Lib.hid (RowAt.new wq #[.int .i64 k9, .int .u64 n9, .slice ba9 bn9 bc9, .string s9, .slice la9 ln9 lc9] 28)
  obtain ⟨B9, hB9⟩ : ∃ B, wq.heap.size = B := ⟨_, rfl⟩
  have hq := below_alloc wq (.cells #[.int .i64 k9, .int .u64 n9, .slice ba9 bn9 bc9, .string s9, .slice la9 ln9 lc9] 28)
  replace HB := Lib.hid (below_up HB.out hq)
  replace HT := Lib.hid (HT.out.up hq)
  replace S1 := Lib.hid (S1.out.up hq)
  replace S2 := Lib.hid (S2.out.up hq)
  replace S3 := Lib.hid (S3.out.up hq)
  replace hr7 := Lib.hid (hr7.out.up hq)
  replace X7 := Lib.hid (X7.out.below hq)
  replace hr9 := Lib.hid (hr9.out.up hq)
  clear hq
  rw [hB9] at X9 ⊢
  replace hB9 := Lib.hid hB9
  replace hr7 := Lib.hid hr7.out
  go_wp2_with fail
  refine wp_region_piL [(0, false), (2, false), (5, false), (8, false), (11, false), (1, true), (3, true), (4, false), (6, true), (7, false), (9, true), (10, false), (12, true), (13, false), (14, false), (15, false), (16, false), (17, false), (18, false), (19, false), (20, false), (21, false), (22, false), (23, false), (24, false), (25, false), (26, false), (27, false), (28, false), (29, false), (30, false), (31, false), (32, true), (33, false), (34, false), (35, false), (36, false), (37, true), (38, false), (39, false), (40, false), (41, false), (42, true), (43, false), (44, false), (45, false), (46, false), (47, true), (48, true), (49, false), (50, false), (51, false), (52, false), (53, false), (54, false), (55, false), (56, true), (57, false), (58, false), (59, false), (60, false), (61, true), (62, false), (63, false), (64, false), (65, false), (66, true), (67, false), (68, false), (69, false)] (by kernel_rfl) (by kernel_rfl) (by kernel_rfl) rfl (fun _ _ d _ _ h => by cases d <;> exact h) (fun OPS HO Wd hBd => ?_)
  try simp only [Act.put, List.getElem_toArray, List.getElem_cons_zero, List.getElem_cons_succ, List.setIfInBounds_toArray, List.set_cons_zero, List.set_cons_succ]
  have hwz : IntKind.i64.wrap 0 = 0 := by decide
  have T1 := S1.out.up hBd
  have T2 := S2.out.up hBd
  have T3 := S3.out.up hBd
  have Y7 := X7.out.below hBd
  have Y9 := X9.out.below hBd
  have I7 := hr7.out.up hBd
  have I9 := hr9.out.up hBd
  have HBc := Lib.hid (below_up HB.out hBd)
  refine pi_q (v := ?_) (by rw [← HO.out]; simp only [List.getElem?_toArray, List.getElem?_cons_zero, List.getElem?_cons_succ]; rfl) (by rw [← HO.out]; kernel_rfl) ?_ ?_
  rotate_left
  · intro w' hBw'
    first | (go_simp; done) | (go_simp; with_reducible rfl)
  try simp only [Act.put, List.getElem_toArray, List.getElem_cons_zero, List.getElem_cons_succ, List.setIfInBounds_toArray, List.set_cons_zero, List.set_cons_succ]
  refine pi_q (v := ?_) (by rw [← HO.out]; simp only [List.getElem?_toArray, List.getElem?_cons_zero, List.getElem?_cons_succ]; rfl) (by rw [← HO.out]; kernel_rfl) ?_ ?_
  rotate_left
  · intro w' hBw'
    first | (go_simp; done) | (go_simp; with_reducible rfl)
  try simp only [Act.put, List.getElem_toArray, List.getElem_cons_zero, List.getElem_cons_succ, List.setIfInBounds_toArray, List.set_cons_zero, List.set_cons_succ]
  refine pi_q (v := ?_) (by rw [← HO.out]; simp only [List.getElem?_toArray, List.getElem?_cons_zero, List.getElem?_cons_succ]; rfl) (by rw [← HO.out]; kernel_rfl) ?_ ?_
  rotate_left
  · intro w' hBw'
    first | (go_simp; done) | (go_simp; with_reducible rfl)
  try simp only [Act.put, List.getElem_toArray, List.getElem_cons_zero, List.getElem_cons_succ, List.setIfInBounds_toArray, List.set_cons_zero, List.set_cons_succ]
  refine pi_q (v := ?_) (by rw [← HO.out]; simp only [List.getElem?_toArray, List.getElem?_cons_zero, List.getElem?_cons_succ]; rfl) (by rw [← HO.out]; kernel_rfl) ?_ ?_
  rotate_left
  · intro w' hBw'
    first | (go_simp; done) | (go_simp; with_reducible rfl)
  try simp only [Act.put, List.getElem_toArray, List.getElem_cons_zero, List.getElem_cons_succ, List.setIfInBounds_toArray, List.set_cons_zero, List.set_cons_succ]
  refine pi_q (v := ?_) (by rw [← HO.out]; simp only [List.getElem?_toArray, List.getElem?_cons_zero, List.getElem?_cons_succ]; rfl) (by rw [← HO.out]; kernel_rfl) ?_ ?_
  rotate_left
  · intro w' hBw'
    first | (go_simp; done) | (go_simp; with_reducible rfl)
  try simp only [Act.put, List.getElem_toArray, List.getElem_cons_zero, List.getElem_cons_succ, List.setIfInBounds_toArray, List.set_cons_zero, List.set_cons_succ]
  refine pi_call (by rw [← HO.out]; simp only [List.getElem?_toArray, List.getElem?_cons_zero, List.getElem?_cons_succ]; rfl) (by rw [← HO.out]; kernel_rfl) (numE_c 0 _) cbEnters_num (by rfl) (by kernel_rfl) ?_
  rintro en wN ⟨rfl, rfl⟩
  refine ⟨_, rfl, (Below.refl _ _), ?_⟩
  try simp only [Act.put, List.getElem_toArray, List.getElem_cons_zero, List.getElem_cons_succ, List.setIfInBounds_toArray, List.set_cons_zero, List.set_cons_succ]
  refine pi_call (by rw [← HO.out]; simp only [List.getElem?_toArray, List.getElem?_cons_zero, List.getElem?_cons_succ]; rfl) (by rw [← HO.out]; kernel_rfl) (numE_c 0 _) cbEnters_num (by rfl) (by kernel_rfl) ?_
  rintro en wN ⟨rfl, rfl⟩
  refine ⟨_, rfl, (Below.refl _ _), ?_⟩
  try simp only [Act.put, List.getElem_toArray, List.getElem_cons_zero, List.getElem_cons_succ, List.setIfInBounds_toArray, List.set_cons_zero, List.set_cons_succ]
  refine pi_q (v := ?_) (by rw [← HO.out]; simp only [List.getElem?_toArray, List.getElem?_cons_zero, List.getElem?_cons_succ]; rfl) (by rw [← HO.out]; kernel_rfl) ?_ ?_
  rotate_left
  · intro w' hBw'
    first | (go_simp; done) | (go_simp; with_reducible rfl)
  try simp only [Act.put, List.getElem_toArray, List.getElem_cons_zero, List.getElem_cons_succ, List.setIfInBounds_toArray, List.set_cons_zero, List.set_cons_succ]
  refine pi_call (by rw [← HO.out]; simp only [List.getElem?_toArray, List.getElem?_cons_zero, List.getElem?_cons_succ]; rfl) (by rw [← HO.out]; kernel_rfl) (numE_c 0 _) cbEnters_num (by rfl) (by kernel_rfl) ?_
  rintro en wN ⟨rfl, rfl⟩
  refine ⟨_, rfl, (Below.refl _ _), ?_⟩
  try simp only [Act.put, List.getElem_toArray, List.getElem_cons_zero, List.getElem_cons_succ, List.setIfInBounds_toArray, List.set_cons_zero, List.set_cons_succ]
  refine pi_q (v := ?_) (by rw [← HO.out]; simp only [List.getElem?_toArray, List.getElem?_cons_zero, List.getElem?_cons_succ]; rfl) (by rw [← HO.out]; kernel_rfl) ?_ ?_
  rotate_left
  · intro w' hBw'
    first | (go_simp; done) | (go_simp; with_reducible rfl)
  try simp only [Act.put, List.getElem_toArray, List.getElem_cons_zero, List.getElem_cons_succ, List.setIfInBounds_toArray, List.set_cons_zero, List.set_cons_succ]
  refine pi_call (by rw [← HO.out]; simp only [List.getElem?_toArray, List.getElem?_cons_zero, List.getElem?_cons_succ]; rfl) (by rw [← HO.out]; kernel_rfl) (numE_c 0 _) cbEnters_num (by rfl) (by kernel_rfl) ?_
  rintro en wN ⟨rfl, rfl⟩
  refine ⟨_, rfl, (Below.refl _ _), ?_⟩
  try simp only [Act.put, List.getElem_toArray, List.getElem_cons_zero, List.getElem_cons_succ, List.setIfInBounds_toArray, List.set_cons_zero, List.set_cons_succ]
  refine pi_q (v := ?_) (by rw [← HO.out]; simp only [List.getElem?_toArray, List.getElem?_cons_zero, List.getElem?_cons_succ]; rfl) (by rw [← HO.out]; kernel_rfl) ?_ ?_
  rotate_left
  · intro w' hBw'
    first | (go_simp; done) | (go_simp; with_reducible rfl)
  try simp only [Act.put, List.getElem_toArray, List.getElem_cons_zero, List.getElem_cons_succ, List.setIfInBounds_toArray, List.set_cons_zero, List.set_cons_succ]
  refine pi_call (by rw [← HO.out]; simp only [List.getElem?_toArray, List.getElem?_cons_zero, List.getElem?_cons_succ]; rfl) (by rw [← HO.out]; kernel_rfl) (numE_c 0 _) cbEnters_num (by rfl) (by kernel_rfl) ?_
  rintro en wN ⟨rfl, rfl⟩
  refine ⟨_, rfl, (Below.refl _ _), ?_⟩
  try simp only [Act.put, List.getElem_toArray, List.getElem_cons_zero, List.getElem_cons_succ, List.setIfInBounds_toArray, List.set_cons_zero, List.set_cons_succ]
  refine pi_q (v := ?_) (by rw [← HO.out]; simp only [List.getElem?_toArray, List.getElem?_cons_zero, List.getElem?_cons_succ]; rfl) (by rw [← HO.out]; kernel_rfl) ?_ ?_
  rotate_left
  · intro w' hBw'
    first | (go_simp; done) | (go_simp; with_reducible rfl)
  try simp only [Act.put, List.getElem_toArray, List.getElem_cons_zero, List.getElem_cons_succ, List.setIfInBounds_toArray, List.set_cons_zero, List.set_cons_succ]
  refine pi_q (v := ?_) (by rw [← HO.out]; simp only [List.getElem?_toArray, List.getElem?_cons_zero, List.getElem?_cons_succ]; rfl) (by rw [← HO.out]; kernel_rfl) ?_ ?_
  rotate_left
  · intro w' hBw'
    first | (go_simp; done) | (go_simp; with_reducible rfl)
  try simp only [Act.put, List.getElem_toArray, List.getElem_cons_zero, List.getElem_cons_succ, List.setIfInBounds_toArray, List.set_cons_zero, List.set_cons_succ]
  refine pi_q (v := ?_) (by rw [← HO.out]; simp only [List.getElem?_toArray, List.getElem?_cons_zero, List.getElem?_cons_succ]; rfl) (by rw [← HO.out]; kernel_rfl) ?_ ?_
  rotate_left
  · intro w' hBw'
    first | (go_simp; done) | (go_simp; with_reducible rfl)
  try simp only [Act.put, List.getElem_toArray, List.getElem_cons_zero, List.getElem_cons_succ, List.setIfInBounds_toArray, List.set_cons_zero, List.set_cons_succ]
  refine pi_q (v := ?_) (by rw [← HO.out]; simp only [List.getElem?_toArray, List.getElem?_cons_zero, List.getElem?_cons_succ]; rfl) (by rw [← HO.out]; kernel_rfl) ?_ ?_
  rotate_left
  · intro w' hBw'
    first | (go_simp; done) | (go_simp; with_reducible rfl)
  try simp only [Act.put, List.getElem_toArray, List.getElem_cons_zero, List.getElem_cons_succ, List.setIfInBounds_toArray, List.set_cons_zero, List.set_cons_succ]
  refine pi_q (v := .string ⟨[24, 24].toArray⟩) (by rw [← HO.out]; simp only [List.getElem?_toArray, List.getElem?_cons_zero, List.getElem?_cons_succ]; rfl) (by rw [← HO.out]; kernel_rfl) (by exact fun w' hb' => exec_str rfl (by kernel_rfl) (T1.up hb')) ?_
  try simp only [Act.put, List.getElem_toArray, List.getElem_cons_zero, List.getElem_cons_succ, List.setIfInBounds_toArray, List.set_cons_zero, List.set_cons_succ]
  refine pi_q (v := .bool true) (by rw [← HO.out]; simp only [List.getElem?_toArray, List.getElem?_cons_zero, List.getElem?_cons_succ]; rfl) (by rw [← HO.out]; kernel_rfl) (by exact fun w' _ => exec_streq (s := ⟨[24, 24].toArray⟩) rfl (by kernel_rfl) (by kernel_rfl) w') ?_
  try simp only [Act.put, List.getElem_toArray, List.getElem_cons_zero, List.getElem_cons_succ, List.setIfInBounds_toArray, List.set_cons_zero, List.set_cons_succ]
  refine pi_q (v := ?_) (by rw [← HO.out]; simp only [List.getElem?_toArray, List.getElem?_cons_zero, List.getElem?_cons_succ]; rfl) (by rw [← HO.out]; kernel_rfl) ?_ ?_
  rotate_left
  · intro w' hBw'
    first | (go_simp; done) | (go_simp; with_reducible rfl)
  try simp only [Act.put, List.getElem_toArray, List.getElem_cons_zero, List.getElem_cons_succ, List.setIfInBounds_toArray, List.set_cons_zero, List.set_cons_succ]
  refine pi_q (v := ?_) (by rw [← HO.out]; simp only [List.getElem?_toArray, List.getElem?_cons_zero, List.getElem?_cons_succ]; rfl) (by rw [← HO.out]; kernel_rfl) ?_ ?_
  rotate_left
  · intro w' hBw'
    first | (go_simp; done) | (go_simp; with_reducible rfl)
  try simp only [Act.put, List.getElem_toArray, List.getElem_cons_zero, List.getElem_cons_succ, List.setIfInBounds_toArray, List.set_cons_zero, List.set_cons_succ]
  refine pi_q (v := ?_) (by rw [← HO.out]; simp only [List.getElem?_toArray, List.getElem?_cons_zero, List.getElem?_cons_succ]; rfl) (by rw [← HO.out]; kernel_rfl) ?_ ?_
  rotate_left
  · intro w' hBw'
    first | (go_simp; done) | (go_simp; with_reducible rfl)
  try simp only [Act.put, List.getElem_toArray, List.getElem_cons_zero, List.getElem_cons_succ, List.setIfInBounds_toArray, List.set_cons_zero, List.set_cons_succ]
  refine pi_q (v := .string ⟨[132, 65, 1, 98, 104, 105, 245, 246].toArray⟩) (by rw [← HO.out]; simp only [List.getElem?_toArray, List.getElem?_cons_zero, List.getElem?_cons_succ]; rfl) (by rw [← HO.out]; kernel_rfl) (by exact fun w' hb' => exec_str rfl (by kernel_rfl) (T2.up hb')) ?_
  try simp only [Act.put, List.getElem_toArray, List.getElem_cons_zero, List.getElem_cons_succ, List.setIfInBounds_toArray, List.set_cons_zero, List.set_cons_succ]
  refine pi_q (v := .bool true) (by rw [← HO.out]; simp only [List.getElem?_toArray, List.getElem?_cons_zero, List.getElem?_cons_succ]; rfl) (by rw [← HO.out]; kernel_rfl) (by exact fun w' _ => exec_streq (s := ⟨[132, 65, 1, 98, 104, 105, 245, 246].toArray⟩) rfl (by kernel_rfl) (by kernel_rfl) w') ?_
  try simp only [Act.put, List.getElem_toArray, List.getElem_cons_zero, List.getElem_cons_succ, List.setIfInBounds_toArray, List.set_cons_zero, List.set_cons_succ]
  refine pi_q (v := ?_) (by rw [← HO.out]; simp only [List.getElem?_toArray, List.getElem?_cons_zero, List.getElem?_cons_succ]; rfl) (by rw [← HO.out]; kernel_rfl) ?_ ?_
  rotate_left
  · intro w' hBw'
    first | (go_simp; done) | (go_simp; with_reducible rfl)
  try simp only [Act.put, List.getElem_toArray, List.getElem_cons_zero, List.getElem_cons_succ, List.setIfInBounds_toArray, List.set_cons_zero, List.set_cons_succ]
  refine pi_q (v := ?_) (by rw [← HO.out]; simp only [List.getElem?_toArray, List.getElem?_cons_zero, List.getElem?_cons_succ]; rfl) (by rw [← HO.out]; kernel_rfl) ?_ ?_
  rotate_left
  · intro w' hBw'
    first | (go_simp; done) | (go_simp; with_reducible rfl)
  try simp only [Act.put, List.getElem_toArray, List.getElem_cons_zero, List.getElem_cons_succ, List.setIfInBounds_toArray, List.set_cons_zero, List.set_cons_succ]
  refine pi_q (v := ?_) (by rw [← HO.out]; simp only [List.getElem?_toArray, List.getElem?_cons_zero, List.getElem?_cons_succ]; rfl) (by rw [← HO.out]; kernel_rfl) ?_ ?_
  rotate_left
  · intro w' hBw'
    first | (go_simp; done) | (go_simp; with_reducible rfl)
  try simp only [Act.put, List.getElem_toArray, List.getElem_cons_zero, List.getElem_cons_succ, List.setIfInBounds_toArray, List.set_cons_zero, List.set_cons_succ]
  refine pi_q (v := .string ⟨[128].toArray⟩) (by rw [← HO.out]; simp only [List.getElem?_toArray, List.getElem?_cons_zero, List.getElem?_cons_succ]; rfl) (by rw [← HO.out]; kernel_rfl) (by exact fun w' hb' => exec_str rfl (by kernel_rfl) (T3.up hb')) ?_
  try simp only [Act.put, List.getElem_toArray, List.getElem_cons_zero, List.getElem_cons_succ, List.setIfInBounds_toArray, List.set_cons_zero, List.set_cons_succ]
  refine pi_q (v := .bool true) (by rw [← HO.out]; simp only [List.getElem?_toArray, List.getElem?_cons_zero, List.getElem?_cons_succ]; rfl) (by rw [← HO.out]; kernel_rfl) (by exact fun w' _ => exec_streq (s := ⟨[128].toArray⟩) rfl (by kernel_rfl) (by kernel_rfl) w') ?_
  try simp only [Act.put, List.getElem_toArray, List.getElem_cons_zero, List.getElem_cons_succ, List.setIfInBounds_toArray, List.set_cons_zero, List.set_cons_succ]
  refine pi_q (v := ?_) (by rw [← HO.out]; simp only [List.getElem?_toArray, List.getElem?_cons_zero, List.getElem?_cons_succ]; rfl) (by rw [← HO.out]; kernel_rfl) ?_ ?_
  rotate_left
  · intro w' hBw'
    first | (go_simp; done) | (go_simp; with_reducible rfl)
  try simp only [Act.put, List.getElem_toArray, List.getElem_cons_zero, List.getElem_cons_succ, List.setIfInBounds_toArray, List.set_cons_zero, List.set_cons_succ]
  refine pi_q (v := ?_) (by rw [← HO.out]; simp only [List.getElem?_toArray, List.getElem?_cons_zero, List.getElem?_cons_succ]; rfl) (by rw [← HO.out]; kernel_rfl) ?_ ?_
  rotate_left
  · intro w' hBw'
    first | (go_simp; done) | (go_simp; with_reducible rfl)
  try simp only [Act.put, List.getElem_toArray, List.getElem_cons_zero, List.getElem_cons_succ, List.setIfInBounds_toArray, List.set_cons_zero, List.set_cons_succ]
  refine pi_q (v := ?_) (by rw [← HO.out]; simp only [List.getElem?_toArray, List.getElem?_cons_zero, List.getElem?_cons_succ]; rfl) (by rw [← HO.out]; kernel_rfl) ?_ ?_
  rotate_left
  · intro w' hBw'
    first | (go_simp; done) | (go_simp; with_reducible rfl)
  try simp only [Act.put, List.getElem_toArray, List.getElem_cons_zero, List.getElem_cons_succ, List.setIfInBounds_toArray, List.set_cons_zero, List.set_cons_succ]
  refine pi_call (by rw [← HO.out]; simp only [List.getElem?_toArray, List.getElem?_cons_zero, List.getElem?_cons_succ]; rfl) (by rw [← HO.out]; kernel_rfl) (numE_c 121 _) cbEnters_num (by rfl) (by kernel_rfl) ?_
  rintro en wN ⟨rfl, rfl⟩
  refine ⟨_, rfl, (Below.refl _ _), ?_⟩
  try simp only [Act.put, List.getElem_toArray, List.getElem_cons_zero, List.getElem_cons_succ, List.setIfInBounds_toArray, List.set_cons_zero, List.set_cons_succ]
  refine pi_q (v := ?_) (by rw [← HO.out]; simp only [List.getElem?_toArray, List.getElem?_cons_zero, List.getElem?_cons_succ]; rfl) (by rw [← HO.out]; kernel_rfl) ?_ ?_
  rotate_left
  · intro w' hBw'
    first | (go_simp; done) | (go_simp; with_reducible rfl)
  try simp only [Act.put, List.getElem_toArray, List.getElem_cons_zero, List.getElem_cons_succ, List.setIfInBounds_toArray, List.set_cons_zero, List.set_cons_succ]
  refine pi_q (v := ?_) (by rw [← HO.out]; simp only [List.getElem?_toArray, List.getElem?_cons_zero, List.getElem?_cons_succ]; rfl) (by rw [← HO.out]; kernel_rfl) ?_ ?_
  rotate_left
  · intro w' hBw'
    first | (go_simp; done) | (go_simp; with_reducible rfl)
  try simp only [Act.put, List.getElem_toArray, List.getElem_cons_zero, List.getElem_cons_succ, List.setIfInBounds_toArray, List.set_cons_zero, List.set_cons_succ]
  refine pi_q (v := ?_) (by rw [← HO.out]; simp only [List.getElem?_toArray, List.getElem?_cons_zero, List.getElem?_cons_succ]; rfl) (by rw [← HO.out]; kernel_rfl) ?_ ?_
  rotate_left
  · intro w' hBw'
    first | (go_simp; done) | (go_simp; with_reducible rfl)
  try simp only [Act.put, List.getElem_toArray, List.getElem_cons_zero, List.getElem_cons_succ, List.setIfInBounds_toArray, List.set_cons_zero, List.set_cons_succ]
  refine pi_q (v := ?_) (by rw [← HO.out]; simp only [List.getElem?_toArray, List.getElem?_cons_zero, List.getElem?_cons_succ]; rfl) (by rw [← HO.out]; kernel_rfl) ?_ ?_
  rotate_left
  · intro w' hBw'
    first | (go_simp; done) | (go_simp; with_reducible rfl)
  try simp only [Act.put, List.getElem_toArray, List.getElem_cons_zero, List.getElem_cons_succ, List.setIfInBounds_toArray, List.set_cons_zero, List.set_cons_succ]
  refine pi_call (by rw [← HO.out]; simp only [List.getElem?_toArray, List.getElem?_cons_zero, List.getElem?_cons_succ]; rfl) (by rw [← HO.out]; kernel_rfl) (numE_c 121 _) cbEnters_num (by rfl) (by kernel_rfl) ?_
  rintro en wN ⟨rfl, rfl⟩
  refine ⟨_, rfl, (Below.refl _ _), ?_⟩
  try simp only [Act.put, List.getElem_toArray, List.getElem_cons_zero, List.getElem_cons_succ, List.setIfInBounds_toArray, List.set_cons_zero, List.set_cons_succ]
  refine pi_q (v := ?_) (by rw [← HO.out]; simp only [List.getElem?_toArray, List.getElem?_cons_zero, List.getElem?_cons_succ]; rfl) (by rw [← HO.out]; kernel_rfl) ?_ ?_
  rotate_left
  · intro w' hBw'
    first | (go_simp; done) | (go_simp; with_reducible rfl)
  try simp only [Act.put, List.getElem_toArray, List.getElem_cons_zero, List.getElem_cons_succ, List.setIfInBounds_toArray, List.set_cons_zero, List.set_cons_succ]
  refine pi_q (v := ?_) (by rw [← HO.out]; simp only [List.getElem?_toArray, List.getElem?_cons_zero, List.getElem?_cons_succ]; rfl) (by rw [← HO.out]; kernel_rfl) ?_ ?_
  rotate_left
  · intro w' hBw'
    first | (go_simp; done) | (go_simp; with_reducible rfl)
  try simp only [Act.put, List.getElem_toArray, List.getElem_cons_zero, List.getElem_cons_succ, List.setIfInBounds_toArray, List.set_cons_zero, List.set_cons_succ]
  refine pi_q (v := ?_) (by rw [← HO.out]; simp only [List.getElem?_toArray, List.getElem?_cons_zero, List.getElem?_cons_succ]; rfl) (by rw [← HO.out]; kernel_rfl) ?_ ?_
  rotate_left
  · intro w' hBw'
    first | (go_simp; done) | (go_simp; with_reducible rfl)
  try simp only [Act.put, List.getElem_toArray, List.getElem_cons_zero, List.getElem_cons_succ, List.setIfInBounds_toArray, List.set_cons_zero, List.set_cons_succ]
  refine pi_q (v := ?_) (by rw [← HO.out]; simp only [List.getElem?_toArray, List.getElem?_cons_zero, List.getElem?_cons_succ]; rfl) (by rw [← HO.out]; kernel_rfl) ?_ ?_
  rotate_left
  · intro w' hBw'
    first | (go_simp; done) | (go_simp; with_reducible rfl)
  try simp only [Act.put, List.getElem_toArray, List.getElem_cons_zero, List.getElem_cons_succ, List.setIfInBounds_toArray, List.set_cons_zero, List.set_cons_succ]
  refine pi_call (by rw [← HO.out]; simp only [List.getElem?_toArray, List.getElem?_cons_zero, List.getElem?_cons_succ]; rfl) (by rw [← HO.out]; kernel_rfl) (numE_c 121 _) cbEnters_num (by rfl) (by kernel_rfl) ?_
  rintro en wN ⟨rfl, rfl⟩
  refine ⟨_, rfl, (Below.refl _ _), ?_⟩
  try simp only [Act.put, List.getElem_toArray, List.getElem_cons_zero, List.getElem_cons_succ, List.setIfInBounds_toArray, List.set_cons_zero, List.set_cons_succ]
  refine pi_q (v := ?_) (by rw [← HO.out]; simp only [List.getElem?_toArray, List.getElem?_cons_zero, List.getElem?_cons_succ]; rfl) (by rw [← HO.out]; kernel_rfl) ?_ ?_
  rotate_left
  · intro w' hBw'
    first | (go_simp; done) | (go_simp; with_reducible rfl)
  try simp only [Act.put, List.getElem_toArray, List.getElem_cons_zero, List.getElem_cons_succ, List.setIfInBounds_toArray, List.set_cons_zero, List.set_cons_succ]
  refine pi_q (v := ?_) (by rw [← HO.out]; simp only [List.getElem?_toArray, List.getElem?_cons_zero, List.getElem?_cons_succ]; rfl) (by rw [← HO.out]; kernel_rfl) ?_ ?_
  rotate_left
  · intro w' hBw'
    first | (go_simp; done) | (go_simp; with_reducible rfl)
  try simp only [Act.put, List.getElem_toArray, List.getElem_cons_zero, List.getElem_cons_succ, List.setIfInBounds_toArray, List.set_cons_zero, List.set_cons_succ]
  refine pi_q (v := ?_) (by rw [← HO.out]; simp only [List.getElem?_toArray, List.getElem?_cons_zero, List.getElem?_cons_succ]; rfl) (by rw [← HO.out]; kernel_rfl) ?_ ?_
  rotate_left
  · intro w' hBw'
    first | (go_simp; done) | (go_simp; with_reducible rfl)
  try simp only [Act.put, List.getElem_toArray, List.getElem_cons_zero, List.getElem_cons_succ, List.setIfInBounds_toArray, List.set_cons_zero, List.set_cons_succ]
  refine pi_load (by rw [← HO.out]; simp only [List.getElem?_toArray, List.getElem?_cons_zero, List.getElem?_cons_succ]; rfl) (by rw [← HO.out]; kernel_rfl) 28 (.tmp 13) rfl B7 0 (by kernel_rfl) (rwC ⟨k7, n7, .slice ba7 bn7 bc7, s7, .slice la7 ln7 lc7⟩) _ (RowAt.range (cs := rwC ⟨k7, n7, .slice ba7 bn7 bc7, s7, .slice la7 ln7 lc7⟩) Y7) Tryd.underlying28 rfl (by kernel_rfl) ?_
  try simp only [Act.put, List.getElem_toArray, List.getElem_cons_zero, List.getElem_cons_succ, List.setIfInBounds_toArray, List.set_cons_zero, List.set_cons_succ]
  refine pi_call (by rw [← HO.out]; simp only [List.getElem?_toArray, List.getElem?_cons_zero, List.getElem?_cons_succ]; rfl) (by rw [← HO.out]; kernel_rfl) (mkList_c none 0 0 _) cbEnters_list (by rfl) (by kernel_rfl) ?_
  rintro en wN ⟨rfl, hb1⟩
  replace Y9 := Y9.below hb1
  replace I9 := I9.up hb1
  have J7 := I7.up hb1
  replace HBc := Lib.hid (below_up HBc.out hb1)
  have hsm := sameR_c _ It3 It3 ⟨k7, n7, .slice ba7 bn7 bc7, s7, .slice la7 ln7 lc7⟩ ⟨4, 0, .slice none 0 0, ⟨#[]⟩, .slice none 0 0⟩ wN J7 (itR_flat (by decide) (by decide) slS_nil) (by decide) (by decide)
  rw [sameB_refl] at hsm
  refine ⟨_, rfl, hb1, ?_⟩
  try simp only [Act.put, List.getElem_toArray, List.getElem_cons_zero, List.getElem_cons_succ, List.setIfInBounds_toArray, List.set_cons_zero, List.set_cons_succ]
  refine pi_call (by rw [← HO.out]; simp only [List.getElem?_toArray, List.getElem?_cons_zero, List.getElem?_cons_succ]; rfl) (by rw [← HO.out]; kernel_rfl) (hsm) cbEnters_same (by rfl) (by kernel_rfl) ?_
  rintro en wN ⟨rfl, hb2⟩
  replace Y9 := Y9.below hb2
  replace I9 := I9.up hb2
  replace HBc := Lib.hid (below_up HBc.out hb2)
  refine ⟨_, rfl, hb2, ?_⟩
  try simp only [Act.put, List.getElem_toArray, List.getElem_cons_zero, List.getElem_cons_succ, List.setIfInBounds_toArray, List.set_cons_zero, List.set_cons_succ]
  refine pi_q (v := ?_) (by rw [← HO.out]; simp only [List.getElem?_toArray, List.getElem?_cons_zero, List.getElem?_cons_succ]; rfl) (by rw [← HO.out]; kernel_rfl) ?_ ?_
  rotate_left
  · intro w' hBw'
    first | (go_simp; done) | (go_simp; with_reducible rfl)
  try simp only [Act.put, List.getElem_toArray, List.getElem_cons_zero, List.getElem_cons_succ, List.setIfInBounds_toArray, List.set_cons_zero, List.set_cons_succ]
  refine pi_q (v := ?_) (by rw [← HO.out]; simp only [List.getElem?_toArray, List.getElem?_cons_zero, List.getElem?_cons_succ]; rfl) (by rw [← HO.out]; kernel_rfl) ?_ ?_
  rotate_left
  · intro w' hBw'
    first | (go_simp; done) | (go_simp; with_reducible rfl)
  try simp only [Act.put, List.getElem_toArray, List.getElem_cons_zero, List.getElem_cons_succ, List.setIfInBounds_toArray, List.set_cons_zero, List.set_cons_succ]
  refine pi_q (v := ?_) (by rw [← HO.out]; simp only [List.getElem?_toArray, List.getElem?_cons_zero, List.getElem?_cons_succ]; rfl) (by rw [← HO.out]; kernel_rfl) ?_ ?_
  rotate_left
  · intro w' hBw'
    first | (go_simp; done) | (go_simp; with_reducible rfl)
  try simp only [Act.put, List.getElem_toArray, List.getElem_cons_zero, List.getElem_cons_succ, List.setIfInBounds_toArray, List.set_cons_zero, List.set_cons_succ]
  refine pi_q (v := ?_) (by rw [← HO.out]; simp only [List.getElem?_toArray, List.getElem?_cons_zero, List.getElem?_cons_succ]; rfl) (by rw [← HO.out]; kernel_rfl) ?_ ?_
  rotate_left
  · intro w' hBw'
    first | (go_simp; done) | (go_simp; with_reducible rfl)
  try simp only [Act.put, List.getElem_toArray, List.getElem_cons_zero, List.getElem_cons_succ, List.setIfInBounds_toArray, List.set_cons_zero, List.set_cons_succ]
  refine pi_q (v := ?_) (by rw [← HO.out]; simp only [List.getElem?_toArray, List.getElem?_cons_zero, List.getElem?_cons_succ]; rfl) (by rw [← HO.out]; kernel_rfl) ?_ ?_
  rotate_left
  · intro w' hBw'
    first | (go_simp; done) | (go_simp; with_reducible rfl)
  try simp only [Act.put, List.getElem_toArray, List.getElem_cons_zero, List.getElem_cons_succ, List.setIfInBounds_toArray, List.set_cons_zero, List.set_cons_succ]
  refine pi_q (v := ?_) (by rw [← HO.out]; simp only [List.getElem?_toArray, List.getElem?_cons_zero, List.getElem?_cons_succ]; rfl) (by rw [← HO.out]; kernel_rfl) ?_ ?_
  rotate_left
  · intro w' hBw'
    first | (go_simp; done) | (go_simp; with_reducible rfl)
  try simp only [Act.put, List.getElem_toArray, List.getElem_cons_zero, List.getElem_cons_succ, List.setIfInBounds_toArray, List.set_cons_zero, List.set_cons_succ]
  refine pi_q (v := ?_) (by rw [← HO.out]; simp only [List.getElem?_toArray, List.getElem?_cons_zero, List.getElem?_cons_succ]; rfl) (by rw [← HO.out]; kernel_rfl) ?_ ?_
  rotate_left
  · intro w' hBw'
    first | (go_simp; done) | (go_simp; with_reducible rfl)
  try simp only [Act.put, List.getElem_toArray, List.getElem_cons_zero, List.getElem_cons_succ, List.setIfInBounds_toArray, List.set_cons_zero, List.set_cons_succ]
  refine pi_call (by rw [← HO.out]; simp only [List.getElem?_toArray, List.getElem?_cons_zero, List.getElem?_cons_succ]; rfl) (by rw [← HO.out]; kernel_rfl) (numE_c 121 _) cbEnters_num (by rfl) (by kernel_rfl) ?_
  rintro en wN ⟨rfl, rfl⟩
  refine ⟨_, rfl, (Below.refl _ _), ?_⟩
  try simp only [Act.put, List.getElem_toArray, List.getElem_cons_zero, List.getElem_cons_succ, List.setIfInBounds_toArray, List.set_cons_zero, List.set_cons_succ]
  refine pi_q (v := ?_) (by rw [← HO.out]; simp only [List.getElem?_toArray, List.getElem?_cons_zero, List.getElem?_cons_succ]; rfl) (by rw [← HO.out]; kernel_rfl) ?_ ?_
  rotate_left
  · intro w' hBw'
    first | (go_simp; done) | (go_simp; with_reducible rfl)
  try simp only [Act.put, List.getElem_toArray, List.getElem_cons_zero, List.getElem_cons_succ, List.setIfInBounds_toArray, List.set_cons_zero, List.set_cons_succ]
  refine pi_q (v := ?_) (by rw [← HO.out]; simp only [List.getElem?_toArray, List.getElem?_cons_zero, List.getElem?_cons_succ]; rfl) (by rw [← HO.out]; kernel_rfl) ?_ ?_
  rotate_left
  · intro w' hBw'
    first | (go_simp; done) | (go_simp; with_reducible rfl)
  try simp only [Act.put, List.getElem_toArray, List.getElem_cons_zero, List.getElem_cons_succ, List.setIfInBounds_toArray, List.set_cons_zero, List.set_cons_succ]
  refine pi_q (v := ?_) (by rw [← HO.out]; simp only [List.getElem?_toArray, List.getElem?_cons_zero, List.getElem?_cons_succ]; rfl) (by rw [← HO.out]; kernel_rfl) ?_ ?_
  rotate_left
  · intro w' hBw'
    first | (go_simp; done) | (go_simp; with_reducible rfl)
  try simp only [Act.put, List.getElem_toArray, List.getElem_cons_zero, List.getElem_cons_succ, List.setIfInBounds_toArray, List.set_cons_zero, List.set_cons_succ]
  refine pi_q (v := ?_) (by rw [← HO.out]; simp only [List.getElem?_toArray, List.getElem?_cons_zero, List.getElem?_cons_succ]; rfl) (by rw [← HO.out]; kernel_rfl) ?_ ?_
  rotate_left
  · intro w' hBw'
    first | (go_simp; done) | (go_simp; with_reducible rfl)
  try simp only [Act.put, List.getElem_toArray, List.getElem_cons_zero, List.getElem_cons_succ, List.setIfInBounds_toArray, List.set_cons_zero, List.set_cons_succ]
  refine pi_call (by rw [← HO.out]; simp only [List.getElem?_toArray, List.getElem?_cons_zero, List.getElem?_cons_succ]; rfl) (by rw [← HO.out]; kernel_rfl) (numE_c 120 _) cbEnters_num (by rfl) (by kernel_rfl) ?_
  rintro en wN ⟨rfl, rfl⟩
  refine ⟨_, rfl, (Below.refl _ _), ?_⟩
  try simp only [Act.put, List.getElem_toArray, List.getElem_cons_zero, List.getElem_cons_succ, List.setIfInBounds_toArray, List.set_cons_zero, List.set_cons_succ]
  refine pi_q (v := ?_) (by rw [← HO.out]; simp only [List.getElem?_toArray, List.getElem?_cons_zero, List.getElem?_cons_succ]; rfl) (by rw [← HO.out]; kernel_rfl) ?_ ?_
  rotate_left
  · intro w' hBw'
    first | (go_simp; done) | (go_simp; with_reducible rfl)
  try simp only [Act.put, List.getElem_toArray, List.getElem_cons_zero, List.getElem_cons_succ, List.setIfInBounds_toArray, List.set_cons_zero, List.set_cons_succ]
  refine pi_q (v := ?_) (by rw [← HO.out]; simp only [List.getElem?_toArray, List.getElem?_cons_zero, List.getElem?_cons_succ]; rfl) (by rw [← HO.out]; kernel_rfl) ?_ ?_
  rotate_left
  · intro w' hBw'
    first | (go_simp; done) | (go_simp; with_reducible rfl)
  try simp only [Act.put, List.getElem_toArray, List.getElem_cons_zero, List.getElem_cons_succ, List.setIfInBounds_toArray, List.set_cons_zero, List.set_cons_succ]
  refine pi_q (v := ?_) (by rw [← HO.out]; simp only [List.getElem?_toArray, List.getElem?_cons_zero, List.getElem?_cons_succ]; rfl) (by rw [← HO.out]; kernel_rfl) ?_ ?_
  rotate_left
  · intro w' hBw'
    first | (go_simp; done) | (go_simp; with_reducible rfl)
  try simp only [Act.put, List.getElem_toArray, List.getElem_cons_zero, List.getElem_cons_succ, List.setIfInBounds_toArray, List.set_cons_zero, List.set_cons_succ]
  refine pi_load (by rw [← HO.out]; simp only [List.getElem?_toArray, List.getElem?_cons_zero, List.getElem?_cons_succ]; rfl) (by rw [← HO.out]; kernel_rfl) 28 (.tmp 20) rfl B9 0 (by kernel_rfl) (rwC ⟨k9, n9, .slice ba9 bn9 bc9, s9, .slice la9 ln9 lc9⟩) _ (RowAt.range (cs := rwC ⟨k9, n9, .slice ba9 bn9 bc9, s9, .slice la9 ln9 lc9⟩) Y9) Tryd.underlying28 rfl (by kernel_rfl) ?_
  try simp only [Act.put, List.getElem_toArray, List.getElem_cons_zero, List.getElem_cons_succ, List.setIfInBounds_toArray, List.set_cons_zero, List.set_cons_succ]
  have hdp := depthR_c _ (lists 7) ⟨k9, n9, .slice ba9 bn9 bc9, s9, .slice la9 ln9 lc9⟩ _ I9 (by decide)
  rw [depth6] at hdp
  refine pi_call (by rw [← HO.out]; simp only [List.getElem?_toArray, List.getElem?_cons_zero, List.getElem?_cons_succ]; rfl) (by rw [← HO.out]; kernel_rfl) (hdp) cbEnters_depth (by rfl) (by kernel_rfl) ?_
  rintro en wN ⟨rfl, hb3⟩
  replace HBc := Lib.hid (below_up HBc.out hb3)
  refine ⟨_, rfl, hb3, ?_⟩
  try simp only [Act.put, List.getElem_toArray, List.getElem_cons_zero, List.getElem_cons_succ, List.setIfInBounds_toArray, List.set_cons_zero, List.set_cons_succ]
  refine pi_q (v := ?_) (by rw [← HO.out]; simp only [List.getElem?_toArray, List.getElem?_cons_zero, List.getElem?_cons_succ]; rfl) (by rw [← HO.out]; kernel_rfl) ?_ ?_
  rotate_left
  · intro w' hBw'
    first | (go_simp; done) | (go_simp; with_reducible rfl)
  try simp only [Act.put, List.getElem_toArray, List.getElem_cons_zero, List.getElem_cons_succ, List.setIfInBounds_toArray, List.set_cons_zero, List.set_cons_succ]
  refine pi_q (v := ?_) (by rw [← HO.out]; simp only [List.getElem?_toArray, List.getElem?_cons_zero, List.getElem?_cons_succ]; rfl) (by rw [← HO.out]; kernel_rfl) ?_ ?_
  rotate_left
  · intro w' hBw'
    first | (go_simp; done) | (go_simp; with_reducible rfl)
  try simp only [Act.put, List.getElem_toArray, List.getElem_cons_zero, List.getElem_cons_succ, List.setIfInBounds_toArray, List.set_cons_zero, List.set_cons_succ]
  refine pi_q (v := ?_) (by rw [← HO.out]; simp only [List.getElem?_toArray, List.getElem?_cons_zero, List.getElem?_cons_succ]; rfl) (by rw [← HO.out]; kernel_rfl) ?_ ?_
  rotate_left
  · intro w' hBw'
    first | (go_simp; done) | (go_simp; with_reducible rfl)
  try simp only [Act.put, List.getElem_toArray, List.getElem_cons_zero, List.getElem_cons_succ, List.setIfInBounds_toArray, List.set_cons_zero, List.set_cons_succ]
  refine pi_nil ?_
  go_wp2
  go_ret
  exact ⟨rfl, HBc.out⟩
end Go.Proofs.YtjenohodgpmchaaDoor
