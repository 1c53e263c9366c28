/-
  CborBytes, CborBytesL, CborBytesRow: several texts in one (bundle.py).
-/
import Derived.Test.YtjenohodgpmchaaDoorCbK44
import Derived.Test.YtjenohodgpmchaaDoorCbK43
import Derived.Test.YtjenohodgpmchaaDoorCbK22
import Derived.Test.YtjenohodgpmchaaDoorRows
import Derived.Test.YtjenohodgpmchaaDoorCbK02
import Derived.SizedLaws
import Derived.Test.YtjenohodgpmchaaDoorTie
import Derived.Test.YtjenohodgpmchaaDoorCards
import Derived.Lib.LaidIn
import Derived.Lib.LaidU8T
import Derived.Deep.DeepHandedRow
import Derived.Deep.DeepWitnessRowRef
import Derived.PinnedBridge
import Derived.ProofKit
import Derived.SevenTiedAt
namespace Go.Proofs.YtjenohodgpmchaaDoor
open Go.RowKit Cb
set_option linter.unusedSimpArgs false
set_option linter.unusedVariables false
set_option maxHeartbeats 8000000 in
set_option maxRecDepth 100000 in
theorem cborBytes_w (w0 : World) (v : Value) (b : List UInt8) (L : Nat) (hL : b.length = L) (hv : Sl w0 1 v L (by8 b)) (hT : Tabs w0) (hle : L ≤ 3000) : Calls Tryd.prog 3 #[v] w0 (Ret (.bool true) w0) := by
  obtain ⟨a, c, rfl⟩ := hv.len
  have hblk := hv.blk (by decide)
  have hgd : decide ((3000 : Int) < (L : Int)) = false := decide_eq_false (by omega)
  have hgd2 : decide ((L : Int) > 3000) = false := decide_eq_false (by omega)
  have S0 := Lib.hid hv
  have HT0 := Lib.hid hT
  obtain ⟨ED, hED⟩ : ∃ e, decErr b = e := ⟨_, rfl⟩
  obtain ⟨EF, hEF⟩ : ∃ e, fstErr b = e := ⟨_, rfl⟩
  obtain ⟨FM, hFM⟩ : ∃ e, fstMany b = e := ⟨_, rfl⟩
  clear hv hT
  go_enter Tryd.func3, Tryd.ntmps3
  go_wp2_with (first
    | (at_builtin; refine wpList_app rfl _ _ 22 rfl slT_u8 w0.heap.size rfl (own_up ho1 (below_alloc w1 (.cells #[.int .u8 77] 5))) rfl (litSl w1 [77] (by decide)) (one_by8 _) (by simp only [maxLen, List.length_cons, List.length_nil]; omega) (by simp only [List.length_cons, List.length_nil]; omega) (by rw [World.size_alloc]; have := hb1.size; omega) ?_; intro v2 w2 ho2 hg2 _; have hb2 := grown_below (hb1.alloc hb1.size (.cells #[.int .u8 77] 5)) hg2 (fun q hq => (own_of_some ho1 hq).1); obtain ⟨g, cap, cur, rfl, hgb, hrow, hnc, hcm, hcs, htk⟩ := own_row ho2 (by simp); simp only [List.length_cons, List.length_nil, Nat.zero_add] at hnc htk; have hcap : L ≤ cap := by omega)
    | (at_builtin; refine wpList_app rfl _ _ 22 rfl slT_u8 w0.heap.size rfl (World.ownsRow_lit w0 #[] 0 (Nat.le_refl _) (by decide) rfl) rfl (S0.out.up (below_alloc w0 (.cells #[] 5))) (one_by8 _) (by simp only [maxLen]; omega) (by omega) (by rw [World.size_alloc]; omega) ?_; intro v1 w1 ho1 hg1 _; rw [Nat.zero_add, List.nil_append] at ho1; have hb1 := grown_below (below_alloc w0 (.cells #[] 5)) hg1 (fun q hq => by have : w0.heap.size = q := Option.some.inj hq; omega); obtain ⟨p1, c1, rfl⟩ := own_slice ho1)
    | fail)
  have hgw : w0.heap.size ≤ g := hgb
  have hg0 : g < w2.heap.size := hrow.lt
  have HB := Lib.hid hb2
  have M := Lib.hid hrow
  have S1 : RowKit.Hid (Sl w2 1 (.slice (some ⟨g, 0, none⟩) L cap) L (by8 b)) := Lib.hid ⟨by rw [by8_len, hL, Nat.mul_one], .inr ⟨g, 0, cap, rfl, hcap, hcm, fun j u hj => by
    have hjl : j < L := by have := (List.getElem?_eq_some_iff.1 hj).1; rwa [by8_len, hL] at this
    rw [Nat.zero_add]
    refine hrow.cell ?_
    have h1 := congrArg (fun l : List Value => l[j]?) htk
    simp only [Nat.mul_one] at h1
    rw [List.getElem?_take_of_lt (by omega), List.getElem?_append_left (by rw [by8_len, hL]; exact hjl), Array.getElem?_toList] at h1
    rw [h1]; exact hj⟩⟩
  replace S0 := Lib.hid (S0.out.up hb2)
  have HC77 : RowKit.Hid (cur[L]? = some (.int .u8 77)) := Lib.hid (by
    have h1 := congrArg (fun l : List Value => l[L]?) htk
    simp only [Nat.mul_one] at h1
    rw [List.getElem?_take_of_lt (by omega), List.getElem?_append_right (by rw [by8_len, hL]; exact Nat.le_refl _), Array.getElem?_toList, by8_len, hL, Nat.sub_self] at h1
    exact h1)
  have HCU : RowKit.Hid (∀ i : Nat, i < L → ∃ z : Int, cur[i]? = some (.int .u8 z)) := Lib.hid (fun i hi => by
    have h1 := congrArg (fun l : List Value => l[i]?) htk
    simp only [Nat.mul_one] at h1
    rw [List.getElem?_take_of_lt (by omega), List.getElem?_append_left (by rw [by8_len, hL]; exact hi), Array.getElem?_toList] at h1
    exact ⟨_, h1.trans (by unfold by8; rw [List.getElem?_map, List.getElem?_eq_getElem (by rw [hL]; exact hi)]; rfl)⟩)
  rw [Nat.mul_one] at hcs
  clear ho1 hg1 ho2 hg2 hb1 hb2 htk hrow hgb
  generalize w2 = wq at *
  have hde := (decode_c _ _ b (by rw [hL]; exact S1.out) (HT0.out.up HB.out)).mono (fun en w' h => decU_of (g := g) h M.out.lt)
  unfold DecU at hde
  rw [hED] at hde
  go_at_call 9
  refine hde.mono ?_
  clear hde
  rintro en wq ⟨hq, k4, n4, ba4, bn4, bc4, s4, la4, ln4, lc4, rfl, I4⟩
  replace I4 := Lib.hid I4
  replace HB := Lib.hid (below_up HB.out hq)
  replace S0 := Lib.hid (S0.out.up hq)
  replace M := Lib.hid (M.out.below hq)
  replace S1 := Lib.hid (S1.out.up hq)
  clear hq
  go_wp2_with fail
  have X4 := Lib.hid (RowAt.new wq #[.int .i64 k4, .int .u64 n4, .slice ba4 bn4 bc4, .string s4, .slice la4 ln4 lc4] 28)
  have hq := below_alloc wq (.cells #[.int .i64 k4, .int .u64 n4, .slice ba4 bn4 bc4, .string s4, .slice la4 ln4 lc4] 28)
  have hgBX4 : g < wq.heap.size := M.out.lt
  obtain ⟨BX4, hBX4⟩ : ∃ B, wq.heap.size = B := ⟨_, rfl⟩
  replace HB := Lib.hid (below_up HB.out hq)
  replace S0 := Lib.hid (S0.out.up hq)
  replace M := Lib.hid (M.out.below hq)
  replace S1 := Lib.hid (S1.out.up hq)
  replace I4 := Lib.hid (I4.out.up hq)
  clear hq
  rw [hBX4] at X4 hgBX4 ⊢
  replace hBX4 := Lib.hid hBX4
  have hde := (cbFirst_c _ _ b (by rw [hL]; exact S1.out) (HT0.out.up HB.out)).mono (fun en w' h => fstU_of (g := g) h M.out.lt)
  unfold FstU at hde
  rw [hEF, hFM] at hde
  go_at_call 10
  refine hde.mono ?_
  clear hde
  rintro en wq ⟨hq, k6, n6, ba6, bn6, bc6, s6, la6, ln6, lc6, rfl, I6⟩
  replace I6 := Lib.hid I6
  replace HB := Lib.hid (below_up HB.out hq)
  replace S0 := Lib.hid (S0.out.up hq)
  replace M := Lib.hid (M.out.below hq)
  replace S1 := Lib.hid (S1.out.up hq)
  replace I4 := Lib.hid (I4.out.up hq)
  replace X4 := Lib.hid (X4.out.below hq)
  clear hq
  go_wp2_with fail
  have X6 := Lib.hid (RowAt.new wq #[.int .i64 k6, .int .u64 n6, .slice ba6 bn6 bc6, .string s6, .slice la6 ln6 lc6] 28)
  have hq := below_alloc wq (.cells #[.int .i64 k6, .int .u64 n6, .slice ba6 bn6 bc6, .string s6, .slice la6 ln6 lc6] 28)
  have hgBX6 : g < wq.heap.size := M.out.lt
  obtain ⟨BX6, hBX6⟩ : ∃ B, wq.heap.size = B := ⟨_, rfl⟩
  replace HB := Lib.hid (below_up HB.out hq)
  replace S0 := Lib.hid (S0.out.up hq)
  replace M := Lib.hid (M.out.below hq)
  replace S1 := Lib.hid (S1.out.up hq)
  replace I4 := Lib.hid (I4.out.up hq)
  replace X4 := Lib.hid (X4.out.below hq)
  replace I6 := Lib.hid (I6.out.up hq)
  clear hq
  rw [hBX6] at X6 hgBX6 ⊢
  replace hBX6 := Lib.hid hBX6
  have hde := (decodeR_c _ _ b (by rw [hL]; exact S0.out)).mono (fun en w' h => decU_of (g := g) h M.out.lt)
  unfold DecU at hde
  rw [hED] at hde
  go_at_call 11
  refine hde.mono ?_
  clear hde
  rintro en wq ⟨hq, k9, n9, ba9, bn9, bc9, s9, la9, ln9, lc9, rfl, I9⟩
  replace I9 := Lib.hid I9
  replace HB := Lib.hid (below_up HB.out hq)
  replace S0 := Lib.hid (S0.out.up hq)
  replace M := Lib.hid (M.out.below hq)
  replace S1 := Lib.hid (S1.out.up hq)
  replace I4 := Lib.hid (I4.out.up hq)
  replace X4 := Lib.hid (X4.out.below hq)
  replace I6 := Lib.hid (I6.out.up hq)
  replace X6 := Lib.hid (X6.out.below hq)
  clear hq
  go_wp2_with fail
  have X9 := Lib.hid (RowAt.new wq #[.int .i64 k9, .int .u64 n9, .slice ba9 bn9 bc9, .string s9, .slice la9 ln9 lc9] 28)
  have hq := below_alloc wq (.cells #[.int .i64 k9, .int .u64 n9, .slice ba9 bn9 bc9, .string s9, .slice la9 ln9 lc9] 28)
  have hgBX9 : g < wq.heap.size := M.out.lt
  obtain ⟨BX9, hBX9⟩ : ∃ B, wq.heap.size = B := ⟨_, rfl⟩
  replace HB := Lib.hid (below_up HB.out hq)
  replace S0 := Lib.hid (S0.out.up hq)
  replace M := Lib.hid (M.out.below hq)
  replace S1 := Lib.hid (S1.out.up hq)
  replace I4 := Lib.hid (I4.out.up hq)
  replace X4 := Lib.hid (X4.out.below hq)
  replace I6 := Lib.hid (I6.out.up hq)
  replace X6 := Lib.hid (X6.out.below hq)
  replace I9 := Lib.hid (I9.out.up hq)
  clear hq
  rw [hBX9] at X9 hgBX9 ⊢
  replace hBX9 := Lib.hid hBX9
  have hde := (refFirst_c _ _ b (by rw [hL]; exact S0.out)).mono (fun en w' h => fstU_of (g := g) h M.out.lt)
  unfold FstU at hde
  rw [hEF, hFM] at hde
  go_at_call 12
  refine hde.mono ?_
  clear hde
  rintro en wq ⟨hq, k11, n11, ba11, bn11, bc11, s11, la11, ln11, lc11, rfl, I11⟩
  replace I11 := Lib.hid I11
  replace HB := Lib.hid (below_up HB.out hq)
  replace S0 := Lib.hid (S0.out.up hq)
  replace M := Lib.hid (M.out.below hq)
  replace S1 := Lib.hid (S1.out.up hq)
  replace I4 := Lib.hid (I4.out.up hq)
  replace X4 := Lib.hid (X4.out.below hq)
  replace I6 := Lib.hid (I6.out.up hq)
  replace X6 := Lib.hid (X6.out.below hq)
  replace I9 := Lib.hid (I9.out.up hq)
  replace X9 := Lib.hid (X9.out.below hq)
  clear hq
  go_wp2_with fail
  have X11 := Lib.hid (RowAt.new wq #[.int .i64 k11, .int .u64 n11, .slice ba11 bn11 bc11, .string s11, .slice la11 ln11 lc11] 28)
  have hq := below_alloc wq (.cells #[.int .i64 k11, .int .u64 n11, .slice ba11 bn11 bc11, .string s11, .slice la11 ln11 lc11] 28)
  have hgBX11 : g < wq.heap.size := M.out.lt
  obtain ⟨BX11, hBX11⟩ : ∃ B, wq.heap.size = B := ⟨_, rfl⟩
  replace HB := Lib.hid (below_up HB.out hq)
  replace S0 := Lib.hid (S0.out.up hq)
  replace M := Lib.hid (M.out.below hq)
  replace S1 := Lib.hid (S1.out.up hq)
  replace I4 := Lib.hid (I4.out.up hq)
  replace X4 := Lib.hid (X4.out.below hq)
  replace I6 := Lib.hid (I6.out.up hq)
  replace X6 := Lib.hid (X6.out.below hq)
  replace I9 := Lib.hid (I9.out.up hq)
  replace X9 := Lib.hid (X9.out.below hq)
  replace I11 := Lib.hid (I11.out.up hq)
  clear hq
  rw [hBX11] at X11 hgBX11 ⊢
  replace hBX11 := Lib.hid hBX11
  go_at_call 13
  refine (numE_c ED _).mono ?_
  rintro en wz ⟨rfl, rfl⟩
  go_wp2_with fail
  go_at_call 13
  refine (numE_c EF _).mono ?_
  rintro en wz ⟨rfl, rfl⟩
  have fX40 := X4.out.cell (i := 0) rfl
  have fX41 := X4.out.cell (i := 1) rfl
  have fX42 := X4.out.cell (i := 2) rfl
  have fX43 := X4.out.cell (i := 3) rfl
  have fX44 := X4.out.cell (i := 4) rfl
  have fX60 := X6.out.cell (i := 0) rfl
  have fX61 := X6.out.cell (i := 1) rfl
  have fX62 := X6.out.cell (i := 2) rfl
  have fX63 := X6.out.cell (i := 3) rfl
  have fX64 := X6.out.cell (i := 4) rfl
  have fX90 := X9.out.cell (i := 0) rfl
  have fX91 := X9.out.cell (i := 1) rfl
  have fX92 := X9.out.cell (i := 2) rfl
  have fX93 := X9.out.cell (i := 3) rfl
  have fX94 := X9.out.cell (i := 4) rfl
  have fX110 := X11.out.cell (i := 0) rfl
  have fX111 := X11.out.cell (i := 1) rfl
  have fX112 := X11.out.cell (i := 2) rfl
  have fX113 := X11.out.cell (i := 3) rfl
  have fX114 := X11.out.cell (i := 4) rfl
  go_wp2_with fail
  clear fX40 fX41 fX42 fX43 fX44
  clear fX60 fX61 fX62 fX63 fX64
  clear fX90 fX91 fX92 fX93 fX94
  clear fX110 fX111 fX112 fX113 fX114
  have hsm := sameR_c _ (decIt b) (decIt b) ⟨k4, n4, .slice ba4 bn4 bc4, s4, .slice la4 ln4 lc4⟩ ⟨k9, n9, .slice ba9 bn9 bc9, s9, .slice la9 ln9 lc9⟩ _ I4.out I9.out (Nat.le_trans (decIt_cnt b) (by decide)) (Nat.le_trans (decIt_cnt b) (by decide))
  rw [sameB_refl] at hsm
  go_at_call 14
  refine hsm.mono ?_
  clear hsm
  rintro en wq ⟨rfl, hq⟩
  replace HB := Lib.hid (below_up HB.out hq)
  replace S0 := Lib.hid (S0.out.up hq)
  replace M := Lib.hid (M.out.below hq)
  replace S1 := Lib.hid (S1.out.up hq)
  replace I4 := Lib.hid (I4.out.up hq)
  replace X4 := Lib.hid (X4.out.below hq)
  replace I6 := Lib.hid (I6.out.up hq)
  replace X6 := Lib.hid (X6.out.below hq)
  replace I9 := Lib.hid (I9.out.up hq)
  replace X9 := Lib.hid (X9.out.below hq)
  replace I11 := Lib.hid (I11.out.up hq)
  replace X11 := Lib.hid (X11.out.below hq)
  clear hq
  have fX40 := X4.out.cell (i := 0) rfl
  have fX41 := X4.out.cell (i := 1) rfl
  have fX42 := X4.out.cell (i := 2) rfl
  have fX43 := X4.out.cell (i := 3) rfl
  have fX44 := X4.out.cell (i := 4) rfl
  have fX60 := X6.out.cell (i := 0) rfl
  have fX61 := X6.out.cell (i := 1) rfl
  have fX62 := X6.out.cell (i := 2) rfl
  have fX63 := X6.out.cell (i := 3) rfl
  have fX64 := X6.out.cell (i := 4) rfl
  have fX90 := X9.out.cell (i := 0) rfl
  have fX91 := X9.out.cell (i := 1) rfl
  have fX92 := X9.out.cell (i := 2) rfl
  have fX93 := X9.out.cell (i := 3) rfl
  have fX94 := X9.out.cell (i := 4) rfl
  have fX110 := X11.out.cell (i := 0) rfl
  have fX111 := X11.out.cell (i := 1) rfl
  have fX112 := X11.out.cell (i := 2) rfl
  have fX113 := X11.out.cell (i := 3) rfl
  have fX114 := X11.out.cell (i := 4) rfl
  go_wp2_with fail
  clear fX40 fX41 fX42 fX43 fX44
  clear fX60 fX61 fX62 fX63 fX64
  clear fX90 fX91 fX92 fX93 fX94
  clear fX110 fX111 fX112 fX113 fX114
  have hsm := sameR_c _ (fstIt b) (fstIt b) ⟨k6, n6, .slice ba6 bn6 bc6, s6, .slice la6 ln6 lc6⟩ ⟨k11, n11, .slice ba11 bn11 bc11, s11, .slice la11 ln11 lc11⟩ _ I6.out I11.out (Nat.le_trans (fstIt_cnt b) (by decide)) (Nat.le_trans (fstIt_cnt b) (by decide))
  rw [sameB_refl] at hsm
  go_at_call 14
  refine hsm.mono ?_
  clear hsm
  rintro en wq ⟨rfl, hq⟩
  replace HB := Lib.hid (below_up HB.out hq)
  replace S0 := Lib.hid (S0.out.up hq)
  replace M := Lib.hid (M.out.below hq)
  replace S1 := Lib.hid (S1.out.up hq)
  replace I4 := Lib.hid (I4.out.up hq)
  replace X4 := Lib.hid (X4.out.below hq)
  replace I6 := Lib.hid (I6.out.up hq)
  replace X6 := Lib.hid (X6.out.below hq)
  replace I9 := Lib.hid (I9.out.up hq)
  replace X9 := Lib.hid (X9.out.below hq)
  replace I11 := Lib.hid (I11.out.up hq)
  replace X11 := Lib.hid (X11.out.below hq)
  clear hq
  have fX40 := X4.out.cell (i := 0) rfl
  have fX41 := X4.out.cell (i := 1) rfl
  have fX42 := X4.out.cell (i := 2) rfl
  have fX43 := X4.out.cell (i := 3) rfl
  have fX44 := X4.out.cell (i := 4) rfl
  have fX60 := X6.out.cell (i := 0) rfl
  have fX61 := X6.out.cell (i := 1) rfl
  have fX62 := X6.out.cell (i := 2) rfl
  have fX63 := X6.out.cell (i := 3) rfl
  have fX64 := X6.out.cell (i := 4) rfl
  have fX90 := X9.out.cell (i := 0) rfl
  have fX91 := X9.out.cell (i := 1) rfl
  have fX92 := X9.out.cell (i := 2) rfl
  have fX93 := X9.out.cell (i := 3) rfl
  have fX94 := X9.out.cell (i := 4) rfl
  have fX110 := X11.out.cell (i := 0) rfl
  have fX111 := X11.out.cell (i := 1) rfl
  have fX112 := X11.out.cell (i := 2) rfl
  have fX113 := X11.out.cell (i := 3) rfl
  have fX114 := X11.out.cell (i := 4) rfl
  go_wp2_with fail
  clear fX40 fX41 fX42 fX43 fX44
  clear fX60 fX61 fX62 fX63 fX64
  clear fX90 fX91 fX92 fX93 fX94
  clear fX110 fX111 fX112 fX113 fX114
  clear S1
  go_loopw [14] (fun i wr => ∃ (j : Nat) (cu : Array Value), j ≤ L ∧ i = .int .i64 j ∧ RowAt wr g cu 5 ∧ cu.size = cap ∧ RowKit.Hid (∀ i : Nat, i < L → ∃ z : Int, cu[i]? = some (.int .u8 z)) ∧ RowKit.Hid (cu[L]? = some (.int .u8 77)) ∧ RowKit.Hid (But (fun k => k = g) wq wr)) (fun i _ => L - (intOf i).toNat)
  case atStart => exact ⟨0, cur, Nat.zero_le _, rfl, M.out, hcs, HCU, HC77, Lib.hid (But.refl _ _)⟩
  case round =>
    clear M HCU HC77 hcs
    obtain ⟨j, cu, hj, rfl, hM, hcs, HCU, HC77, HBT⟩ := hrel
    by_cases hlt : j < L
    · obtain ⟨z, hz⟩ := HCU.out j hlt
      have hcz := hM.cell hz
      have hfz := hM.fz j
      go_wp2
      go_roundw
      case rel =>
        refine ⟨j + 1, cu.setIfInBounds j (.int .u8 (IntKind.u8.wrap (z + 1))), by omega, by go_num, hM.set j _, by rw [Array.size_setIfInBounds]; exact hcs, Lib.hid (fun i hi => ?_), Lib.hid ?_, Lib.hid (HBT.out.trans (But.setCell _ _ _ (.inl rfl)))⟩
        · rw [Array.getElem?_setIfInBounds]
          split
          · rename_i e
            subst e
            exact ⟨_, if_pos (by omega)⟩
          · exact HCU.out i hi
        · rw [Array.getElem?_setIfInBounds_ne (by omega)]; exact HC77.out
      case measure => simp [intOf]; omega
    · obtain rfl : j = L := by omega
      have hb := HBT.out
      replace HB := Lib.hid (HB.out.trans (hb.below (fun k e => by omega) HB.out.size))
      replace S0 := Lib.hid (S0.out.but hb (hblk.imp id fun f k hk e => by have := f k hk; omega))
      replace I4 := Lib.hid (I4.out.but hb)
      replace X4 : RowKit.Hid (RowAt wr BX4 _ _) := Lib.hid ((hb.same _ X4.out.lt (by omega)).trans X4.out)
      replace I6 := Lib.hid (I6.out.but hb)
      replace X6 : RowKit.Hid (RowAt wr BX6 _ _) := Lib.hid ((hb.same _ X6.out.lt (by omega)).trans X6.out)
      replace I9 := Lib.hid (I9.out.but hb)
      replace X9 : RowKit.Hid (RowAt wr BX9 _ _) := Lib.hid ((hb.same _ X9.out.lt (by omega)).trans X9.out)
      replace I11 := Lib.hid (I11.out.but hb)
      replace X11 : RowKit.Hid (RowAt wr BX11 _ _) := Lib.hid ((hb.same _ X11.out.lt (by omega)).trans X11.out)
      clear hb HBT HCU
      have M := Lib.hid hM
      have hm77 := hM.cell HC77.out
      generalize wr = wq at *
      have fX40 := X4.out.cell (i := 0) rfl
      have fX41 := X4.out.cell (i := 1) rfl
      have fX42 := X4.out.cell (i := 2) rfl
      have fX43 := X4.out.cell (i := 3) rfl
      have fX44 := X4.out.cell (i := 4) rfl
      have fX60 := X6.out.cell (i := 0) rfl
      have fX61 := X6.out.cell (i := 1) rfl
      have fX62 := X6.out.cell (i := 2) rfl
      have fX63 := X6.out.cell (i := 3) rfl
      have fX64 := X6.out.cell (i := 4) rfl
      have fX90 := X9.out.cell (i := 0) rfl
      have fX91 := X9.out.cell (i := 1) rfl
      have fX92 := X9.out.cell (i := 2) rfl
      have fX93 := X9.out.cell (i := 3) rfl
      have fX94 := X9.out.cell (i := 4) rfl
      have fX110 := X11.out.cell (i := 0) rfl
      have fX111 := X11.out.cell (i := 1) rfl
      have fX112 := X11.out.cell (i := 2) rfl
      have fX113 := X11.out.cell (i := 3) rfl
      have fX114 := X11.out.cell (i := 4) rfl
      go_wp2_with fail
      clear fX40 fX41 fX42 fX43 fX44
      clear fX60 fX61 fX62 fX63 fX64
      clear fX90 fX91 fX92 fX93 fX94
      clear fX110 fX111 fX112 fX113 fX114
      have hsm := sameR_c _ (decIt b) (decIt b) ⟨k4, n4, .slice ba4 bn4 bc4, s4, .slice la4 ln4 lc4⟩ ⟨k9, n9, .slice ba9 bn9 bc9, s9, .slice la9 ln9 lc9⟩ _ I4.out I9.out (Nat.le_trans (decIt_cnt b) (by decide)) (Nat.le_trans (decIt_cnt b) (by decide))
      rw [sameB_refl] at hsm
      go_at_call 14
      refine hsm.mono ?_
      clear hsm hm77
      rintro en wq ⟨rfl, hq⟩
      replace HB := Lib.hid (below_up HB.out hq)
      replace S0 := Lib.hid (S0.out.up hq)
      replace M := Lib.hid (M.out.below hq)
      replace I4 := Lib.hid (I4.out.up hq)
      replace X4 := Lib.hid (X4.out.below hq)
      replace I6 := Lib.hid (I6.out.up hq)
      replace X6 := Lib.hid (X6.out.below hq)
      replace I9 := Lib.hid (I9.out.up hq)
      replace X9 := Lib.hid (X9.out.below hq)
      replace I11 := Lib.hid (I11.out.up hq)
      replace X11 := Lib.hid (X11.out.below hq)
      clear hq
      have hm77 := M.out.cell HC77.out
      have hwl : IntKind.i64.wrap ((j : Int) + 1) = (j : Int) + 1 := wrap_i64 (by omega) (by omega)
      have hcut := fun (kh : IntKind) (w' : World) => run_cut_h (P := Tryd.prog) slT_u8 (some ⟨g, 0, none⟩) j cap (j + 1) kh (by omega) w'
      have fX40 := X4.out.cell (i := 0) rfl
      have fX41 := X4.out.cell (i := 1) rfl
      have fX42 := X4.out.cell (i := 2) rfl
      have fX43 := X4.out.cell (i := 3) rfl
      have fX44 := X4.out.cell (i := 4) rfl
      have fX60 := X6.out.cell (i := 0) rfl
      have fX61 := X6.out.cell (i := 1) rfl
      have fX62 := X6.out.cell (i := 2) rfl
      have fX63 := X6.out.cell (i := 3) rfl
      have fX64 := X6.out.cell (i := 4) rfl
      have fX90 := X9.out.cell (i := 0) rfl
      have fX91 := X9.out.cell (i := 1) rfl
      have fX92 := X9.out.cell (i := 2) rfl
      have fX93 := X9.out.cell (i := 3) rfl
      have fX94 := X9.out.cell (i := 4) rfl
      have fX110 := X11.out.cell (i := 0) rfl
      have fX111 := X11.out.cell (i := 1) rfl
      have fX112 := X11.out.cell (i := 2) rfl
      have fX113 := X11.out.cell (i := 3) rfl
      have fX114 := X11.out.cell (i := 4) rfl
      by_cases hE : ED = 0
      · subst hE
        have hok := dec_ok hED
        go_wp2_with fail
        clear fX40 fX41 fX42 fX43 fX44
        clear fX60 fX61 fX62 fX63 fX64
        clear fX90 fX91 fX92 fX93 fX94
        clear fX110 fX111 fX112 fX113 fX114
        have hen := encode_c (fun k => g < k ∧ k < wq.heap.size) (decIt b) ⟨k4, n4, .slice ba4 bn4 bc4, s4, .slice la4 ln4 lc4⟩ wq I4.out (Nat.le_trans (decIt_cnt b) (by decide)) (kw_right _ hok.2.2) (HT0.out.up HB.out) (fun k h => h.2)
        unfold EncE at hen
        rw [hok.2.1, hok.1, hL] at hen
        go_at_call 15
        refine hen.mono ?_
        clear hen hm77
        rintro en wq ⟨hq, v15, rfl, ho, _⟩
        replace ho := ho rfl
        obtain ⟨a15, c15, rfl⟩ := own_slice ho
        have S2 : RowKit.Hid (Sl wq 1 (.slice a15 j c15) j (by8 b)) := Lib.hid (Sl.of_own ho)
        replace HB := Lib.hid (below_up HB.out hq)
        replace S0 := Lib.hid (S0.out.up hq)
        replace M := Lib.hid (M.out.below hq)
        replace I4 := Lib.hid (I4.out.up hq)
        replace X4 := Lib.hid (X4.out.below hq)
        replace I6 := Lib.hid (I6.out.up hq)
        replace X6 := Lib.hid (X6.out.below hq)
        replace I9 := Lib.hid (I9.out.up hq)
        replace X9 := Lib.hid (X9.out.below hq)
        replace I11 := Lib.hid (I11.out.up hq)
        replace X11 := Lib.hid (X11.out.below hq)
        clear hq ho
        go_wp2_with fail
        go_at_call 13
        refine (numE_c 0 _).mono ?_
        rintro en wz ⟨rfl, rfl⟩
        have q1 := run_str (P := Tryd.prog) Tryd.underlying22 Tryd.underlying5 Tryd.underlying9 S2.out
        have q2 := run_str (P := Tryd.prog) Tryd.underlying22 Tryd.underlying5 Tryd.underlying9 S0.out
        go_wp2_with fail
        go_at_call 8
        refine (cbWorks_a w0 _ HB (Lib.hid (HT0.out.up HB.out))).mono ?_
        rintro en wq ⟨rfl, hq⟩
        clear q1 q2
        go_wp2
        go_ret
        exact ⟨rfl, hq⟩
      · have hE1 : (ED == 0) = false := by rw [beq_eq_false_iff_ne]; exact hE
        have hE2 : (ED != 0) = true := by rw [bne_iff_ne]; exact hE
        go_wp2_with fail
        go_at_call 8
        refine (cbWorks_a w0 _ HB (Lib.hid (HT0.out.up HB.out))).mono ?_
        rintro en wq ⟨rfl, hq⟩
        clear fX40 fX41 fX42 fX43 fX44
        clear fX60 fX61 fX62 fX63 fX64
        clear fX90 fX91 fX92 fX93 fX94
        clear fX110 fX111 fX112 fX113 fX114
        go_wp2
        go_ret
        exact ⟨rfl, hq⟩
end Go.Proofs.YtjenohodgpmchaaDoor

namespace Go.Proofs.YtjenohodgpmchaaDoor
open Go.RowKit Cb
set_option linter.unusedSimpArgs false
set_option linter.unusedVariables false
set_option maxRecDepth 100000 in
theorem cborBytes_law (b : List UInt8) (v : Value) (n : Nat) (w : World) (hv : Sl w 1 v n (by8 b)) (hT : Tabs w) : Calls Tryd.prog 3 #[v] w (Ret (.bool true) w) := by
  have hn := hv.n_len
  by_cases hle : n ≤ 3000
  · exact cborBytes_w w v b n hn hv hT hle
  · obtain ⟨a, c, rfl⟩ := hv.len
    have hm := hv.n_max
    have hgd : decide ((3000 : Int) < (n : Int)) = true := decide_eq_true (by omega)
    have hgd2 : decide ((n : Int) > 3000) = true := decide_eq_true (by omega)
    go_enter Tryd.func3, Tryd.ntmps3
    go_wp2_with (go_at_call 8; refine (cbWorks_a w _ (Lib.hid (Below.refl _ _)) (Lib.hid hT)).mono ?_; rintro en w1 ⟨rfl, hb⟩)
    go_ret
    exact ⟨rfl, hb⟩
end Go.Proofs.YtjenohodgpmchaaDoor

namespace Go.Proofs.YtjenohodgpmchaaDoor.cborBytesRow
open Go.ChangeShapes Go.WideShapes Go.ChangeAt Go.RowKit
open Go.ChangeMaps (open_string shut_string)
set_option linter.unusedVariables false

theorem own : ownKnob Tryd.prog.godebug = none := by kernel_rfl
theorem laidOut : laidOutB Tryd.prog = true := by kernel_rfl

open Go.Lib
/-- A world that meets the condition: the settled one, the two tables laid. -/
noncomputable def laidWorld (os : Os) : World :=
  let w0 := World.holding Tryd.prog os ⟨#[], #[], []⟩
  let put (h : Array Obj) (g : Nat) (cs : Array Value) : Array Obj := h.modify g fun
    | .cells _ t frozen => .cells cs t frozen
    | o => o
  let h1 := put w0.heap 0 (Lib.firstTab.map fun z => Value.int .u8 z).toArray
  let h2 := put h1 1 ((List.range 16).flatMap fun i => [Value.int .u8 (Lib.accLo i), Value.int .u8 (Lib.accHi i)]).toArray
  { w0 with heap := h2 }
theorem laid_met (os : Os) (args : Array Value) : laidMet Tryd.prog Rows.cborBytesRow.laid ((laidWorld os).forCall (fun _ _ => 0) ⟨#[], args, []⟩).memory :=
  (LaidIn.of_run (l := [("unicode/utf8.acceptRanges", Rows.laid_unicode_utf8_acceptRanges), ("unicode/utf8.first", Rows.laid_unicode_utf8_first)]) [0, 1] 8 (by kernel_rfl) (by kernel_rfl) (by kernel_rfl) (by kernel_rfl)).met
theorem witness_row (os : Os) {H : Type} (enc : TypeId × Value → H) :
    (OpenSpec.ofChange Rows.cborBytesSpec).preRow enc Tryd.prog Tryd.f3 Rows.cborBytesRow.domain false Rows.cborBytesRow.laid ((laidWorld os).forCall (fun _ _ => 0) ⟨#[], #[.slice none 0 0], []⟩).memory #[.slice none 0 0] := by
  have hw : (DataW.whole enc Tryd.prog ((laidWorld os).forCall (fun _ _ => 0) ⟨#[], #[.slice none 0 0], []⟩).memory Tryd.f3.params.toList (OpenSpec.ofChange Rows.cborBytesSpec).vars false (#[.slice none 0 0] : Array Value).toList 8).map (fun x => (x.1, x.2.1)) =
      some ([.nil], []) := by kernel_rfl
  obtain ⟨⟨x1, x2, x3⟩, hx, hx1⟩ := Option.map_eq_some_iff.1 hw
  simp only [Prod.mk.injEq] at hx1
  obtain ⟨rfl, rfl⟩ := hx1
  exact OpenSpec.preRow_of_cond 8 hx (by kernel_rfl) (fun k hk => by cases hk) (by kernel_rfl) (laid_met os _)

set_option maxRecDepth 100000 in
theorem lifted (os : Os) (started : os.Started) (H : Type) (enc : TypeId × Value → H) :
    ReturnsInHanded {} Tryd.checked os 3 .any ((OpenSpec.ofChange Rows.cborBytesSpec).preRow enc Tryd.prog Tryd.f3 Rows.cborBytesRow.domain false Rows.cborBytesRow.laid) (Rows.cborBytesSpec.post enc Tryd.prog Tryd.f3 false true false false) := by
  refine returnsInHanded_of_row (C := Tryd.checked) (s := OpenSpec.ofChange Rows.cborBytesSpec) (F := fun _ _ _ => 0) own started (by kernel_rfl) Tryd.func3
    (witness_row_atRef (enc := enc) (C := Tryd.checked) false (laidWorld os) #[.slice none 0 0] rfl (by kernel_rfl) (by kernel_rfl) (by kernel_rfl) (witness_row os enc)) ?_
  intro W base args ds gs before hval0 hW hcnd _ hsz0 hL hshp _
  have hsz : (DataW.weightsEach Tryd.prog (Tryd.f3.params.toList ++ Rows.cborBytesSpec.plain.varTypes Tryd.prog) (ds ++ gs)).all (· ≤ reachBytes) = true := hsz0
  have hval : ∀ (j : Nat) t v, Tryd.f3.params[j]? = some t → args[j]? = some v → Value.okWide Tryd.prog W .any base t v := hval0
  have hT : Tabs W :=
    utf8Tabs_of_readsT (ρ := lays197_ren) { lays197 with } ⟨by kernel_rfl, by kernel_rfl, by kernel_rfl, by kernel_rfl, by kernel_rfl, by kernel_rfl, by kernel_rfl⟩
      (by have := Lib.laidMet.reads hL (n := "unicode/utf8.first") (d := Rows.laid_unicode_utf8_first) (.tail _ (.head _)); exact Pinned.utf8First_eq ▸ this) (by have := Lib.laidMet.reads hL (n := "unicode/utf8.acceptRanges") (d := Rows.laid_unicode_utf8_acceptRanges) (.head _); rwa [show (Rows.laid_unicode_utf8_acceptRanges : DataW Unit) = acceptData by kernel_rfl] at this)
  have hW' := hW
  obtain ⟨p, q, hA0, hV, rfl, hfz, hnd⟩ := hW
  have hA : DataW.TrodAll enc Tryd.prog W 0 (fun _ => true) true Tryd.f3.params.toList args.toList ds p := hA0
  rw [Tryd.params3] at hA hval hsz
  obtain ⟨v0, vs0, d0, ds0, p0, q0, hargs, rfl, rfl, h0, r0⟩ := trodAll_cons hA
  obtain ⟨rfl, rfl, rfl⟩ := trodAll_nil r0
  obtain rfl : args = #[v0] := by cases args; simp_all
  obtain ⟨rfl, rfl⟩ := trodVars_none hV
  have k0 := h0
  have lt0 : ∀ x ∈ p0, x.block < W.heap.size := by obtain ⟨m, hm⟩ := k0; exact DataW.trod_lt m _ _ _ hm
  obtain ⟨a0, len0, cap0, rfl⟩ := okWide_slice Tryd.underlying22 (hval 0 22 v0 rfl rfl)
  obtain ⟨fu0, hf0⟩ := h0
  obtain ⟨a0', len0', cap0', vs0', hcs0, sl0, lf0, nl0⟩ := open_flat (ls := [5]) (sz := 1) Tryd.underlying22 (by kernel_rfl) rfl (by kernel_rfl) (by decide) hf0
  simp only [Value.cells, List.cons.injEq, Value.slice.injEq, and_true] at hcs0
  obtain ⟨rfl, rfl, rfl⟩ := hcs0
  have bd0 : len0 * 1 ≤ 140737488351232 := by
    rcases nl0 with ⟨_, h⟩ | ⟨es, sp, h, h'⟩
    · rw [h]; decide
    · have := sized_slice hsz (j := 0) (t := 22) (e := 5) rfl (congrArg some h) Tryd.underlying22
      rw [show Tryd.prog.bytesOf 5 = 1 by kernel_rfl] at this
      simp only [reachBytes] at this
      omega
  clear hA0 hval0
  obtain ⟨b, rfl⟩ := bytes_of Tryd.underlying5 sl0 lf0
  refine (cborBytes_law b _ _ W sl0 hT).mono fun e W' ⟨he, bel⟩ => ?_
  subst he
  exact ⟨_, rfl, _, _, _, [], _, [], hW', trodAll_mk1 (shut_bool Tryd.underlying4 _), (trodAll_cons_mk (Below.trod laidOut (by kernel_rfl) (of_decide_eq_true (by kernel_rfl)) k0 bel lt0) trodAll_mk0), rfl, bel.frame _, fun h => by cases h⟩

theorem over : Rows.cborBytesRow.holds Tryd.pinned (OpenSpec.ofChange Rows.cborBytesSpec) :=
  OpenClaim.holds_of_wide 3 Tryd.f3 rfl rfl rfl rfl rfl rfl rfl ⟨rfl, rfl, rfl, rfl, rfl⟩ rfl rfl rfl rfl rfl (by kernel_rfl) Tryd.func3 (by kernel_rfl)
    (of_decide_eq_true (by kernel_rfl)) (by unfold Func.isWrapper; first | (rw [if_pos (by decide +kernel)]; kernel_rfl) | (rw [if_neg (by decide +kernel)]; exact ⟨rfl, rfl⟩))
    (fun os started H enc _ => by rw [OpenClaim.pre_eq_preRow]; exact lifted os started H enc)

theorem proved : Rows.CborBytesCardSaid :=
  Claim7.holds_tied_plain_at .later [] [.data, .pinned] true (true, "0ece3b67bcc1c0921f4ca99338b3de9fb5b1d54749c680f8d782d7ca69802733") true
    over (fun _ h => by cases h) (by kernel_rfl) (fun _ h => by cases h) cborBytes_row_tie rfl ⟨rfl, rfl⟩ (by kernel_rfl) rfl
    (fun f fn hf hfn => by
      obtain rfl : f = 3 := Option.some.inj ((show Tryd.prog.funcNamed "packsaddle/packsaddlelaw03.CborBytes" = some 3 by kernel_rfl).symm.trans hf) |>.symm
      obtain rfl : fn = Tryd.f3 := (Option.some.inj (Tryd.func3.symm.trans hfn)).symm
      exact ⟨by kernel_rfl, fun j t ht => by
        rw [Tryd.params3] at ht
        have h3 : t ∈ [22] := by
          have := List.mem_of_getElem? (by simpa using ht : ([22] : List TypeId)[j]? = some t)
          exact this
        simp only [List.mem_cons, List.not_mem_nil, or_false] at h3
        rcases h3 with rfl
        · exact (show Tryd.prog.wantsStandIn 22 = false by kernel_rfl)⟩)
    (by kernel_rfl)
#print axioms proved
end Go.Proofs.YtjenohodgpmchaaDoor.cborBytesRow
