/-
  CbH, CbTk, PiO, Store, Fork: several texts in one (bundle.py).
-/
import Derived.Test.YtpkonagjnfphkaaGreatDoorPmY04
import Derived.Test.YtpkonagjnfphkaaGreatDoorPmY03
import Derived.Test.YtpkonagjnfphkaaGreatDoorPmY02
import Derived.Test.YtpkonagjnfphkaaGreatDoorPmY05
set_option linter.unusedSimpArgs false
set_option linter.unusedVariables false
set_option maxRecDepth 100000
set_option maxHeartbeats 4000000
namespace Go.Proofs.YtpkonagjnfphkaaGreatDoor
open Go.RowKit
namespace Cb
def markI (n : Int) : Int := if n < 256 then 0 else if n < 65536 then 1 else if n < 4294967296 then 2 else 3
def headB (m n : Int) : List UInt8 := if n < 24 then [UInt8.ofNat (m * 32 + n).toNat] else UInt8.ofNat (m * 32 + 24 + markI n).toNat :: Oct.beB (Oct.leastF n).toNat n
theorem byte_of {x : Int} (h0 : 0 ≤ x) (h1 : x ≤ 255) : by8 [UInt8.ofNat x.toNat] = [.int .u8 x] := by
  simp only [by8, List.map_cons, List.map_nil, List.cons.injEq, Value.int.injEq, and_true, true_and]; rw [UInt8.toNat_ofNat']; omega
theorem mark_b (n : Int) : 0 ≤ markI n ∧ markI n ≤ 3 := by
  unfold markI
  repeat' split
  all_goals omega
theorem mark_idx (n : Int) : idx (fun y => Oct.leastF n == y) [1, 2, 4, 8] = markI n := by
  unfold Oct.leastF markI
  repeat' split
  all_goals rfl
theorem least_fits {n : Int} (h1 : n ≤ 18446744073709551615) : Oct.putB n (Oct.leastF n) = Oct.beB (Oct.leastF n).toNat n := by
  unfold Oct.putB
  have hf : Oct.fitsB (Oct.leastF n) n = true := by
    unfold Oct.leastF
    repeat' split
    all_goals (simp [Oct.fitsB]; omega)
  rw [Oct.leastF_ok, hf]; rfl
theorem headB_small {m n : Int} (h : n < 24) : headB m n = [UInt8.ofNat (m * 32 + n).toNat] := if_pos h
theorem headB_big {m n : Int} (h : ¬ n < 24) : headB m n = UInt8.ofNat (m * 32 + 24 + markI n).toNat :: Oct.beB (Oct.leastF n).toNat n := if_neg h
theorem least_nat (n : Int) : (Oct.leastF n).toNat ≤ 8 ∧ 1 ≤ (Oct.leastF n).toNat := by
  unfold Oct.leastF
  repeat' split
  all_goals decide
theorem headB_len (m n : Int) : 1 ≤ (headB m n).length ∧ (headB m n).length ≤ 9 := by
  unfold headB; split
  · simp
  · have := least_nat n
    simp [Oct.beB_len]; omega
end Cb
open Cb
theorem slB2 {w : World} {T : TypeId} {u v : Value} {l m : List UInt8} (hu : Sl w 1 u l.length (by8 l)) (hv : Sl w 1 v m.length (by8 m)) (h1 : u.oneCell' = true) (h2 : v.oneCell' = true) (k : Nat) (hk : k = w.heap.size) :
    SlB (w.alloc (.cells #[u, v] T)) (.slice (some ⟨k, 0, none⟩) 2 2) 2 [u, v] [l, m] := by
  subst hk; have hb := below_alloc w (.cells #[u, v] T); refine ⟨⟨rfl, .inr ⟨w.heap.size, 0, 2, rfl, by decide, by decide, fun j x hj => ?_⟩⟩, rfl, fun i x y h1 h2 => ?_⟩
  · exact (RowAt.new w #[u, v] T).cell (i := 0 + j) (by simpa using hj)
  · match i, h1, h2 with
    | 0, h1, h2 => simp at h1 h2; subst h1 h2; exact hu.up hb
    | 1, h1, h2 => simp at h1 h2; subst h1 h2; exact hv.up hb
    | i + 2, h1, _ => simp at h1
theorem head_c (m n : Int) (w : World) (hm0 : 0 ≤ m) (hm : m ≤ 7) (h0 : 0 ≤ n) (h1 : n ≤ 18446744073709551615) :
    Calls Tryz.prog 164 #[.int .i64 m, .int .u64 n] w fun en w' => ∃ v, en = .returned v ∧ w'.ownsRow w.heap.size 5 1 v (headB m n).length (by8 (headB m n)) ∧ Below w.heap.size w w' := by
  by_cases hn : n < 24
  · have hd : decide (n < 24) = true := decide_eq_true hn
    go_enter Tryz.func164, Tryz.ntmps164; go_wp2; go_ret; rw [headB_small hn]; refine ⟨_, rfl, ?_, below_alloc _ _⟩; rw [byte_of (by omega) (by omega)]; exact World.ownsRow_lit w #[.int .u8 (m * 32 + n)] 1 (size := 1) (e := 5) (Nat.le_refl _) (by decide) rfl
  · have hd : decide (n < 24) = false := decide_eq_false hn
    have hmk := mark_b n
    have hp := fun w => put_c n (Oct.leastF n) w h0 h1
    have hl := fun w => least_c n w h0 h1
    have hpE : Oct.putE n (Oct.leastF n) = 0 := by
      unfold Oct.putE
      have hf : Oct.fitsB (Oct.leastF n) n = true := by
        unfold Oct.leastF
        repeat' split
        all_goals (simp [Oct.fitsB]; omega)
      rw [Oct.leastF_ok, hf]; rfl
    rw [least_fits h1, hpE] at hp
    have hi := fun w v (hv : Sl w 1 v 4 ([1, 2, 4, 8].map (Value.int .i64))) => indexI_c [1, 2, 4, 8] v 4 (Oct.leastF n) w hv (by omega)
    rw [mark_idx] at hi; have HX := Lib.hid (headB_big (m := m) hn); have hln := least_nat n; obtain ⟨bs, hbs⟩ : ∃ bs, Oct.beB (Oct.leastF n).toNat n = bs := ⟨_, rfl⟩
    have hbl : bs.length ≤ 8 := by rw [← hbs, Oct.beB_len]; exact hln.1
    rw [hbs] at hp HX; obtain ⟨W, hW⟩ : ∃ W, Oct.leastF n = W := ⟨_, rfl⟩; rw [hW] at hp hl hi; obtain ⟨mk, hmk'⟩ : ∃ mk, markI n = mk := ⟨_, rfl⟩; rw [hmk'] at hmk hi HX; obtain ⟨hmk0, hmk3⟩ := hmk; have HP := Lib.hid hp; have HL := Lib.hid hl; have HI := Lib.hid hi; have HBL := Lib.hid hbl; clear hp hl hi hpE hbs hW hmk' hln hbl; go_enter Tryz.func164, Tryz.ntmps164
    go_wp2_with (first
      | (go_at_call 179; refine (HL.out _).mono ?_; rintro en w1 ⟨rfl, hb1⟩)
      | (go_at_call 93; go_loud (refine (HP.out _).mono ?_; rintro en w2 ⟨v2, rfl, ho2, hb2⟩; obtain ⟨a2, c2, rfl⟩ := own_slice ho2))
      | (go_at_call 161; go_loud (refine (HI.out _ _ (sl4 w2 _ rfl _)).mono ?_; rintro en w3 ⟨rfl, rfl⟩)))
    have hbB := below_up hb1 hb2; obtain ⟨w3, hw3⟩ : ∃ w3, w2.alloc (.cells #[.int .i64 1, .int .i64 2, .int .i64 4, .int .i64 8] 3) = w3 := ⟨_, rfl⟩
    have hb3 : Below w2.heap.size w2 w3 := by rw [← hw3]; exact below_alloc _ _
    have hz3 : w3.heap.size = w2.heap.size + 1 := by rw [← hw3]; simp
    have hu : Sl (w3.alloc (.cells #[.int .u8 (m * 32 + 24 + mk)] 5)) 1 (.slice (some ⟨w3.heap.size, 0, none⟩) 1 1) [UInt8.ofNat (m * 32 + 24 + mk).toNat].length (by8 [UInt8.ofNat (m * 32 + 24 + mk).toNat]) := by
      rw [byte_of (by omega) (by omega)]; exact sl1 w3 _ rfl _ _
    have hv : Sl (w3.alloc (.cells #[.int .u8 (m * 32 + 24 + mk)] 5)) 1 (.slice a2 bs.length c2) bs.length (by8 bs) := ((Sl.of_own ho2).up hb3).up (below_alloc _ _)
    have hz4 : (w3.alloc (.cells #[.int .u8 (m * 32 + 24 + mk)] 5)).heap.size = w3.heap.size + 1 := by simp
    have hS := slB2 (T := 48) hu hv rfl rfl (w3.heap.size + 1) hz4.symm; have hbE : Below w.heap.size w ((w3.alloc (.cells #[.int .u8 (m * 32 + 24 + mk)] 5)).alloc (.cells #[.slice (some ⟨w3.heap.size, 0, none⟩) 1 1, .slice a2 bs.length c2] 48)) := below_up (below_up (below_up hbB hb3) (below_alloc _ _)) (below_alloc _ _); rw [hz3] at hS hbE; have hj := join_c _ _ _ _ _ hS (by omega) (by have := HBL.out; simp; omega); rw [show [[UInt8.ofNat (m * 32 + 24 + mk).toNat], bs].flatten = headB m n by rw [HX.out]; simp, ← hw3] at hj; refine hj.mono ?_; rintro en w6 ⟨v6, rfl, ho6, hb6⟩; rw [← hw3] at hbE; go_wp2; go_ret; exact ⟨_, rfl, own_down ho6 hbE.size, below_up hbE hb6⟩
theorem headR_c (m n : Int) (w : World) (hm0 : 0 ≤ m) (hm : m ≤ 7) (h0 : 0 ≤ n) (h1 : n ≤ 18446744073709551615) :
    Calls Tryz.prog 67 #[.int .i64 m, .int .u64 n] w fun en w' => ∃ v, en = .returned v ∧ w'.ownsRow w.heap.size 5 1 v (headB m n).length (by8 (headB m n)) ∧ Below w.heap.size w w' := by
  by_cases hn : n < 24
  · have hd : decide (n < 24) = true := decide_eq_true hn
    go_enter Tryz.func67, Tryz.ntmps67; go_wp2; go_ret; rw [headB_small hn]; refine ⟨_, rfl, ?_, below_alloc _ _⟩; rw [byte_of (by omega) (by omega)]
    first
      | exact World.ownsRow_lit w #[.int .u8 (m * 32 + n)] 1 (size := 1) (e := 5) (Nat.le_refl _) (by decide) rfl
      | (rw [Int.mul_comm m 32]; exact World.ownsRow_lit w #[.int .u8 (32 * m + n)] 1 (size := 1) (e := 5) (Nat.le_refl _) (by decide) rfl)
  · have hd : decide (n < 24) = false := decide_eq_false hn
    have hp := fun w => putR_c n (Oct.leastF n) w h0 h1
    have hl := fun w => leastR_c n w h0 h1
    have hpE : Oct.putE n (Oct.leastF n) = 0 := by
      unfold Oct.putE
      have hf : Oct.fitsB (Oct.leastF n) n = true := by
        unfold Oct.leastF
        repeat' split
        all_goals (simp [Oct.fitsB]; omega)
      rw [Oct.leastF_ok, hf]; rfl
    rw [least_fits h1, hpE] at hp; have HX := Lib.hid (headB_big (m := m) hn); have hln := least_nat n
    have hW4 : (Oct.leastF n = 1 ∧ markI n = 0) ∨ (Oct.leastF n = 2 ∧ markI n = 1) ∨ (Oct.leastF n = 4 ∧ markI n = 2) ∨ (Oct.leastF n = 8 ∧ markI n = 3) := by
      unfold Oct.leastF markI
      repeat' split
      all_goals simp
    obtain ⟨bs, hbs⟩ : ∃ bs, Oct.beB (Oct.leastF n).toNat n = bs := ⟨_, rfl⟩
    have hbl : bs.length ≤ 8 := by rw [← hbs, Oct.beB_len]; exact hln.1
    rw [hbs] at hp HX; obtain ⟨W, hW⟩ : ∃ W, Oct.leastF n = W := ⟨_, rfl⟩; rw [hW] at hp hl hW4; obtain ⟨mk, hmk'⟩ : ∃ mk, markI n = mk := ⟨_, rfl⟩; rw [hmk'] at hW4 HX; have HP := Lib.hid hp; have HL := Lib.hid hl; have HBL := Lib.hid hbl; clear hp hl hpE hbs hW hmk' hln hbl; rcases hW4 with ⟨rfl, rfl⟩ | ⟨rfl, rfl⟩ | ⟨rfl, rfl⟩ | ⟨rfl, rfl⟩
    · have HX2 := Lib.hid (show headB m n = UInt8.ofNat (32 * m + 24).toNat :: bs by rw [HX.out]; congr 2; omega)
      have hby : by8 [UInt8.ofNat (32 * m + 24).toNat] = [.int .u8 (32 * m + 24)] := byte_of (by omega) (by omega); have HBY := Lib.hid hby; clear hby; have hbl := HBL.out; go_enter Tryz.func67, Tryz.ntmps67
      go_wp2_with (first
        | (go_at_call 110; refine (HL.out _).mono ?_; rintro en w1 ⟨rfl, hb1⟩)
        | (go_at_call 104; refine (HP.out _).mono ?_; rintro en w2 ⟨v2, rfl, ho2, hb2⟩; obtain ⟨a2, c2, rfl⟩ := own_slice ho2; have hbB := below_up hb1 hb2; have hsB := hbB.size; have ho3 : (w2.alloc (.cells #[.int .u8 (32 * m + 24)] 5)).ownsRow w.heap.size 5 1 (.slice (some ⟨w2.heap.size, 0, none⟩) 1 1) 1 [.int .u8 (32 * m + 24)] := own_down (World.ownsRow_lit w2 #[.int .u8 (32 * m + 24)] 1 (size := 1) (e := 5) (Nat.le_refl _) (by decide) rfl) hsB; have hs3 := (Sl.of_own ho2).up (below_alloc w2 (.cells #[.int .u8 (32 * m + 24)] 5)); have hbC := below_up hbB (below_alloc w2 (.cells #[.int .u8 (32 * m + 24)] 5))))
      refine wp_loop_rounds 4 ?_
      repeat (rw [rounds_succ]; go_wp2_with (at_builtin; refine wpList_app rfl (.tmp 39) (.tmp 40) 48 rfl slT_u8 w.heap.size rfl ho3 rfl hs3 (one_by8 bs) (by simp [maxLen]; omega) (by omega) (by simp; omega) ?_; intro v3 w3 ho4 hg3 _))
      go_ret; refine ⟨v3, rfl, ?_, grown_below hbC hg3 (fun k hk => (own_of_some ho3 hk).1)⟩; rw [HX2.out, show by8 (UInt8.ofNat (32 * m + 24).toNat :: bs) = by8 [UInt8.ofNat (32 * m + 24).toNat] ++ by8 bs from rfl, HBY.out, List.length_cons, Nat.add_comm bs.length 1]; exact ho4
    · have HX2 := Lib.hid (show headB m n = UInt8.ofNat (32 * m + 25).toNat :: bs by rw [HX.out]; congr 2; omega)
      have hby : by8 [UInt8.ofNat (32 * m + 25).toNat] = [.int .u8 (32 * m + 25)] := byte_of (by omega) (by omega); have HBY := Lib.hid hby; clear hby; have hbl := HBL.out; go_enter Tryz.func67, Tryz.ntmps67
      go_wp2_with (first
        | (go_at_call 110; refine (HL.out _).mono ?_; rintro en w1 ⟨rfl, hb1⟩)
        | (go_at_call 104; refine (HP.out _).mono ?_; rintro en w2 ⟨v2, rfl, ho2, hb2⟩; obtain ⟨a2, c2, rfl⟩ := own_slice ho2; have hbB := below_up hb1 hb2; have hsB := hbB.size; have ho3 : (w2.alloc (.cells #[.int .u8 (32 * m + 25)] 5)).ownsRow w.heap.size 5 1 (.slice (some ⟨w2.heap.size, 0, none⟩) 1 1) 1 [.int .u8 (32 * m + 25)] := own_down (World.ownsRow_lit w2 #[.int .u8 (32 * m + 25)] 1 (size := 1) (e := 5) (Nat.le_refl _) (by decide) rfl) hsB; have hs3 := (Sl.of_own ho2).up (below_alloc w2 (.cells #[.int .u8 (32 * m + 25)] 5)); have hbC := below_up hbB (below_alloc w2 (.cells #[.int .u8 (32 * m + 25)] 5))))
      refine wp_loop_rounds 4 ?_
      repeat (rw [rounds_succ]; go_wp2_with (at_builtin; refine wpList_app rfl (.tmp 39) (.tmp 40) 48 rfl slT_u8 w.heap.size rfl ho3 rfl hs3 (one_by8 bs) (by simp [maxLen]; omega) (by omega) (by simp; omega) ?_; intro v3 w3 ho4 hg3 _))
      go_ret; refine ⟨v3, rfl, ?_, grown_below hbC hg3 (fun k hk => (own_of_some ho3 hk).1)⟩; rw [HX2.out, show by8 (UInt8.ofNat (32 * m + 25).toNat :: bs) = by8 [UInt8.ofNat (32 * m + 25).toNat] ++ by8 bs from rfl, HBY.out, List.length_cons, Nat.add_comm bs.length 1]; exact ho4
    · have HX2 := Lib.hid (show headB m n = UInt8.ofNat (32 * m + 26).toNat :: bs by rw [HX.out]; congr 2; omega)
      have hby : by8 [UInt8.ofNat (32 * m + 26).toNat] = [.int .u8 (32 * m + 26)] := byte_of (by omega) (by omega); have HBY := Lib.hid hby; clear hby; have hbl := HBL.out; go_enter Tryz.func67, Tryz.ntmps67
      go_wp2_with (first
        | (go_at_call 110; refine (HL.out _).mono ?_; rintro en w1 ⟨rfl, hb1⟩)
        | (go_at_call 104; refine (HP.out _).mono ?_; rintro en w2 ⟨v2, rfl, ho2, hb2⟩; obtain ⟨a2, c2, rfl⟩ := own_slice ho2; have hbB := below_up hb1 hb2; have hsB := hbB.size; have ho3 : (w2.alloc (.cells #[.int .u8 (32 * m + 26)] 5)).ownsRow w.heap.size 5 1 (.slice (some ⟨w2.heap.size, 0, none⟩) 1 1) 1 [.int .u8 (32 * m + 26)] := own_down (World.ownsRow_lit w2 #[.int .u8 (32 * m + 26)] 1 (size := 1) (e := 5) (Nat.le_refl _) (by decide) rfl) hsB; have hs3 := (Sl.of_own ho2).up (below_alloc w2 (.cells #[.int .u8 (32 * m + 26)] 5)); have hbC := below_up hbB (below_alloc w2 (.cells #[.int .u8 (32 * m + 26)] 5))))
      refine wp_loop_rounds 4 ?_
      repeat (rw [rounds_succ]; go_wp2_with (at_builtin; refine wpList_app rfl (.tmp 39) (.tmp 40) 48 rfl slT_u8 w.heap.size rfl ho3 rfl hs3 (one_by8 bs) (by simp [maxLen]; omega) (by omega) (by simp; omega) ?_; intro v3 w3 ho4 hg3 _))
      go_ret; refine ⟨v3, rfl, ?_, grown_below hbC hg3 (fun k hk => (own_of_some ho3 hk).1)⟩; rw [HX2.out, show by8 (UInt8.ofNat (32 * m + 26).toNat :: bs) = by8 [UInt8.ofNat (32 * m + 26).toNat] ++ by8 bs from rfl, HBY.out, List.length_cons, Nat.add_comm bs.length 1]; exact ho4
    · have HX2 := Lib.hid (show headB m n = UInt8.ofNat (32 * m + 27).toNat :: bs by rw [HX.out]; congr 2; omega)
      have hby : by8 [UInt8.ofNat (32 * m + 27).toNat] = [.int .u8 (32 * m + 27)] := byte_of (by omega) (by omega); have HBY := Lib.hid hby; clear hby; have hbl := HBL.out; go_enter Tryz.func67, Tryz.ntmps67
      go_wp2_with (first
        | (go_at_call 110; refine (HL.out _).mono ?_; rintro en w1 ⟨rfl, hb1⟩)
        | (go_at_call 104; refine (HP.out _).mono ?_; rintro en w2 ⟨v2, rfl, ho2, hb2⟩; obtain ⟨a2, c2, rfl⟩ := own_slice ho2; have hbB := below_up hb1 hb2; have hsB := hbB.size; have ho3 : (w2.alloc (.cells #[.int .u8 (32 * m + 27)] 5)).ownsRow w.heap.size 5 1 (.slice (some ⟨w2.heap.size, 0, none⟩) 1 1) 1 [.int .u8 (32 * m + 27)] := own_down (World.ownsRow_lit w2 #[.int .u8 (32 * m + 27)] 1 (size := 1) (e := 5) (Nat.le_refl _) (by decide) rfl) hsB; have hs3 := (Sl.of_own ho2).up (below_alloc w2 (.cells #[.int .u8 (32 * m + 27)] 5)); have hbC := below_up hbB (below_alloc w2 (.cells #[.int .u8 (32 * m + 27)] 5))))
      refine wp_loop_rounds 4 ?_
      repeat (rw [rounds_succ]; go_wp2_with (at_builtin; refine wpList_app rfl (.tmp 39) (.tmp 40) 48 rfl slT_u8 w.heap.size rfl ho3 rfl hs3 (one_by8 bs) (by simp [maxLen]; omega) (by omega) (by simp; omega) ?_; intro v3 w3 ho4 hg3 _))
      go_ret; refine ⟨v3, rfl, ?_, grown_below hbC hg3 (fun k hk => (own_of_some ho3 hk).1)⟩; rw [HX2.out, show by8 (UInt8.ofNat (32 * m + 27).toNat :: bs) = by8 [UInt8.ofNat (32 * m + 27).toNat] ++ by8 bs from rfl, HBY.out, List.length_cons, Nat.add_comm bs.length 1]; exact ho4
end Go.Proofs.YtpkonagjnfphkaaGreatDoor
namespace Go.Proofs.YtpkonagjnfphkaaGreatDoor
open Go.RowKit Cb
theorem slT_left : SlT Tryz.prog 161 5 1 1 := SlT.mk' Tryz.underlying161 (z := .int .u8 0) (by kernel_rfl) rfl (by decide)
theorem cloneLeft_c (l : List UInt8) (v : Value) (n : Nat) (w : World) (hv : Sl w 1 v n (by8 l)) (hn : n ≤ 140737488351233) :
    Calls Tryz.prog 162 #[v] w fun e w' => ∃ v', e = .returned v' ∧ w'.ownsRow w.heap.size 5 1 v' n (by8 l) ∧ Below w.heap.size w w' := by
  obtain ⟨a, c, rfl⟩ := hv.len
  have hnil := fun w a => Lib.run_eql_slice_nil (P := Tryz.prog) w 161 _ a n c 0 0 Tryz.underlying161
  cases a with
  | none =>
    have h0 : n = 0 ∧ l = [] := by
      rcases hv.2 with ⟨_, _, _, h⟩ | ⟨b, off, cap, e, _⟩
      · have := hv.n_len; exact ⟨h, List.eq_nil_of_length_eq_zero (by omega)⟩
      · simp at e
    obtain ⟨rfl, rfl⟩ := h0; go_enter Tryz.func162, Tryz.ntmps162; go_wp2; go_ret; exact ⟨_, rfl, World.ownsRow_nil _ _ _ _, Below.refl _ _⟩
  | some a =>
    go_enter Tryz.func162, Tryz.ntmps162
    go_wp2_with (at_builtin; refine wpList_app rfl _ _ 161 rfl slT_left w.heap.size rfl (World.ownsRow_lit w #[] 0 (Nat.le_refl _) (by decide) rfl) rfl (hv.up (below_alloc _ _)) (one_by8 _) (by simp [maxLen]; omega) (by omega) (by simp) ?_; intro v' w1 hown hgrow _)
    go_ret; exact ⟨v', rfl, by simpa using hown, grown_below (below_alloc _ _) hgrow (fun k hk => by have : w.heap.size = k := Option.some.inj hk; omega)⟩
theorem cut_lb {P : Program} {t e : TypeId} {sz bytes : Nat} (T : SlT P t e sz bytes) {w : World} {a : Option Addr} {n c : Nat} {cs : List Value} (h : Sl w sz (.slice a n c) n cs) (lo : Nat) (h1 : lo ≤ n) :
    ∃ a', (∀ (kl : IntKind) (w' : World), (Instr.slice t (.slice a n c) (some (.int kl (lo : Int))) none none).run P w' = .ok (.slice a' (n - lo) (c - lo)) w') ∧ Sl w sz (.slice a' (n - lo) (c - lo)) (n - lo) (cs.drop (lo * sz)) ∧
      ∀ k, (Value.slice a' (n - lo) (c - lo)).ownBlock = some k → (Value.slice a n c).ownBlock = some k := by
  have hc : n ≤ c := by
    rcases h.n_le with h | h
    · exact h
    · omega
  have := h.cut (lo := lo) (hi := n) (mx := c) h1 (Nat.le_refl _) hc (Nat.le_refl _); rw [List.take_of_length_le (by rw [List.length_drop, h.1, Nat.sub_mul]; exact Nat.le_refl _)] at this; refine ⟨if c = lo then a else a.map (fun x : Addr => x.add (lo * sz)), fun kl w' => run_cut_l T a n c lo kl h1 w', this, fun k hk => ?_⟩
  cases a with
  | none => split at hk <;> exact hk
  | some a =>
    by_cases hz : c = lo
    · rw [if_pos hz] at hk; exact hk
    · rw [if_neg hz] at hk
      simp only [Option.map_some, Value.ownBlock, Option.some.injEq] at hk ⊢; rw [← hk]; unfold Addr.add
      split <;> rfl
structure RdAt (w : World) (D : Nat) (v : Value) (b : List UInt8) : Prop where
  box : RowAt w D #[v] 163
  sl : Sl w 1 v b.length (by8 b)
  far : b.length = 0 ∨ ∀ k, v.ownBlock = some k → k < D
theorem RdAt.up {w w' : World} {D : Nat} {v : Value} {b : List UInt8} (h : RdAt w D v b) (hb : Below w.heap.size w w') : RdAt w' D v b := ⟨h.box.below hb, h.sl.up hb, h.far⟩
theorem take_yes (w : World) (D : Nat) (v : Value) (b : List UInt8) (n : Nat) (h : RdAt w D v b) (hn : n ≤ b.length) (hbl : b.length ≤ 1000000) :
    Calls Tryz.prog 145 #[.pointer (some ⟨D, 0, none⟩), .int .u64 n] w fun en w' => ∃ u v', en = .returned u ∧ w'.ownsRow w.heap.size 5 1 u n (by8 (b.take n)) ∧ RdAt w' D v' (b.drop n) ∧ But (fun k => k = D) w w' := by
  obtain ⟨a, c, rfl⟩ := h.sl.len; have c0 := h.box.cell (i := 0) (v := .slice a b.length c) rfl; have hd : decide ((n : Int) ≤ (b.length : Int)) = true := decide_eq_true (by omega); obtain ⟨a1, hr1, hs1⟩ := cut_h slT_left h.sl n hn; obtain ⟨a2, hr2, hs2, hk2⟩ := cut_lb slT_left h.sl n hn; rw [Nat.mul_one, ← by8_take] at hs1; rw [Nat.mul_one, ← by8_drop] at hs2; have hbox := h.box; have hfar := h.far; have hdl : (b.drop n).length = b.length - n := List.length_drop; clear h; generalize hB : b.length = B at *; go_enter Tryz.func145, Tryz.ntmps145
  go_wp2_with (first
    | (go_at_call 125; with_reducible refine (must_yes _ _).mono ?_; rintro en w1 ⟨rfl, rfl⟩)
    | (go_at_call 162; refine (cloneLeft_c (b.take n) _ n _ hs1 (by omega)).mono ?_; rintro en w1 ⟨u, rfl, ho, hb⟩; obtain ⟨au, cu, rfl⟩ := own_slice ho; have z0 := hbox.below hb; have c1 := z0.cell (i := 0) rfl; have f1 := z0.fz 0))
  go_ret; have hDw := hbox.lt; have s1 : But (fun k => k = D) w1 (w1.setCell ⟨D, 0, none⟩ (.slice a2 (B - n) (c - n))) := But.setCell _ _ _ (.inl rfl)
  have hfar2 : B - n = 0 ∨ ∀ k, (Value.slice a2 (B - n) (c - n)).ownBlock = some k → k < D := by
    rcases hfar with h | h
    · exact .inl (by omega)
    · exact .inr fun k hk => h k (hk2 k hk)
  refine ⟨_, .slice a2 (B - n) (c - n), rfl, own_but ho s1 (fun k hk e => by have := (own_of_some ho hk).1; omega), ⟨z0.set 0 _, ?_, by rw [hdl]; exact hfar2⟩, (But.of_below hb).trans s1⟩; rw [hdl]; exact (hs2.up hb).but s1 (hfar2.imp id fun h k hk => Nat.ne_of_lt (h k hk))
theorem take_no (w : World) (D : Nat) (v : Value) (b : List UInt8) (n : Int) (h : RdAt w D v b) (hn : (b.length : Int) < n) (hbl : b.length ≤ 1000000) :
    Calls Tryz.prog 145 #[.pointer (some ⟨D, 0, none⟩), .int .u64 n] w fun en w' => en = .panicked (gup 121) ∧ w = w' := by
  obtain ⟨a, c, rfl⟩ := h.sl.len; have c0 := h.box.cell (i := 0) (v := .slice a b.length c) rfl; have hd : decide (n ≤ (b.length : Int)) = false := decide_eq_false (by omega); clear h; generalize hB : b.length = B at *; go_enter Tryz.func145, Tryz.ntmps145
  go_wp2_with (go_at_call 125; with_reducible refine (must_no _ _).mono ?_; rintro en w1 ⟨rfl, rfl⟩)
  exact ⟨rfl, rfl, rfl⟩
end Go.Proofs.YtpkonagjnfphkaaGreatDoor
namespace Go.Proofs.YtpkonagjnfphkaaGreatDoor
open Go.RowKit
section
variable {P : Program} {md : Region.Mode} {ops : Array Oper} {Q : Exit → Act → World → Prop} {O : Nat → Prop}
end
def setAllA (cs : Array Value) : Nat → List Value → Array Value
  | _, [] => cs
  | o, v :: r => setAllA (cs.setIfInBounds o v) (o + 1) r
theorem setAllA_get : ∀ (vs : List Value) (cs : Array Value) (o i : Nat), o + vs.length ≤ cs.size → (setAllA cs o vs)[i]? = if o ≤ i ∧ i < o + vs.length then vs[i - o]? else cs[i]?
  | [], cs, o, i, _ => by rw [setAllA, if_neg (by simp)]
  | v :: r, cs, o, i, h => by
    simp only [List.length_cons] at h; rw [setAllA, setAllA_get r _ (o + 1) i (by simp; omega)]; simp only [List.length_cons]; by_cases h1 : i = o
    · subst h1
      rw [if_neg (by omega), if_pos (by omega)]; rw [Nat.sub_self, Array.getElem?_setIfInBounds_self_of_lt (by omega)]; rfl
    · by_cases h2 : o + 1 ≤ i ∧ i < o + 1 + r.length
      · rw [if_pos h2, if_pos (by omega)]
        rw [show i - o = (i - (o + 1)) + 1 by omega, List.getElem?_cons_succ]
      · rw [if_neg h2, if_neg (by omega)]
        rw [Array.getElem?_setIfInBounds_ne (fun e => h1 e.symm)]
theorem setAllA_all (vs : List Value) (cs : Array Value) (h : vs.length = cs.size) : setAllA cs 0 vs = vs.toArray := by
  refine Array.ext_getElem? fun i => ?_
  rw [setAllA_get vs cs 0 i (by omega)]; by_cases hi : i < vs.length
  · rw [if_pos (by omega)]; simp
  · rw [if_neg (by omega), Array.getElem?_eq_none (by omega), Array.getElem?_eq_none (by simp; omega)]
theorem RowAt.sets {H : Nat} {T : TypeId} : ∀ (vs : List Value) {w : World} {cs : Array Value} (o : Nat), RowAt w H cs T → RowAt (w.setCells H o vs) H (setAllA cs o vs) T
  | [], _, _, _, h => h
  | v :: r, w, cs, o, h => RowAt.sets r (o + 1) (h.set o v)
theorem RowAt.setAll {w : World} {H : Nat} {cs : Array Value} {T : TypeId} (h : RowAt w H cs T) (vs : List Value) (hl : vs.length = cs.size) : RowAt (w.setCells H 0 vs) H vs.toArray T := by
  have := RowAt.sets vs 0 h
  rwa [setAllA_all vs cs hl] at this
theorem But.setCells {O : Nat → Prop} {b : Nat} : ∀ (vs : List Value) (w : World) (o : Nat), O b → But O w (w.setCells b o vs)
  | [], w, _, _ => But.refl _ w
  | v :: r, w, o, h => (But.setCell w ⟨b, o, none⟩ v (.inl h)).trans (But.setCells r _ (o + 1) h)
theorem RowAt.there {w : World} {H : Nat} {cs : Array Value} {T : TypeId} (h : RowAt w H cs T) {n : Nat} (hn : n ≤ cs.size) : w.there H 0 n := fun j hj => by
  rw [Nat.zero_add]; exact ⟨by rw [h.cell (Array.getElem?_eq_getElem (by omega))]; rfl, h.fz j⟩
inductive Pt where
  | done
  | q (i : Nat) (t : Pt)
  | c (i : Nat) (t : Pt)
  | f (i : Nat) (t : Pt) (j : Nat) (u : Pt)
  | g (i : Nat) (t : Pt) (j : Nat) (u : Pt) (k : Nat) (v : Pt)
def Pt.len : Pt → Nat
  | .done => 0
  | .q _ t => t.len + 1
  | .c _ t => t.len + 1
  | .f _ t _ u => max t.len u.len + 1
  | .g _ t _ u _ v => max t.len (max u.len v.len) + 1
section
variable {P : Program} {md : Region.Mode} {ops : Array Oper} {Q : Exit → Act → World → Prop} {O : Nat → Prop}
def ptB (md : Region.Mode) (ops : Array Oper) : Pt → Array Bool → Bool
  | .done, listed => (Region.ready md ops listed).isEmpty
  | .q i t, listed => (Region.ready md ops listed).contains i && Region.free md ops listed i && ptB md ops t (listed.setIfInBounds i true)
  | .c i t, listed => decide (Region.ready md ops listed = [i]) && ptB md ops t (listed.setIfInBounds i true)
  | .f i t j u, listed => decide (Region.ready md ops listed = [i, j]) && (ptB md ops t (listed.setIfInBounds i true) && ptB md ops u (listed.setIfInBounds j true))
  | .g i t j u k v, listed => decide (Region.ready md ops listed = [i, j, k]) && (ptB md ops t (listed.setIfInBounds i true) && (ptB md ops u (listed.setIfInBounds j true) && ptB md ops v (listed.setIfInBounds k true)))
def ptStep (P : Program) (O : Nat → Prop) (ops : Array Oper) (Q : Exit → Act → World → Prop) (i : Nat) (R : Act → World → Prop) (a : Act) (w : World) : Prop :=
  ∃ o, ops[i]? = some o ∧ Region.wanted o (yielded ops a.tmps) = true ∧ o.wp P a w (fun a' w' => But O w w' ∧ R a' w') Q
def wpPt (P : Program) (O : Nat → Prop) (ops : Array Oper) (Q : Exit → Act → World → Prop) : Pt → Act → World → Prop
  | .done, a, w => Q .normal a w
  | .q i t, a, w => ∃ o v, ops[i]? = some o ∧ YieldsIf P ops (But O w) o v a ∧ wpPt P O ops Q t (a.put o.dst v) w
  | .c i t, a, w => ptStep P O ops Q i (wpPt P O ops Q t) a w
  | .f i t j u, a, w => ptStep P O ops Q i (wpPt P O ops Q t) a w ∧ ptStep P O ops Q j (wpPt P O ops Q u) a w
  | .g i t j u k v, a, w => ptStep P O ops Q i (wpPt P O ops Q t) a w ∧ ptStep P O ops Q j (wpPt P O ops Q u) a w ∧ ptStep P O ops Q k (wpPt P O ops Q v) a w
theorem pt_wpOp {fuel : Nat} {i : Nat} {t : Pt} {listed : Array Bool} {a : Act} {w : World} (h : ptStep P O ops Q i (wpPt P O ops Q t) a w)
    (ih : ∀ a' w', wpPt P O ops Q t a' w' → wpAnyH P md ops Q (But O w') fuel (listed.setIfInBounds i true) a' w') :
    wpOp P ops Q i (fun a' w' => But O w w' ∧ wpAnyH P md ops Q (But O w) fuel (listed.setIfInBounds i true) a' w') a w := by
  obtain ⟨o, hi, hw, h⟩ := h; unfold wpOp; simp only [hi, hw, if_true]; exact .inl (Oper.wp_mono (fun a' w' h' => ⟨h'.1, held_sub (fun _ hx => h'.1.trans hx) _ _ _ _ (ih a' w' h'.2)⟩) h)
theorem held_of_pt (hs : Region.noSelect ops = true) (hQ : ∀ c (a : Act) d v w, Q (.panic c) (a.put d v) w → Q (.panic c) a w) : ∀ (t : Pt) (fuel : Nat) (listed : Array Bool) (a : Act) (w : World),
    t.len ≤ fuel → ptB md ops t listed = true → wpPt P O ops Q t a w → wpAnyH P md ops Q (But O w) fuel listed a w
  | .done, fuel, listed, a, w, _, hB, h => wpAnyH_done (by simpa [ptB] using hB) h fuel
  | .q i t, 0, _, _, _, hl, _, _ => by simp [Pt.len] at hl
  | .q i t, fuel + 1, listed, a, w, hl, hB, h => by
    obtain ⟨o, v, hi, hy, h⟩ := h; simp only [ptB, Bool.and_eq_true] at hB; exact wpAnyH_take hi hs hB.1.2 hB.1.1 (fun c a w hq => hQ c a o.dst v w hq) hy (But.refl _ _) (held_of_pt hs hQ t fuel _ _ _ (by simp [Pt.len] at hl; omega) hB.2 h)
  | .c i t, 0, _, _, _, hl, _, _ => by simp [Pt.len] at hl
  | .c i t, fuel + 1, listed, a, w, hl, hB, h => by
    simp only [ptB, Bool.and_eq_true, decide_eq_true_eq] at hB; refine ⟨fun h0 => (by rw [hB.1] at h0; cases h0), fun j hj => ?_⟩; rw [hB.1] at hj
    obtain rfl : j = i := by simpa using hj
    exact pt_wpOp h (fun a' w' h' => held_of_pt hs hQ t fuel _ _ _ (by simp [Pt.len] at hl; omega) hB.2 h')
  | .f i t j u, 0, _, _, _, hl, _, _ => by simp [Pt.len] at hl
  | .f i t j u, fuel + 1, listed, a, w, hl, hB, h => by
    simp only [ptB, Bool.and_eq_true, decide_eq_true_eq] at hB; simp only [Pt.len] at hl; refine ⟨fun h0 => (by rw [hB.1] at h0; cases h0), fun m hm => ?_⟩; rw [hB.1] at hm; rcases (show m = i ∨ m = j by simpa using hm) with rfl | rfl
    · exact pt_wpOp h.1 (fun a' w' h' => held_of_pt hs hQ t fuel _ _ _ (by omega) hB.2.1 h')
    · exact pt_wpOp h.2 (fun a' w' h' => held_of_pt hs hQ u fuel _ _ _ (by omega) hB.2.2 h')
  | .g i t j u k v, 0, _, _, _, hl, _, _ => by simp [Pt.len] at hl
  | .g i t j u k v, fuel + 1, listed, a, w, hl, hB, h => by
    simp only [ptB, Bool.and_eq_true, decide_eq_true_eq] at hB; simp only [Pt.len] at hl; refine ⟨fun h0 => (by rw [hB.1] at h0; cases h0), fun m hm => ?_⟩; rw [hB.1] at hm; rcases (show m = i ∨ m = j ∨ m = k by simpa using hm) with rfl | rfl | rfl
    · exact pt_wpOp h.1 (fun a' w' h' => held_of_pt hs hQ t fuel _ _ _ (by omega) hB.2.1 h')
    · exact pt_wpOp h.2.1 (fun a' w' h' => held_of_pt hs hQ u fuel _ _ _ (by omega) hB.2.2.1 h')
    · exact pt_wpOp h.2.2 (fun a' w' h' => held_of_pt hs hQ v fuel _ _ _ (by omega) hB.2.2.2 h')
theorem wp_region_pt {id : Nat} {a : Act} {w : World} (O : Nat → Prop) (t : Pt) (hm : P.follows .mixedOrders = true) (hs : Region.noSelect ops = true) (hB : ptB .any ops t (Array.replicate ops.size false) = true) (hl : t.len ≤ ops.size)
    (hQ : ∀ c (a : Act) d v w, Q (.panic c) (a.put d v) w → Q (.panic c) a w) (h : ∀ Wd, Below w.heap.size w Wd → wpPt P O ops Q t a Wd) : (Code.region id ops true).wp P Q a w :=
  wp_region_held (S := But O w.drew) hm (held_of_pt (md := .any) hs hQ t _ _ _ _ hl hB (h w.drew (Below.refl _ _).drew))
theorem pt_q {i : Nat} {o : Oper} {v : Value} {t : Pt} {a : Act} {w : World} (hi : ops[i]? = some o) (hw : Region.wanted o (yielded ops a.tmps) = true) (hy : ∀ w', But O w w' → (execOp a.eval o).run P w' = .ok (.value v) w')
    (h : wpPt P O ops Q t (a.put o.dst v) w) : wpPt P O ops Q (.q i t) a w := ⟨o, v, hi, .inl ⟨hw, hy⟩, h⟩
theorem pt_no {i : Nat} {o : Oper} {t : Pt} {a : Act} {w : World} (hi : ops[i]? = some o) (hw : Region.wanted o (yielded ops a.tmps) = false)
    (h : wpPt P O ops Q t (a.put o.dst undef) w) : wpPt P O ops Q (.q i t) a w := ⟨o, undef, hi, .inr ⟨hw, rfl⟩, h⟩
theorem pt_step {i : Nat} {o : Oper} {R : Act → World → Prop} {a : Act} {w : World} (hi : ops[i]? = some o) (hw : Region.wanted o (yielded ops a.tmps) = true)
    (h : ∀ K : Act → World → Prop, Shut (∀ a' w', But O w w' → R a' w' → K a' w') → o.wp P a w K Q) : ptStep P O ops Q i R a w :=
  ⟨o, hi, hw, h _ (fun _ _ h1 h2 => ⟨h1, h2⟩)⟩
theorem pt_load {i : Nat} {o : Oper} {t : Pt} {a : Act} {w : World} (hi : ops[i]? = some o) (hw : Region.wanted o (yielded ops a.tmps) = true)
    (ty : TypeId) (x : Operand) (ho : o.op = .load ty x) (b off : Nat) (hx : a.eval x = .pointer (some ⟨b, off, none⟩)) (cs : List Value) (d : TypeDesc) (hr : w.rangeAt b off cs) (hO : ¬ O b)
    (hu : P.underlying ty = some d) (hd : d.isRow = true) (hn : (P.info? ty).map (·.size) = some cs.length) (h : wpPt P O ops Q t (a.put o.dst (.agg cs.toArray)) w) : wpPt P O ops Q (.q i t) a w :=
  ⟨o, _, hi, yieldsIf_load_mid hw ty x ho b off hx cs d (fun _ hb j v hj => hb.cell (hr j v hj) hO) hu hd hn, h⟩
theorem pt_c {i : Nat} {t : Pt} {a : Act} {w : World} (h : ptStep P O ops Q i (wpPt P O ops Q t) a w) : wpPt P O ops Q (.c i t) a w := h
theorem pt_f {i j : Nat} {t u : Pt} {a : Act} {w : World} (h : ptStep P O ops Q i (wpPt P O ops Q t) a w) (h2 : ptStep P O ops Q j (wpPt P O ops Q u) a w) : wpPt P O ops Q (.f i t j u) a w := ⟨h, h2⟩
theorem pt_put_row {i : Nat} {o : Oper} {R : Act → World → Prop} {a : Act} {w : World} (hi : ops[i]? = some o) (hw : Region.wanted o (yielded ops a.tmps) = true) (ty : TypeId) (x y : Operand) (ho : o.op = .store ty x y)
    (H : Nat) (vs : List Value) {cs : Array Value} {T : TypeId} (hx : a.eval x = .pointer (some ⟨H, 0, none⟩)) (hy : a.eval y = .agg vs.toArray) (hr : RowAt w H cs T) (hl : vs.length = cs.size)
    (hi2 : (P.info? ty).map (·.size) = some vs.length) (h1 : vs.all (·.oneCell') = true) (hO : O H)
    (h : ∀ w', RowAt w' H vs.toArray T → But (· = H) w w' → R (a.put o.dst undef) w') : ptStep P O ops Q i R a w :=
  ⟨o, hi, hw, wp_store_mid ty x y ho H 0 vs.toArray hx hy (hr.there (by simp; omega)) (by simpa using hi2) (by simpa using h1)
    ⟨But.setCells _ _ _ hO, h _ (hr.setAll vs hl) (But.setCells _ _ _ rfl)⟩⟩
theorem pt_done {a : Act} {w : World} (h : Q .normal a w) : wpPt P O ops Q .done a w := h
end
theorem zt {P : Program} {O : Nat → Prop} {ops : Array Oper} {Q : Exit → Act → World → Prop} {i : Nat} {o : Oper} {v : Value} {t : Pt} {a : Act} {w : World} {Z : Prop} (hi : ops[i]? = some o) (hw : Region.wanted o (yielded ops a.tmps) = true) (h : Z)
    (hy : ∀ w', But O w w' → (execOp a.eval o).run P w' = .ok (.value v) w' := by
      intro w' hBw'
      first | (go_simp; done) | (go_simp; with_reducible rfl))
    (hf : Z → wpPt P O ops Q t (a.put o.dst v) w := by
      intro hz
      try simp only [zq]
      exact hz) : wpPt P O ops Q (.q i t) a w := 
  pt_q hi hw hy (hf h)
theorem ztg {P : Program} {O : Nat → Prop} {ops : Array Oper} {Q : Exit → Act → World → Prop} {i : Nat} {o : Oper} {v : Value} {t : Pt} {a : Act} {w : World} {Z : Prop} {p : World → Prop} (hi : ops[i]? = some o) (hw : Region.wanted o (yielded ops a.tmps) = true) (hp : ∀ w', But O w w' → p w') (h : Z)
    (hy : ∀ w', But O w w' → p w' → (execOp a.eval o).run P w' = .ok (.value v) w' := by
      intro w' hBw' qz0
      first | (go_simp; done) | (go_simp; with_reducible rfl))
    (hf : Z → wpPt P O ops Q t (a.put o.dst v) w := by
      intro hz
      try simp only [zq]
      exact hz) : wpPt P O ops Q (.q i t) a w := 
  pt_q hi hw (fun w' b => hy w' b (hp w' b)) (hf h)
theorem zth {P : Program} {O : Nat → Prop} {ops : Array Oper} {Q : Exit → Act → World → Prop} {i : Nat} {o : Oper} {v : Value} {t : Pt} {a : Act} {w : World} {Z : Prop} {p : World → Prop} {q : World → Prop} (hi : ops[i]? = some o) (hw : Region.wanted o (yielded ops a.tmps) = true) (hp : ∀ w', But O w w' → p w') (hq : ∀ w', But O w w' → q w') (h : Z)
    (hy : ∀ w', But O w w' → p w' → q w' → (execOp a.eval o).run P w' = .ok (.value v) w' := by
      intro w' hBw' qz0 qz1
      first | (go_simp; done) | (go_simp; with_reducible rfl))
    (hf : Z → wpPt P O ops Q t (a.put o.dst v) w := by
      intro hz
      try simp only [zq]
      exact hz) : wpPt P O ops Q (.q i t) a w := 
  pt_q hi hw (fun w' b => hy w' b (hp w' b) (hq w' b)) (hf h)
theorem zo {P : Program} {O : Nat → Prop} {ops : Array Oper} {Q : Exit → Act → World → Prop} {i : Nat} {o : Oper} {v : Value} {t : Pt} {a : Act} {w : World} {Z : Prop} {L : Array Oper} (HOP : Hid (L = ops)) (h : Z)
    (hi : L[i]? = some o := by simp only [zs]; rfl)
    (hw : Region.wanted o (yielded L a.tmps) = true := by kernel_rfl)
    (hy : ∀ w', But O w w' → (execOp a.eval o).run P w' = .ok (.value v) w' := by
      intro w' hBw'
      first | (go_simp; done) | (go_simp; with_reducible rfl))
    (hf : Z → wpPt P O ops Q t (a.put o.dst v) w := by
      intro hz
      try simp only [zq]
      exact hz) : wpPt P O ops Q (.q i t) a w := by
  have e : L = ops := HOP; subst e; exact pt_q hi hw hy (hf h)
theorem zog {P : Program} {O : Nat → Prop} {ops : Array Oper} {Q : Exit → Act → World → Prop} {i : Nat} {o : Oper} {v : Value} {t : Pt} {a : Act} {w : World} {Z : Prop} {L : Array Oper} {p : World → Prop} (HOP : Hid (L = ops)) (hp : ∀ w', But O w w' → p w') (h : Z)
    (hi : L[i]? = some o := by simp only [zs]; rfl)
    (hw : Region.wanted o (yielded L a.tmps) = true := by kernel_rfl)
    (hy : ∀ w', But O w w' → p w' → (execOp a.eval o).run P w' = .ok (.value v) w' := by
      intro w' hBw' qz0
      first | (go_simp; done) | (go_simp; with_reducible rfl))
    (hf : Z → wpPt P O ops Q t (a.put o.dst v) w := by
      intro hz
      try simp only [zq]
      exact hz) : wpPt P O ops Q (.q i t) a w := by
  have e : L = ops := HOP; subst e; exact pt_q hi hw (fun w' b => hy w' b (hp w' b)) (hf h)
theorem zoh {P : Program} {O : Nat → Prop} {ops : Array Oper} {Q : Exit → Act → World → Prop} {i : Nat} {o : Oper} {v : Value} {t : Pt} {a : Act} {w : World} {Z : Prop} {L : Array Oper} {p : World → Prop} {q : World → Prop} (HOP : Hid (L = ops)) (hp : ∀ w', But O w w' → p w') (hq : ∀ w', But O w w' → q w') (h : Z)
    (hi : L[i]? = some o := by simp only [zs]; rfl)
    (hw : Region.wanted o (yielded L a.tmps) = true := by kernel_rfl)
    (hy : ∀ w', But O w w' → p w' → q w' → (execOp a.eval o).run P w' = .ok (.value v) w' := by
      intro w' hBw' qz0 qz1
      first | (go_simp; done) | (go_simp; with_reducible rfl))
    (hf : Z → wpPt P O ops Q t (a.put o.dst v) w := by
      intro hz
      try simp only [zq]
      exact hz) : wpPt P O ops Q (.q i t) a w := by
  have e : L = ops := HOP; subst e; exact pt_q hi hw (fun w' b => hy w' b (hp w' b) (hq w' b)) (hf h)
theorem zn {P : Program} {O : Nat → Prop} {ops L : Array Oper} {Q : Exit → Act → World → Prop} {i : Nat} {o : Oper} {t : Pt} {a : Act} {w : World} (HOP : Hid (L = ops)) (h : wpPt P O ops Q t (a.put o.dst undef) w)
    (hi : L[i]? = some o := by simp only [zs]; rfl) (hw : Region.wanted o (yielded L a.tmps) = false := by kernel_rfl) : wpPt P O ops Q (.q i t) a w := by
  have e : L = ops := HOP; subst e; exact pt_no hi hw h
theorem zc {P : Program} {O : Nat → Prop} {ops : Array Oper} {Q : Exit → Act → World → Prop} {i : Nat} {o : Oper} {t : Pt} {a : Act} {w : World} (h : ∀ K : Act → World → Prop, Shut (∀ a' w', But O w w' → wpPt P O ops Q t a' w' → K a' w') → o.wp P a w K Q)
    (hi : ops[i]? = some o := by rfl) (hw : Region.wanted o (yielded ops a.tmps) = true := by rfl) : wpPt P O ops Q (.c i t) a w := pt_c (pt_step hi hw h)
theorem zd {P : Program} {O : Nat → Prop} {ops L : Array Oper} {Q : Exit → Act → World → Prop} {i : Nat} {o : Oper} {t : Pt} {a : Act} {w : World} (HOP : Hid (L = ops)) (h : ∀ K : Act → World → Prop, Shut (∀ a' w', But O w w' → wpPt P O ops Q t a' w' → K a' w') → o.wp P a w K Q)
    (hi : L[i]? = some o := by simp only [zs]; rfl) (hw : Region.wanted o (yielded L a.tmps) = true := by kernel_rfl) : wpPt P O ops Q (.c i t) a w := by
  have e : L = ops := HOP; subst e; exact pt_c (pt_step hi hw h)
end Go.Proofs.YtpkonagjnfphkaaGreatDoor
