/-
  CbH, CbTk, Fast, CbHd: several texts in one (bundle.py).
-/
import Derived.Test.YtpkonagjnfphkaaGreatDoorPmT12
import Derived.Test.YtpkonagjnfphkaaGreatDoorPmT11
import Derived.Test.YtpkonagjnfphkaaGreatDoorPmT02
import Derived.Test.YtpkonagjnfphkaaGreatDoorPmT03
import Derived.Test.YtpkonagjnfphkaaGreatDoorPmT17
import Derived.Test.YtpkonagjnfphkaaGreatDoorPmT04
namespace Go.Proofs.YtpkonagjnfphkaaGreatDoor
open Go.RowKit
set_option linter.unusedSimpArgs false
set_option linter.unusedVariables false
namespace Cb
def markI (n : Int) : Int := if n < 256 then 0 else if n < 65536 then 1 else if n < 4294967296 then 2 else 3
/-- The head of a major and a number. -/
def headB (m n : Int) : List UInt8 := if n < 24 then [UInt8.ofNat (m * 32 + n).toNat] else UInt8.ofNat (m * 32 + 24 + markI n).toNat :: Oct.beB (Oct.leastF n).toNat n
theorem byte_of {x : Int} (h0 : 0 ≤ x) (h1 : x ≤ 255) : by8 [UInt8.ofNat x.toNat] = [.int .u8 x] := by
  simp only [by8, List.map_cons, List.map_nil, List.cons.injEq, Value.int.injEq, and_true, true_and]
  rw [UInt8.toNat_ofNat']; omega
theorem mark_b (n : Int) : 0 ≤ markI n ∧ markI n ≤ 3 := by
  unfold markI
  repeat' split
  all_goals omega
theorem mark_idx (n : Int) : idx (fun y => Oct.leastF n == y) [1, 2, 4, 8] = markI n := by
  unfold Oct.leastF markI
  repeat' split
  all_goals rfl
theorem least_fits {n : Int} (h1 : n ≤ 18446744073709551615) : Oct.putB n (Oct.leastF n) = Oct.beB (Oct.leastF n).toNat n := by
  unfold Oct.putB
  have hf : Oct.fitsB (Oct.leastF n) n = true := by
    unfold Oct.leastF
    repeat' split
    all_goals (simp [Oct.fitsB]; omega)
  rw [Oct.leastF_ok, hf]; rfl
theorem headB_small {m n : Int} (h : n < 24) : headB m n = [UInt8.ofNat (m * 32 + n).toNat] := if_pos h
theorem headB_big {m n : Int} (h : ¬ n < 24) : headB m n = UInt8.ofNat (m * 32 + 24 + markI n).toNat :: Oct.beB (Oct.leastF n).toNat n := if_neg h
theorem least_nat (n : Int) : (Oct.leastF n).toNat ≤ 8 ∧ 1 ≤ (Oct.leastF n).toNat := by
  unfold Oct.leastF
  repeat' split
  all_goals decide
theorem headB_len (m n : Int) : 1 ≤ (headB m n).length ∧ (headB m n).length ≤ 9 := by
  unfold headB
  split
  · simp
  · have := least_nat n
    simp [Oct.beB_len]; omega
end Cb
open Cb
/-- Two slices of bytes in a block of one's own. -/
theorem slB2 {w : World} {T : TypeId} {u v : Value} {l m : List UInt8} (hu : Sl w 1 u l.length (by8 l)) (hv : Sl w 1 v m.length (by8 m)) (h1 : u.oneCell' = true) (h2 : v.oneCell' = true) (k : Nat) (hk : k = w.heap.size) :
    SlB (w.alloc (.cells #[u, v] T)) (.slice (some ⟨k, 0, none⟩) 2 2) 2 [u, v] [l, m] := by
  subst hk
  have hb := below_alloc w (.cells #[u, v] T)
  refine ⟨⟨rfl, .inr ⟨w.heap.size, 0, 2, rfl, by decide, by decide, fun j x hj => ?_⟩⟩, rfl, fun i x y h1 h2 => ?_⟩
  · exact (RowAt.new w #[u, v] T).cell (i := 0 + j) (by simpa using hj)
  · match i, h1, h2 with
    | 0, h1, h2 => simp at h1 h2; subst h1 h2; exact hu.up hb
    | 1, h1, h2 => simp at h1 h2; subst h1 h2; exact hv.up hb
    | i + 2, h1, _ => simp at h1
set_option maxHeartbeats 2000000 in
set_option maxRecDepth 100000 in
theorem head_c (m n : Int) (w : World) (hm0 : 0 ≤ m) (hm : m ≤ 7) (h0 : 0 ≤ n) (h1 : n ≤ 18446744073709551615) :
    Calls Tryz.prog 164 #[.int .i64 m, .int .u64 n] w fun en w' => ∃ v, en = .returned v ∧ w'.ownsRow w.heap.size 5 1 v (headB m n).length (by8 (headB m n)) ∧ Below w.heap.size w w' := by
  by_cases hn : n < 24
  · have hd : decide (n < 24) = true := decide_eq_true hn
    go_enter Tryz.func164, Tryz.ntmps164
    go_wp2
    go_ret
    rw [headB_small hn]
    refine ⟨_, rfl, ?_, below_alloc _ _⟩
    rw [byte_of (by omega) (by omega)]
    exact World.ownsRow_lit w #[.int .u8 (m * 32 + n)] 1 (size := 1) (e := 5) (Nat.le_refl _) (by decide) rfl
  · have hd : decide (n < 24) = false := decide_eq_false hn
    have hmk := mark_b n
    have hp := fun w => put_c n (Oct.leastF n) w h0 h1
    have hl := fun w => least_c n w h0 h1
    have hpE : Oct.putE n (Oct.leastF n) = 0 := by
      unfold Oct.putE
      have hf : Oct.fitsB (Oct.leastF n) n = true := by
        unfold Oct.leastF
        repeat' split
        all_goals (simp [Oct.fitsB]; omega)
      rw [Oct.leastF_ok, hf]; rfl
    rw [least_fits h1, hpE] at hp
    have hi := fun w v (hv : Sl w 1 v 4 ([1, 2, 4, 8].map (Value.int .i64))) => indexI_c [1, 2, 4, 8] v 4 (Oct.leastF n) w hv (by omega)
    rw [mark_idx] at hi
    have HX := Lib.hid (headB_big (m := m) hn)
    have hln := least_nat n
    obtain ⟨bs, hbs⟩ : ∃ bs, Oct.beB (Oct.leastF n).toNat n = bs := ⟨_, rfl⟩
    have hbl : bs.length ≤ 8 := by rw [← hbs, Oct.beB_len]; exact hln.1
    rw [hbs] at hp HX
    obtain ⟨W, hW⟩ : ∃ W, Oct.leastF n = W := ⟨_, rfl⟩
    rw [hW] at hp hl hi
    obtain ⟨mk, hmk'⟩ : ∃ mk, markI n = mk := ⟨_, rfl⟩
    rw [hmk'] at hmk hi HX
    obtain ⟨hmk0, hmk3⟩ := hmk
    have HP := Lib.hid hp
    have HL := Lib.hid hl
    have HI := Lib.hid hi
    have HBL := Lib.hid hbl
    clear hp hl hi hpE hbs hW hmk' hln hbl
    go_enter Tryz.func164, Tryz.ntmps164
    go_wp2_with (first
      | (go_at_call 179; refine (HL.out _).mono ?_; rintro en w1 ⟨rfl, hb1⟩)
      | (go_at_call 93; go_loud (refine (HP.out _).mono ?_; rintro en w2 ⟨v2, rfl, ho2, hb2⟩; obtain ⟨a2, c2, rfl⟩ := own_slice ho2))
      | (go_at_call 161; go_loud (refine (HI.out _ _ (sl4 w2 _ rfl _)).mono ?_; rintro en w3 ⟨rfl, rfl⟩)))
    have hbB := below_up hb1 hb2
    obtain ⟨w3, hw3⟩ : ∃ w3, w2.alloc (.cells #[.int .i64 1, .int .i64 2, .int .i64 4, .int .i64 8] 3) = w3 := ⟨_, rfl⟩
    have hb3 : Below w2.heap.size w2 w3 := by rw [← hw3]; exact below_alloc _ _
    have hz3 : w3.heap.size = w2.heap.size + 1 := by rw [← hw3]; simp
    have hu : Sl (w3.alloc (.cells #[.int .u8 (m * 32 + 24 + mk)] 5)) 1 (.slice (some ⟨w3.heap.size, 0, none⟩) 1 1) [UInt8.ofNat (m * 32 + 24 + mk).toNat].length (by8 [UInt8.ofNat (m * 32 + 24 + mk).toNat]) := by
      rw [byte_of (by omega) (by omega)]; exact sl1 w3 _ rfl _ _
    have hv : Sl (w3.alloc (.cells #[.int .u8 (m * 32 + 24 + mk)] 5)) 1 (.slice a2 bs.length c2) bs.length (by8 bs) := ((Sl.of_own ho2).up hb3).up (below_alloc _ _)
    have hz4 : (w3.alloc (.cells #[.int .u8 (m * 32 + 24 + mk)] 5)).heap.size = w3.heap.size + 1 := by simp
    have hS := slB2 (T := 48) hu hv rfl rfl (w3.heap.size + 1) hz4.symm
    have hbE : Below w.heap.size w ((w3.alloc (.cells #[.int .u8 (m * 32 + 24 + mk)] 5)).alloc (.cells #[.slice (some ⟨w3.heap.size, 0, none⟩) 1 1, .slice a2 bs.length c2] 48)) := below_up (below_up (below_up hbB hb3) (below_alloc _ _)) (below_alloc _ _)
    rw [hz3] at hS hbE
    have hj := join_c _ _ _ _ _ hS (by omega) (by have := HBL.out; simp; omega)
    rw [show [[UInt8.ofNat (m * 32 + 24 + mk).toNat], bs].flatten = headB m n by rw [HX.out]; simp, ← hw3] at hj
    refine hj.mono ?_
    rintro en w6 ⟨v6, rfl, ho6, hb6⟩
    rw [← hw3] at hbE
    go_wp2
    go_ret
    exact ⟨_, rfl, own_down ho6 hbE.size, below_up hbE hb6⟩
set_option maxHeartbeats 4000000 in
set_option maxRecDepth 100000 in
theorem headR_c (m n : Int) (w : World) (hm0 : 0 ≤ m) (hm : m ≤ 7) (h0 : 0 ≤ n) (h1 : n ≤ 18446744073709551615) :
    Calls Tryz.prog 67 #[.int .i64 m, .int .u64 n] w fun en w' => ∃ v, en = .returned v ∧ w'.ownsRow w.heap.size 5 1 v (headB m n).length (by8 (headB m n)) ∧ Below w.heap.size w w' := by
  by_cases hn : n < 24
  · have hd : decide (n < 24) = true := decide_eq_true hn
    go_enter Tryz.func67, Tryz.ntmps67
    go_wp2
    go_ret
    rw [headB_small hn]
    refine ⟨_, rfl, ?_, below_alloc _ _⟩
    rw [byte_of (by omega) (by omega)]
    first
      | exact World.ownsRow_lit w #[.int .u8 (m * 32 + n)] 1 (size := 1) (e := 5) (Nat.le_refl _) (by decide) rfl
      | (rw [Int.mul_comm m 32]; exact World.ownsRow_lit w #[.int .u8 (32 * m + n)] 1 (size := 1) (e := 5) (Nat.le_refl _) (by decide) rfl)
  · have hd : decide (n < 24) = false := decide_eq_false hn
    have hp := fun w => putR_c n (Oct.leastF n) w h0 h1
    have hl := fun w => leastR_c n w h0 h1
    have hpE : Oct.putE n (Oct.leastF n) = 0 := by
      unfold Oct.putE
      have hf : Oct.fitsB (Oct.leastF n) n = true := by
        unfold Oct.leastF
        repeat' split
        all_goals (simp [Oct.fitsB]; omega)
      rw [Oct.leastF_ok, hf]; rfl
    rw [least_fits h1, hpE] at hp
    have HX := Lib.hid (headB_big (m := m) hn)
    have hln := least_nat n
    have hW4 : (Oct.leastF n = 1 ∧ markI n = 0) ∨ (Oct.leastF n = 2 ∧ markI n = 1) ∨ (Oct.leastF n = 4 ∧ markI n = 2) ∨ (Oct.leastF n = 8 ∧ markI n = 3) := by
      unfold Oct.leastF markI
      repeat' split
      all_goals simp
    obtain ⟨bs, hbs⟩ : ∃ bs, Oct.beB (Oct.leastF n).toNat n = bs := ⟨_, rfl⟩
    have hbl : bs.length ≤ 8 := by rw [← hbs, Oct.beB_len]; exact hln.1
    rw [hbs] at hp HX
    obtain ⟨W, hW⟩ : ∃ W, Oct.leastF n = W := ⟨_, rfl⟩
    rw [hW] at hp hl hW4
    obtain ⟨mk, hmk'⟩ : ∃ mk, markI n = mk := ⟨_, rfl⟩
    rw [hmk'] at hW4 HX
    have HP := Lib.hid hp
    have HL := Lib.hid hl
    have HBL := Lib.hid hbl
    clear hp hl hpE hbs hW hmk' hln hbl
    rcases hW4 with ⟨rfl, rfl⟩ | ⟨rfl, rfl⟩ | ⟨rfl, rfl⟩ | ⟨rfl, rfl⟩
    · have HX2 := Lib.hid (show headB m n = UInt8.ofNat (32 * m + 24).toNat :: bs by rw [HX.out]; congr 2; omega)
      have hby : by8 [UInt8.ofNat (32 * m + 24).toNat] = [.int .u8 (32 * m + 24)] := byte_of (by omega) (by omega)
      have HBY := Lib.hid hby
      clear hby
      have hbl := HBL.out
      go_enter Tryz.func67, Tryz.ntmps67
      go_wp2_with (first
        | (go_at_call 110; refine (HL.out _).mono ?_; rintro en w1 ⟨rfl, hb1⟩)
        | (go_at_call 104; refine (HP.out _).mono ?_; rintro en w2 ⟨v2, rfl, ho2, hb2⟩; obtain ⟨a2, c2, rfl⟩ := own_slice ho2; have hbB := below_up hb1 hb2; have hsB := hbB.size; have ho3 : (w2.alloc (.cells #[.int .u8 (32 * m + 24)] 5)).ownsRow w.heap.size 5 1 (.slice (some ⟨w2.heap.size, 0, none⟩) 1 1) 1 [.int .u8 (32 * m + 24)] := own_down (World.ownsRow_lit w2 #[.int .u8 (32 * m + 24)] 1 (size := 1) (e := 5) (Nat.le_refl _) (by decide) rfl) hsB; have hs3 := (Sl.of_own ho2).up (below_alloc w2 (.cells #[.int .u8 (32 * m + 24)] 5)); have hbC := below_up hbB (below_alloc w2 (.cells #[.int .u8 (32 * m + 24)] 5))))
      refine wp_loop_rounds 4 ?_
      repeat (rw [rounds_succ]; go_wp2_with (at_builtin; refine wpList_app rfl (.tmp 39) (.tmp 40) 48 rfl slT_u8 w.heap.size rfl ho3 rfl hs3 (one_by8 bs) (by simp [maxLen]; omega) (by omega) (by simp; omega) ?_; intro v3 w3 ho4 hg3 _))
      go_ret
      refine ⟨v3, rfl, ?_, grown_below hbC hg3 (fun k hk => (own_of_some ho3 hk).1)⟩
      rw [HX2.out, show by8 (UInt8.ofNat (32 * m + 24).toNat :: bs) = by8 [UInt8.ofNat (32 * m + 24).toNat] ++ by8 bs from rfl, HBY.out, List.length_cons, Nat.add_comm bs.length 1]
      exact ho4
    · have HX2 := Lib.hid (show headB m n = UInt8.ofNat (32 * m + 25).toNat :: bs by rw [HX.out]; congr 2; omega)
      have hby : by8 [UInt8.ofNat (32 * m + 25).toNat] = [.int .u8 (32 * m + 25)] := byte_of (by omega) (by omega)
      have HBY := Lib.hid hby
      clear hby
      have hbl := HBL.out
      go_enter Tryz.func67, Tryz.ntmps67
      go_wp2_with (first
        | (go_at_call 110; refine (HL.out _).mono ?_; rintro en w1 ⟨rfl, hb1⟩)
        | (go_at_call 104; refine (HP.out _).mono ?_; rintro en w2 ⟨v2, rfl, ho2, hb2⟩; obtain ⟨a2, c2, rfl⟩ := own_slice ho2; have hbB := below_up hb1 hb2; have hsB := hbB.size; have ho3 : (w2.alloc (.cells #[.int .u8 (32 * m + 25)] 5)).ownsRow w.heap.size 5 1 (.slice (some ⟨w2.heap.size, 0, none⟩) 1 1) 1 [.int .u8 (32 * m + 25)] := own_down (World.ownsRow_lit w2 #[.int .u8 (32 * m + 25)] 1 (size := 1) (e := 5) (Nat.le_refl _) (by decide) rfl) hsB; have hs3 := (Sl.of_own ho2).up (below_alloc w2 (.cells #[.int .u8 (32 * m + 25)] 5)); have hbC := below_up hbB (below_alloc w2 (.cells #[.int .u8 (32 * m + 25)] 5))))
      refine wp_loop_rounds 4 ?_
      repeat (rw [rounds_succ]; go_wp2_with (at_builtin; refine wpList_app rfl (.tmp 39) (.tmp 40) 48 rfl slT_u8 w.heap.size rfl ho3 rfl hs3 (one_by8 bs) (by simp [maxLen]; omega) (by omega) (by simp; omega) ?_; intro v3 w3 ho4 hg3 _))
      go_ret
      refine ⟨v3, rfl, ?_, grown_below hbC hg3 (fun k hk => (own_of_some ho3 hk).1)⟩
      rw [HX2.out, show by8 (UInt8.ofNat (32 * m + 25).toNat :: bs) = by8 [UInt8.ofNat (32 * m + 25).toNat] ++ by8 bs from rfl, HBY.out, List.length_cons, Nat.add_comm bs.length 1]
      exact ho4
    · have HX2 := Lib.hid (show headB m n = UInt8.ofNat (32 * m + 26).toNat :: bs by rw [HX.out]; congr 2; omega)
      have hby : by8 [UInt8.ofNat (32 * m + 26).toNat] = [.int .u8 (32 * m + 26)] := byte_of (by omega) (by omega)
      have HBY := Lib.hid hby
      clear hby
      have hbl := HBL.out
      go_enter Tryz.func67, Tryz.ntmps67
      go_wp2_with (first
        | (go_at_call 110; refine (HL.out _).mono ?_; rintro en w1 ⟨rfl, hb1⟩)
        | (go_at_call 104; refine (HP.out _).mono ?_; rintro en w2 ⟨v2, rfl, ho2, hb2⟩; obtain ⟨a2, c2, rfl⟩ := own_slice ho2; have hbB := below_up hb1 hb2; have hsB := hbB.size; have ho3 : (w2.alloc (.cells #[.int .u8 (32 * m + 26)] 5)).ownsRow w.heap.size 5 1 (.slice (some ⟨w2.heap.size, 0, none⟩) 1 1) 1 [.int .u8 (32 * m + 26)] := own_down (World.ownsRow_lit w2 #[.int .u8 (32 * m + 26)] 1 (size := 1) (e := 5) (Nat.le_refl _) (by decide) rfl) hsB; have hs3 := (Sl.of_own ho2).up (below_alloc w2 (.cells #[.int .u8 (32 * m + 26)] 5)); have hbC := below_up hbB (below_alloc w2 (.cells #[.int .u8 (32 * m + 26)] 5))))
      refine wp_loop_rounds 4 ?_
      repeat (rw [rounds_succ]; go_wp2_with (at_builtin; refine wpList_app rfl (.tmp 39) (.tmp 40) 48 rfl slT_u8 w.heap.size rfl ho3 rfl hs3 (one_by8 bs) (by simp [maxLen]; omega) (by omega) (by simp; omega) ?_; intro v3 w3 ho4 hg3 _))
      go_ret
      refine ⟨v3, rfl, ?_, grown_below hbC hg3 (fun k hk => (own_of_some ho3 hk).1)⟩
      rw [HX2.out, show by8 (UInt8.ofNat (32 * m + 26).toNat :: bs) = by8 [UInt8.ofNat (32 * m + 26).toNat] ++ by8 bs from rfl, HBY.out, List.length_cons, Nat.add_comm bs.length 1]
      exact ho4
    · have HX2 := Lib.hid (show headB m n = UInt8.ofNat (32 * m + 27).toNat :: bs by rw [HX.out]; congr 2; omega)
      have hby : by8 [UInt8.ofNat (32 * m + 27).toNat] = [.int .u8 (32 * m + 27)] := byte_of (by omega) (by omega)
      have HBY := Lib.hid hby
      clear hby
      have hbl := HBL.out
      go_enter Tryz.func67, Tryz.ntmps67
      go_wp2_with (first
        | (go_at_call 110; refine (HL.out _).mono ?_; rintro en w1 ⟨rfl, hb1⟩)
        | (go_at_call 104; refine (HP.out _).mono ?_; rintro en w2 ⟨v2, rfl, ho2, hb2⟩; obtain ⟨a2, c2, rfl⟩ := own_slice ho2; have hbB := below_up hb1 hb2; have hsB := hbB.size; have ho3 : (w2.alloc (.cells #[.int .u8 (32 * m + 27)] 5)).ownsRow w.heap.size 5 1 (.slice (some ⟨w2.heap.size, 0, none⟩) 1 1) 1 [.int .u8 (32 * m + 27)] := own_down (World.ownsRow_lit w2 #[.int .u8 (32 * m + 27)] 1 (size := 1) (e := 5) (Nat.le_refl _) (by decide) rfl) hsB; have hs3 := (Sl.of_own ho2).up (below_alloc w2 (.cells #[.int .u8 (32 * m + 27)] 5)); have hbC := below_up hbB (below_alloc w2 (.cells #[.int .u8 (32 * m + 27)] 5))))
      refine wp_loop_rounds 4 ?_
      repeat (rw [rounds_succ]; go_wp2_with (at_builtin; refine wpList_app rfl (.tmp 39) (.tmp 40) 48 rfl slT_u8 w.heap.size rfl ho3 rfl hs3 (one_by8 bs) (by simp [maxLen]; omega) (by omega) (by simp; omega) ?_; intro v3 w3 ho4 hg3 _))
      go_ret
      refine ⟨v3, rfl, ?_, grown_below hbC hg3 (fun k hk => (own_of_some ho3 hk).1)⟩
      rw [HX2.out, show by8 (UInt8.ofNat (32 * m + 27).toNat :: bs) = by8 [UInt8.ofNat (32 * m + 27).toNat] ++ by8 bs from rfl, HBY.out, List.length_cons, Nat.add_comm bs.length 1]
      exact ho4
end Go.Proofs.YtpkonagjnfphkaaGreatDoor

namespace Go.Proofs.YtpkonagjnfphkaaGreatDoor
open Go.RowKit Cb
set_option linter.unusedSimpArgs false
set_option linter.unusedVariables false
theorem slT_left : SlT Tryz.prog 161 5 1 1 := SlT.mk' Tryz.underlying161 (z := .int .u8 0) (by kernel_rfl) rfl (by decide)
set_option maxRecDepth 100000 in
theorem cloneLeft_c (l : List UInt8) (v : Value) (n : Nat) (w : World) (hv : Sl w 1 v n (by8 l)) (hn : n ≤ 140737488351233) :
    Calls Tryz.prog 162 #[v] w fun e w' => ∃ v', e = .returned v' ∧ w'.ownsRow w.heap.size 5 1 v' n (by8 l) ∧ Below w.heap.size w w' := by
  obtain ⟨a, c, rfl⟩ := hv.len
  have hnil := fun w a => Lib.run_eql_slice_nil (P := Tryz.prog) w 161 _ a n c 0 0 Tryz.underlying161
  cases a with
  | none =>
    have h0 : n = 0 ∧ l = [] := by
      rcases hv.2 with ⟨_, _, _, h⟩ | ⟨b, off, cap, e, _⟩
      · have := hv.n_len; exact ⟨h, List.eq_nil_of_length_eq_zero (by omega)⟩
      · simp at e
    obtain ⟨rfl, rfl⟩ := h0
    go_enter Tryz.func162, Tryz.ntmps162
    go_wp2
    go_ret
    exact ⟨_, rfl, World.ownsRow_nil _ _ _ _, Below.refl _ _⟩
  | some a =>
    go_enter Tryz.func162, Tryz.ntmps162
    go_wp2_with (at_builtin; refine wpList_app rfl _ _ 161 rfl slT_left w.heap.size rfl (World.ownsRow_lit w #[] 0 (Nat.le_refl _) (by decide) rfl) rfl (hv.up (below_alloc _ _)) (one_by8 _) (by simp [maxLen]; omega) (by omega) (by simp) ?_; intro v' w1 hown hgrow _)
    go_ret
    exact ⟨v', rfl, by simpa using hown, grown_below (below_alloc _ _) hgrow (fun k hk => by have : w.heap.size = k := Option.some.inj hk; omega)⟩
/-- What is behind a place of a slice: it lies in the slice's own block. -/
theorem cut_lb {P : Program} {t e : TypeId} {sz bytes : Nat} (T : SlT P t e sz bytes) {w : World} {a : Option Addr} {n c : Nat} {cs : List Value} (h : Sl w sz (.slice a n c) n cs) (lo : Nat) (h1 : lo ≤ n) :
    ∃ a', (∀ (kl : IntKind) (w' : World), (Instr.slice t (.slice a n c) (some (.int kl (lo : Int))) none none).run P w' = .ok (.slice a' (n - lo) (c - lo)) w') ∧ Sl w sz (.slice a' (n - lo) (c - lo)) (n - lo) (cs.drop (lo * sz)) ∧
      ∀ k, (Value.slice a' (n - lo) (c - lo)).ownBlock = some k → (Value.slice a n c).ownBlock = some k := by
  have hc : n ≤ c := by
    rcases h.n_le with h | h
    · exact h
    · omega
  have := h.cut (lo := lo) (hi := n) (mx := c) h1 (Nat.le_refl _) hc (Nat.le_refl _)
  rw [List.take_of_length_le (by rw [List.length_drop, h.1, Nat.sub_mul]; exact Nat.le_refl _)] at this
  refine ⟨if c = lo then a else a.map (fun x : Addr => x.add (lo * sz)), fun kl w' => run_cut_l T a n c lo kl h1 w', this, fun k hk => ?_⟩
  cases a with
  | none => split at hk <;> exact hk
  | some a =>
    by_cases hz : c = lo
    · rw [if_pos hz] at hk; exact hk
    · rw [if_neg hz] at hk
      simp only [Option.map_some, Value.ownBlock, Option.some.injEq] at hk ⊢
      rw [← hk]
      unfold Addr.add
      split <;> rfl
/-- A reader at D: what is left to read. -/
structure RdAt (w : World) (D : Nat) (v : Value) (b : List UInt8) : Prop where
  box : RowAt w D #[v] 163
  sl : Sl w 1 v b.length (by8 b)
  far : b.length = 0 ∨ ∀ k, v.ownBlock = some k → k < D
theorem RdAt.up {w w' : World} {D : Nat} {v : Value} {b : List UInt8} (h : RdAt w D v b) (hb : Below w.heap.size w w') : RdAt w' D v b := ⟨h.box.below hb, h.sl.up hb, h.far⟩
set_option maxHeartbeats 1000000 in
set_option maxRecDepth 100000 in
theorem take_yes (w : World) (D : Nat) (v : Value) (b : List UInt8) (n : Nat) (h : RdAt w D v b) (hn : n ≤ b.length) (hbl : b.length ≤ 1000000) :
    Calls Tryz.prog 145 #[.pointer (some ⟨D, 0, none⟩), .int .u64 n] w fun en w' => ∃ u v', en = .returned u ∧ w'.ownsRow w.heap.size 5 1 u n (by8 (b.take n)) ∧ RdAt w' D v' (b.drop n) ∧ But (fun k => k = D) w w' := by
  obtain ⟨a, c, rfl⟩ := h.sl.len
  have c0 := h.box.cell (i := 0) (v := .slice a b.length c) rfl
  have hd : decide ((n : Int) ≤ (b.length : Int)) = true := decide_eq_true (by omega)
  obtain ⟨a1, hr1, hs1⟩ := cut_h slT_left h.sl n hn
  obtain ⟨a2, hr2, hs2, hk2⟩ := cut_lb slT_left h.sl n hn
  rw [Nat.mul_one, ← by8_take] at hs1
  rw [Nat.mul_one, ← by8_drop] at hs2
  have hbox := h.box
  have hfar := h.far
  have hdl : (b.drop n).length = b.length - n := List.length_drop
  clear h
  generalize hB : b.length = B at *
  go_enter Tryz.func145, Tryz.ntmps145
  go_wp2_with (first
    | (go_at_call 125; with_reducible refine (must_yes _ _).mono ?_; rintro en w1 ⟨rfl, rfl⟩)
    | (go_at_call 162; refine (cloneLeft_c (b.take n) _ n _ hs1 (by omega)).mono ?_; rintro en w1 ⟨u, rfl, ho, hb⟩; obtain ⟨au, cu, rfl⟩ := own_slice ho; have z0 := hbox.below hb; have c1 := z0.cell (i := 0) rfl; have f1 := z0.fz 0))
  go_ret
  have hDw := hbox.lt
  have s1 : But (fun k => k = D) w1 (w1.setCell ⟨D, 0, none⟩ (.slice a2 (B - n) (c - n))) := But.setCell _ _ _ (.inl rfl)
  have hfar2 : B - n = 0 ∨ ∀ k, (Value.slice a2 (B - n) (c - n)).ownBlock = some k → k < D := by
    rcases hfar with h | h
    · exact .inl (by omega)
    · exact .inr fun k hk => h k (hk2 k hk)
  refine ⟨_, .slice a2 (B - n) (c - n), rfl, own_but ho s1 (fun k hk e => by have := (own_of_some ho hk).1; omega), ⟨z0.set 0 _, ?_, by rw [hdl]; exact hfar2⟩, (But.of_below hb).trans s1⟩
  rw [hdl]
  exact (hs2.up hb).but s1 (hfar2.imp id fun h k hk => Nat.ne_of_lt (h k hk))
set_option maxRecDepth 100000 in
theorem take_no (w : World) (D : Nat) (v : Value) (b : List UInt8) (n : Int) (h : RdAt w D v b) (hn : (b.length : Int) < n) (hbl : b.length ≤ 1000000) :
    Calls Tryz.prog 145 #[.pointer (some ⟨D, 0, none⟩), .int .u64 n] w fun en w' => en = .panicked (gup 121) ∧ w = w' := by
  obtain ⟨a, c, rfl⟩ := h.sl.len
  have c0 := h.box.cell (i := 0) (v := .slice a b.length c) rfl
  have hd : decide (n ≤ (b.length : Int)) = false := decide_eq_false (by omega)
  clear h
  generalize hB : b.length = B at *
  go_enter Tryz.func145, Tryz.ntmps145
  go_wp2_with (go_at_call 125; with_reducible refine (must_no _ _).mono ?_; rintro en w1 ⟨rfl, rfl⟩)
  exact ⟨rfl, rfl, rfl⟩
end Go.Proofs.YtpkonagjnfphkaaGreatDoor

namespace Go.Proofs.YtpkonagjnfphkaaGreatDoor
open Go.RowKit
set_option linter.unusedSimpArgs false
set_option linter.unusedVariables false

section
variable {md : Region.Mode} {ops : Array Oper}

/-- On which an operation waits, as bits. -/
def maskOf (md : Region.Mode) (l : List Edge) : Nat := l.foldr (fun e m => if Region.binds md e then m ||| (1 <<< e.on) else m) 0
theorem maskOf_bit (l : List Edge) (k : Nat) : (maskOf md l).testBit k = l.any (fun e => Region.binds md e && e.on == k) := by
  induction l with
  | nil => simp [maskOf]
  | cons e r ih =>
    rw [maskOf, List.foldr_cons, List.any_cons]
    rw [maskOf] at ih
    by_cases hb : Region.binds md e = true
    · rw [if_pos hb, Nat.testBit_or, ih, hb, Bool.true_and, Bool.or_comm, Nat.one_shiftLeft, Nat.testBit_two_pow]
      congr 1
    · rw [if_neg hb, ih]
      simp [hb]
/-- All masks in one number, w bits each. -/
def masksN (md : Region.Mode) (w : Nat) (l : List Oper) : Nat := l.foldr (fun o m => (m <<< w) + maskOf md o.after.toList % 2 ^ w) 0
def maskAt (w M i : Nat) : Nat := (M >>> (w * i)) % 2 ^ w
theorem maskAt_spec (w : Nat) : ∀ (l : List Oper) (i : Nat) (hi : i < l.length), maskAt w (masksN md w l) i = maskOf md l[i].after.toList % 2 ^ w
  | [], i, hi => by simp at hi
  | o :: r, 0, _ => by
    simp only [maskAt, masksN, List.foldr_cons, Nat.mul_zero, Nat.shiftRight_zero, List.getElem_cons_zero]
    rw [Nat.shiftLeft_eq, Nat.add_mod, Nat.mul_mod_left, Nat.zero_add, Nat.mod_mod, Nat.mod_mod]
  | o :: r, i + 1, hi => by
    have ih := maskAt_spec w r i (by simpa using hi)
    simp only [maskAt, List.getElem_cons_succ] at ih ⊢
    rw [← ih]
    simp only [masksN, List.foldr_cons]
    rw [Nat.mul_add, Nat.mul_one, Nat.add_comm (w * i) w, Nat.shiftRight_add]
    congr 2
    rw [Nat.shiftRight_eq_div_pow, Nat.shiftLeft_eq, Nat.add_comm, Nat.add_mul_div_right _ _ (Nat.two_pow_pos w), Nat.div_eq_of_lt (Nat.mod_lt _ (Nat.two_pow_pos w)), Nat.zero_add]

structure Rep (listed : Array Bool) (n m : Nat) : Prop where
  size : listed.size = n
  bit : ∀ j, j < n → listed.getD j false = m.testBit j
theorem Rep.getT {listed : Array Bool} {n m : Nat} (h : Rep listed n m) {j : Nat} (hj : j < n) (d : Bool) : listed.getD j d = m.testBit j := by
  rw [← h.bit j hj]
  simp [Array.getD, h.size, hj]
theorem Rep.start (n : Nat) : Rep (Array.replicate n false) n 0 := ⟨by simp, fun j hj => by simp [Array.getD, hj]⟩
theorem Rep.set {listed : Array Bool} {n m : Nat} (h : Rep listed n m) (i : Nat) : Rep (listed.setIfInBounds i true) n (m ||| (1 <<< i)) := by
  refine ⟨by simp [h.size], fun j hj => ?_⟩
  rw [Nat.testBit_or, Nat.one_shiftLeft, Nat.testBit_two_pow]
  by_cases hij : i = j
  · subst hij
    simp [Array.getD, h.size, hj]
  · rw [getD_set_ne false hij, h.bit j hj]
    simp [hij]

/-- The masks are right. -/
structure Msk (md : Region.Mode) (ops : Array Oper) (n M : Nat) : Prop where
  size : ops.size = n
  at_ : ∀ i (hi : i < ops.size) k, k < n → (maskAt n M i).testBit k = ops[i].after.any (fun e => Region.binds md e && e.on == k)
  low : ∀ i (hi : i < ops.size), ∀ e ∈ ops[i].after, Region.binds md e = true → e.on < n
def rdyF (n M m i : Nat) : Bool := !m.testBit i && (maskAt n M i &&& m == maskAt n M i)
theorem rdy_iff {listed : Array Bool} {n M m i : Nat} (hM : Msk md ops n M) (h : Rep listed n m) (hi : i < n) : rdyF n M m i = true ↔ i ∈ Region.ready md ops listed := by
  have hio : i < ops.size := by rw [hM.size]; exact hi
  rw [mem_ready, h.getT hi]
  simp only [rdyF, Bool.and_eq_true, Bool.not_eq_true', beq_iff_eq]
  constructor
  · rintro ⟨h0, h1⟩
    refine ⟨h0, ops[i], Array.getElem?_eq_getElem hio, fun e he hb => ?_⟩
    have hlt := hM.low i hio e he hb
    rw [h.getT hlt]
    have hb1 : (maskAt n M i).testBit e.on = true := by
      rw [hM.at_ i hio e.on hlt, Array.any_eq_true']
      exact ⟨e, he, by simp [hb]⟩
    rw [← h1, Nat.testBit_and] at hb1
    exact (Bool.and_eq_true_iff.1 hb1).2
  · rintro ⟨h0, o, ho, h1⟩
    refine ⟨h0, Nat.eq_of_testBit_eq fun k => ?_⟩
    obtain rfl : ops[i] = o := by rw [Array.getElem?_eq_getElem hio] at ho; exact Option.some.inj ho
    rw [Nat.testBit_and]
    by_cases hk : k < n
    · cases hq : (maskAt n M i).testBit k with
      | false => rfl
      | true =>
        rw [hM.at_ i hio k hk, Array.any_eq_true'] at hq
        obtain ⟨e, he, hb⟩ := hq
        simp only [Bool.and_eq_true, beq_iff_eq] at hb
        have := h1 e he hb.1
        rw [hb.2, h.bit k hk] at this
        rw [this]; rfl
    · have : (maskAt n M i).testBit k = false := by
        unfold maskAt
        rw [Nat.testBit_mod_two_pow]
        simp [hk]
      rw [this]; rfl
theorem only_ready {listed : Array Bool} {n M m i : Nat} (hM : Msk md ops n M) (h : Rep listed n m) (hi : i < n) (h1 : rdyF n M m i = true) (h2 : ∀ j, j < n → j ≠ i → rdyF n M m j = false) : Region.ready md ops listed = [i] := by
  have hnd : (Region.ready md ops listed).Nodup := List.Pairwise.sublist List.filter_sublist List.nodup_range
  have hm := (rdy_iff hM h hi).1 h1
  have hall : ∀ j ∈ Region.ready md ops listed, j = i := fun j hj => by
    have hjn : j < n := by
      unfold Region.ready at hj
      rw [List.mem_filter, List.mem_range, hM.size] at hj
      exact hj.1
    exact Decidable.byContradiction fun hne => by
      have := h2 j hjn hne
      rw [(rdy_iff hM h hjn).2 hj] at this
      cases this
  generalize Region.ready md ops listed = l at *
  cases l with
  | nil => cases hm
  | cons a r =>
    obtain rfl := hall a (by simp)
    cases r with
    | nil => rfl
    | cons b r =>
      have hb := hall b (by simp)
      subst hb
      simp at hnd
/-- No two write one slot; who looks at what another one writes waits for it, or is waited for. -/
def ssaF (n M : Nat) (ops : Array Oper) : Bool :=
  (List.range n).all fun p => match (ops[p]?).bind (·.dst) with
    | none => true
    | some d => (List.range n).all fun j => j == p || (match ops[j]? with
      | none => true
      | some o => o.dst != some d && (!(o.looksAt ops).contains d || ((maskAt n M j).testBit p || (maskAt n M p).testBit j)))
theorem free_of {listed : Array Bool} {n M m i : Nat} (hM : Msk md ops n M) (h : Rep listed n m) (hi : i < n) (hr : rdyF n M m i = true) (hs : ssaF n M ops = true) : Region.free md ops listed i = true := by
  have hio : i < ops.size := by rw [hM.size]; exact hi
  unfold Region.free
  rw [Array.getElem?_eq_getElem hio]
  simp only [List.all_eq_true, List.mem_range, Bool.or_eq_true, beq_iff_eq]
  intro j hj
  have hjn : j < n := by rw [← hM.size]; exact hj
  by_cases hji : j = i
  · exact .inl (.inl hji)
  cases hlj : listed.getD j true with
  | true => exact .inl (.inr rfl)
  | false =>
    refine .inr ?_
    rw [Array.getElem?_eq_getElem hj]
    simp only [Bool.or_eq_true]
    cases hw : ops[j].after.any (fun e => Region.binds md e && e.on == i) with
    | true => exact .inl rfl
    | false =>
      refine .inr ?_
      have hwj : (maskAt n M j).testBit i = false := by rw [hM.at_ j hj i hi]; exact hw
      have hwi : (maskAt n M i).testBit j = false := by
        cases hq : (maskAt n M i).testBit j with
        | false => rfl
        | true =>
          simp only [rdyF, Bool.and_eq_true, beq_iff_eq] at hr
          rw [← hr.2, Nat.testBit_and] at hq
          have := (Bool.and_eq_true_iff.1 hq).2
          rw [h.getT hjn, this] at hlj
          cases hlj
      simp only [ssaF, List.all_eq_true, List.mem_range] at hs
      unfold Oper.apart
      rw [Bool.and_eq_true]
      constructor
      · cases hd : ops[i].dst with
        | none => rfl
        | some d =>
          have := hs i hi
          rw [Array.getElem?_eq_getElem hio] at this
          simp only [Option.bind_some, hd, List.all_eq_true, List.mem_range] at this
          have := this j hjn
          rw [Array.getElem?_eq_getElem hj] at this
          simp only [Bool.or_eq_true, beq_iff_eq, hji, false_or, Bool.and_eq_true, hwj, hwi, Bool.false_eq_true, or_false] at this
          simp only [Bool.and_eq_true]
          exact ⟨this.2, this.1⟩
      · cases hd : ops[j].dst with
        | none => rfl
        | some d =>
          have := hs j hjn
          rw [Array.getElem?_eq_getElem hj] at this
          simp only [Option.bind_some, hd, List.all_eq_true, List.mem_range] at this
          have := this i hi
          rw [Array.getElem?_eq_getElem hio] at this
          simp only [Bool.or_eq_true, beq_iff_eq, Ne.symm hji, false_or, Bool.and_eq_true, hwj, hwi, Bool.false_eq_true, or_false] at this
          exact this.2

def mskF (md : Region.Mode) (n : Nat) (ops : Array Oper) : Bool := ops.toList.all fun o => o.after.toList.all fun e => !Region.binds md e || decide (e.on < n)
theorem msk_of {n : Nat} (hn : ops.size = n) (h : mskF md n ops = true) : Msk md ops n (masksN md n ops.toList) := by
  refine ⟨hn, fun i hi k hk => ?_, fun i hi e he hb => ?_⟩
  · rw [maskAt_spec n ops.toList i (by simpa using hi), Nat.testBit_mod_two_pow, maskOf_bit]
    simp [hk]
  · simp only [mskF, List.all_eq_true, Bool.or_eq_true, Bool.not_eq_true', decide_eq_true_eq] at h
    have := h ops[i] (by simp) e (by simpa using he)
    exact this.resolve_left (by simp [hb])

def onlyF (n M m i : Nat) : Bool := rdyF n M m i && (List.range n).all fun j => j == i || !rdyF n M m j
def noneF (n M m : Nat) : Bool := (List.range n).all fun j => !rdyF n M m j
/-- The order's check. -/
def piFB (n M : Nat) : List (Nat × Bool) → Nat → Bool
  | [], m => noneF n M m
  | (i, false) :: r, m => decide (i < n) && (rdyF n M m i && piFB n M r (m ||| (1 <<< i)))
  | (i, true) :: r, m => decide (i < n) && (onlyF n M m i && piFB n M r (m ||| (1 <<< i)))
theorem none_ready {listed : Array Bool} {n M m : Nat} (hM : Msk md ops n M) (h : Rep listed n m) (hn : noneF n M m = true) : Region.ready md ops listed = [] := by
  refine List.eq_nil_iff_forall_not_mem.2 fun j hj => ?_
  have hjn : j < n := by
    have := hj
    unfold Region.ready at this
    rw [List.mem_filter, List.mem_range, hM.size] at this
    exact this.1
  simp only [noneF, List.all_eq_true, List.mem_range] at hn
  have := hn j hjn
  rw [(rdy_iff hM h hjn).2 hj] at this
  cases this
theorem only_of {listed : Array Bool} {n M m i : Nat} (hM : Msk md ops n M) (h : Rep listed n m) (hi : i < n) (ho : onlyF n M m i = true) : Region.ready md ops listed = [i] := by
  simp only [onlyF, Bool.and_eq_true, List.all_eq_true, List.mem_range, Bool.or_eq_true, beq_iff_eq, Bool.not_eq_true'] at ho
  exact only_ready hM h hi ho.1 fun j hj hne => (ho.2 j hj).resolve_left hne
theorem piB_of {n M : Nat} (hM : Msk md ops n M) (hs : ssaF n M ops = true) : ∀ (r : List (Nat × Bool)) (listed : Array Bool) (m : Nat), Rep listed n m → piFB n M r m = true → piB md ops r listed = true
  | [], listed, m, h, hb => by
    rw [piB, none_ready hM h hb]; rfl
  | (i, false) :: r, listed, m, h, hb => by
    simp only [piFB, Bool.and_eq_true, decide_eq_true_eq] at hb
    simp only [piB, Bool.and_eq_true]
    exact ⟨⟨by simpa using (rdy_iff hM h hb.1).1 hb.2.1, free_of hM h hb.1 hb.2.1 hs⟩, piB_of hM hs r _ _ (h.set i) hb.2.2⟩
  | (i, true) :: r, listed, m, h, hb => by
    simp only [piFB, Bool.and_eq_true, decide_eq_true_eq] at hb
    simp only [piB, Bool.and_eq_true, decide_eq_true_eq]
    exact ⟨only_of hM h hb.1 hb.2.1, piB_of hM hs r _ _ (h.set i) hb.2.2⟩
/-- All checks at once. -/
def fastPi (n : Nat) (ops : Array Oper) (r : List (Nat × Bool)) : Bool :=
  mskF .any n ops && (ssaF n (masksN .any n ops.toList) ops && piFB n (masksN .any n ops.toList) r 0)
theorem piB_fast {r : List (Nat × Bool)} (h : fastPi ops.size ops r = true) : piB .any ops r (Array.replicate ops.size false) = true := by
  simp only [fastPi, Bool.and_eq_true] at h
  exact piB_of (msk_of rfl h.1) h.2.1 r _ _ (Rep.start _) h.2.2

/-- The same for a tree of orders. -/
def ptFB (n M : Nat) : Pt → Nat → Bool
  | .done, m => noneF n M m
  | .q i t, m => decide (i < n) && (rdyF n M m i && ptFB n M t (m ||| (1 <<< i)))
  | .c i t, m => decide (i < n) && (onlyF n M m i && ptFB n M t (m ||| (1 <<< i)))
  | _, _ => false
theorem ptB_of {n M : Nat} (hM : Msk md ops n M) (hs : ssaF n M ops = true) : ∀ (t : Pt) (listed : Array Bool) (m : Nat), Rep listed n m → ptFB n M t m = true → ptB md ops t listed = true
  | .done, listed, m, h, hb => by
    rw [ptB, none_ready hM h hb]; rfl
  | .q i t, listed, m, h, hb => by
    simp only [ptFB, Bool.and_eq_true, decide_eq_true_eq] at hb
    simp only [ptB, Bool.and_eq_true]
    exact ⟨⟨by simpa using (rdy_iff hM h hb.1).1 hb.2.1, free_of hM h hb.1 hb.2.1 hs⟩, ptB_of hM hs t _ _ (h.set i) hb.2.2⟩
  | .c i t, listed, m, h, hb => by
    simp only [ptFB, Bool.and_eq_true, decide_eq_true_eq] at hb
    simp only [ptB, Bool.and_eq_true, decide_eq_true_eq]
    exact ⟨only_of hM h hb.1 hb.2.1, ptB_of hM hs t _ _ (h.set i) hb.2.2⟩
  | .f _ _ _ _, _, _, _, hb => by simp [ptFB] at hb
  | .g _ _ _ _ _ _, _, _, _, hb => by simp [ptFB] at hb
def fastPt (n : Nat) (ops : Array Oper) (t : Pt) : Bool :=
  mskF .any n ops && (ssaF n (masksN .any n ops.toList) ops && ptFB n (masksN .any n ops.toList) t 0)
theorem ptB_fast {t : Pt} (h : fastPt ops.size ops t = true) : ptB .any ops t (Array.replicate ops.size false) = true := by
  simp only [fastPt, Bool.and_eq_true] at h
  exact ptB_of (msk_of rfl h.1) h.2.1 t _ _ (Rep.start _) h.2.2
def pzFB (n M z : Nat) : Pt → Nat → Bool
  | .done, m => decide (z < n) && (onlyF n M m z && noneF n M (m ||| (1 <<< z)))
  | .q i t, m => decide (i < n) && (rdyF n M m i && ((maskAt n M z).testBit i && pzFB n M z t (m ||| (1 <<< i))))
  | .c i t, m => decide (i < n) && (onlyF n M m i && pzFB n M z t (m ||| (1 <<< i)))
  | _, _ => false
theorem waits_of {n M z i : Nat} (hM : Msk md ops n M) (hz : z < n) (hi : i < n) (h : (maskAt n M z).testBit i = true) : Region.waitsFor md ops z i = true := by
  have hzo : z < ops.size := by rw [hM.size]; exact hz
  unfold Region.waitsFor
  rw [Array.getElem?_eq_getElem hzo]
  rwa [hM.at_ z hzo i hi] at h
theorem pzB_of {n M z : Nat} (hM : Msk md ops n M) (hz : z < n) (hs : ssaF n M ops = true) : ∀ (t : Pt) (listed : Array Bool) (m : Nat), Rep listed n m → pzFB n M z t m = true → pzB md ops z t listed = true
  | .done, listed, m, h, hb => by
    simp only [pzFB, Bool.and_eq_true, decide_eq_true_eq] at hb
    simp only [pzB, Bool.and_eq_true, decide_eq_true_eq]
    exact ⟨only_of hM h hz hb.2.1, by rw [none_ready hM (h.set z) hb.2.2]; rfl⟩
  | .q i t, listed, m, h, hb => by
    simp only [pzFB, Bool.and_eq_true, decide_eq_true_eq] at hb
    simp only [pzB, Bool.and_eq_true]
    exact ⟨⟨⟨by simpa using (rdy_iff hM h hb.1).1 hb.2.1, free_of hM h hb.1 hb.2.1 hs⟩, waits_of hM hz hb.1 hb.2.2.1⟩, pzB_of hM hz hs t _ _ (h.set i) hb.2.2.2⟩
  | .c i t, listed, m, h, hb => by
    simp only [pzFB, Bool.and_eq_true, decide_eq_true_eq] at hb
    simp only [pzB, Bool.and_eq_true, decide_eq_true_eq]
    exact ⟨only_of hM h hb.1 hb.2.1, pzB_of hM hz hs t _ _ (h.set i) hb.2.2⟩
  | .f _ _ _ _, _, _, _, hb => by simp [pzFB] at hb
  | .g _ _ _ _ _ _, _, _, _, hb => by simp [pzFB] at hb
def fastPz (n z : Nat) (ops : Array Oper) (t : Pt) : Bool :=
  decide (z < n) && (mskF .any n ops && (ssaF n (masksN .any n ops.toList) ops && pzFB n (masksN .any n ops.toList) z t 0))
theorem pzB_fast {t : Pt} {z : Nat} (h : fastPz ops.size z ops t = true) : pzB .any ops z t (Array.replicate ops.size false) = true := by
  simp only [fastPz, Bool.and_eq_true, decide_eq_true_eq] at h
  exact pzB_of (msk_of rfl h.2.1) h.1 h.2.2.1 t _ _ (Rep.start _) h.2.2.2
end

section
variable {P : Program} {ops : Array Oper} {Q : Exit → Act → World → Prop}
/-- The region's laws with the operations held by a local name, so that no step's simp walks through them. -/
theorem wp_region_piL {id : Nat} {a : Act} {w : World} (r : List (Nat × Bool)) (hm : P.follows .mixedOrders = true) (hs : Region.noSelect ops = true) (hB : fastPi ops.size ops r = true) (hl : r.length = ops.size)
    (hQ : ∀ c (a : Act) d v w, Q (.panic c) (a.put d v) w → Q (.panic c) a w) (h : ∀ O, Hid (ops = O) → ∀ Wd, Below w.heap.size w Wd → wpPi P O Q r a Wd) : (Code.region id ops true).wp P Q a w :=
  wp_region_pi r hm hs (piB_fast hB) hl hQ (h ops (Lib.hid rfl))
theorem wp_region_ptL {id : Nat} {a : Act} {w : World} (O : Nat → Prop) (t : Pt) (hm : P.follows .mixedOrders = true) (hs : Region.noSelect ops = true) (hB : fastPt ops.size ops t = true) (hl : t.len ≤ ops.size)
    (hQ : ∀ c (a : Act) d v w, Q (.panic c) (a.put d v) w → Q (.panic c) a w) (h : ∀ L, Hid (ops = L) → ∀ Wd, Below w.heap.size w Wd → wpPt P O L Q t a Wd) : (Code.region id ops true).wp P Q a w :=
  wp_region_pt O t hm hs (ptB_fast hB) hl hQ (h ops (Lib.hid rfl))
theorem wp_region_pzL {id : Nat} {a : Act} {w : World} (O : Nat → Prop) (n : Nat) (t : Pt) (hm : P.follows .mixedOrders = true) (hs : Region.noSelect ops = true) (hB : fastPz ops.size n ops t = true) (hl : t.len + 1 ≤ ops.size)
    (hQ : ∀ c (a : Act) d v w, Q (.panic c) (a.put d v) w → Q (.panic c) a w) (h : ∀ L, Hid (ops = L) → ∀ Wd, Below w.heap.size w Wd → wpPt P O L (lastQ P L Q n) t a Wd) : (Code.region id ops true).wp P Q a w :=
  wp_region_pz O n t hm hs (pzB_fast hB) hl hQ (h ops (Lib.hid rfl))

/-- A call of a function by its number. -/
theorem exec_call {o : Oper} {a : Act} {w : World} {f : FuncId} {xs : Array Operand} {ts : Array TypeId} (ho : o.op = .call { callee := .value (.func f), args := xs, argTypes := ts }) {args : List Value} (hx : xs.toList.map a.eval = args)
    (he : Enters P f) : (execOp a.eval o).run P w = .ok (.enter f args.toArray) w := by
  have e : xs.map a.eval = args.toArray := by rw [← hx, ← Array.toList_map]
  unfold execOp
  simp only [ho, resolve, Sem.run_bind]
  rw [e]
  have hv : a.eval (.func f) = .func (.func f) #[] #[] := rfl
  rw [hv]
  simp only [Deferred.ofValue, Sem.run_pure, Result.andThen_ok, invoke]
  rw [Array.append_empty, Array.empty_append]
  exact he _ _
theorem wp_call {o : Oper} {a : Act} {w : World} {K : Act → World → Prop} {f : FuncId} {xs : Array Operand} {ts : Array TypeId} (ho : o.op = .call { callee := .value (.func f), args := xs, argTypes := ts }) {args : List Value} (hx : xs.toList.map a.eval = args)
    (he : Enters P f) {R : Ending → World → Prop} (hc : Calls P f args.toArray w R) (h : ∀ e w', R e w' → ∃ v, e = .returned v ∧ K (a.put o.dst v) w') : o.wp P a w K Q := by
  unfold Oper.wp
  rw [exec_call ho hx he]
  refine Calls.mono hc fun e w' hr => ?_
  obtain ⟨v, rfl, hk⟩ := h e w' hr
  exact hk
theorem pi_call {i : Nat} {o : Oper} {r : List (Nat × Bool)} {a : Act} {w : World} (hi : ops[i]? = some o) (hw : Region.wanted o (yielded ops a.tmps) = true)
    {f : FuncId} {xs : Array Operand} {ts : Array TypeId} {args : List Value} {R : Ending → World → Prop} (hc : Calls P f args.toArray w R)
    (he : Enters P f) (ho : o.op = .call { callee := .value (.func f), args := xs, argTypes := ts }) (hx : xs.toList.map a.eval = args) (h : ∀ e w', R e w' → ∃ v, e = .returned v ∧ Below w.heap.size w w' ∧ wpPi P ops Q r (a.put o.dst v) w') : wpPi P ops Q ((i, true) :: r) a w :=
  ⟨o, hi, hw, wp_call ho hx he hc h⟩
theorem pt_call {i : Nat} {o : Oper} {O : Nat → Prop} {R0 : Act → World → Prop} {a : Act} {w : World} (hi : ops[i]? = some o) (hw : Region.wanted o (yielded ops a.tmps) = true)
    {f : FuncId} {xs : Array Operand} {ts : Array TypeId} {args : List Value} {R : Ending → World → Prop} (hc : Calls P f args.toArray w R)
    (he : Enters P f) (ho : o.op = .call { callee := .value (.func f), args := xs, argTypes := ts }) (hx : xs.toList.map a.eval = args) (h : ∀ e w', R e w' → ∃ v, e = .returned v ∧ But O w w' ∧ R0 (a.put o.dst v) w') : ptStep P O ops Q i R0 a w :=
  ⟨o, hi, hw, wp_call ho hx he hc h⟩
end
end Go.Proofs.YtpkonagjnfphkaaGreatDoor

namespace Go.Proofs.YtpkonagjnfphkaaGreatDoor
open Go.RowKit Cb
set_option linter.unusedSimpArgs false
set_option linter.unusedVariables false
namespace Cb
/-- A head's number, and how many bytes it has; the bytes behind the first one. -/
def headN (low : Nat) (r : List UInt8) : Option (Int × Nat) :=
  if low < 24 then some ((low : Int), 1) else if 28 ≤ low then none else if r.length < 2 ^ (low - 24) then none else some (Oct.getV (r.take (2 ^ (low - 24))), 1 + 2 ^ (low - 24))
def headOk (b : List UInt8) (m n : Int) (k : Nat) : Bool := Oct.beginsB b (headB m n) && decide ((headB m n).length = k)
/-- A head: its major, its number, how many bytes. -/
def headP (b : List UInt8) : Option (Int × Int × Nat) :=
  match b with
  | [] => none
  | f :: r => match headN (f.toNat % 32) r with
    | none => none
    | some (n, k) => if headOk b ((f.toNat / 32 : Nat) : Int) n k then some (((f.toNat / 32 : Nat) : Int), n, k) else none
end Cb
theorem wrap_i64 {x : Int} (h0 : -9223372036854775808 ≤ x) (h1 : x ≤ 9223372036854775807) : IntKind.i64.wrap x = x := by
  have hs : IntKind.i64.signed = true := rfl
  simp [IntKind.wrap, go_sem, hs]
  split <;> omega
theorem enters_headC : Enters Tryz.prog 164 := enters_of Tryz.func164 (by kernel_rfl) rfl
theorem enters_begins : Enters Tryz.prog 144 := enters_of Tryz.func144 (by kernel_rfl) rfl
theorem enters_must : Enters Tryz.prog 125 := enters_of Tryz.func125 (by kernel_rfl) rfl
/-- What reading a head tells. -/
def HdE (b : List UInt8) (w : World) (D : Nat) (en : Ending) (w' : World) : Prop :=
  But (fun k => k = D) w w' ∧ match headP b with
    | none => en = .panicked (gup 121)
    | some (m, n, k) => en = .returned (.tuple #[.int .i64 m, .int .u64 n]) ∧ ∃ v', RdAt w' D v' (b.drop k)
set_option maxHeartbeats 4000000 in
set_option maxRecDepth 100000 in
theorem hd_low (w : World) (D : Nat) (v : Value) (f : UInt8) (r : List UInt8) (h : RdAt w D v (f :: r)) (hbl : (f :: r).length ≤ 1000000) (hl : f.toNat % 32 < 24) :
    Calls Tryz.prog 146 #[.pointer (some ⟨D, 0, none⟩)] w (HdE (f :: r) w D) := by
  obtain ⟨a, c, rfl⟩ := h.sl.len
  have c0 := h.box.cell (i := 0) (v := .slice a (f :: r).length c) rfl
  have hty := take_yes w D _ (f :: r) 1 h (by simp) hbl
  have hF := f.toNat_lt
  have hsl := h.sl
  have hfar := h.far
  have HP := Lib.hid (show headP (f :: r) = if headOk (f :: r) ((f.toNat / 32 : Nat) : Int) ((f.toNat % 32 : Nat) : Int) 1 then some (((f.toNat / 32 : Nat) : Int), ((f.toNat % 32 : Nat) : Int), 1) else none by
    simp only [headP, headN, if_pos hl])
  have hone : headB ((f.toNat : Int) / 32) ((f.toNat : Int) % 32) = [f] := by
    rw [headB_small (by omega), show ((f.toNat : Int) / 32 * 32 + (f.toNat : Int) % 32).toNat = f.toNat by omega]
    simp
  have hz : Oct.beginsB (f :: r) (headB ((f.toNat : Int) / 32) ((f.toNat : Int) % 32)) = true := by rw [hone]; simp [Oct.beginsB]
  have hel : (headB ((f.toNat : Int) / 32) ((f.toNat : Int) % 32)).length = 1 := by rw [hone]; rfl
  have hok : headOk (f :: r) ((f.toNat : Int) / 32) ((f.toNat : Int) % 32) 1 = true := by unfold headOk; rw [hz, hel]; rfl
  clear hone
  rw [show (f :: r).take 1 = [f] by simp, show (f :: r).drop 1 = r by simp] at hty
  have hdm : ((f.toNat / 32 : Nat) : Int) = (f.toNat : Int) / 32 := by omega
  have hdn : ((f.toNat % 32 : Nat) : Int) = (f.toNat : Int) % 32 := by omega
  rw [hdm, hdn] at HP
  rw [hok, if_pos rfl] at HP
  clear hok
  have HDR := Lib.hid (show (f :: r).drop 1 = r by simp)
  have hrl : (f :: r).length = r.length + 1 := by simp
  generalize hX : f :: r = b at *
  generalize hL : b.length = L at *
  go_enter Tryz.func146, Tryz.ntmps146
  go_wp2_with (first
    | (go_at_call 145; refine hty.mono ?_; rintro en w1 ⟨u, v', rfl, ho, hR, hb⟩; obtain ⟨au, cu, rfl⟩ := own_slice ho; obtain ⟨g, off, rfl, hcu⟩ := (Sl.of_own ho).cellAt (k := 0) (by decide) (by decide); simp only [Nat.add_zero] at hcu; rw [show (by8 [f])[0]? = some (.int .u8 f.toNat) from rfl] at hcu))
  have hfar2 : L = 0 ∨ ∀ k, (Value.slice a L c).ownBlock = some k → ¬ k = D := hfar.imp id fun h k hk => Nat.ne_of_lt (h k hk)
  have hslO := hsl.but hb hfar2
  obtain ⟨ar, cr, hvr⟩ := hR.sl.len
  subst hvr
  have hcR := hR.box.cell (i := 0) rfl
  have HR := Lib.hid hR
  have HB := Lib.hid hb
  have hM0 : 0 ≤ (f.toNat : Int) / 32 := by omega
  have hM7 : (f.toNat : Int) / 32 ≤ 7 := by omega
  have hN0 : 0 ≤ (f.toNat : Int) % 32 := by omega
  have hN1 : (f.toNat : Int) % 32 ≤ 18446744073709551615 := by omega
  generalize (f.toNat : Int) / 32 = M at *
  generalize (f.toNat : Int) % 32 = N at *
  generalize hLR : r.length = LR at *
  have HRL := Lib.hid hrl
  clear hrl hLR hL hX
  refine wp_region_pi [(0, false), (1, false), (2, false), (3, true), (4, true), (5, false), (6, false), (7, false), (8, false), (9, false), (10, false), (11, false), (12, false), (13, false), (14, false), (15, false), (16, true), (17, false), (18, false), (19, false), (20, true)] (by kernel_rfl) (by kernel_rfl) (by kernel_rfl) rfl (fun _ _ d _ _ h => by cases d <;> exact h) (fun Wd hBd => ?_)
  try simp only [Act.put, List.getElem_toArray, List.getElem_cons_zero, List.getElem_cons_succ, List.setIfInBounds_toArray, List.set_cons_zero, List.set_cons_succ]
  have c1 : ∀ w', Below Wd.heap.size Wd w' → w'.cell? ⟨D, 0, none⟩ = some (.slice ar LR cr) := fun w' h => cell_up h (cell_up hBd hcR)
  iterate 3
    refine pi_q (v := ?_) rfl (by rfl) ?_ ?_
    rotate_left
    · intro w' hBw'
      first | (go_simp; done) | (go_simp; with_reducible rfl)
    try simp only [Act.put, List.getElem_toArray, List.getElem_cons_zero, List.getElem_cons_succ, List.setIfInBounds_toArray, List.set_cons_zero, List.set_cons_succ]
  refine pi_call rfl (by rfl) ((head_c M N Wd hM0 hM7 hN0 hN1)) enters_headC (by rfl) (by kernel_rfl) ?_
  rintro en wN ⟨v1, rfl, ho1, hb1⟩
  obtain ⟨a1, c1', rfl⟩ := own_slice ho1
  have c1 : ∀ w', Below wN.heap.size wN w' → w'.cell? ⟨D, 0, none⟩ = some (.slice ar LR cr) := fun w' h => c1 w' (below_up hb1 h)
  have hslW := (hslO.up hBd).up hb1
  refine ⟨_, rfl, hb1, ?_⟩
  try simp only [Act.put, List.getElem_toArray, List.getElem_cons_zero, List.getElem_cons_succ, List.setIfInBounds_toArray, List.set_cons_zero, List.set_cons_succ]
  refine pi_call rfl (by rfl) ((begins_c _ (headB M N) _ _ _ _ _ hslW (Sl.of_own ho1) (by omega))) enters_begins (by rfl) (by kernel_rfl) ?_
  rintro en wN ⟨rfl, hb2⟩
  rw [hz]
  have c1 : ∀ w', Below wN.heap.size wN w' → w'.cell? ⟨D, 0, none⟩ = some (.slice ar LR cr) := fun w' h => c1 w' (below_up hb2 h)
  refine ⟨_, rfl, hb2, ?_⟩
  iterate 8
    try simp only [Act.put, List.getElem_toArray, List.getElem_cons_zero, List.getElem_cons_succ, List.setIfInBounds_toArray, List.set_cons_zero, List.set_cons_succ]
    refine pi_q (v := ?_) rfl (by rfl) ?_ ?_
    rotate_left
    · intro w' hBw'
      first | (go_simp; done) | (go_simp; with_reducible rfl)
  try simp only [Act.put, List.getElem_toArray, List.getElem_cons_zero, List.getElem_cons_succ, List.setIfInBounds_toArray, List.set_cons_zero, List.set_cons_succ]
  refine pi_q (v := .int .i64 (1 : Int)) rfl (by rfl) (fun w' hBw' => by have hrl := HRL.out; go_simp; rw [wrap_i64 (by omega) (by omega)]; omega) ?_
  iterate 2
    try simp only [Act.put, List.getElem_toArray, List.getElem_cons_zero, List.getElem_cons_succ, List.setIfInBounds_toArray, List.set_cons_zero, List.set_cons_succ]
    refine pi_q (v := ?_) rfl (by rfl) ?_ ?_
    rotate_left
    · intro w' hBw'
      first | (go_simp; done) | (go_simp; with_reducible rfl)
  try simp only [Act.put, List.getElem_toArray, List.getElem_cons_zero, List.getElem_cons_succ, List.setIfInBounds_toArray, List.set_cons_zero, List.set_cons_succ]
  refine pi_call rfl (by rfl) ((head_c M N _ hM0 hM7 hN0 hN1)) enters_headC (by rfl) (by kernel_rfl) ?_
  rintro en wN ⟨v3, rfl, ho3, hb3⟩
  obtain ⟨a3, c3', rfl⟩ := own_slice ho3
  refine ⟨_, rfl, hb3, ?_⟩
  try simp only [Act.put, List.getElem_toArray, List.getElem_cons_zero, List.getElem_cons_succ, List.setIfInBounds_toArray, List.set_cons_zero, List.set_cons_succ]
  refine pi_q (v := ?_) rfl (by rfl) ?_ ?_
  rotate_left
  · intro w' hBw'
    first | (go_simp; done) | (go_simp; with_reducible rfl)
  try simp only [Act.put, List.getElem_toArray, List.getElem_cons_zero, List.getElem_cons_succ, List.setIfInBounds_toArray, List.set_cons_zero, List.set_cons_succ]
  refine pi_q (v := .bool true) rfl (by rfl) (fun w' hBw' => by have hrl := HRL.out; go_simp; try omega) ?_
  try simp only [Act.put, List.getElem_toArray, List.getElem_cons_zero, List.getElem_cons_succ, List.setIfInBounds_toArray, List.set_cons_zero, List.set_cons_succ]
  refine pi_q (v := ?_) rfl (by rfl) ?_ ?_
  rotate_left
  · intro w' hBw'
    first | (go_simp; done) | (go_simp; with_reducible rfl)
  try simp only [Act.put, List.getElem_toArray, List.getElem_cons_zero, List.getElem_cons_succ, List.setIfInBounds_toArray, List.set_cons_zero, List.set_cons_succ]
  refine pi_call rfl (by rfl) ((must_yes 121 _)) enters_must (by rfl) (by kernel_rfl) ?_
  rintro en wN ⟨rfl, rfl⟩
  refine ⟨_, rfl, (Below.refl _ _), ?_⟩
  try simp only [Act.put, List.getElem_toArray, List.getElem_cons_zero, List.getElem_cons_succ, List.setIfInBounds_toArray, List.set_cons_zero, List.set_cons_succ]
  refine pi_nil ?_
  go_wp2
  have hbw := below_up (below_up (below_up hBd hb1) hb2) hb3
  have hfin : HdE b w D (.returned (.tuple #[.int .i64 M, .int .u64 N])) wN := by
    refine ⟨HB.out.trans (But.of_below hbw), ?_⟩
    rw [HP.out]
    exact ⟨rfl, _, by rw [HDR.out]; exact HR.out.up hbw⟩
  go_ret2
  exact hfin
end Go.Proofs.YtpkonagjnfphkaaGreatDoor
