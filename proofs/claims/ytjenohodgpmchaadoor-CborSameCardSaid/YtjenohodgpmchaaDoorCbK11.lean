/-
  CbH: several texts in one (bundle.py).
-/
import Derived.Test.YtjenohodgpmchaaDoorCbK10
import Derived.Test.YtjenohodgpmchaaDoorCbK08
import Derived.Test.YtjenohodgpmchaaDoorCbK07
import Derived.Test.YtjenohodgpmchaaDoorCbK04
namespace Go.Proofs.YtjenohodgpmchaaDoor
open Go.RowKit
set_option linter.unusedSimpArgs false
set_option linter.unusedVariables false
namespace Cb
def markI (n : Int) : Int := if n < 256 then 0 else if n < 65536 then 1 else if n < 4294967296 then 2 else 3
/-- The head of a major and a number. -/
def headB (m n : Int) : List UInt8 := if n < 24 then [UInt8.ofNat (m * 32 + n).toNat] else UInt8.ofNat (m * 32 + 24 + markI n).toNat :: Oct.beB (Oct.leastF n).toNat n
theorem byte_of {x : Int} (h0 : 0 ≤ x) (h1 : x ≤ 255) : by8 [UInt8.ofNat x.toNat] = [.int .u8 x] := by
  simp only [by8, List.map_cons, List.map_nil, List.cons.injEq, Value.int.injEq, and_true, true_and]
  rw [UInt8.toNat_ofNat']; omega
theorem mark_b (n : Int) : 0 ≤ markI n ∧ markI n ≤ 3 := by
  unfold markI
  repeat' split
  all_goals omega
theorem mark_idx (n : Int) : idx (fun y => Oct.leastF n == y) [1, 2, 4, 8] = markI n := by
  unfold Oct.leastF markI
  repeat' split
  all_goals rfl
theorem least_fits {n : Int} (h1 : n ≤ 18446744073709551615) : Oct.putB n (Oct.leastF n) = Oct.beB (Oct.leastF n).toNat n := by
  unfold Oct.putB
  have hf : Oct.fitsB (Oct.leastF n) n = true := by
    unfold Oct.leastF
    repeat' split
    all_goals (simp [Oct.fitsB]; omega)
  rw [Oct.leastF_ok, hf]; rfl
theorem headB_small {m n : Int} (h : n < 24) : headB m n = [UInt8.ofNat (m * 32 + n).toNat] := if_pos h
theorem headB_big {m n : Int} (h : ¬ n < 24) : headB m n = UInt8.ofNat (m * 32 + 24 + markI n).toNat :: Oct.beB (Oct.leastF n).toNat n := if_neg h
theorem least_nat (n : Int) : (Oct.leastF n).toNat ≤ 8 ∧ 1 ≤ (Oct.leastF n).toNat := by
  unfold Oct.leastF
  repeat' split
  all_goals decide
theorem headB_len (m n : Int) : 1 ≤ (headB m n).length ∧ (headB m n).length ≤ 9 := by
  unfold headB
  split
  · simp
  · have := least_nat n
    simp [Oct.beB_len]; omega
end Cb
open Cb
/-- Two slices of bytes in a block of one's own. -/
theorem slB2 {w : World} {T : TypeId} {u v : Value} {l m : List UInt8} (hu : Sl w 1 u l.length (by8 l)) (hv : Sl w 1 v m.length (by8 m)) (h1 : u.oneCell' = true) (h2 : v.oneCell' = true) (k : Nat) (hk : k = w.heap.size) :
    SlB (w.alloc (.cells #[u, v] T)) (.slice (some ⟨k, 0, none⟩) 2 2) 2 [u, v] [l, m] := by
  subst hk
  have hb := below_alloc w (.cells #[u, v] T)
  refine ⟨⟨rfl, .inr ⟨w.heap.size, 0, 2, rfl, by decide, by decide, fun j x hj => ?_⟩⟩, rfl, fun i x y h1 h2 => ?_⟩
  · exact (RowAt.new w #[u, v] T).cell (i := 0 + j) (by simpa using hj)
  · match i, h1, h2 with
    | 0, h1, h2 => simp at h1 h2; subst h1 h2; exact hu.up hb
    | 1, h1, h2 => simp at h1 h2; subst h1 h2; exact hv.up hb
    | i + 2, h1, _ => simp at h1
set_option maxHeartbeats 2000000 in
set_option maxRecDepth 100000 in
theorem head_c (m n : Int) (w : World) (hm0 : 0 ≤ m) (hm : m ≤ 7) (h0 : 0 ≤ n) (h1 : n ≤ 18446744073709551615) :
    Calls Tryd.prog 58 #[.int .i64 m, .int .u64 n] w fun en w' => ∃ v, en = .returned v ∧ w'.ownsRow w.heap.size 5 1 v (headB m n).length (by8 (headB m n)) ∧ Below w.heap.size w w' := by
  by_cases hn : n < 24
  · have hd : decide (n < 24) = true := decide_eq_true hn
    go_enter Tryd.func58, Tryd.ntmps58
    go_wp2
    go_ret
    rw [headB_small hn]
    refine ⟨_, rfl, ?_, below_alloc _ _⟩
    rw [byte_of (by omega) (by omega)]
    exact World.ownsRow_lit w #[.int .u8 (m * 32 + n)] 1 (size := 1) (e := 5) (Nat.le_refl _) (by decide) rfl
  · have hd : decide (n < 24) = false := decide_eq_false hn
    have hmk := mark_b n
    have hp := fun w => put_c n (Oct.leastF n) w h0 h1
    have hl := fun w => least_c n w h0 h1
    have hpE : Oct.putE n (Oct.leastF n) = 0 := by
      unfold Oct.putE
      have hf : Oct.fitsB (Oct.leastF n) n = true := by
        unfold Oct.leastF
        repeat' split
        all_goals (simp [Oct.fitsB]; omega)
      rw [Oct.leastF_ok, hf]; rfl
    rw [least_fits h1, hpE] at hp
    have hi := fun w v (hv : Sl w 1 v 4 ([1, 2, 4, 8].map (Value.int .i64))) => indexI_c [1, 2, 4, 8] v 4 (Oct.leastF n) w hv (by omega)
    rw [mark_idx] at hi
    have HX := Lib.hid (headB_big (m := m) hn)
    have hln := least_nat n
    obtain ⟨bs, hbs⟩ : ∃ bs, Oct.beB (Oct.leastF n).toNat n = bs := ⟨_, rfl⟩
    have hbl : bs.length ≤ 8 := by rw [← hbs, Oct.beB_len]; exact hln.1
    rw [hbs] at hp HX
    obtain ⟨W, hW⟩ : ∃ W, Oct.leastF n = W := ⟨_, rfl⟩
    rw [hW] at hp hl hi
    obtain ⟨mk, hmk'⟩ : ∃ mk, markI n = mk := ⟨_, rfl⟩
    rw [hmk'] at hmk hi HX
    obtain ⟨hmk0, hmk3⟩ := hmk
    have HP := Lib.hid hp
    have HL := Lib.hid hl
    have HI := Lib.hid hi
    have HBL := Lib.hid hbl
    clear hp hl hi hpE hbs hW hmk' hln hbl
    go_enter Tryd.func58, Tryd.ntmps58
    go_wp2_with (first
      | (go_at_call 73; refine (HL.out _).mono ?_; rintro en w1 ⟨rfl, hb1⟩)
      | (go_at_call 74; go_loud (refine (HP.out _).mono ?_; rintro en w2 ⟨v2, rfl, ho2, hb2⟩; obtain ⟨a2, c2, rfl⟩ := own_slice ho2))
      | (go_at_call 75; go_loud (refine (HI.out _ _ (sl4 w2 _ rfl _)).mono ?_; rintro en w3 ⟨rfl, rfl⟩)))
    have hbB := below_up hb1 hb2
    obtain ⟨w3, hw3⟩ : ∃ w3, w2.alloc (.cells #[.int .i64 1, .int .i64 2, .int .i64 4, .int .i64 8] 3) = w3 := ⟨_, rfl⟩
    have hb3 : Below w2.heap.size w2 w3 := by rw [← hw3]; exact below_alloc _ _
    have hz3 : w3.heap.size = w2.heap.size + 1 := by rw [← hw3]; simp
    have hu : Sl (w3.alloc (.cells #[.int .u8 (m * 32 + 24 + mk)] 5)) 1 (.slice (some ⟨w3.heap.size, 0, none⟩) 1 1) [UInt8.ofNat (m * 32 + 24 + mk).toNat].length (by8 [UInt8.ofNat (m * 32 + 24 + mk).toNat]) := by
      rw [byte_of (by omega) (by omega)]; exact sl1 w3 _ rfl _ _
    have hv : Sl (w3.alloc (.cells #[.int .u8 (m * 32 + 24 + mk)] 5)) 1 (.slice a2 bs.length c2) bs.length (by8 bs) := ((Sl.of_own ho2).up hb3).up (below_alloc _ _)
    have hz4 : (w3.alloc (.cells #[.int .u8 (m * 32 + 24 + mk)] 5)).heap.size = w3.heap.size + 1 := by simp
    have hS := slB2 (T := 22) hu hv rfl rfl (w3.heap.size + 1) hz4.symm
    have hbE : Below w.heap.size w ((w3.alloc (.cells #[.int .u8 (m * 32 + 24 + mk)] 5)).alloc (.cells #[.slice (some ⟨w3.heap.size, 0, none⟩) 1 1, .slice a2 bs.length c2] 22)) := below_up (below_up (below_up hbB hb3) (below_alloc _ _)) (below_alloc _ _)
    rw [hz3] at hS hbE
    have hj := join_c _ _ _ _ _ hS (by omega) (by have := HBL.out; simp; omega)
    rw [show [[UInt8.ofNat (m * 32 + 24 + mk).toNat], bs].flatten = headB m n by rw [HX.out]; simp, ← hw3] at hj
    refine hj.mono ?_
    rintro en w6 ⟨v6, rfl, ho6, hb6⟩
    rw [← hw3] at hbE
    go_wp2
    go_ret
    exact ⟨_, rfl, own_down ho6 hbE.size, below_up hbE hb6⟩
set_option maxHeartbeats 4000000 in
set_option maxRecDepth 100000 in
theorem headR_c (m n : Int) (w : World) (hm0 : 0 ≤ m) (hm : m ≤ 7) (h0 : 0 ≤ n) (h1 : n ≤ 18446744073709551615) :
    Calls Tryd.prog 41 #[.int .i64 m, .int .u64 n] w fun en w' => ∃ v, en = .returned v ∧ w'.ownsRow w.heap.size 5 1 v (headB m n).length (by8 (headB m n)) ∧ Below w.heap.size w w' := by
  by_cases hn : n < 24
  · have hd : decide (n < 24) = true := decide_eq_true hn
    go_enter Tryd.func41, Tryd.ntmps41
    go_wp2
    go_ret
    rw [headB_small hn]
    refine ⟨_, rfl, ?_, below_alloc _ _⟩
    rw [byte_of (by omega) (by omega)]
    first
      | exact World.ownsRow_lit w #[.int .u8 (m * 32 + n)] 1 (size := 1) (e := 5) (Nat.le_refl _) (by decide) rfl
      | (rw [Int.mul_comm m 32]; exact World.ownsRow_lit w #[.int .u8 (32 * m + n)] 1 (size := 1) (e := 5) (Nat.le_refl _) (by decide) rfl)
  · have hd : decide (n < 24) = false := decide_eq_false hn
    have hp := fun w => putR_c n (Oct.leastF n) w h0 h1
    have hl := fun w => leastR_c n w h0 h1
    have hpE : Oct.putE n (Oct.leastF n) = 0 := by
      unfold Oct.putE
      have hf : Oct.fitsB (Oct.leastF n) n = true := by
        unfold Oct.leastF
        repeat' split
        all_goals (simp [Oct.fitsB]; omega)
      rw [Oct.leastF_ok, hf]; rfl
    rw [least_fits h1, hpE] at hp
    have HX := Lib.hid (headB_big (m := m) hn)
    have hln := least_nat n
    have hW4 : (Oct.leastF n = 1 ∧ markI n = 0) ∨ (Oct.leastF n = 2 ∧ markI n = 1) ∨ (Oct.leastF n = 4 ∧ markI n = 2) ∨ (Oct.leastF n = 8 ∧ markI n = 3) := by
      unfold Oct.leastF markI
      repeat' split
      all_goals simp
    obtain ⟨bs, hbs⟩ : ∃ bs, Oct.beB (Oct.leastF n).toNat n = bs := ⟨_, rfl⟩
    have hbl : bs.length ≤ 8 := by rw [← hbs, Oct.beB_len]; exact hln.1
    rw [hbs] at hp HX
    obtain ⟨W, hW⟩ : ∃ W, Oct.leastF n = W := ⟨_, rfl⟩
    rw [hW] at hp hl hW4
    obtain ⟨mk, hmk'⟩ : ∃ mk, markI n = mk := ⟨_, rfl⟩
    rw [hmk'] at hW4 HX
    have HP := Lib.hid hp
    have HL := Lib.hid hl
    have HBL := Lib.hid hbl
    clear hp hl hpE hbs hW hmk' hln hbl
    rcases hW4 with ⟨rfl, rfl⟩ | ⟨rfl, rfl⟩ | ⟨rfl, rfl⟩ | ⟨rfl, rfl⟩
    · have HX2 := Lib.hid (show headB m n = UInt8.ofNat (32 * m + 24).toNat :: bs by rw [HX.out]; congr 2; omega)
      have hby : by8 [UInt8.ofNat (32 * m + 24).toNat] = [.int .u8 (32 * m + 24)] := byte_of (by omega) (by omega)
      have HBY := Lib.hid hby
      clear hby
      have hbl := HBL.out
      go_enter Tryd.func41, Tryd.ntmps41
      go_wp2_with (first
        | (go_at_call 54; refine (HL.out _).mono ?_; rintro en w1 ⟨rfl, hb1⟩)
        | (go_at_call 55; refine (HP.out _).mono ?_; rintro en w2 ⟨v2, rfl, ho2, hb2⟩; obtain ⟨a2, c2, rfl⟩ := own_slice ho2; have hbB := below_up hb1 hb2; have hsB := hbB.size; have ho3 : (w2.alloc (.cells #[.int .u8 (32 * m + 24)] 5)).ownsRow w.heap.size 5 1 (.slice (some ⟨w2.heap.size, 0, none⟩) 1 1) 1 [.int .u8 (32 * m + 24)] := own_down (World.ownsRow_lit w2 #[.int .u8 (32 * m + 24)] 1 (size := 1) (e := 5) (Nat.le_refl _) (by decide) rfl) hsB; have hs3 := (Sl.of_own ho2).up (below_alloc w2 (.cells #[.int .u8 (32 * m + 24)] 5)); have hbC := below_up hbB (below_alloc w2 (.cells #[.int .u8 (32 * m + 24)] 5))))
      refine wp_loop_rounds 4 ?_
      repeat (rw [rounds_succ]; go_wp2_with (at_builtin; refine wpList_app rfl (.tmp 39) (.tmp 40) 22 rfl slT_u8 w.heap.size rfl ho3 rfl hs3 (one_by8 bs) (by simp [maxLen]; omega) (by omega) (by simp; omega) ?_; intro v3 w3 ho4 hg3 _))
      go_ret
      refine ⟨v3, rfl, ?_, grown_below hbC hg3 (fun k hk => (own_of_some ho3 hk).1)⟩
      rw [HX2.out, show by8 (UInt8.ofNat (32 * m + 24).toNat :: bs) = by8 [UInt8.ofNat (32 * m + 24).toNat] ++ by8 bs from rfl, HBY.out, List.length_cons, Nat.add_comm bs.length 1]
      exact ho4
    · have HX2 := Lib.hid (show headB m n = UInt8.ofNat (32 * m + 25).toNat :: bs by rw [HX.out]; congr 2; omega)
      have hby : by8 [UInt8.ofNat (32 * m + 25).toNat] = [.int .u8 (32 * m + 25)] := byte_of (by omega) (by omega)
      have HBY := Lib.hid hby
      clear hby
      have hbl := HBL.out
      go_enter Tryd.func41, Tryd.ntmps41
      go_wp2_with (first
        | (go_at_call 54; refine (HL.out _).mono ?_; rintro en w1 ⟨rfl, hb1⟩)
        | (go_at_call 55; refine (HP.out _).mono ?_; rintro en w2 ⟨v2, rfl, ho2, hb2⟩; obtain ⟨a2, c2, rfl⟩ := own_slice ho2; have hbB := below_up hb1 hb2; have hsB := hbB.size; have ho3 : (w2.alloc (.cells #[.int .u8 (32 * m + 25)] 5)).ownsRow w.heap.size 5 1 (.slice (some ⟨w2.heap.size, 0, none⟩) 1 1) 1 [.int .u8 (32 * m + 25)] := own_down (World.ownsRow_lit w2 #[.int .u8 (32 * m + 25)] 1 (size := 1) (e := 5) (Nat.le_refl _) (by decide) rfl) hsB; have hs3 := (Sl.of_own ho2).up (below_alloc w2 (.cells #[.int .u8 (32 * m + 25)] 5)); have hbC := below_up hbB (below_alloc w2 (.cells #[.int .u8 (32 * m + 25)] 5))))
      refine wp_loop_rounds 4 ?_
      repeat (rw [rounds_succ]; go_wp2_with (at_builtin; refine wpList_app rfl (.tmp 39) (.tmp 40) 22 rfl slT_u8 w.heap.size rfl ho3 rfl hs3 (one_by8 bs) (by simp [maxLen]; omega) (by omega) (by simp; omega) ?_; intro v3 w3 ho4 hg3 _))
      go_ret
      refine ⟨v3, rfl, ?_, grown_below hbC hg3 (fun k hk => (own_of_some ho3 hk).1)⟩
      rw [HX2.out, show by8 (UInt8.ofNat (32 * m + 25).toNat :: bs) = by8 [UInt8.ofNat (32 * m + 25).toNat] ++ by8 bs from rfl, HBY.out, List.length_cons, Nat.add_comm bs.length 1]
      exact ho4
    · have HX2 := Lib.hid (show headB m n = UInt8.ofNat (32 * m + 26).toNat :: bs by rw [HX.out]; congr 2; omega)
      have hby : by8 [UInt8.ofNat (32 * m + 26).toNat] = [.int .u8 (32 * m + 26)] := byte_of (by omega) (by omega)
      have HBY := Lib.hid hby
      clear hby
      have hbl := HBL.out
      go_enter Tryd.func41, Tryd.ntmps41
      go_wp2_with (first
        | (go_at_call 54; refine (HL.out _).mono ?_; rintro en w1 ⟨rfl, hb1⟩)
        | (go_at_call 55; refine (HP.out _).mono ?_; rintro en w2 ⟨v2, rfl, ho2, hb2⟩; obtain ⟨a2, c2, rfl⟩ := own_slice ho2; have hbB := below_up hb1 hb2; have hsB := hbB.size; have ho3 : (w2.alloc (.cells #[.int .u8 (32 * m + 26)] 5)).ownsRow w.heap.size 5 1 (.slice (some ⟨w2.heap.size, 0, none⟩) 1 1) 1 [.int .u8 (32 * m + 26)] := own_down (World.ownsRow_lit w2 #[.int .u8 (32 * m + 26)] 1 (size := 1) (e := 5) (Nat.le_refl _) (by decide) rfl) hsB; have hs3 := (Sl.of_own ho2).up (below_alloc w2 (.cells #[.int .u8 (32 * m + 26)] 5)); have hbC := below_up hbB (below_alloc w2 (.cells #[.int .u8 (32 * m + 26)] 5))))
      refine wp_loop_rounds 4 ?_
      repeat (rw [rounds_succ]; go_wp2_with (at_builtin; refine wpList_app rfl (.tmp 39) (.tmp 40) 22 rfl slT_u8 w.heap.size rfl ho3 rfl hs3 (one_by8 bs) (by simp [maxLen]; omega) (by omega) (by simp; omega) ?_; intro v3 w3 ho4 hg3 _))
      go_ret
      refine ⟨v3, rfl, ?_, grown_below hbC hg3 (fun k hk => (own_of_some ho3 hk).1)⟩
      rw [HX2.out, show by8 (UInt8.ofNat (32 * m + 26).toNat :: bs) = by8 [UInt8.ofNat (32 * m + 26).toNat] ++ by8 bs from rfl, HBY.out, List.length_cons, Nat.add_comm bs.length 1]
      exact ho4
    · have HX2 := Lib.hid (show headB m n = UInt8.ofNat (32 * m + 27).toNat :: bs by rw [HX.out]; congr 2; omega)
      have hby : by8 [UInt8.ofNat (32 * m + 27).toNat] = [.int .u8 (32 * m + 27)] := byte_of (by omega) (by omega)
      have HBY := Lib.hid hby
      clear hby
      have hbl := HBL.out
      go_enter Tryd.func41, Tryd.ntmps41
      go_wp2_with (first
        | (go_at_call 54; refine (HL.out _).mono ?_; rintro en w1 ⟨rfl, hb1⟩)
        | (go_at_call 55; refine (HP.out _).mono ?_; rintro en w2 ⟨v2, rfl, ho2, hb2⟩; obtain ⟨a2, c2, rfl⟩ := own_slice ho2; have hbB := below_up hb1 hb2; have hsB := hbB.size; have ho3 : (w2.alloc (.cells #[.int .u8 (32 * m + 27)] 5)).ownsRow w.heap.size 5 1 (.slice (some ⟨w2.heap.size, 0, none⟩) 1 1) 1 [.int .u8 (32 * m + 27)] := own_down (World.ownsRow_lit w2 #[.int .u8 (32 * m + 27)] 1 (size := 1) (e := 5) (Nat.le_refl _) (by decide) rfl) hsB; have hs3 := (Sl.of_own ho2).up (below_alloc w2 (.cells #[.int .u8 (32 * m + 27)] 5)); have hbC := below_up hbB (below_alloc w2 (.cells #[.int .u8 (32 * m + 27)] 5))))
      refine wp_loop_rounds 4 ?_
      repeat (rw [rounds_succ]; go_wp2_with (at_builtin; refine wpList_app rfl (.tmp 39) (.tmp 40) 22 rfl slT_u8 w.heap.size rfl ho3 rfl hs3 (one_by8 bs) (by simp [maxLen]; omega) (by omega) (by simp; omega) ?_; intro v3 w3 ho4 hg3 _))
      go_ret
      refine ⟨v3, rfl, ?_, grown_below hbC hg3 (fun k hk => (own_of_some ho3 hk).1)⟩
      rw [HX2.out, show by8 (UInt8.ofNat (32 * m + 27).toNat :: bs) = by8 [UInt8.ofNat (32 * m + 27).toNat] ++ by8 bs from rfl, HBY.out, List.length_cons, Nat.add_comm bs.length 1]
      exact ho4
end Go.Proofs.YtjenohodgpmchaaDoor
