/-
  NStabF: several texts in one (bundle.py).
-/
import Derived.Test.YtpfgepgjpnekdaaDoorNmO22
namespace Go.Proofs.YtpfgepgjpnekdaaDoor
open Go.RowKit Srt
set_option linter.unusedSimpArgs false
set_option linter.unusedVariables false

section
variable {α : Type} {cells : α → List Value} {cf : α → α → Int}
theorem half_lt {i j : Nat} (h : i < j) : i ≤ (i + j) / 2 ∧ (i + j) / 2 < j := by omega
theorem take_last {V : List α} {t : Nat} {z y : α} (hz : V[t]? = some z) (hy : (V.take (t + 1)).getLast? = some y) : y = z := by
  rw [take_snoc hz, List.getLast?_concat] at hy
  exact (Option.some.inj hy).symm
theorem drop_head {V : List α} {t : Nat} {z y : α} (hz : V[t]? = some z) (hy : (V.drop t).head? = some y) : y = z := by
  rw [drop_cons hz] at hy
  exact (Option.some.inj hy).symm
set_option maxHeartbeats 2000000 in
set_option maxRecDepth 100000 in
theorem sm1_c (hsz : ∀ x, (cells x).length = 4) (h1 : ∀ x, (cells x).all (·.oneCell') = true) (hT : TO (ltc cf)) {L : List α} (Lp V Lq : List α) (x : α) (hL : L = Lp ++ x :: V ++ Lq) (hV : 0 < V.length) (hS : Sorted (ltc cf) V) {n a m e : Nat} (hn : L.length = n) (ha : Lp.length = a) (hm : a + 1 = m) (he : m + V.length = e) (hb : n ≤ 1000000000) {b c : Nat} {J : List Value} (g : FuncId) (cap : Array Value) (hent : Enters Tryd.prog g) (hcmp : ∀ (x y : α) (w1 : World), Calls Tryd.prog g (#[.agg (cells x).toArray, .agg (cells y).toArray] ++ cap) w1 (Ret (.int .i64 (cf x y)) w1)) (w : World) (h : Arr w b 31 J cells L) :
    Calls Tryd.prog 114 #[.slice (some ⟨b, 0, none⟩) n c, .int .i64 (a : Int), .int .i64 (m : Int), .int .i64 (e : Int), .func (.func g) #[] cap] w
      fun en w' => en = .returned (.tuple #[]) ∧ ∃ W, W.Perm (x :: V) ∧ Sorted (ltc cf) W ∧ Arr w' b 31 J cells (Lp ++ W ++ Lq) ∧ But (· = b) w w' := by
  have hnl : a + 1 + V.length + Lq.length = n := by rw [← hn, hL]; simp only [List.length_append, List.length_cons]; omega
  have w1 : IntKind.i64.wrap ((m : Int) - (a : Int)) = 1 := by rw [IntKind.wrap_i64]; omega
  have HI := Lib.hid (And.intro ha (And.intro hnl (And.intro hm he)))
  have HC := Lib.hid hcmp
  unfold Enters at hent
  have HLe := Lib.hid hL
  clear hnl hcmp hm he hL ha
  go_enter Tryd.func114, Tryd.ntmps114
  go_wp2
  go_loopw [10, 11] (fun vi vj wr => ∃ (i j p q : Nat), vi = .int .i64 i ∧ vj = .int .i64 j ∧ i = m + p ∧ j = m + q ∧ p ≤ q ∧ q ≤ V.length ∧ (∀ y, (V.take p).getLast? = some y → ltc cf y x = true) ∧ (∀ y, (V.drop q).head? = some y → ltc cf y x = false) ∧ Arr wr b 31 J cells L ∧ But (· = b) w wr) (fun vi vj _ => (intOf vj).toNat - (intOf vi).toNat)
  case atStart =>
    have := HI.out
    exact ⟨m, e, 0, V.length, rfl, rfl, rfl, by omega, Nat.zero_le _, Nat.le_refl _, (fun y hy => by simp at hy), (fun y hy => by simp at hy), h, But.refl _ _⟩
  case round =>
    clear h
    obtain ⟨i, j, p, q, rfl, rfl, hi, hj, hpq, hqV, hc1, hc2, hA, hB⟩ := hrel
    by_cases hij : i < j
    · have hijI : (i : Int) < (j : Int) := by omega
      obtain ⟨ha, hnl, hm, he⟩ := HI.out
      obtain ⟨s, hs⟩ : ∃ s, i + j = s := ⟨_, rfl⟩
      obtain ⟨hh, hhe⟩ : ∃ hh, s / 2 = hh := ⟨_, rfl⟩
      have hb1 : i ≤ hh ∧ hh < j := by omega
      have ws : IntKind.i64.wrap ((i : Int) + (j : Int)) = (s : Int) := by rw [IntKind.wrap_i64]; omega
      have wu : IntKind.u64.wrap (s : Int) = (s : Int) := by rw [IntKind.wrap_u64]; omega
      have wh : IntKind.i64.wrap ((s : Int) / 2) = (hh : Int) := by rw [IntKind.wrap_i64]; omega
      have wi : IntKind.i64.wrap ((hh : Int) + 1) = ((hh + 1 : Nat) : Int) := by rw [IntKind.wrap_i64]; omega
      obtain ⟨h2, hh2⟩ : ∃ h2, hh + 1 = h2 := ⟨_, rfl⟩
      rw [hh2] at wi
      obtain ⟨t, ht⟩ : ∃ t, hh = m + t := ⟨hh - m, by omega⟩
      obtain ⟨y, hy⟩ : ∃ y, V[t]? = some y := ⟨V[t]'(by omega), List.getElem?_eq_getElem (by omega)⟩
      have hg1 : L[hh]? = some y := by rw [HLe.out, List.append_assoc, List.getElem?_append_right (by omega), show hh - Lp.length = t + 1 by omega, List.cons_append, List.getElem?_cons_succ, List.getElem?_append_left (by omega)]; exact hy
      have hg2 : L[a]? = some x := by rw [HLe.out, List.append_assoc, ← ha, List.getElem?_append_right (Nat.le_refl _), Nat.sub_self]; rfl
      have hr1 := hA.at hsz hg1
      have hr2 := hA.at hsz hg2
      have hhI : (hh : Int) < (n : Int) := by omega
      have haI : (a : Int) < (n : Int) := by omega
      obtain ⟨cv, hcv⟩ : ∃ cv, cf y x = cv := ⟨_, rfl⟩
      have hcx := fun w1 => HC.out y x w1
      simp only [hcv] at hcx
      have HCX := Lib.hid hcx
      have HQ := Lib.hid (And.intro hi (And.intro hj (And.intro hpq (And.intro hqV (And.intro hc1 (And.intro hc2 (And.intro hb1 (And.intro ht (And.intro hy (And.intro hcv hh2))))))))))
      have HA := Lib.hid (And.intro hA hB)
      clear ha hnl hm he hi hj hpq hqV hc1 hc2 hb1 ht hy hcx hcv hs hhe hg1 hg2 hA hB hh2
      go_wp2
      refine wp_region_pt (fun _ => False) (.q 0 (.q 1 (.q 2 (.q 3 (.q 4 (.q 5 (.q 6 (.q 7 (.q 8 (.c 9 (.q 10 .done))))))))))) (by kernel_rfl) (by kernel_rfl) (by kernel_rfl) (by decide) (fun _ _ d _ _ h => by cases d <;> exact h) (fun Wd hBd => ?_)
      try simp only [Act.put, List.getElem_toArray, List.getElem_cons_zero, List.getElem_cons_succ, List.setIfInBounds_toArray, List.set_cons_zero, List.set_cons_succ]
      have hr1 := rangeAt_up hBd hr1
      have hr2 := rangeAt_up hBd hr2
      refine pt_q (v := ?_) rfl (by rfl) ?_ ?_
      rotate_left
      · intro w' hBw'
        first | (go_simp; done) | (go_simp; with_reducible rfl)
      try simp only [Act.put, List.getElem_toArray, List.getElem_cons_zero, List.getElem_cons_succ, List.setIfInBounds_toArray, List.set_cons_zero, List.set_cons_succ]
      refine pt_q (v := ?_) rfl (by rfl) ?_ ?_
      rotate_left
      · intro w' hBw'
        first | (go_simp; done) | (go_simp; with_reducible rfl)
      try simp only [Act.put, List.getElem_toArray, List.getElem_cons_zero, List.getElem_cons_succ, List.setIfInBounds_toArray, List.set_cons_zero, List.set_cons_succ]
      refine pt_q (v := ?_) rfl (by rfl) ?_ ?_
      rotate_left
      · intro w' hBw'
        first | (go_simp; done) | (go_simp; with_reducible rfl)
      try simp only [Act.put, List.getElem_toArray, List.getElem_cons_zero, List.getElem_cons_succ, List.setIfInBounds_toArray, List.set_cons_zero, List.set_cons_succ]
      refine pt_q (v := ?_) rfl (by rfl) ?_ ?_
      rotate_left
      · intro w' hBw'
        first | (go_simp; done) | (go_simp; with_reducible rfl)
      try simp only [Act.put, List.getElem_toArray, List.getElem_cons_zero, List.getElem_cons_succ, List.setIfInBounds_toArray, List.set_cons_zero, List.set_cons_succ]
      refine pt_load rfl (by rfl) 31 (.tmp 43) rfl b (hh * 4) rfl (cells y) _ hr1 (fun h => h) Tryd.underlying31 rfl (by rw [hsz]; kernel_rfl) ?_
      try simp only [Act.put, List.getElem_toArray, List.getElem_cons_zero, List.getElem_cons_succ, List.setIfInBounds_toArray, List.set_cons_zero, List.set_cons_succ]
      refine pt_q (v := ?_) rfl (by rfl) ?_ ?_
      rotate_left
      · intro w' hBw'
        first | (go_simp; done) | (go_simp; with_reducible rfl)
      try simp only [Act.put, List.getElem_toArray, List.getElem_cons_zero, List.getElem_cons_succ, List.setIfInBounds_toArray, List.set_cons_zero, List.set_cons_succ]
      refine pt_q (v := ?_) rfl (by rfl) ?_ ?_
      rotate_left
      · intro w' hBw'
        first | (go_simp; done) | (go_simp; with_reducible rfl)
      try simp only [Act.put, List.getElem_toArray, List.getElem_cons_zero, List.getElem_cons_succ, List.setIfInBounds_toArray, List.set_cons_zero, List.set_cons_succ]
      refine pt_q (v := ?_) rfl (by rfl) ?_ ?_
      rotate_left
      · intro w' hBw'
        first | (go_simp; done) | (go_simp; with_reducible rfl)
      try simp only [Act.put, List.getElem_toArray, List.getElem_cons_zero, List.getElem_cons_succ, List.setIfInBounds_toArray, List.set_cons_zero, List.set_cons_succ]
      refine pt_load rfl (by rfl) 31 (.tmp 47) rfl b (a * 4) rfl (cells x) _ hr2 (fun h => h) Tryd.underlying31 rfl (by rw [hsz]; kernel_rfl) ?_
      try simp only [Act.put, List.getElem_toArray, List.getElem_cons_zero, List.getElem_cons_succ, List.setIfInBounds_toArray, List.set_cons_zero, List.set_cons_succ]
      refine pt_c ?_
      refine pt_step rfl (by rfl) (fun K hK => ?_)
      go_simp
      refine (Calls.cast rfl (HCX.out Wd)).mono ?_
      rintro en w4 ⟨rfl, hb4⟩
      refine hK.out _ _ (But.of_below hb4) ?_
      clear hK K
      try simp only [Act.put, List.getElem_toArray, List.getElem_cons_zero, List.getElem_cons_succ, List.setIfInBounds_toArray, List.set_cons_zero, List.set_cons_succ]
      refine pt_q (v := ?_) rfl (by rfl) ?_ ?_
      rotate_left
      · intro w' hBw'
        first | (go_simp; done) | (go_simp; with_reducible rfl)
      try simp only [Act.put, List.getElem_toArray, List.getElem_cons_zero, List.getElem_cons_succ, List.setIfInBounds_toArray, List.set_cons_zero, List.set_cons_succ]
      refine pt_done ?_
      obtain ⟨hi, hj, hpq, hqV, hc1, hc2, hb1, ht, hy, hcv, hh2⟩ := HQ.out
      have HA2 := Lib.hid (And.intro (RowAt.below HA.out.1 (hBd.trans (hb4.mono hBd.size))) (HA.out.2.trans (But.of_below (hBd.trans (hb4.mono hBd.size)))))
      clear hr1 hr2 hb4 hBd
      by_cases hc : cv < 0
      · have dc : decide (cv < 0) = true := decide_eq_true hc
        have HLT := Lib.hid (show ltc cf y x = true by unfold ltc; rw [hcv]; exact dc)
        clear hi hj hpq hqV hc1 hc2 hb1 ht hy hcv hh2
        go_wp2
        obtain ⟨hi, hj, hpq, hqV, hc1, hc2, hb1, ht, hy, hcv, hh2⟩ := HQ.out
        refine ⟨⟨h2, j, t + 1, q, rfl, rfl, by omega, hj, by omega, hqV, (fun z hz => by rw [take_last hy hz]; exact HLT.out), hc2, HA2.out.1, HA2.out.2⟩, by simp [intOf]; omega⟩
      · have dc : decide (cv < 0) = false := decide_eq_false hc
        have HLT := Lib.hid (show ltc cf y x = false by unfold ltc; rw [hcv]; exact dc)
        clear hi hj hpq hqV hc1 hc2 hb1 ht hy hcv hh2
        go_wp2
        obtain ⟨hi, hj, hpq, hqV, hc1, hc2, hb1, ht, hy, hcv, hh2⟩ := HQ.out
        refine ⟨⟨i, hh, p, t, rfl, rfl, hi, ht, by omega, by omega, hc1, (fun z hz => by rw [drop_head hy hz]; exact HLT.out), HA2.out.1, HA2.out.2⟩, by simp [intOf]; omega⟩
    · obtain rfl : i = j := by omega
      obtain rfl : p = q := by omega
      have hmm := HI.out.2.2.1
      obtain ⟨ii, hii⟩ : ∃ ii, i - 1 = ii := ⟨_, rfl⟩
      have hiap : ii = a + p := by omega
      have hin : i ≤ n := by have := HI.out; omega
      have wi1 : IntKind.i64.wrap ((i : Int) - 1) = (ii : Int) := by rw [IntKind.wrap_i64]; omega
      have hS2 : Sorted (ltc cf) (V.take p ++ x :: V.drop p) := ins_sorted hT (by rw [List.take_append_drop]; exact hS) (fun z hz => hT.asym _ _ (hc1 z hz)) hc2
      have hA0 : Arr wr b 31 J cells (Lp ++ V.take 0 ++ x :: V.drop 0 ++ Lq) := by rw [HLe.out] at hA; simpa using hA
      have HQ := Lib.hid (And.intro hiap (And.intro hqV hS2))
      clear hA hi hj hc1 hc2 hS2 hii hmm
      go_wp2
      go_loopw [13] (fun vk wk => ∃ (k t : Nat), vk = .int .i64 k ∧ k = a + t ∧ t ≤ p ∧ Arr wk b 31 J cells (Lp ++ V.take t ++ x :: V.drop t ++ Lq) ∧ But (· = b) w wk) (fun vk _ => ii - (intOf vk).toNat)
      case atStart => exact ⟨a, 0, rfl, rfl, Nat.zero_le _, hA0, hB⟩
      case round =>
        clear hA0 hB
        obtain ⟨k, t, rfl, hk, htp, hA, hB⟩ := hrel
        have hq1 := HQ.out.1
        by_cases hki : k < ii
        · have hkI : (k : Int) < (ii : Int) := by omega
          have g1 := HI.out
          obtain ⟨y, hy⟩ : ∃ y, V[t]? = some y := ⟨V[t]'(by omega), List.getElem?_eq_getElem (by omega)⟩
          have hLe1 : Lp ++ V.take t ++ x :: V.drop t ++ Lq = (Lp ++ V.take t) ++ x :: y :: (V.drop (t + 1) ++ Lq) := by rw [drop_cons hy]; simp
          have hLe2 : Lp ++ V.take (t + 1) ++ x :: V.drop (t + 1) ++ Lq = (Lp ++ V.take t) ++ y :: x :: (V.drop (t + 1) ++ Lq) := by rw [take_snoc hy]; simp
          have hAl : (Lp ++ V.take t).length = k := by rw [List.length_append, List.length_take]; omega
          rw [hLe1] at hA
          have hga := nb_get1 (Lp ++ V.take t) (V.drop (t + 1) ++ Lq) x y
          have hgb := nb_get2 (Lp ++ V.take t) (V.drop (t + 1) ++ Lq) x y
          have hsb := swap_nb (Lp ++ V.take t) (V.drop (t + 1) ++ Lq) x y
          have hLn : ((Lp ++ V.take t) ++ x :: y :: (V.drop (t + 1) ++ Lq)).length = n := by
            simp only [List.length_append, List.length_cons, List.length_drop, List.length_take]; omega
          obtain ⟨k1, hk1⟩ : ∃ k1, k + 1 = k1 := ⟨_, rfl⟩
          rw [hAl] at hga hgb hsb
          rw [hk1] at hgb hsb
          obtain ⟨LL, hLL⟩ : ∃ LL, (Lp ++ V.take t) ++ x :: y :: (V.drop (t + 1) ++ Lq) = LL := ⟨_, rfl⟩
          rw [hLL] at hA hga hgb hsb hLn
          have hr1 := hA.at hsz hga
          have hr2 := hA.at hsz hgb
          have Hh := Lib.hid (And.intro hA hLn)
          have HS := Lib.hid (And.intro hsb hLe2)
          have HBt := Lib.hid hB
          have wk1 : IntKind.i64.wrap ((k : Int) + 1) = (k1 : Int) := by rw [IntKind.wrap_i64]; omega
          have hkn : k < n := by omega
          have hk1n : k1 < n := by omega
          have hkN : (k : Int) < (n : Int) := by omega
          have hk1N : (k1 : Int) < (n : Int) := by omega
          have HK := Lib.hid (And.intro hk1 (And.intro hk hq1))
          clear hy hLe1 hLe2 hAl hA hga hgb hsb hLn hLL g1 hB hk1 hk hq1
          go_wp2
          refine wp_region_pt (fun i => i = b) (.q 0 (.q 1 (.q 2 (.q 3 (.q 4 (.q 5 (.q 6 (.q 7 (.q 8 (.q 10 (.q 11 (.q 12 (.f 9 (.c 13 (.q 14 (.c 15 (.q 16 (.c 17 .done))))) 13 (.c 9 (.q 14 (.c 15 (.q 16 (.c 17 .done)))))))))))))))))) (by kernel_rfl) (by kernel_rfl) (by kernel_rfl) (by decide) (fun _ _ d _ _ h => by cases d <;> exact h) (fun Wd hBd => ?_)
          try simp only [Act.put, List.getElem_toArray, List.getElem_cons_zero, List.getElem_cons_succ, List.setIfInBounds_toArray, List.set_cons_zero, List.set_cons_succ]
          have hA1 := RowAt.below Hh.out.1 hBd
          have hLl := Hh.out.2
          have hr1 := rangeAt_up hBd hr1
          have hr2 := rangeAt_up hBd hr2
          refine pt_q (v := ?_) rfl (by rfl) ?_ ?_
          rotate_left
          · intro w' hBw'
            first | (go_simp; done) | (go_simp; with_reducible rfl)
          try simp only [Act.put, List.getElem_toArray, List.getElem_cons_zero, List.getElem_cons_succ, List.setIfInBounds_toArray, List.set_cons_zero, List.set_cons_succ]
          refine pt_q (v := ?_) rfl (by rfl) ?_ ?_
          rotate_left
          · intro w' hBw'
            first | (go_simp; done) | (go_simp; with_reducible rfl)
          try simp only [Act.put, List.getElem_toArray, List.getElem_cons_zero, List.getElem_cons_succ, List.setIfInBounds_toArray, List.set_cons_zero, List.set_cons_succ]
          refine pt_q (v := ?_) rfl (by rfl) ?_ ?_
          rotate_left
          · intro w' hBw'
            first | (go_simp; done) | (go_simp; with_reducible rfl)
          try simp only [Act.put, List.getElem_toArray, List.getElem_cons_zero, List.getElem_cons_succ, List.setIfInBounds_toArray, List.set_cons_zero, List.set_cons_succ]
          refine pt_q (v := ?_) rfl (by rfl) ?_ ?_
          rotate_left
          · intro w' hBw'
            first | (go_simp; done) | (go_simp; with_reducible rfl)
          try simp only [Act.put, List.getElem_toArray, List.getElem_cons_zero, List.getElem_cons_succ, List.setIfInBounds_toArray, List.set_cons_zero, List.set_cons_succ]
          refine pt_q (v := ?_) rfl (by rfl) ?_ ?_
          rotate_left
          · intro w' hBw'
            first | (go_simp; done) | (go_simp; with_reducible rfl)
          try simp only [Act.put, List.getElem_toArray, List.getElem_cons_zero, List.getElem_cons_succ, List.setIfInBounds_toArray, List.set_cons_zero, List.set_cons_succ]
          refine pt_q (v := ?_) rfl (by rfl) ?_ ?_
          rotate_left
          · intro w' hBw'
            first | (go_simp; done) | (go_simp; with_reducible rfl)
          try simp only [Act.put, List.getElem_toArray, List.getElem_cons_zero, List.getElem_cons_succ, List.setIfInBounds_toArray, List.set_cons_zero, List.set_cons_succ]
          refine pt_q (v := ?_) rfl (by rfl) ?_ ?_
          rotate_left
          · intro w' hBw'
            first | (go_simp; done) | (go_simp; with_reducible rfl)
          try simp only [Act.put, List.getElem_toArray, List.getElem_cons_zero, List.getElem_cons_succ, List.setIfInBounds_toArray, List.set_cons_zero, List.set_cons_succ]
          refine pt_q (v := ?_) rfl (by rfl) ?_ ?_
          rotate_left
          · intro w' hBw'
            first | (go_simp; done) | (go_simp; with_reducible rfl)
          try simp only [Act.put, List.getElem_toArray, List.getElem_cons_zero, List.getElem_cons_succ, List.setIfInBounds_toArray, List.set_cons_zero, List.set_cons_succ]
          refine pt_q (v := ?_) rfl (by rfl) ?_ ?_
          rotate_left
          · intro w' hBw'
            first | (go_simp; done) | (go_simp; with_reducible rfl)
          try simp only [Act.put, List.getElem_toArray, List.getElem_cons_zero, List.getElem_cons_succ, List.setIfInBounds_toArray, List.set_cons_zero, List.set_cons_succ]
          refine pt_q (v := ?_) rfl (by rfl) ?_ ?_
          rotate_left
          · intro w' hBw'
            first | (go_simp; done) | (go_simp; with_reducible rfl)
          try simp only [Act.put, List.getElem_toArray, List.getElem_cons_zero, List.getElem_cons_succ, List.setIfInBounds_toArray, List.set_cons_zero, List.set_cons_succ]
          refine pt_q (v := ?_) rfl (by rfl) ?_ ?_
          rotate_left
          · intro w' hBw'
            first | (go_simp; done) | (go_simp; with_reducible rfl)
          try simp only [Act.put, List.getElem_toArray, List.getElem_cons_zero, List.getElem_cons_succ, List.setIfInBounds_toArray, List.set_cons_zero, List.set_cons_succ]
          refine pt_q (v := ?_) rfl (by rfl) ?_ ?_
          rotate_left
          · intro w' hBw'
            first | (go_simp; done) | (go_simp; with_reducible rfl)
          try simp only [Act.put, List.getElem_toArray, List.getElem_cons_zero, List.getElem_cons_succ, List.setIfInBounds_toArray, List.set_cons_zero, List.set_cons_succ]
          refine pt_f ?_ ?_
          · refine pt_cload rfl (by rfl) 31 (.tmp 69) rfl b ((k1) * 4) rfl (cells y) _ hr2 Tryd.underlying31 rfl (by rw [hsz]; kernel_rfl) ?_
            try simp only [Act.put, List.getElem_toArray, List.getElem_cons_zero, List.getElem_cons_succ, List.setIfInBounds_toArray, List.set_cons_zero, List.set_cons_succ]
            refine pt_c ?_
            refine pt_cload rfl (by rfl) 31 (.tmp 73) rfl b ((k) * 4) rfl (cells x) _ hr1 Tryd.underlying31 rfl (by rw [hsz]; kernel_rfl) ?_
            try simp only [Act.put, List.getElem_toArray, List.getElem_cons_zero, List.getElem_cons_succ, List.setIfInBounds_toArray, List.set_cons_zero, List.set_cons_succ]
            refine pt_q (v := ?_) rfl (by rfl) ?_ ?_
            rotate_left
            · intro w' hBw'
              first | (go_simp; done) | (go_simp; with_reducible rfl)
            try simp only [Act.put, List.getElem_toArray, List.getElem_cons_zero, List.getElem_cons_succ, List.setIfInBounds_toArray, List.set_cons_zero, List.set_cons_succ]
            refine pt_c ?_
            refine pt_put_at rfl (by rfl) 31 (.tmp 75) (.tmp 70) rfl b ((k) * 4) (cells y) rfl rfl (by rw [hsz]; exact Arr.there hA1 hsz (by omega)) (by rw [hsz]; kernel_rfl) (h1 _) rfl ?_
            try simp only [Act.put, List.getElem_toArray, List.getElem_cons_zero, List.getElem_cons_succ, List.setIfInBounds_toArray, List.set_cons_zero, List.set_cons_succ]
            have hA2 := Arr.put hA1 hsz (i := k) (by omega) y
            refine pt_q (v := ?_) rfl (by rfl) ?_ ?_
            rotate_left
            · intro w' hBw'
              first | (go_simp; done) | (go_simp; with_reducible rfl)
            try simp only [Act.put, List.getElem_toArray, List.getElem_cons_zero, List.getElem_cons_succ, List.setIfInBounds_toArray, List.set_cons_zero, List.set_cons_succ]
            refine pt_c ?_
            refine pt_put_at rfl (by rfl) 31 (.tmp 76) (.tmp 74) rfl b ((k1) * 4) (cells x) rfl rfl (by rw [hsz]; exact Arr.there hA2 hsz (by rw [List.length_set]; omega)) (by rw [hsz]; kernel_rfl) (h1 _) rfl ?_
            try simp only [Act.put, List.getElem_toArray, List.getElem_cons_zero, List.getElem_cons_succ, List.setIfInBounds_toArray, List.set_cons_zero, List.set_cons_succ]
            have hA3 := Arr.put hA2 hsz (i := k1) (by rw [List.length_set]; omega) x
            refine pt_done ?_
            have hb2 := (But.setCells (O := (· = b)) (cells y) Wd (k * 4) rfl).trans (But.setCells (O := (· = b)) (cells x) _ (k1 * 4) rfl)
            rw [HS.out.1] at hA3
            have hB3 := (HBt.out.trans (But.of_below hBd)).trans hb2
            have HN := Lib.hid (And.intro hA3 hB3)
            generalize ((Wd.setCells b (k * 4) (cells y)).setCells b (k1 * 4) (cells x)) = W3 at HN ⊢
            clear hA1 hA2 hA3 hr1 hr2 hb2 hB3 hBd
            go_wp2
            obtain ⟨hk1, hk, hq1⟩ := HK.out
            refine ⟨⟨k1, t + 1, rfl, by omega, by omega, by rw [HS.out.2]; exact HN.out.1, HN.out.2⟩, ?_⟩
            simp [intOf]; omega
          · refine pt_cload rfl (by rfl) 31 (.tmp 73) rfl b ((k) * 4) rfl (cells x) _ hr1 Tryd.underlying31 rfl (by rw [hsz]; kernel_rfl) ?_
            try simp only [Act.put, List.getElem_toArray, List.getElem_cons_zero, List.getElem_cons_succ, List.setIfInBounds_toArray, List.set_cons_zero, List.set_cons_succ]
            refine pt_c ?_
            refine pt_cload rfl (by rfl) 31 (.tmp 69) rfl b ((k1) * 4) rfl (cells y) _ hr2 Tryd.underlying31 rfl (by rw [hsz]; kernel_rfl) ?_
            try simp only [Act.put, List.getElem_toArray, List.getElem_cons_zero, List.getElem_cons_succ, List.setIfInBounds_toArray, List.set_cons_zero, List.set_cons_succ]
            refine pt_q (v := ?_) rfl (by rfl) ?_ ?_
            rotate_left
            · intro w' hBw'
              first | (go_simp; done) | (go_simp; with_reducible rfl)
            try simp only [Act.put, List.getElem_toArray, List.getElem_cons_zero, List.getElem_cons_succ, List.setIfInBounds_toArray, List.set_cons_zero, List.set_cons_succ]
            refine pt_c ?_
            refine pt_put_at rfl (by rfl) 31 (.tmp 75) (.tmp 70) rfl b ((k) * 4) (cells y) rfl rfl (by rw [hsz]; exact Arr.there hA1 hsz (by omega)) (by rw [hsz]; kernel_rfl) (h1 _) rfl ?_
            try simp only [Act.put, List.getElem_toArray, List.getElem_cons_zero, List.getElem_cons_succ, List.setIfInBounds_toArray, List.set_cons_zero, List.set_cons_succ]
            have hA2 := Arr.put hA1 hsz (i := k) (by omega) y
            refine pt_q (v := ?_) rfl (by rfl) ?_ ?_
            rotate_left
            · intro w' hBw'
              first | (go_simp; done) | (go_simp; with_reducible rfl)
            try simp only [Act.put, List.getElem_toArray, List.getElem_cons_zero, List.getElem_cons_succ, List.setIfInBounds_toArray, List.set_cons_zero, List.set_cons_succ]
            refine pt_c ?_
            refine pt_put_at rfl (by rfl) 31 (.tmp 76) (.tmp 74) rfl b ((k1) * 4) (cells x) rfl rfl (by rw [hsz]; exact Arr.there hA2 hsz (by rw [List.length_set]; omega)) (by rw [hsz]; kernel_rfl) (h1 _) rfl ?_
            try simp only [Act.put, List.getElem_toArray, List.getElem_cons_zero, List.getElem_cons_succ, List.setIfInBounds_toArray, List.set_cons_zero, List.set_cons_succ]
            have hA3 := Arr.put hA2 hsz (i := k1) (by rw [List.length_set]; omega) x
            refine pt_done ?_
            have hb2 := (But.setCells (O := (· = b)) (cells y) Wd (k * 4) rfl).trans (But.setCells (O := (· = b)) (cells x) _ (k1 * 4) rfl)
            rw [HS.out.1] at hA3
            have hB3 := (HBt.out.trans (But.of_below hBd)).trans hb2
            have HN := Lib.hid (And.intro hA3 hB3)
            generalize ((Wd.setCells b (k * 4) (cells y)).setCells b (k1 * 4) (cells x)) = W3 at HN ⊢
            clear hA1 hA2 hA3 hr1 hr2 hb2 hB3 hBd
            go_wp2
            obtain ⟨hk1, hk, hq1⟩ := HK.out
            refine ⟨⟨k1, t + 1, rfl, by omega, by omega, by rw [HS.out.2]; exact HN.out.1, HN.out.2⟩, ?_⟩
            simp [intOf]; omega
        · obtain rfl : k = ii := by omega
          obtain rfl : t = p := by omega
          go_wp2
          refine bodyPost_ret (v := .tuple #[]) (results_none rfl _ _ _) rfl ?_
          refine ⟨rfl, V.take t ++ x :: V.drop t, ?_, HQ.out.2.2, by rw [show Lp ++ (V.take t ++ x :: V.drop t) ++ Lq = Lp ++ V.take t ++ x :: V.drop t ++ Lq by simp]; exact hA, hB⟩
          exact List.perm_middle.trans (by rw [List.take_append_drop])
end
end Go.Proofs.YtpfgepgjpnekdaaDoor
