/-
  NStabC, NStabD: several texts in one (bundle.py).
-/
import Derived.Test.YtpfgepgjpnekdaaDoorNmI31
namespace Go.Proofs.YtpfgepgjpnekdaaDoor
open Go.RowKit
set_option linter.unusedSimpArgs false
set_option linter.unusedVariables false

section
variable {α : Type} {cells : α → List Value}
set_option maxHeartbeats 1000000 in
set_option maxRecDepth 100000 in
theorem swapRange_c (hsz : ∀ x, (cells x).length = 4) (h1 : ∀ x, (cells x).all (·.oneCell') = true) (Lp X M Y Lq : List α) (hXY : X.length = Y.length) {b c : Nat} {J : List Value} (f : Value) (w : World) (h : Arr w b 31 J cells (Lp ++ X ++ M ++ Y ++ Lq)) (hn : (Lp ++ X ++ M ++ Y ++ Lq).length ≤ 1000000000) :
    Calls Tryd.prog 127 #[.slice (some ⟨b, 0, none⟩) (Lp ++ X ++ M ++ Y ++ Lq).length c, .int .i64 (Lp.length : Int), .int .i64 ((Lp.length + X.length + M.length : Nat) : Int), .int .i64 (X.length : Int), f] w
      fun en w' => en = .returned (.tuple #[]) ∧ Arr w' b 31 J cells (Lp ++ Y ++ M ++ X ++ Lq) ∧ But (· = b) w w' := by
  obtain ⟨n, hnl⟩ : ∃ n, (Lp ++ X ++ M ++ Y ++ Lq).length = n := ⟨_, rfl⟩
  rw [hnl] at hn ⊢
  obtain ⟨p, hp⟩ : ∃ p, Lp.length = p := ⟨_, rfl⟩
  obtain ⟨k, hk⟩ : ∃ k, X.length = k := ⟨_, rfl⟩
  obtain ⟨q, hq⟩ : ∃ q, Lp.length + X.length + M.length = q := ⟨_, rfl⟩
  rw [hp, hk, ← hp, ← hk, hq, hp, hk]
  have hN : p ≤ n ∧ q + k ≤ n ∧ p + k ≤ q := by
    simp only [List.length_append] at hnl
    omega
  have HI := Lib.hid (And.intro hnl (And.intro hp (And.intro hk (And.intro hq hXY))))
  clear hnl hp hk hq hXY
  go_enter Tryd.func127, Tryd.ntmps127
  go_wp2
  go_loopw [10] (fun i wr => ∃ j : Nat, j ≤ k ∧ i = .int .i64 j ∧ Arr wr b 31 J cells (Lp ++ (Y.take j ++ X.drop j) ++ M ++ (X.take j ++ Y.drop j) ++ Lq) ∧ But (· = b) w wr) (fun i _ => k - (intOf i).toNat)
  case atStart => exact ⟨0, Nat.zero_le _, rfl, by simpa using h, But.refl _ _⟩
  case round =>
    clear h
    obtain ⟨j, hj, rfl, hA, hB⟩ := hrel
    obtain ⟨hnl, hp, hk, hq, hXY⟩ := HI.out
    by_cases hlt : j < k
    · have hjI : (j : Int) < (k : Int) := by omega
      obtain ⟨x, hx⟩ : ∃ x, X[j]? = some x := ⟨X[j]'(by omega), List.getElem?_eq_getElem (by omega)⟩
      obtain ⟨y, hy⟩ : ∃ y, Y[j]? = some y := ⟨Y[j]'(by omega), List.getElem?_eq_getElem (by omega)⟩
      obtain ⟨A, hAe⟩ : ∃ A, A = Lp ++ Y.take j := ⟨_, rfl⟩
      obtain ⟨Mi, hMe⟩ : ∃ Mi, Mi = X.drop (j + 1) ++ M ++ X.take j := ⟨_, rfl⟩
      obtain ⟨Bq, hBe⟩ : ∃ Bq, Bq = Y.drop (j + 1) ++ Lq := ⟨_, rfl⟩
      have hXd : X.drop j = x :: X.drop (j + 1) := drop_cons hx
      have hYd : Y.drop j = y :: Y.drop (j + 1) := drop_cons hy
      have hL : Lp ++ (Y.take j ++ X.drop j) ++ M ++ (X.take j ++ Y.drop j) ++ Lq = A ++ x :: Mi ++ y :: Bq := by rw [hAe, hMe, hBe, hXd, hYd]; simp
      have hL' : Lp ++ (Y.take (j + 1) ++ X.drop (j + 1)) ++ M ++ (X.take (j + 1) ++ Y.drop (j + 1)) ++ Lq = A ++ y :: Mi ++ x :: Bq := by rw [hAe, hMe, hBe, take_snoc hx, take_snoc hy]; simp
      have hAl : A.length = p + j := by rw [hAe, List.length_append, List.length_take]; omega
      have hMl : A.length + 1 + Mi.length = q + j := by rw [hAl, hMe]; simp only [List.length_append, List.length_take, List.length_drop]; omega
      have hLl : (A ++ x :: Mi ++ y :: Bq).length = n := by
        rw [← hL]
        simp only [List.length_append, List.length_take, List.length_drop] at hnl ⊢
        omega
      have hg1 := two_get1 A Mi Bq x y
      have hg2 := two_get2 A Mi Bq x y
      have hst := two_set A Mi Bq x y
      rw [hMl] at hg2 hst
      rw [hAl] at hg1 hst
      rw [hL] at hA
      obtain ⟨L, hLe⟩ : ∃ L, A ++ x :: Mi ++ y :: Bq = L := ⟨_, rfl⟩
      rw [hLe] at hA hg1 hg2 hst hLl
      have HS := Lib.hid (And.intro hst hL')
      have hr1 := hA.at hsz hg1
      have hr2 := hA.at hsz hg2
      have Hh := Lib.hid (And.intro hA hLl)
      have HBt := Lib.hid hB
      have hpj : p + j ≤ 1000000000 ∧ q + j ≤ 1000000000 := by omega
      have hi1 : p + j < n := by omega
      have hi2 : q + j < n := by omega
      have ws : IntKind.i64.wrap ((p : Int) + (j : Int)) = ((p + j : Nat) : Int) := by rw [IntKind.wrap_i64]; omega
      have wu : IntKind.i64.wrap ((q : Int) + (j : Int)) = ((q + j : Nat) : Int) := by rw [IntKind.wrap_i64]; omega
      obtain ⟨s, hs⟩ : ∃ s, p + j = s := ⟨_, rfl⟩
      obtain ⟨u, hu⟩ : ∃ u, q + j = u := ⟨_, rfl⟩
      rw [hs] at hr1 HS ws hi1
      rw [hu] at hr2 HS wu hi2
      have HPU := Lib.hid (And.intro hs hu)
      clear hs hu
      have si : (s : Int) < (n : Int) := by omega
      have ui : (u : Int) < (n : Int) := by omega
      clear hXd hYd hL hL' hAl hMl hLe hg1 hg2 hst hA hLl hAe hMe hBe hx hy hB
      clear hnl hp hq hXY
      go_wp2
      refine wp_region_pt (fun i => i = b) (.q 0 (.q 1 (.q 2 (.q 3 (.q 4 (.q 5 (.q 6 (.q 7 (.q 8 (.q 9 (.q 10 (.q 11 (.q 12 (.q 14 (.q 15 (.q 16 (.q 17 (.q 18 (.f 13 (.c 19 (.q 20 (.c 21 (.q 22 (.c 23 .done))))) 19 (.c 13 (.q 20 (.c 21 (.q 22 (.c 23 .done)))))))))))))))))))))))) (by kernel_rfl) (by kernel_rfl) (by kernel_rfl) (by decide) (fun _ _ d _ _ h => by cases d <;> exact h) (fun Wd hBd => ?_)
      try simp only [Act.put, List.getElem_toArray, List.getElem_cons_zero, List.getElem_cons_succ, List.setIfInBounds_toArray, List.set_cons_zero, List.set_cons_succ]
      have hA1 := RowAt.below Hh.out.1 hBd
      have hLl := Hh.out.2
      have hr1 := rangeAt_up hBd hr1
      have hr2 := rangeAt_up hBd hr2
      refine pt_q (v := ?_) rfl (by rfl) ?_ ?_
      rotate_left
      · intro w' hBw'
        first | (go_simp; done) | (go_simp; with_reducible rfl)
      try simp only [Act.put, List.getElem_toArray, List.getElem_cons_zero, List.getElem_cons_succ, List.setIfInBounds_toArray, List.set_cons_zero, List.set_cons_succ]
      refine pt_q (v := ?_) rfl (by rfl) ?_ ?_
      rotate_left
      · intro w' hBw'
        first | (go_simp; done) | (go_simp; with_reducible rfl)
      try simp only [Act.put, List.getElem_toArray, List.getElem_cons_zero, List.getElem_cons_succ, List.setIfInBounds_toArray, List.set_cons_zero, List.set_cons_succ]
      refine pt_q (v := ?_) rfl (by rfl) ?_ ?_
      rotate_left
      · intro w' hBw'
        first | (go_simp; done) | (go_simp; with_reducible rfl)
      try simp only [Act.put, List.getElem_toArray, List.getElem_cons_zero, List.getElem_cons_succ, List.setIfInBounds_toArray, List.set_cons_zero, List.set_cons_succ]
      refine pt_q (v := ?_) rfl (by rfl) ?_ ?_
      rotate_left
      · intro w' hBw'
        first | (go_simp; done) | (go_simp; with_reducible rfl)
      try simp only [Act.put, List.getElem_toArray, List.getElem_cons_zero, List.getElem_cons_succ, List.setIfInBounds_toArray, List.set_cons_zero, List.set_cons_succ]
      refine pt_q (v := ?_) rfl (by rfl) ?_ ?_
      rotate_left
      · intro w' hBw'
        first | (go_simp; done) | (go_simp; with_reducible rfl)
      try simp only [Act.put, List.getElem_toArray, List.getElem_cons_zero, List.getElem_cons_succ, List.setIfInBounds_toArray, List.set_cons_zero, List.set_cons_succ]
      refine pt_q (v := ?_) rfl (by rfl) ?_ ?_
      rotate_left
      · intro w' hBw'
        first | (go_simp; done) | (go_simp; with_reducible rfl)
      try simp only [Act.put, List.getElem_toArray, List.getElem_cons_zero, List.getElem_cons_succ, List.setIfInBounds_toArray, List.set_cons_zero, List.set_cons_succ]
      refine pt_q (v := ?_) rfl (by rfl) ?_ ?_
      rotate_left
      · intro w' hBw'
        first | (go_simp; done) | (go_simp; with_reducible rfl)
      try simp only [Act.put, List.getElem_toArray, List.getElem_cons_zero, List.getElem_cons_succ, List.setIfInBounds_toArray, List.set_cons_zero, List.set_cons_succ]
      refine pt_q (v := ?_) rfl (by rfl) ?_ ?_
      rotate_left
      · intro w' hBw'
        first | (go_simp; done) | (go_simp; with_reducible rfl)
      try simp only [Act.put, List.getElem_toArray, List.getElem_cons_zero, List.getElem_cons_succ, List.setIfInBounds_toArray, List.set_cons_zero, List.set_cons_succ]
      refine pt_q (v := ?_) rfl (by rfl) ?_ ?_
      rotate_left
      · intro w' hBw'
        first | (go_simp; done) | (go_simp; with_reducible rfl)
      try simp only [Act.put, List.getElem_toArray, List.getElem_cons_zero, List.getElem_cons_succ, List.setIfInBounds_toArray, List.set_cons_zero, List.set_cons_succ]
      refine pt_q (v := ?_) rfl (by rfl) ?_ ?_
      rotate_left
      · intro w' hBw'
        first | (go_simp; done) | (go_simp; with_reducible rfl)
      try simp only [Act.put, List.getElem_toArray, List.getElem_cons_zero, List.getElem_cons_succ, List.setIfInBounds_toArray, List.set_cons_zero, List.set_cons_succ]
      refine pt_q (v := ?_) rfl (by rfl) ?_ ?_
      rotate_left
      · intro w' hBw'
        first | (go_simp; done) | (go_simp; with_reducible rfl)
      try simp only [Act.put, List.getElem_toArray, List.getElem_cons_zero, List.getElem_cons_succ, List.setIfInBounds_toArray, List.set_cons_zero, List.set_cons_succ]
      refine pt_q (v := ?_) rfl (by rfl) ?_ ?_
      rotate_left
      · intro w' hBw'
        first | (go_simp; done) | (go_simp; with_reducible rfl)
      try simp only [Act.put, List.getElem_toArray, List.getElem_cons_zero, List.getElem_cons_succ, List.setIfInBounds_toArray, List.set_cons_zero, List.set_cons_succ]
      refine pt_q (v := ?_) rfl (by rfl) ?_ ?_
      rotate_left
      · intro w' hBw'
        first | (go_simp; done) | (go_simp; with_reducible rfl)
      try simp only [Act.put, List.getElem_toArray, List.getElem_cons_zero, List.getElem_cons_succ, List.setIfInBounds_toArray, List.set_cons_zero, List.set_cons_succ]
      refine pt_q (v := ?_) rfl (by rfl) ?_ ?_
      rotate_left
      · intro w' hBw'
        first | (go_simp; done) | (go_simp; with_reducible rfl)
      try simp only [Act.put, List.getElem_toArray, List.getElem_cons_zero, List.getElem_cons_succ, List.setIfInBounds_toArray, List.set_cons_zero, List.set_cons_succ]
      refine pt_q (v := ?_) rfl (by rfl) ?_ ?_
      rotate_left
      · intro w' hBw'
        first | (go_simp; done) | (go_simp; with_reducible rfl)
      try simp only [Act.put, List.getElem_toArray, List.getElem_cons_zero, List.getElem_cons_succ, List.setIfInBounds_toArray, List.set_cons_zero, List.set_cons_succ]
      refine pt_q (v := ?_) rfl (by rfl) ?_ ?_
      rotate_left
      · intro w' hBw'
        first | (go_simp; done) | (go_simp; with_reducible rfl)
      try simp only [Act.put, List.getElem_toArray, List.getElem_cons_zero, List.getElem_cons_succ, List.setIfInBounds_toArray, List.set_cons_zero, List.set_cons_succ]
      refine pt_q (v := ?_) rfl (by rfl) ?_ ?_
      rotate_left
      · intro w' hBw'
        first | (go_simp; done) | (go_simp; with_reducible rfl)
      try simp only [Act.put, List.getElem_toArray, List.getElem_cons_zero, List.getElem_cons_succ, List.setIfInBounds_toArray, List.set_cons_zero, List.set_cons_succ]
      refine pt_q (v := ?_) rfl (by rfl) ?_ ?_
      rotate_left
      · intro w' hBw'
        first | (go_simp; done) | (go_simp; with_reducible rfl)
      try simp only [Act.put, List.getElem_toArray, List.getElem_cons_zero, List.getElem_cons_succ, List.setIfInBounds_toArray, List.set_cons_zero, List.set_cons_succ]
      refine pt_f ?_ ?_
      · refine pt_cload rfl (by rfl) 31 (.tmp 28) rfl b ((u) * 4) rfl (cells y) _ hr2 Tryd.underlying31 rfl (by rw [hsz]; kernel_rfl) ?_
        try simp only [Act.put, List.getElem_toArray, List.getElem_cons_zero, List.getElem_cons_succ, List.setIfInBounds_toArray, List.set_cons_zero, List.set_cons_succ]
        refine pt_c ?_
        refine pt_cload rfl (by rfl) 31 (.tmp 34) rfl b ((s) * 4) rfl (cells x) _ hr1 Tryd.underlying31 rfl (by rw [hsz]; kernel_rfl) ?_
        try simp only [Act.put, List.getElem_toArray, List.getElem_cons_zero, List.getElem_cons_succ, List.setIfInBounds_toArray, List.set_cons_zero, List.set_cons_succ]
        refine pt_q (v := ?_) rfl (by rfl) ?_ ?_
        rotate_left
        · intro w' hBw'
          first | (go_simp; done) | (go_simp; with_reducible rfl)
        try simp only [Act.put, List.getElem_toArray, List.getElem_cons_zero, List.getElem_cons_succ, List.setIfInBounds_toArray, List.set_cons_zero, List.set_cons_succ]
        refine pt_c ?_
        refine pt_put_at rfl (by rfl) 31 (.tmp 36) (.tmp 29) rfl b ((s) * 4) (cells y) rfl rfl (by rw [hsz]; exact Arr.there hA1 hsz (by omega)) (by rw [hsz]; kernel_rfl) (h1 _) rfl ?_
        try simp only [Act.put, List.getElem_toArray, List.getElem_cons_zero, List.getElem_cons_succ, List.setIfInBounds_toArray, List.set_cons_zero, List.set_cons_succ]
        have hA2 := Arr.put hA1 hsz (i := s) (by omega) y
        refine pt_q (v := ?_) rfl (by rfl) ?_ ?_
        rotate_left
        · intro w' hBw'
          first | (go_simp; done) | (go_simp; with_reducible rfl)
        try simp only [Act.put, List.getElem_toArray, List.getElem_cons_zero, List.getElem_cons_succ, List.setIfInBounds_toArray, List.set_cons_zero, List.set_cons_succ]
        refine pt_c ?_
        refine pt_put_at rfl (by rfl) 31 (.tmp 37) (.tmp 35) rfl b ((u) * 4) (cells x) rfl rfl (by rw [hsz]; exact Arr.there hA2 hsz (by rw [List.length_set]; omega)) (by rw [hsz]; kernel_rfl) (h1 _) rfl ?_
        try simp only [Act.put, List.getElem_toArray, List.getElem_cons_zero, List.getElem_cons_succ, List.setIfInBounds_toArray, List.set_cons_zero, List.set_cons_succ]
        have hA3 := Arr.put hA2 hsz (i := u) (by rw [List.length_set]; omega) x
        refine pt_done ?_
        have hb2 := (But.setCells (O := (· = b)) (cells y) Wd (s * 4) rfl).trans (But.setCells (O := (· = b)) (cells x) _ (u * 4) rfl)
        rw [HS.out.1] at hA3
        have hB3 := (HBt.out.trans (But.of_below hBd)).trans hb2
        have HN := Lib.hid (And.intro hA3 hB3)
        generalize ((Wd.setCells b (s * 4) (cells y)).setCells b (u * 4) (cells x)) = W3 at HN ⊢
        clear hA1 hA2 hA3 hr1 hr2 hb2 hB3
        go_wp2
        go_roundw
        case rel => exact ⟨j + 1, by omega, by go_num, by rw [HS.out.2]; exact HN.out.1, HN.out.2⟩
        case measure => simp [intOf]; omega
      · refine pt_cload rfl (by rfl) 31 (.tmp 34) rfl b ((s) * 4) rfl (cells x) _ hr1 Tryd.underlying31 rfl (by rw [hsz]; kernel_rfl) ?_
        try simp only [Act.put, List.getElem_toArray, List.getElem_cons_zero, List.getElem_cons_succ, List.setIfInBounds_toArray, List.set_cons_zero, List.set_cons_succ]
        refine pt_c ?_
        refine pt_cload rfl (by rfl) 31 (.tmp 28) rfl b ((u) * 4) rfl (cells y) _ hr2 Tryd.underlying31 rfl (by rw [hsz]; kernel_rfl) ?_
        try simp only [Act.put, List.getElem_toArray, List.getElem_cons_zero, List.getElem_cons_succ, List.setIfInBounds_toArray, List.set_cons_zero, List.set_cons_succ]
        refine pt_q (v := ?_) rfl (by rfl) ?_ ?_
        rotate_left
        · intro w' hBw'
          first | (go_simp; done) | (go_simp; with_reducible rfl)
        try simp only [Act.put, List.getElem_toArray, List.getElem_cons_zero, List.getElem_cons_succ, List.setIfInBounds_toArray, List.set_cons_zero, List.set_cons_succ]
        refine pt_c ?_
        refine pt_put_at rfl (by rfl) 31 (.tmp 36) (.tmp 29) rfl b ((s) * 4) (cells y) rfl rfl (by rw [hsz]; exact Arr.there hA1 hsz (by omega)) (by rw [hsz]; kernel_rfl) (h1 _) rfl ?_
        try simp only [Act.put, List.getElem_toArray, List.getElem_cons_zero, List.getElem_cons_succ, List.setIfInBounds_toArray, List.set_cons_zero, List.set_cons_succ]
        have hA2 := Arr.put hA1 hsz (i := s) (by omega) y
        refine pt_q (v := ?_) rfl (by rfl) ?_ ?_
        rotate_left
        · intro w' hBw'
          first | (go_simp; done) | (go_simp; with_reducible rfl)
        try simp only [Act.put, List.getElem_toArray, List.getElem_cons_zero, List.getElem_cons_succ, List.setIfInBounds_toArray, List.set_cons_zero, List.set_cons_succ]
        refine pt_c ?_
        refine pt_put_at rfl (by rfl) 31 (.tmp 37) (.tmp 35) rfl b ((u) * 4) (cells x) rfl rfl (by rw [hsz]; exact Arr.there hA2 hsz (by rw [List.length_set]; omega)) (by rw [hsz]; kernel_rfl) (h1 _) rfl ?_
        try simp only [Act.put, List.getElem_toArray, List.getElem_cons_zero, List.getElem_cons_succ, List.setIfInBounds_toArray, List.set_cons_zero, List.set_cons_succ]
        have hA3 := Arr.put hA2 hsz (i := u) (by rw [List.length_set]; omega) x
        refine pt_done ?_
        have hb2 := (But.setCells (O := (· = b)) (cells y) Wd (s * 4) rfl).trans (But.setCells (O := (· = b)) (cells x) _ (u * 4) rfl)
        rw [HS.out.1] at hA3
        have hB3 := (HBt.out.trans (But.of_below hBd)).trans hb2
        have HN := Lib.hid (And.intro hA3 hB3)
        generalize ((Wd.setCells b (s * 4) (cells y)).setCells b (u * 4) (cells x)) = W3 at HN ⊢
        clear hA1 hA2 hA3 hr1 hr2 hb2 hB3
        go_wp2
        go_roundw
        case rel => exact ⟨j + 1, by omega, by go_num, by rw [HS.out.2]; exact HN.out.1, HN.out.2⟩
        case measure => simp [intOf]; omega
    · obtain rfl : j = k := by omega
      go_wp2
      go_end0
      refine ⟨rfl, ?_, hB⟩
      rw [List.take_of_length_le (by omega), List.take_of_length_le (by omega), List.drop_of_length_le (by omega), List.drop_of_length_le (by omega)] at hA
      simpa using hA
end
end Go.Proofs.YtpfgepgjpnekdaaDoor

namespace Go.Proofs.YtpfgepgjpnekdaaDoor
open Go.RowKit
set_option linter.unusedSimpArgs false
set_option linter.unusedVariables false

section
variable {α : Type} {cells : α → List Value}
theorem swapRange_n (hsz : ∀ x, (cells x).length = 4) (h1 : ∀ x, (cells x).all (·.oneCell') = true) {L : List α} (Lp X M Y Lq : List α) (hL : L = Lp ++ X ++ M ++ Y ++ Lq) (hXY : X.length = Y.length) {n p q k : Nat} (hn : L.length = n) (hp : Lp.length = p) (hq : Lp.length + X.length + M.length = q) (hk : X.length = k) (hb : n ≤ 1000000000) {b c : Nat} {J : List Value} (f : Value) (w : World) (h : Arr w b 31 J cells L) :
    Calls Tryd.prog 127 #[.slice (some ⟨b, 0, none⟩) n c, .int .i64 (p : Int), .int .i64 (q : Int), .int .i64 (k : Int), f] w
      fun en w' => en = .returned (.tuple #[]) ∧ Arr w' b 31 J cells (Lp ++ Y ++ M ++ X ++ Lq) ∧ But (· = b) w w' := by
  subst hL hn hp hq hk
  exact swapRange_c hsz h1 Lp X M Y Lq hXY f w h hb
set_option maxHeartbeats 1000000 in
set_option maxRecDepth 100000 in
theorem rotate_c (hsz : ∀ x, (cells x).length = 4) (h1 : ∀ x, (cells x).all (·.oneCell') = true) {L : List α} (Lp U V Lq : List α) (hL : L = Lp ++ U ++ V ++ Lq) (hU : 0 < U.length) (hV : 0 < V.length) {n a m e : Nat} (hn : L.length = n) (ha : Lp.length = a) (hm : Lp.length + U.length = m) (he : Lp.length + U.length + V.length = e) (hb : n ≤ 1000000000) {b c : Nat} {J : List Value} (f : Value) (w : World) (h : Arr w b 31 J cells L) :
    Calls Tryd.prog 123 #[.slice (some ⟨b, 0, none⟩) n c, .int .i64 (a : Int), .int .i64 (m : Int), .int .i64 (e : Int), f] w
      fun en w' => en = .returned (.tuple #[]) ∧ Arr w' b 31 J cells (Lp ++ V ++ U ++ Lq) ∧ But (· = b) w w' := by
  obtain ⟨i0, hi0⟩ : ∃ i0, U.length = i0 := ⟨_, rfl⟩
  obtain ⟨j0, hj0⟩ : ∃ j0, V.length = j0 := ⟨_, rfl⟩
  have hnl : a + i0 + j0 + Lq.length = n := by rw [← hn, hL]; simp only [List.length_append]; omega
  have hms : m = a + i0 := by omega
  have hes : e = a + i0 + j0 := by omega
  have w1 : IntKind.i64.wrap ((m : Int) - (a : Int)) = (i0 : Int) := by rw [IntKind.wrap_i64]; omega
  have w2 : IntKind.i64.wrap ((e : Int) - (m : Int)) = (j0 : Int) := by rw [IntKind.wrap_i64]; omega
  have hA0 : Arr w b 31 J cells (Lp ++ [] ++ U ++ V ++ [] ++ Lq) := by rw [hL] at h; simpa using h
  have HI := Lib.hid (And.intro hi0 (And.intro hj0 (And.intro hnl (And.intro hms ha))))
  have hi1 : 0 < i0 := by omega
  have hj1 : 0 < j0 := by omega
  clear hL hn hm he h hU hV hes hms hnl ha
  go_enter Tryd.func123, Tryd.ntmps123
  go_wp2
  go_loopw [10, 11] (fun vi vj wr => ∃ (i j : Nat) (P U' V' S : List α), vi = .int .i64 i ∧ vj = .int .i64 j ∧ 0 < i ∧ 0 < j ∧ U'.length = i ∧ V'.length = j ∧ Lp.length + P.length + i = m ∧ Lp.length + P.length + i + j + S.length + Lq.length = n ∧ P ++ (V' ++ U') ++ S = V ++ U ∧ Arr wr b 31 J cells (Lp ++ P ++ U' ++ V' ++ S ++ Lq) ∧ But (· = b) w wr) (fun vi vj _ => (intOf vi).toNat + (intOf vj).toNat)
  case atStart => exact ⟨i0, j0, [], U, V, [], rfl, rfl, hi1, hj1, hi0, hj0, by have := HI.out; simp; omega, by have := HI.out; simp; omega, by simp, hA0, But.refl _ _⟩
  case round =>
    clear hA0 hi0 hj0 hi1 hj1 w1 w2
    obtain ⟨i, j, P, U', V', S, rfl, rfl, hi, hj, hUl, hVl, hPm, hPn, heq, hA, hB⟩ := hrel
    obtain ⟨p, hp⟩ : ∃ p, Lp.length + P.length = p := ⟨_, rfl⟩
    rw [hp] at hPm hPn
    have ws : IntKind.i64.wrap ((m : Int) - (i : Int)) = (p : Int) := by rw [IntKind.wrap_i64]; omega
    have hLl : (Lp ++ P ++ U' ++ V' ++ S ++ Lq).length = n := by simp only [List.length_append]; omega
    have hpl : (Lp ++ P).length = p := by rw [List.length_append]; exact hp
    by_cases hij : i = j
    · subst hij
      have hcl := swapRange_n hsz h1 (c := c) (Lp ++ P) U' [] V' (S ++ Lq) (by simp) (by rw [hUl, hVl]) hLl hpl (q := m) (by rw [hpl, hUl]; simp; omega) hUl hb f wr hA
      have HC := Lib.hid hcl
      have HQ := Lib.hid heq
      clear hcl hA heq
      go_wp2_with (go_at_call 127; refine HC.out.mono ?_; rintro en w3 ⟨rfl, hA3, hb3⟩)
      go_end0
      refine ⟨rfl, ?_, hB.trans hb3⟩
      have e1 : Lp ++ V ++ U ++ Lq = Lp ++ (V ++ U) ++ Lq := by simp
      rw [e1, ← HQ.out]
      simpa using hA3
    · have hne : ¬ (i : Int) = (j : Int) := by omega
      by_cases hgt : j < i
      · have hgI : (j : Int) < (i : Int) := by omega
        have wd : IntKind.i64.wrap ((i : Int) - (j : Int)) = ((i - j : Nat) : Int) := by rw [IntKind.wrap_i64]; omega
        obtain ⟨dd, hdd⟩ : ∃ dd, i - j = dd := ⟨_, rfl⟩
        rw [hdd] at wd
        obtain ⟨U1, hU1⟩ : ∃ U1, U1 = U'.take j := ⟨_, rfl⟩
        obtain ⟨U2, hU2⟩ : ∃ U2, U2 = U'.drop j := ⟨_, rfl⟩
        have hUU : U' = U1 ++ U2 := by rw [hU1, hU2, List.take_append_drop]
        have l1 : U1.length = j := by rw [hU1, List.length_take]; omega
        have l2 : U2.length = i - j := by rw [hU2, List.length_drop]; omega
        have hcl := swapRange_n hsz h1 (c := c) (Lp ++ P) U1 U2 V' (S ++ Lq) (by rw [hUU]; simp) (by rw [l1, hVl]) hLl hpl (q := m) (by rw [hpl, l1, l2]; omega) l1 hb f wr hA
        have HC := Lib.hid hcl
        have HQ := Lib.hid (And.intro heq (And.intro hUU (And.intro l1 (And.intro l2 (And.intro hVl hdd)))))
        clear hcl hA heq hUU l1 l2 hU1 hU2 hUl hVl hLl hdd
        go_wp2_with (go_at_call 127; refine HC.out.mono ?_; rintro en w3 ⟨rfl, hA3, hb3⟩)
        go_roundw
        case rel =>
          obtain ⟨heq, hUU, l1, l2, hVl, hdd⟩ := HQ.out
          refine ⟨dd, j, P ++ V', U2, U1, S, rfl, rfl, by omega, by omega, by omega, l1, ?_, ?_, ?_, ?_, hB.trans hb3⟩
          · simp only [List.length_append] at hpl ⊢; omega
          · simp only [List.length_append] at hpl ⊢; omega
          · rw [← heq, hUU]; simp
          · simpa using hA3
        case measure =>
          have := HQ.out.2.2.2.2.2
          simp [intOf]; omega
      · have hgI : ¬ (j : Int) < (i : Int) := by omega
        have wd : IntKind.i64.wrap ((j : Int) - (i : Int)) = ((j - i : Nat) : Int) := by rw [IntKind.wrap_i64]; omega
        have wa : IntKind.i64.wrap ((m : Int) + (j : Int)) = ((m + j : Nat) : Int) := by rw [IntKind.wrap_i64]; omega
        obtain ⟨mj, hmj⟩ : ∃ mj, m + j = mj := ⟨_, rfl⟩
        rw [hmj] at wa
        have wb : IntKind.i64.wrap ((mj : Int) - (i : Int)) = ((mj - i : Nat) : Int) := by rw [IntKind.wrap_i64]; omega
        obtain ⟨q, hq⟩ : ∃ q, mj - i = q := ⟨_, rfl⟩
        rw [hq] at wb
        obtain ⟨dd, hdd⟩ : ∃ dd, j - i = dd := ⟨_, rfl⟩
        rw [hdd] at wd
        obtain ⟨V1, hV1⟩ : ∃ V1, V1 = V'.take (j - i) := ⟨_, rfl⟩
        obtain ⟨V2, hV2⟩ : ∃ V2, V2 = V'.drop (j - i) := ⟨_, rfl⟩
        have hVV : V' = V1 ++ V2 := by rw [hV1, hV2, List.take_append_drop]
        have l1 : V1.length = j - i := by rw [hV1, List.length_take]; omega
        have l2 : V2.length = i := by rw [hV2, List.length_drop]; omega
        have hcl := swapRange_n hsz h1 (c := c) (Lp ++ P) U' V1 V2 (S ++ Lq) (by rw [hVV]; simp) (by rw [l2, hUl]) hLl hpl (q := q) (by rw [hpl, hUl, l1]; omega) hUl hb f wr hA
        have HC := Lib.hid hcl
        have HQ := Lib.hid (And.intro heq (And.intro hVV (And.intro l1 (And.intro l2 (And.intro hUl (And.intro hdd (And.intro hmj hq)))))))
        clear hcl hA heq hVV l1 l2 hV1 hV2 hUl hVl hLl hdd hmj hq
        go_wp2_with (go_at_call 127; refine HC.out.mono ?_; rintro en w3 ⟨rfl, hA3, hb3⟩)
        go_roundw
        case rel =>
          obtain ⟨heq, hVV, l1, l2, hUl, hdd, hmj, hq⟩ := HQ.out
          refine ⟨i, dd, P, V2, V1, U' ++ S, rfl, rfl, by omega, by omega, l2, by omega, ?_, ?_, ?_, ?_, hB.trans hb3⟩
          · simp only [List.length_append] at hpl ⊢; omega
          · simp only [List.length_append] at hpl ⊢; omega
          · rw [← heq, hVV]; simp
          · simpa using hA3
        case measure =>
          have := HQ.out.2.2.2.2.2.1
          simp [intOf]; omega
end
end Go.Proofs.YtpfgepgjpnekdaaDoor
