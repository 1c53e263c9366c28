/-
  NStabE: several texts in one (bundle.py).
-/
import Derived.Test.YtpfgepgjpnekdaaDoorNmI32
namespace Go.Proofs.YtpfgepgjpnekdaaDoor
open Go.RowKit Srt
set_option linter.unusedSimpArgs false
set_option linter.unusedVariables false

/-- What a comparison says. -/
def Srt.ltc {α : Type} (cf : α → α → Int) (x y : α) : Bool := decide (cf x y < 0)
section
variable {α : Type} {cells : α → List Value} {cf : α → α → Int}
theorem ins_step (hT : TO (ltc cf)) {S S1 S2 R' X : List α} {x : α} (hSS : S1 ++ S2 = S) (hp : (S ++ x :: R').Perm X) (hS : Sorted (ltc cf) S) (h2 : ∀ y, S2.head? = some y → ltc cf y x = false) (h1 : ∀ z, S1.getLast? = some z → ltc cf x z = false) :
    (S1 ++ x :: S2 ++ R').Perm X ∧ Sorted (ltc cf) (S1 ++ x :: S2) := by
  subst hSS
  refine ⟨List.Perm.trans ?_ hp, ins_sorted hT hS h1 h2⟩
  rw [List.append_assoc, List.append_assoc, List.cons_append]
  exact List.Perm.append_left S1 List.perm_middle.symm
theorem swap_nb (A B : List α) (x y : α) : ((A ++ x :: y :: B).set A.length y).set (A.length + 1) x = A ++ y :: x :: B := by
  rw [List.set_append_right _ _ (Nat.le_refl _), Nat.sub_self, List.set_append_right _ _ (by simp)]
  rw [show A.length + 1 - A.length = 1 by omega]; rfl
theorem swap_bn (A B : List α) (x y : α) : ((A ++ x :: y :: B).set (A.length + 1) x).set A.length y = A ++ y :: x :: B := by
  rw [List.set_append_right _ _ (by simp), show A.length + 1 - A.length = 1 by omega, List.set_append_right _ _ (Nat.le_refl _), Nat.sub_self]; rfl
theorem nb_get1 (A B : List α) (x y : α) : (A ++ x :: y :: B)[A.length]? = some x := by simp
theorem nb_get2 (A B : List α) (x y : α) : (A ++ x :: y :: B)[A.length + 1]? = some y := by
  rw [List.getElem?_append_right (by simp), show A.length + 1 - A.length = 1 by omega]; rfl
set_option maxHeartbeats 2000000 in
set_option maxRecDepth 100000 in
theorem insert_c (hsz : ∀ x, (cells x).length = 4) (h1 : ∀ x, (cells x).all (·.oneCell') = true) (hT : TO (ltc cf)) {L : List α} (Lp X Lq : List α) (hL : L = Lp ++ X ++ Lq) (hX : 0 < X.length) {n a e : Nat} (hn : L.length = n) (ha : Lp.length = a) (he : Lp.length + X.length = e) (hb : n ≤ 1000000000) {b c : Nat} {J : List Value} (g : FuncId) (cap : Array Value) (hent : Enters Tryd.prog g) (hcmp : ∀ (x y : α) (w1 : World), Calls Tryd.prog g (#[.agg (cells x).toArray, .agg (cells y).toArray] ++ cap) w1 (Ret (.int .i64 (cf x y)) w1)) (w : World) (h : Arr w b 31 J cells L) :
    Calls Tryd.prog 113 #[.slice (some ⟨b, 0, none⟩) n c, .int .i64 (a : Int), .int .i64 (e : Int), .func (.func g) #[] cap] w
      fun en w' => en = .returned (.tuple #[]) ∧ ∃ X', X'.Perm X ∧ Sorted (ltc cf) X' ∧ Arr w' b 31 J cells (Lp ++ X' ++ Lq) ∧ But (· = b) w w' := by
  have hnl : a + X.length + Lq.length = n := by rw [← hn, hL]; simp only [List.length_append]; omega
  have wa : IntKind.i64.wrap ((a : Int) + 1) = ((a + 1 : Nat) : Int) := by rw [IntKind.wrap_i64]; omega
  have HI := Lib.hid (And.intro ha (And.intro hnl he))
  have HC := Lib.hid hcmp
  unfold Enters at hent
  subst hL
  have hbw := RowAt.lt h
  clear hn he hnl hcmp
  go_enter Tryd.func113, Tryd.ntmps113
  go_wp2
  go_loopw [8] (fun vi wr => ∃ (i : Nat) (S R : List α), vi = .int .i64 i ∧ a + S.length = i ∧ i ≤ e ∧ (S ++ R).Perm X ∧ Sorted (ltc cf) S ∧ Arr wr b 31 J cells (Lp ++ S ++ R ++ Lq) ∧ But (· = b) w wr) (fun vi _ => e - (intOf vi).toNat)
  case atStart =>
    obtain ⟨x, X', rfl⟩ : ∃ x X', X = x :: X' := by
      cases X with
      | nil => simp at hX
      | cons x X' => exact ⟨x, X', rfl⟩
    obtain ⟨_, h2, h3⟩ := HI.out
    simp only [List.length_cons] at h2 h3
    exact ⟨a + 1, [x], X', by simp [wa], rfl, by omega, List.Perm.refl _, Sorted.one x, by simpa using h, But.refl _ _⟩
  case round =>
    clear h wa
    obtain ⟨i, S, R, rfl, hi, hie, hp, hS, hA, hB⟩ := hrel
    obtain ⟨ha, hnl, he⟩ := HI.out
    have hpl := hp.length_eq
    simp only [List.length_append] at hpl
    by_cases hlt : i < e
    · have hiI : (i : Int) < (e : Int) := by omega
      obtain ⟨x, R', rfl⟩ : ∃ x R', R = x :: R' := by
        cases R with
        | nil => simp at hpl; omega
        | cons x R' => exact ⟨x, R', rfl⟩
      simp only [List.length_cons] at hpl
      have HP := Lib.hid (And.intro hp (And.intro hS (And.intro hpl (And.intro hi hB))))
      have wi : IntKind.i64.wrap ((i : Int) + 1) = ((i + 1 : Nat) : Int) := by rw [IntKind.wrap_i64]; omega
      have hA0 : Arr wr b 31 J cells (Lp ++ S ++ x :: ([] ++ R' ++ Lq)) := by simpa using hA
      clear hp hS hpl hA ha hnl he hi hie
      go_wp2
      go_loopw [9] (fun vj wj => ∃ (j : Nat) (S1 S2 : List α), vj = .int .i64 j ∧ a + S1.length = j ∧ S1 ++ S2 = S ∧ (∀ y, S2.head? = some y → ltc cf y x = false) ∧ Arr wj b 31 J cells (Lp ++ S1 ++ x :: (S2 ++ R' ++ Lq)) ∧ But (· = b) wr wj) (fun vj _ => (intOf vj).toNat)
      case atStart => exact ⟨i, S, [], rfl, HP.out.2.2.2.1, by simp, by simp, by simpa using hA0, But.refl _ _⟩
      case round =>
        clear hA0
        obtain ⟨j, S1, S2, rfl, hj, hSS, hS2, hAj, hBj⟩ := hrel
        by_cases hja : a < j
        · have hjI : (a : Int) < (j : Int) := by omega
          obtain ⟨y, hy⟩ := last_some (A := S1) (by intro e0; rw [e0] at hj; simp at hj; omega)
          obtain ⟨S0, hS0⟩ : ∃ S0, S1.dropLast = S0 := ⟨_, rfl⟩
          have hsp := last_split hy
          rw [hS0] at hsp
          obtain ⟨k, rfl⟩ : ∃ k, j = k + 1 := ⟨j - 1, by omega⟩
          have hka : (Lp ++ S0).length = k := by
            have h9 := HI.out.1
            rw [hsp] at hj
            simp only [List.length_append, List.length_cons, List.length_nil] at hj ⊢
            omega
          have hLe : Lp ++ S1 ++ x :: (S2 ++ R' ++ Lq) = (Lp ++ S0) ++ y :: x :: (S2 ++ R' ++ Lq) := by rw [hsp]; simp
          rw [hLe] at hAj
          have hg1 := nb_get1 (Lp ++ S0) (S2 ++ R' ++ Lq) y x
          have hg2 := nb_get2 (Lp ++ S0) (S2 ++ R' ++ Lq) y x
          have hsb := swap_bn (Lp ++ S0) (S2 ++ R' ++ Lq) y x
          have hLn : ((Lp ++ S0) ++ y :: x :: (S2 ++ R' ++ Lq)).length = n := by
            obtain ⟨g1, g2, g3⟩ := HI.out
            obtain ⟨g4, g5, g6, g7, g8⟩ := HP.out
            have := congrArg List.length hSS
            rw [hsp] at this
            simp only [List.length_append, List.length_cons, List.length_nil] at this hka ⊢
            omega
          rw [hka] at hg1 hg2 hsb
          obtain ⟨LL, hLL⟩ : ∃ LL, (Lp ++ S0) ++ y :: x :: (S2 ++ R' ++ Lq) = LL := ⟨_, rfl⟩
          rw [hLL] at hAj hg1 hg2 hsb hLn
          have HLLe := Lib.hid hLL
          have hr1 := hAj.at hsz hg1
          have hr2 := hAj.at hsz hg2
          have Hh := Lib.hid (And.intro hAj hLn)
          have HS := Lib.hid hsb
          have HQ := Lib.hid (And.intro hj (And.intro hSS (And.intro hS2 (And.intro hsp (And.intro hka hy)))))
          have HBt := Lib.hid hBj
          obtain ⟨kk, hkk⟩ : ∃ kk, k + 1 = kk := ⟨_, rfl⟩
          have hk1 : kk < n := by
            have := (List.getElem?_eq_some_iff.1 hg2).1
            omega
          have hkI : (kk : Int) < (n : Int) := by omega
          have wk : IntKind.i64.wrap ((kk : Int) - 1) = (k : Int) := by rw [IntKind.wrap_i64]; omega
          have hk2 : (k : Int) < (n : Int) := by omega
          rw [hkk] at hjI hr2 HS HQ hja ⊢
          have HK := Lib.hid hkk
          clear hAj hg1 hg2 hsb hLn hLL hLe hj hSS hS2 hsp hka hy hS0 hBj hB hkk
          have hcx := fun w1 => HC.out x y w1
          obtain ⟨cv, hcv⟩ : ∃ cv, cf x y = cv := ⟨_, rfl⟩
          simp only [hcv] at hcx
          have HCX := Lib.hid hcx
          have HCV := Lib.hid hcv
          clear hcx hcv
          go_wp2
          refine wp_region_pt (fun _ => False) (.q 0 (.q 1 (.q 2 (.q 3 (.q 4 (.q 5 (.q 6 (.q 7 (.q 8 (.q 9 (.q 10 (.q 11 (.q 12 (.q 13 (.c 14 (.q 15 (.q 16 .done))))))))))))))))) (by kernel_rfl) (by kernel_rfl) (by kernel_rfl) (by decide) (fun _ _ d _ _ h => by cases d <;> exact h) (fun Wd hBd => ?_)
          try simp only [Act.put, List.getElem_toArray, List.getElem_cons_zero, List.getElem_cons_succ, List.setIfInBounds_toArray, List.set_cons_zero, List.set_cons_succ]
          have hr1x := hr1
          have hr2x := hr2
          have hr1 := rangeAt_up hBd hr1
          have hr2 := rangeAt_up hBd hr2
          refine pt_q (v := ?_) rfl (by rfl) ?_ ?_
          rotate_left
          · intro w' hBw'
            first | (go_simp; done) | (go_simp; with_reducible rfl)
          try simp only [Act.put, List.getElem_toArray, List.getElem_cons_zero, List.getElem_cons_succ, List.setIfInBounds_toArray, List.set_cons_zero, List.set_cons_succ]
          refine pt_q (v := ?_) rfl (by rfl) ?_ ?_
          rotate_left
          · intro w' hBw'
            first | (go_simp; done) | (go_simp; with_reducible rfl)
          try simp only [Act.put, List.getElem_toArray, List.getElem_cons_zero, List.getElem_cons_succ, List.setIfInBounds_toArray, List.set_cons_zero, List.set_cons_succ]
          refine pt_q (v := ?_) rfl (by rfl) ?_ ?_
          rotate_left
          · intro w' hBw'
            first | (go_simp; done) | (go_simp; with_reducible rfl)
          try simp only [Act.put, List.getElem_toArray, List.getElem_cons_zero, List.getElem_cons_succ, List.setIfInBounds_toArray, List.set_cons_zero, List.set_cons_succ]
          refine pt_q (v := ?_) rfl (by rfl) ?_ ?_
          rotate_left
          · intro w' hBw'
            first | (go_simp; done) | (go_simp; with_reducible rfl)
          try simp only [Act.put, List.getElem_toArray, List.getElem_cons_zero, List.getElem_cons_succ, List.setIfInBounds_toArray, List.set_cons_zero, List.set_cons_succ]
          refine pt_q (v := ?_) rfl (by rfl) ?_ ?_
          rotate_left
          · intro w' hBw'
            first | (go_simp; done) | (go_simp; with_reducible rfl)
          try simp only [Act.put, List.getElem_toArray, List.getElem_cons_zero, List.getElem_cons_succ, List.setIfInBounds_toArray, List.set_cons_zero, List.set_cons_succ]
          refine pt_q (v := ?_) rfl (by rfl) ?_ ?_
          rotate_left
          · intro w' hBw'
            first | (go_simp; done) | (go_simp; with_reducible rfl)
          try simp only [Act.put, List.getElem_toArray, List.getElem_cons_zero, List.getElem_cons_succ, List.setIfInBounds_toArray, List.set_cons_zero, List.set_cons_succ]
          refine pt_q (v := ?_) rfl (by rfl) ?_ ?_
          rotate_left
          · intro w' hBw'
            first | (go_simp; done) | (go_simp; with_reducible rfl)
          try simp only [Act.put, List.getElem_toArray, List.getElem_cons_zero, List.getElem_cons_succ, List.setIfInBounds_toArray, List.set_cons_zero, List.set_cons_succ]
          refine pt_q (v := ?_) rfl (by rfl) ?_ ?_
          rotate_left
          · intro w' hBw'
            first | (go_simp; done) | (go_simp; with_reducible rfl)
          try simp only [Act.put, List.getElem_toArray, List.getElem_cons_zero, List.getElem_cons_succ, List.setIfInBounds_toArray, List.set_cons_zero, List.set_cons_succ]
          refine pt_load rfl (by rfl) 31 (.tmp 25) rfl b (kk * 4) rfl (cells x) _ hr2 (fun h => h) Tryd.underlying31 rfl (by rw [hsz]; kernel_rfl) ?_
          try simp only [Act.put, List.getElem_toArray, List.getElem_cons_zero, List.getElem_cons_succ, List.setIfInBounds_toArray, List.set_cons_zero, List.set_cons_succ]
          refine pt_q (v := ?_) rfl (by rfl) ?_ ?_
          rotate_left
          · intro w' hBw'
            first | (go_simp; done) | (go_simp; with_reducible rfl)
          try simp only [Act.put, List.getElem_toArray, List.getElem_cons_zero, List.getElem_cons_succ, List.setIfInBounds_toArray, List.set_cons_zero, List.set_cons_succ]
          refine pt_q (v := ?_) rfl (by rfl) ?_ ?_
          rotate_left
          · intro w' hBw'
            first | (go_simp; done) | (go_simp; with_reducible rfl)
          try simp only [Act.put, List.getElem_toArray, List.getElem_cons_zero, List.getElem_cons_succ, List.setIfInBounds_toArray, List.set_cons_zero, List.set_cons_succ]
          refine pt_q (v := ?_) rfl (by rfl) ?_ ?_
          rotate_left
          · intro w' hBw'
            first | (go_simp; done) | (go_simp; with_reducible rfl)
          try simp only [Act.put, List.getElem_toArray, List.getElem_cons_zero, List.getElem_cons_succ, List.setIfInBounds_toArray, List.set_cons_zero, List.set_cons_succ]
          refine pt_q (v := ?_) rfl (by rfl) ?_ ?_
          rotate_left
          · intro w' hBw'
            first | (go_simp; done) | (go_simp; with_reducible rfl)
          try simp only [Act.put, List.getElem_toArray, List.getElem_cons_zero, List.getElem_cons_succ, List.setIfInBounds_toArray, List.set_cons_zero, List.set_cons_succ]
          refine pt_load rfl (by rfl) 31 (.tmp 30) rfl b (k * 4) rfl (cells y) _ hr1 (fun h => h) Tryd.underlying31 rfl (by rw [hsz]; kernel_rfl) ?_
          try simp only [Act.put, List.getElem_toArray, List.getElem_cons_zero, List.getElem_cons_succ, List.setIfInBounds_toArray, List.set_cons_zero, List.set_cons_succ]
          refine pt_c ?_
          refine pt_step rfl (by rfl) (fun K hK => ?_)
          go_simp
          refine (Calls.cast rfl (HCX.out Wd)).mono ?_
          rintro en w4 ⟨rfl, hb4⟩
          refine hK.out _ _ (But.of_below hb4) ?_
          clear hK K
          try simp only [Act.put, List.getElem_toArray, List.getElem_cons_zero, List.getElem_cons_succ, List.setIfInBounds_toArray, List.set_cons_zero, List.set_cons_succ]
          refine pt_q (v := ?_) rfl (by rfl) ?_ ?_
          rotate_left
          · intro w' hBw'
            first | (go_simp; done) | (go_simp; with_reducible rfl)
          try simp only [Act.put, List.getElem_toArray, List.getElem_cons_zero, List.getElem_cons_succ, List.setIfInBounds_toArray, List.set_cons_zero, List.set_cons_succ]
          refine pt_q (v := ?_) rfl (by rfl) ?_ ?_
          rotate_left
          · intro w' hBw'
            first | (go_simp; done) | (go_simp; with_reducible rfl)
          try simp only [Act.put, List.getElem_toArray, List.getElem_cons_zero, List.getElem_cons_succ, List.setIfInBounds_toArray, List.set_cons_zero, List.set_cons_succ]
          refine pt_done ?_
          have hBw := hBd.trans (hb4.mono hBd.size)
          have Hh2 := Lib.hid (And.intro (RowAt.below Hh.out.1 hBw) Hh.out.2)
          have hr3 := rangeAt_up hBw hr1x
          have hr4 := rangeAt_up hBw hr2x
          clear hr1 hr2 hr1x hr2x hb4 hBd
          by_cases hc : cv < 0
          · have HLT := Lib.hid (show ltc cf x y = true by unfold ltc; rw [HCV.out]; exact decide_eq_true hc)
            have dc : decide (cv < 0) = true := decide_eq_true hc
            go_wp2
            refine wp_region_pt (fun i => i = b) (.q 0 (.q 1 (.q 2 (.q 3 (.q 4 (.q 5 (.q 6 (.q 7 (.q 8 (.q 10 (.q 11 (.q 12 (.f 9 (.c 13 (.q 14 (.c 15 (.q 16 (.c 17 .done))))) 13 (.c 9 (.q 14 (.c 15 (.q 16 (.c 17 .done)))))))))))))))))) (by kernel_rfl) (by kernel_rfl) (by kernel_rfl) (by decide) (fun _ _ d _ _ h => by cases d <;> exact h) (fun Wd2 hBd2 => ?_)
            try simp only [Act.put, List.getElem_toArray, List.getElem_cons_zero, List.getElem_cons_succ, List.setIfInBounds_toArray, List.set_cons_zero, List.set_cons_succ]
            have hA1 := RowAt.below Hh2.out.1 hBd2
            have hLl := Hh2.out.2
            have hr3 := rangeAt_up hBd2 hr3
            have hr4 := rangeAt_up hBd2 hr4
            refine pt_q (v := ?_) rfl (by rfl) ?_ ?_
            rotate_left
            · intro w' hBw'
              first | (go_simp; done) | (go_simp; with_reducible rfl)
            try simp only [Act.put, List.getElem_toArray, List.getElem_cons_zero, List.getElem_cons_succ, List.setIfInBounds_toArray, List.set_cons_zero, List.set_cons_succ]
            refine pt_q (v := ?_) rfl (by rfl) ?_ ?_
            rotate_left
            · intro w' hBw'
              first | (go_simp; done) | (go_simp; with_reducible rfl)
            try simp only [Act.put, List.getElem_toArray, List.getElem_cons_zero, List.getElem_cons_succ, List.setIfInBounds_toArray, List.set_cons_zero, List.set_cons_succ]
            refine pt_q (v := ?_) rfl (by rfl) ?_ ?_
            rotate_left
            · intro w' hBw'
              first | (go_simp; done) | (go_simp; with_reducible rfl)
            try simp only [Act.put, List.getElem_toArray, List.getElem_cons_zero, List.getElem_cons_succ, List.setIfInBounds_toArray, List.set_cons_zero, List.set_cons_succ]
            refine pt_q (v := ?_) rfl (by rfl) ?_ ?_
            rotate_left
            · intro w' hBw'
              first | (go_simp; done) | (go_simp; with_reducible rfl)
            try simp only [Act.put, List.getElem_toArray, List.getElem_cons_zero, List.getElem_cons_succ, List.setIfInBounds_toArray, List.set_cons_zero, List.set_cons_succ]
            refine pt_q (v := ?_) rfl (by rfl) ?_ ?_
            rotate_left
            · intro w' hBw'
              first | (go_simp; done) | (go_simp; with_reducible rfl)
            try simp only [Act.put, List.getElem_toArray, List.getElem_cons_zero, List.getElem_cons_succ, List.setIfInBounds_toArray, List.set_cons_zero, List.set_cons_succ]
            refine pt_q (v := ?_) rfl (by rfl) ?_ ?_
            rotate_left
            · intro w' hBw'
              first | (go_simp; done) | (go_simp; with_reducible rfl)
            try simp only [Act.put, List.getElem_toArray, List.getElem_cons_zero, List.getElem_cons_succ, List.setIfInBounds_toArray, List.set_cons_zero, List.set_cons_succ]
            refine pt_q (v := ?_) rfl (by rfl) ?_ ?_
            rotate_left
            · intro w' hBw'
              first | (go_simp; done) | (go_simp; with_reducible rfl)
            try simp only [Act.put, List.getElem_toArray, List.getElem_cons_zero, List.getElem_cons_succ, List.setIfInBounds_toArray, List.set_cons_zero, List.set_cons_succ]
            refine pt_q (v := ?_) rfl (by rfl) ?_ ?_
            rotate_left
            · intro w' hBw'
              first | (go_simp; done) | (go_simp; with_reducible rfl)
            try simp only [Act.put, List.getElem_toArray, List.getElem_cons_zero, List.getElem_cons_succ, List.setIfInBounds_toArray, List.set_cons_zero, List.set_cons_succ]
            refine pt_q (v := ?_) rfl (by rfl) ?_ ?_
            rotate_left
            · intro w' hBw'
              first | (go_simp; done) | (go_simp; with_reducible rfl)
            try simp only [Act.put, List.getElem_toArray, List.getElem_cons_zero, List.getElem_cons_succ, List.setIfInBounds_toArray, List.set_cons_zero, List.set_cons_succ]
            refine pt_q (v := ?_) rfl (by rfl) ?_ ?_
            rotate_left
            · intro w' hBw'
              first | (go_simp; done) | (go_simp; with_reducible rfl)
            try simp only [Act.put, List.getElem_toArray, List.getElem_cons_zero, List.getElem_cons_succ, List.setIfInBounds_toArray, List.set_cons_zero, List.set_cons_succ]
            refine pt_q (v := ?_) rfl (by rfl) ?_ ?_
            rotate_left
            · intro w' hBw'
              first | (go_simp; done) | (go_simp; with_reducible rfl)
            try simp only [Act.put, List.getElem_toArray, List.getElem_cons_zero, List.getElem_cons_succ, List.setIfInBounds_toArray, List.set_cons_zero, List.set_cons_succ]
            refine pt_q (v := ?_) rfl (by rfl) ?_ ?_
            rotate_left
            · intro w' hBw'
              first | (go_simp; done) | (go_simp; with_reducible rfl)
            try simp only [Act.put, List.getElem_toArray, List.getElem_cons_zero, List.getElem_cons_succ, List.setIfInBounds_toArray, List.set_cons_zero, List.set_cons_succ]
            refine pt_f ?_ ?_
            · refine pt_cload rfl (by rfl) 31 (.tmp 45) rfl b ((k) * 4) rfl (cells y) _ hr3 Tryd.underlying31 rfl (by rw [hsz]; kernel_rfl) ?_
              try simp only [Act.put, List.getElem_toArray, List.getElem_cons_zero, List.getElem_cons_succ, List.setIfInBounds_toArray, List.set_cons_zero, List.set_cons_succ]
              refine pt_c ?_
              refine pt_cload rfl (by rfl) 31 (.tmp 49) rfl b ((kk) * 4) rfl (cells x) _ hr4 Tryd.underlying31 rfl (by rw [hsz]; kernel_rfl) ?_
              try simp only [Act.put, List.getElem_toArray, List.getElem_cons_zero, List.getElem_cons_succ, List.setIfInBounds_toArray, List.set_cons_zero, List.set_cons_succ]
              refine pt_q (v := ?_) rfl (by rfl) ?_ ?_
              rotate_left
              · intro w' hBw'
                first | (go_simp; done) | (go_simp; with_reducible rfl)
              try simp only [Act.put, List.getElem_toArray, List.getElem_cons_zero, List.getElem_cons_succ, List.setIfInBounds_toArray, List.set_cons_zero, List.set_cons_succ]
              refine pt_c ?_
              refine pt_put_at rfl (by rfl) 31 (.tmp 51) (.tmp 46) rfl b ((kk) * 4) (cells y) rfl rfl (by rw [hsz]; exact Arr.there hA1 hsz (by omega)) (by rw [hsz]; kernel_rfl) (h1 _) rfl ?_
              try simp only [Act.put, List.getElem_toArray, List.getElem_cons_zero, List.getElem_cons_succ, List.setIfInBounds_toArray, List.set_cons_zero, List.set_cons_succ]
              have hA2 := Arr.put hA1 hsz (i := kk) (by omega) y
              refine pt_q (v := ?_) rfl (by rfl) ?_ ?_
              rotate_left
              · intro w' hBw'
                first | (go_simp; done) | (go_simp; with_reducible rfl)
              try simp only [Act.put, List.getElem_toArray, List.getElem_cons_zero, List.getElem_cons_succ, List.setIfInBounds_toArray, List.set_cons_zero, List.set_cons_succ]
              refine pt_c ?_
              refine pt_put_at rfl (by rfl) 31 (.tmp 52) (.tmp 50) rfl b ((k) * 4) (cells x) rfl rfl (by rw [hsz]; exact Arr.there hA2 hsz (by rw [List.length_set]; omega)) (by rw [hsz]; kernel_rfl) (h1 _) rfl ?_
              try simp only [Act.put, List.getElem_toArray, List.getElem_cons_zero, List.getElem_cons_succ, List.setIfInBounds_toArray, List.set_cons_zero, List.set_cons_succ]
              have hA3 := Arr.put hA2 hsz (i := k) (by rw [List.length_set]; omega) x
              refine pt_done ?_
              have hb2 := (But.setCells (O := (· = b)) (cells y) Wd2 (kk * 4) rfl).trans (But.setCells (O := (· = b)) (cells x) _ (k * 4) rfl)
              rw [HS.out] at hA3
              have hB3 := ((HBt.out.trans (But.of_below hBw)).trans (But.of_below hBd2)).trans hb2
              have HN := Lib.hid (And.intro hA3 hB3)
              generalize ((Wd2.setCells b (kk * 4) (cells y)).setCells b (k * 4) (cells x)) = W3 at HN ⊢
              clear hA1 hA2 hA3 hr3 hr4 hb2 hB3 hBd2
              go_wp2
              go_roundw
              case rel =>
                obtain ⟨q1, q2, q3, q4, q5, q6⟩ := HQ.out
                have q7 := HK.out
                refine ⟨k, S0, y :: S2, by simp [wk], ?_, ?_, ?_, ?_, HN.out.2⟩
                · rw [q4] at q1; simp only [List.length_append, List.length_cons, List.length_nil] at q1; omega
                · rw [← q2, q4]; simp
                · intro z hz; simp only [List.head?_cons, Option.some.injEq] at hz; subst hz; exact hT.asym _ _ HLT.out
                · have := HN.out.1; simpa using this
              case measure => have q7 := HK.out; simp [intOf]; omega
            · refine pt_cload rfl (by rfl) 31 (.tmp 49) rfl b ((kk) * 4) rfl (cells x) _ hr4 Tryd.underlying31 rfl (by rw [hsz]; kernel_rfl) ?_
              try simp only [Act.put, List.getElem_toArray, List.getElem_cons_zero, List.getElem_cons_succ, List.setIfInBounds_toArray, List.set_cons_zero, List.set_cons_succ]
              refine pt_c ?_
              refine pt_cload rfl (by rfl) 31 (.tmp 45) rfl b ((k) * 4) rfl (cells y) _ hr3 Tryd.underlying31 rfl (by rw [hsz]; kernel_rfl) ?_
              try simp only [Act.put, List.getElem_toArray, List.getElem_cons_zero, List.getElem_cons_succ, List.setIfInBounds_toArray, List.set_cons_zero, List.set_cons_succ]
              refine pt_q (v := ?_) rfl (by rfl) ?_ ?_
              rotate_left
              · intro w' hBw'
                first | (go_simp; done) | (go_simp; with_reducible rfl)
              try simp only [Act.put, List.getElem_toArray, List.getElem_cons_zero, List.getElem_cons_succ, List.setIfInBounds_toArray, List.set_cons_zero, List.set_cons_succ]
              refine pt_c ?_
              refine pt_put_at rfl (by rfl) 31 (.tmp 51) (.tmp 46) rfl b ((kk) * 4) (cells y) rfl rfl (by rw [hsz]; exact Arr.there hA1 hsz (by omega)) (by rw [hsz]; kernel_rfl) (h1 _) rfl ?_
              try simp only [Act.put, List.getElem_toArray, List.getElem_cons_zero, List.getElem_cons_succ, List.setIfInBounds_toArray, List.set_cons_zero, List.set_cons_succ]
              have hA2 := Arr.put hA1 hsz (i := kk) (by omega) y
              refine pt_q (v := ?_) rfl (by rfl) ?_ ?_
              rotate_left
              · intro w' hBw'
                first | (go_simp; done) | (go_simp; with_reducible rfl)
              try simp only [Act.put, List.getElem_toArray, List.getElem_cons_zero, List.getElem_cons_succ, List.setIfInBounds_toArray, List.set_cons_zero, List.set_cons_succ]
              refine pt_c ?_
              refine pt_put_at rfl (by rfl) 31 (.tmp 52) (.tmp 50) rfl b ((k) * 4) (cells x) rfl rfl (by rw [hsz]; exact Arr.there hA2 hsz (by rw [List.length_set]; omega)) (by rw [hsz]; kernel_rfl) (h1 _) rfl ?_
              try simp only [Act.put, List.getElem_toArray, List.getElem_cons_zero, List.getElem_cons_succ, List.setIfInBounds_toArray, List.set_cons_zero, List.set_cons_succ]
              have hA3 := Arr.put hA2 hsz (i := k) (by rw [List.length_set]; omega) x
              refine pt_done ?_
              have hb2 := (But.setCells (O := (· = b)) (cells y) Wd2 (kk * 4) rfl).trans (But.setCells (O := (· = b)) (cells x) _ (k * 4) rfl)
              rw [HS.out] at hA3
              have hB3 := ((HBt.out.trans (But.of_below hBw)).trans (But.of_below hBd2)).trans hb2
              have HN := Lib.hid (And.intro hA3 hB3)
              generalize ((Wd2.setCells b (kk * 4) (cells y)).setCells b (k * 4) (cells x)) = W3 at HN ⊢
              clear hA1 hA2 hA3 hr3 hr4 hb2 hB3 hBd2
              go_wp2
              go_roundw
              case rel =>
                obtain ⟨q1, q2, q3, q4, q5, q6⟩ := HQ.out
                have q7 := HK.out
                refine ⟨k, S0, y :: S2, by simp [wk], ?_, ?_, ?_, ?_, HN.out.2⟩
                · rw [q4] at q1; simp only [List.length_append, List.length_cons, List.length_nil] at q1; omega
                · rw [← q2, q4]; simp
                · intro z hz; simp only [List.head?_cons, Option.some.injEq] at hz; subst hz; exact hT.asym _ _ HLT.out
                · have := HN.out.1; simpa using this
              case measure => have q7 := HK.out; simp [intOf]; omega
          · have HLT := Lib.hid (show ltc cf x y = false by unfold ltc; rw [HCV.out]; exact decide_eq_false hc)
            have dc : decide (cv < 0) = false := decide_eq_false hc
            have HF := Lib.hid (ins_step hT HQ.out.2.1 HP.out.1 HP.out.2.1 HQ.out.2.2.1 (fun z hz => by have := HQ.out.2.2.2.2.2; rw [this] at hz; rw [← Option.some.inj hz]; exact HLT.out))
            have HE := Lib.hid (And.intro Hh2.out.1 (((HP.out.2.2.2.2.trans HBt.out).trans (But.of_below hBw))))
            clear hr3 hr4 hBw
            go_wp2
            refine ⟨⟨i + 1, S1 ++ x :: S2, R', by simp [wi], ?_, by omega, HF.out.1, HF.out.2, ?_, HE.out.2⟩, by simp [intOf]; omega⟩
            · have q2 := congrArg List.length HQ.out.2.1; have q3 := HP.out.2.2.2.1; simp only [List.length_append, List.length_cons] at q2 ⊢; omega
            · have q1 := HE.out.1; rw [← HLLe.out] at q1; have q4 := HQ.out.2.2.2.1; rw [q4]; rw [show Lp ++ (S0 ++ [y] ++ x :: S2) ++ R' ++ Lq = Lp ++ S0 ++ y :: x :: (S2 ++ R' ++ Lq) by simp]; exact q1
        · obtain rfl : S1 = [] := by
            cases S1 with
            | nil => rfl
            | cons z r => simp only [List.length_cons] at hj; omega
          have hja2 : ¬ (a : Int) < (j : Int) := by omega
          have HF := Lib.hid (ins_step (S1 := []) hT hSS HP.out.1 HP.out.2.1 hS2 (fun z hz => by cases hz))
          have HE := Lib.hid (And.intro hAj (HP.out.2.2.2.2.trans hBj))
          have HL2 := Lib.hid hSS
          clear hAj hBj hS2 hSS hB
          go_wp2
          refine wp_region_pt (fun _ => False) (.q 0 (.q 1 (.q 2 (.q 3 (.q 4 (.q 5 (.q 6 (.q 7 (.q 8 (.q 9 (.q 10 (.q 11 (.q 12 (.q 13 (.q 14 (.q 15 (.q 16 .done))))))))))))))))) (by kernel_rfl) (by kernel_rfl) (by kernel_rfl) (by decide) (fun _ _ d _ _ h => by cases d <;> exact h) (fun Wd hBd => ?_)
          try simp only [Act.put, List.getElem_toArray, List.getElem_cons_zero, List.getElem_cons_succ, List.setIfInBounds_toArray, List.set_cons_zero, List.set_cons_succ]
          refine pt_q (v := ?_) rfl (by rfl) ?_ ?_
          rotate_left
          · intro w' hBw'
            first | (go_simp; done) | (go_simp; with_reducible rfl)
          try simp only [Act.put, List.getElem_toArray, List.getElem_cons_zero, List.getElem_cons_succ, List.setIfInBounds_toArray, List.set_cons_zero, List.set_cons_succ]
          refine pt_q (v := ?_) rfl (by rfl) ?_ ?_
          rotate_left
          · intro w' hBw'
            first | (go_simp; done) | (go_simp; with_reducible rfl)
          try simp only [Act.put, List.getElem_toArray, List.getElem_cons_zero, List.getElem_cons_succ, List.setIfInBounds_toArray, List.set_cons_zero, List.set_cons_succ]
          refine pt_q (v := ?_) rfl (by rfl) ?_ ?_
          rotate_left
          · intro w' hBw'
            first | (go_simp; done) | (go_simp; with_reducible rfl)
          try simp only [Act.put, List.getElem_toArray, List.getElem_cons_zero, List.getElem_cons_succ, List.setIfInBounds_toArray, List.set_cons_zero, List.set_cons_succ]
          refine pt_q (v := ?_) rfl (by rfl) ?_ ?_
          rotate_left
          · intro w' hBw'
            first | (go_simp; done) | (go_simp; with_reducible rfl)
          try simp only [Act.put, List.getElem_toArray, List.getElem_cons_zero, List.getElem_cons_succ, List.setIfInBounds_toArray, List.set_cons_zero, List.set_cons_succ]
          refine pt_no rfl (by rfl) ?_
          try simp only [Act.put, List.getElem_toArray, List.getElem_cons_zero, List.getElem_cons_succ, List.setIfInBounds_toArray, List.set_cons_zero, List.set_cons_succ]
          refine pt_no rfl (by rfl) ?_
          try simp only [Act.put, List.getElem_toArray, List.getElem_cons_zero, List.getElem_cons_succ, List.setIfInBounds_toArray, List.set_cons_zero, List.set_cons_succ]
          refine pt_no rfl (by rfl) ?_
          try simp only [Act.put, List.getElem_toArray, List.getElem_cons_zero, List.getElem_cons_succ, List.setIfInBounds_toArray, List.set_cons_zero, List.set_cons_succ]
          refine pt_no rfl (by rfl) ?_
          try simp only [Act.put, List.getElem_toArray, List.getElem_cons_zero, List.getElem_cons_succ, List.setIfInBounds_toArray, List.set_cons_zero, List.set_cons_succ]
          refine pt_no rfl (by rfl) ?_
          try simp only [Act.put, List.getElem_toArray, List.getElem_cons_zero, List.getElem_cons_succ, List.setIfInBounds_toArray, List.set_cons_zero, List.set_cons_succ]
          refine pt_no rfl (by rfl) ?_
          try simp only [Act.put, List.getElem_toArray, List.getElem_cons_zero, List.getElem_cons_succ, List.setIfInBounds_toArray, List.set_cons_zero, List.set_cons_succ]
          refine pt_no rfl (by rfl) ?_
          try simp only [Act.put, List.getElem_toArray, List.getElem_cons_zero, List.getElem_cons_succ, List.setIfInBounds_toArray, List.set_cons_zero, List.set_cons_succ]
          refine pt_no rfl (by rfl) ?_
          try simp only [Act.put, List.getElem_toArray, List.getElem_cons_zero, List.getElem_cons_succ, List.setIfInBounds_toArray, List.set_cons_zero, List.set_cons_succ]
          refine pt_no rfl (by rfl) ?_
          try simp only [Act.put, List.getElem_toArray, List.getElem_cons_zero, List.getElem_cons_succ, List.setIfInBounds_toArray, List.set_cons_zero, List.set_cons_succ]
          refine pt_no rfl (by rfl) ?_
          try simp only [Act.put, List.getElem_toArray, List.getElem_cons_zero, List.getElem_cons_succ, List.setIfInBounds_toArray, List.set_cons_zero, List.set_cons_succ]
          refine pt_no rfl (by rfl) ?_
          try simp only [Act.put, List.getElem_toArray, List.getElem_cons_zero, List.getElem_cons_succ, List.setIfInBounds_toArray, List.set_cons_zero, List.set_cons_succ]
          refine pt_no rfl (by rfl) ?_
          try simp only [Act.put, List.getElem_toArray, List.getElem_cons_zero, List.getElem_cons_succ, List.setIfInBounds_toArray, List.set_cons_zero, List.set_cons_succ]
          refine pt_q (v := ?_) rfl (by rfl) ?_ ?_
          rotate_left
          · intro w' hBw'
            first | (go_simp; done) | (go_simp; with_reducible rfl)
          try simp only [Act.put, List.getElem_toArray, List.getElem_cons_zero, List.getElem_cons_succ, List.setIfInBounds_toArray, List.set_cons_zero, List.set_cons_succ]
          refine pt_done ?_
          have HE2 := Lib.hid (And.intro (RowAt.below HE.out.1 hBd) (HE.out.2.trans (But.of_below hBd)))
          go_wp2
          refine ⟨⟨i + 1, x :: S2, R', by simp [wi], ?_, by omega, by simpa using HF.out.1, by simpa using HF.out.2, ?_, HE2.out.2⟩, by simp [intOf]; omega⟩
          · have q2 := congrArg List.length HL2.out; have q3 := HP.out.2.2.2.1; simp only [List.nil_append, List.length_cons] at q2 ⊢; omega
          · have q1 := HE2.out.1; rw [show Lp ++ x :: S2 ++ R' ++ Lq = Lp ++ [] ++ x :: (S2 ++ R' ++ Lq) by simp]; exact q1
    · obtain rfl : i = e := by omega
      obtain rfl : R = [] := by
        cases R with
        | nil => rfl
        | cons z r => simp only [List.length_cons] at hpl; omega
      go_wp2
      go_end0
      exact ⟨rfl, S, by simpa using hp, hS, by simpa using hA, hB⟩
end
end Go.Proofs.YtpfgepgjpnekdaaDoor
