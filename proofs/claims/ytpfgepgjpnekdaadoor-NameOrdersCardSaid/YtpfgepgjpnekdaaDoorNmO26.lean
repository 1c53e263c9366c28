/-
  NStabH: several texts in one (bundle.py).
-/
import Derived.Test.YtpfgepgjpnekdaaDoorNmO25
namespace Go.Proofs.YtpfgepgjpnekdaaDoor
open Go.RowKit Srt
set_option linter.unusedSimpArgs false
set_option linter.unusedVariables false

section
variable {α : Type} {cells : α → List Value} {cf : α → α → Int}
theorem merge_fin {lt : α → α → Bool} (hT : TO lt) {U1 U2 V1 V2 W1 W2 : List α} (hU : Sorted lt (U1 ++ U2)) (hV : Sorted lt (V1 ++ V2)) (c1 : ∀ x y, U1.getLast? = some x → V2.head? = some y → lt y x = false) (c2 : ∀ x y, V1.getLast? = some x → U2.head? = some y → lt y x = false)
    (p1 : W1.Perm (U1 ++ V1)) (p2 : W2.Perm (U2 ++ V2)) (s1 : Sorted lt W1) (s2 : Sorted lt W2) : (W1 ++ W2).Perm ((U1 ++ U2) ++ (V1 ++ V2)) ∧ Sorted lt (W1 ++ W2) := by
  refine ⟨(p1.append p2).trans ?_, join (halves hT hU hV c1 c2) p1 p2 s1 s2⟩
  rw [List.append_assoc, List.append_assoc]
  refine List.Perm.append_left U1 ?_
  rw [← List.append_assoc, ← List.append_assoc]
  exact List.Perm.append_right V2 List.perm_append_comm
theorem one_sorted {lt : α → α → Bool} {A B : List α} (hA : Sorted lt A) (hB : Sorted lt B) (h : A.length = 0 ∨ B.length = 0) : Sorted lt (A ++ B) := by
  rcases h with h | h
  · rw [List.eq_nil_of_length_eq_zero h]; exact hB
  · rw [List.eq_nil_of_length_eq_zero h, List.append_nil]; exact hA
theorem no_rot {A B C D E F : List α} (h : B.length = 0 ∨ C.length = 0) : E ++ (A ++ B) ++ (C ++ D) ++ F = E ++ A ++ C ++ B ++ D ++ F := by
  rcases h with h | h <;> rw [List.eq_nil_of_length_eq_zero h] <;> simp
/-- What symMerge leaves. -/
def SmP (cf : α → α → Int) (cells : α → List Value) (b : Nat) (J : List Value) (Lp X Lq : List α) (w : World) (en : Ending) (w' : World) : Prop := en = .returned (.tuple #[]) ∧ ∃ W, W.Perm X ∧ Sorted (ltc cf) W ∧ Arr w' b 31 J cells (Lp ++ W ++ Lq) ∧ But (· = b) w w'
set_option maxHeartbeats 4000000 in
set_option maxRecDepth 100000 in
theorem sm3_c (hsz : ∀ x, (cells x).length = 4) (h1 : ∀ x, (cells x).all (·.oneCell') = true) (hT : TO (ltc cf)) {L : List α} (Lp U V Lq : List α) (hL : L = Lp ++ U ++ V ++ Lq) (hU : 2 ≤ U.length) (hV : 2 ≤ V.length) (hSU : Sorted (ltc cf) U) (hSV : Sorted (ltc cf) V) {n a m e : Nat} (hn : L.length = n) (ha : Lp.length = a) (hm : a + U.length = m) (he : m + V.length = e) (hb : n ≤ 1000000000) {b c : Nat} {J : List Value} (g : FuncId) (cap : Array Value) (hent : Enters Tryd.prog g) (hcmp : ∀ (x y : α) (w1 : World), Calls Tryd.prog g (#[.agg (cells x).toArray, .agg (cells y).toArray] ++ cap) w1 (Ret (.int .i64 (cf x y)) w1))
    (IH : ∀ (Lp' U' V' Lq' L' : List α) (w' : World), L' = Lp' ++ U' ++ V' ++ Lq' → 0 < U'.length → 0 < V'.length → U'.length + V'.length < U.length + V.length → Sorted (ltc cf) U' → Sorted (ltc cf) V' → L'.length = n → Arr w' b 31 J cells L' →
      ∀ a' m' e' : Nat, Lp'.length = a' → a' + U'.length = m' → m' + V'.length = e' → Calls Tryd.prog 114 #[.slice (some ⟨b, 0, none⟩) n c, .int .i64 (a' : Int), .int .i64 (m' : Int), .int .i64 (e' : Int), .func (.func g) #[] cap] w' (SmP cf cells b J Lp' (U' ++ V') Lq' w'))
    (w : World) (h : Arr w b 31 J cells L) :
    Calls Tryd.prog 114 #[.slice (some ⟨b, 0, none⟩) n c, .int .i64 (a : Int), .int .i64 (m : Int), .int .i64 (e : Int), .func (.func g) #[] cap] w (SmP cf cells b J Lp (U ++ V) Lq w) := by
  have hnl : e + Lq.length = n := by rw [← hn, hL]; simp only [List.length_append]; omega
  have w1 : IntKind.i64.wrap ((m : Int) - (a : Int)) = ((m - a : Nat) : Int) := by rw [IntKind.wrap_i64]; omega
  obtain ⟨ma, hma⟩ : ∃ ma, m - a = ma := ⟨_, rfl⟩
  rw [hma] at w1
  have hne1 : ¬ (ma : Int) = 1 := by omega
  have hmb : ((ma : Int) == 1) = false := by simp; omega
  have w2 : IntKind.i64.wrap ((e : Int) - (m : Int)) = ((e - m : Nat) : Int) := by rw [IntKind.wrap_i64]; omega
  obtain ⟨em, hem⟩ : ∃ em, e - m = em := ⟨_, rfl⟩
  rw [hem] at w2
  have hne2 : ¬ (em : Int) = 1 := by omega
  have hmb2 : ((em : Int) == 1) = false := by simp; omega
  have w3 : IntKind.i64.wrap ((a : Int) + (e : Int)) = ((a + e : Nat) : Int) := by rw [IntKind.wrap_i64]; omega
  obtain ⟨ae, hae⟩ : ∃ ae, a + e = ae := ⟨_, rfl⟩
  rw [hae] at w3
  have w4 : IntKind.u64.wrap (ae : Int) = (ae : Int) := by rw [IntKind.wrap_u64]; omega
  obtain ⟨mid, hmid⟩ : ∃ mid, ae / 2 = mid := ⟨_, rfl⟩
  have w5 : IntKind.i64.wrap ((ae : Int) / 2) = (mid : Int) := by rw [IntKind.wrap_i64]; omega
  have w6 : IntKind.i64.wrap ((mid : Int) + (m : Int)) = ((mid + m : Nat) : Int) := by rw [IntKind.wrap_i64]; omega
  obtain ⟨nn, hnn⟩ : ∃ nn, mid + m = nn := ⟨_, rfl⟩
  rw [hnn] at w6
  have w8 : IntKind.i64.wrap ((nn : Int) - 1) = ((nn - 1 : Nat) : Int) := by rw [IntKind.wrap_i64]; omega
  obtain ⟨pp, hpp⟩ : ∃ pp, nn - 1 = pp := ⟨_, rfl⟩
  rw [hpp] at w8
  have HC := Lib.hid hcmp
  have HIH := Lib.hid IH
  unfold Enters at hent
  have HLe := Lib.hid hL
  by_cases hmm : mid < m
  · have hmmI : (mid : Int) < (m : Int) := by omega
    have w7 : IntKind.i64.wrap ((nn : Int) - (e : Int)) = ((nn - e : Nat) : Int) := by rw [IntKind.wrap_i64]; omega
    obtain ⟨ne, hne⟩ : ∃ ne, nn - e = ne := ⟨_, rfl⟩
    rw [hne] at w7
    have dmm : decide ((mid : Int) < (m : Int)) = true := decide_eq_true hmmI
    have hst : ne ≤ mid ∧ a ≤ ne ∧ mid ≤ m := by omega
    have HX := Lib.hid (show (mid < m ∧ ne = nn - e ∧ mid = mid) ∨ (m ≤ mid ∧ ne = a ∧ mid = m) from .inl ⟨hmm, hne.symm, rfl⟩)
    have HI := Lib.hid (And.intro ha (And.intro hm (And.intro he (And.intro hnl (And.intro hnn (And.intro hpp (And.intro hae (And.intro hmid hst))))))))
    clear hcmp IH hL ha hm he hnl hnn hpp hae hmid hne hst hma hem hmm
    go_enter Tryd.func114, Tryd.ntmps114
    go_wp2
    go_loopw [20, 21] (fun vi vj wr => ∃ (i j : Nat), vi = .int .i64 i ∧ vj = .int .i64 j ∧ ne ≤ i ∧ i ≤ j ∧ j ≤ mid ∧ (i = ne ∨ ∃ x y, L[i - 1]? = some x ∧ L[nn - i]? = some y ∧ ltc cf y x = false) ∧ (j = mid ∨ ∃ x y, L[j]? = some x ∧ L[nn - 1 - j]? = some y ∧ ltc cf y x = true) ∧ Arr wr b 31 J cells L ∧ But (· = b) w wr) (fun vi vj _ => (intOf vj).toNat - (intOf vi).toNat)
    case atStart =>
      have := HI.out.2.2.2.2.2.2.2.2
      exact ⟨ne, mid, rfl, rfl, Nat.le_refl _, this.1, Nat.le_refl _, .inl rfl, .inl rfl, h, But.refl _ _⟩
    case round =>
      clear h
      obtain ⟨i, j, rfl, rfl, hij1, hij2, hij3, hc1, hc2, hA, hB⟩ := hrel
      by_cases hij : i < j
      · have hijI : (i : Int) < (j : Int) := by omega
        obtain ⟨ha, hm, he, hnl, hnn, hpp, hae, hmid, hst⟩ := HI.out
        have hX := HX.out
        obtain ⟨s, hs⟩ : ∃ s, i + j = s := ⟨_, rfl⟩
        obtain ⟨hh, hhe⟩ : ∃ hh, s / 2 = hh := ⟨_, rfl⟩
        have hb1 : i ≤ hh ∧ hh < j := by omega
        have ws : IntKind.i64.wrap ((i : Int) + (j : Int)) = (s : Int) := by rw [IntKind.wrap_i64]; omega
        have wu : IntKind.u64.wrap (s : Int) = (s : Int) := by rw [IntKind.wrap_u64]; omega
        have wh : IntKind.i64.wrap ((s : Int) / 2) = (hh : Int) := by rw [IntKind.wrap_i64]; omega
        have wi : IntKind.i64.wrap ((hh : Int) + 1) = ((hh + 1 : Nat) : Int) := by rw [IntKind.wrap_i64]; omega
        have wp : IntKind.i64.wrap ((pp : Int) - (hh : Int)) = ((pp - hh : Nat) : Int) := by rw [IntKind.wrap_i64]; omega
        obtain ⟨h2, hh2⟩ : ∃ h2, hh + 1 = h2 := ⟨_, rfl⟩
        rw [hh2] at wi
        obtain ⟨pc, hpc⟩ : ∃ pc, pp - hh = pc := ⟨_, rfl⟩
        rw [hpc] at wp
        have hpcn : pc < n ∧ hh < pc := by omega
        obtain ⟨x, hx⟩ : ∃ x, L[hh]? = some x := ⟨L[hh]'(by omega), List.getElem?_eq_getElem (by omega)⟩
        obtain ⟨y, hy⟩ : ∃ y, L[pc]? = some y := ⟨L[pc]'(by omega), List.getElem?_eq_getElem (by omega)⟩
        have hr1 := hA.at hsz hy
        have hr2 := hA.at hsz hx
        have hhI : (hh : Int) < (n : Int) := by omega
        have hpI : (pc : Int) < (n : Int) := by omega
        have hp2 : hpcn = hpcn := rfl
        obtain ⟨cv, hcv⟩ : ∃ cv, cf y x = cv := ⟨_, rfl⟩
        have hcx := fun w1 => HC.out y x w1
        simp only [hcv] at hcx
        have HCX := Lib.hid hcx
        obtain ⟨be, hbe⟩ : ∃ be, decide (cv < 0) = be := ⟨_, rfl⟩
        have HBE := Lib.hid hbe
        have HQ := Lib.hid (And.intro hij1 (And.intro hij2 (And.intro hij3 (And.intro hc1 (And.intro hc2 (And.intro hb1 (And.intro hx (And.intro hy (And.intro hcv (And.intro hh2 (And.intro hpc (And.intro hpp hnn))))))))))))
        have HA := Lib.hid (And.intro hA hB)
        clear hp2 ha hnl hm he hij1 hij2 hij3 hc1 hc2 hb1 hx hy hcx hcv hs hhe hA hB hh2 hpc hpcn hpp hnn hae hmid hst hX
        go_wp2
        refine wp_region_pt (fun _ => False) (.q 0 (.q 1 (.q 2 (.q 3 (.q 4 (.q 5 (.q 6 (.q 7 (.q 8 (.q 9 (.q 10 (.c 11 (.q 12 (.q 13 .done)))))))))))))) (by kernel_rfl) (by kernel_rfl) (by kernel_rfl) (by decide) (fun _ _ d _ _ h => by cases d <;> exact h) (fun Wd hBd => ?_)
        try simp only [Act.put, List.getElem_toArray, List.getElem_cons_zero, List.getElem_cons_succ, List.setIfInBounds_toArray, List.set_cons_zero, List.set_cons_succ]
        have hr1 := rangeAt_up hBd hr1
        have hr2 := rangeAt_up hBd hr2
        refine pt_q (v := ?_) rfl (by rfl) ?_ ?_
        rotate_left
        · intro w' hBw'
          first | (go_simp; done) | (go_simp; with_reducible rfl)
        try simp only [Act.put, List.getElem_toArray, List.getElem_cons_zero, List.getElem_cons_succ, List.setIfInBounds_toArray, List.set_cons_zero, List.set_cons_succ]
        refine pt_q (v := ?_) rfl (by rfl) ?_ ?_
        rotate_left
        · intro w' hBw'
          first | (go_simp; done) | (go_simp; with_reducible rfl)
        try simp only [Act.put, List.getElem_toArray, List.getElem_cons_zero, List.getElem_cons_succ, List.setIfInBounds_toArray, List.set_cons_zero, List.set_cons_succ]
        refine pt_q (v := ?_) rfl (by rfl) ?_ ?_
        rotate_left
        · intro w' hBw'
          first | (go_simp; done) | (go_simp; with_reducible rfl)
        try simp only [Act.put, List.getElem_toArray, List.getElem_cons_zero, List.getElem_cons_succ, List.setIfInBounds_toArray, List.set_cons_zero, List.set_cons_succ]
        refine pt_q (v := ?_) rfl (by rfl) ?_ ?_
        rotate_left
        · intro w' hBw'
          first | (go_simp; done) | (go_simp; with_reducible rfl)
        try simp only [Act.put, List.getElem_toArray, List.getElem_cons_zero, List.getElem_cons_succ, List.setIfInBounds_toArray, List.set_cons_zero, List.set_cons_succ]
        refine pt_q (v := ?_) rfl (by rfl) ?_ ?_
        rotate_left
        · intro w' hBw'
          first | (go_simp; done) | (go_simp; with_reducible rfl)
        try simp only [Act.put, List.getElem_toArray, List.getElem_cons_zero, List.getElem_cons_succ, List.setIfInBounds_toArray, List.set_cons_zero, List.set_cons_succ]
        refine pt_q (v := ?_) rfl (by rfl) ?_ ?_
        rotate_left
        · intro w' hBw'
          first | (go_simp; done) | (go_simp; with_reducible rfl)
        try simp only [Act.put, List.getElem_toArray, List.getElem_cons_zero, List.getElem_cons_succ, List.setIfInBounds_toArray, List.set_cons_zero, List.set_cons_succ]
        refine pt_load rfl (by rfl) 31 (.tmp 163) rfl b (pc * 4) rfl (cells y) _ hr1 (fun h => h) Tryd.underlying31 rfl (by rw [hsz]; kernel_rfl) ?_
        try simp only [Act.put, List.getElem_toArray, List.getElem_cons_zero, List.getElem_cons_succ, List.setIfInBounds_toArray, List.set_cons_zero, List.set_cons_succ]
        refine pt_q (v := ?_) rfl (by rfl) ?_ ?_
        rotate_left
        · intro w' hBw'
          first | (go_simp; done) | (go_simp; with_reducible rfl)
        try simp only [Act.put, List.getElem_toArray, List.getElem_cons_zero, List.getElem_cons_succ, List.setIfInBounds_toArray, List.set_cons_zero, List.set_cons_succ]
        refine pt_q (v := ?_) rfl (by rfl) ?_ ?_
        rotate_left
        · intro w' hBw'
          first | (go_simp; done) | (go_simp; with_reducible rfl)
        try simp only [Act.put, List.getElem_toArray, List.getElem_cons_zero, List.getElem_cons_succ, List.setIfInBounds_toArray, List.set_cons_zero, List.set_cons_succ]
        refine pt_q (v := ?_) rfl (by rfl) ?_ ?_
        rotate_left
        · intro w' hBw'
          first | (go_simp; done) | (go_simp; with_reducible rfl)
        try simp only [Act.put, List.getElem_toArray, List.getElem_cons_zero, List.getElem_cons_succ, List.setIfInBounds_toArray, List.set_cons_zero, List.set_cons_succ]
        refine pt_load rfl (by rfl) 31 (.tmp 167) rfl b (hh * 4) rfl (cells x) _ hr2 (fun h => h) Tryd.underlying31 rfl (by rw [hsz]; kernel_rfl) ?_
        try simp only [Act.put, List.getElem_toArray, List.getElem_cons_zero, List.getElem_cons_succ, List.setIfInBounds_toArray, List.set_cons_zero, List.set_cons_succ]
        refine pt_c ?_
        refine pt_step rfl (by rfl) (fun K hK => ?_)
        go_simp
        refine (Calls.cast rfl (HCX.out Wd)).mono ?_
        rintro en w4 ⟨rfl, hb4⟩
        refine hK.out _ _ (But.of_below hb4) ?_
        clear hK K
        try simp only [Act.put, List.getElem_toArray, List.getElem_cons_zero, List.getElem_cons_succ, List.setIfInBounds_toArray, List.set_cons_zero, List.set_cons_succ]
        refine pt_q (v := ?_) rfl (by rfl) ?_ ?_
        rotate_left
        · intro w' hBw'
          first | (go_simp; done) | (go_simp; with_reducible rfl)
        try simp only [Act.put, List.getElem_toArray, List.getElem_cons_zero, List.getElem_cons_succ, List.setIfInBounds_toArray, List.set_cons_zero, List.set_cons_succ]
        refine pt_q (v := ?_) rfl (by rfl) ?_ ?_
        rotate_left
        · intro w' hBw'
          first | (go_simp; done) | (go_simp; with_reducible rfl)
        try simp only [Act.put, List.getElem_toArray, List.getElem_cons_zero, List.getElem_cons_succ, List.setIfInBounds_toArray, List.set_cons_zero, List.set_cons_succ]
        refine pt_done ?_
        obtain ⟨hij1, hij2, hij3, hc1, hc2, hb1, hx, hy, hcv, hh2, hpc, hpp, hnn⟩ := HQ.out
        have HA2 := Lib.hid (And.intro (RowAt.below HA.out.1 (hBd.trans (hb4.mono hBd.size))) (HA.out.2.trans (But.of_below (hBd.trans (hb4.mono hBd.size)))))
        clear hr1 hr2 hb4 hBd hbe
        cases be with
        | true =>
          have HLT := Lib.hid (show ltc cf y x = true by unfold ltc; rw [hcv]; exact HBE.out)
          clear hij1 hij2 hij3 hc1 hc2 hb1 hx hy hcv hh2 hpc hpp hnn
          go_wp2
          obtain ⟨hij1, hij2, hij3, hc1, hc2, hb1, hx, hy, hcv, hh2, hpc, hpp, hnn⟩ := HQ.out
          refine ⟨⟨i, hh, rfl, rfl, by omega, by omega, by omega, hc1, .inr ⟨x, y, hx, by rw [show nn - 1 - hh = pc by omega]; exact hy, HLT.out⟩, HA2.out.1, HA2.out.2⟩, by simp [intOf]; omega⟩
        | false =>
          have HLT := Lib.hid (show ltc cf y x = false by unfold ltc; rw [hcv]; exact HBE.out)
          clear hij1 hij2 hij3 hc1 hc2 hb1 hx hy hcv hh2 hpc hpp hnn
          go_wp2
          obtain ⟨hij1, hij2, hij3, hc1, hc2, hb1, hx, hy, hcv, hh2, hpc, hpp, hnn⟩ := HQ.out
          refine ⟨⟨h2, j, rfl, rfl, by omega, by omega, by omega, .inr ⟨x, y, by rw [← hh2]; exact hx, by rw [show nn - h2 = pc by omega]; exact hy, HLT.out⟩, hc2, HA2.out.1, HA2.out.2⟩, by simp [intOf]; omega⟩
      · obtain rfl : i = j := by omega
        obtain ⟨ha, hm, he, hnl, hnn, hpp, hae, hmid, hst⟩ := HI.out
        have hX := HX.out
        obtain ⟨en, hen⟩ : ∃ en, nn - i = en := ⟨_, rfl⟩
        have wen : IntKind.i64.wrap ((nn : Int) - (i : Int)) = (en : Int) := by rw [IntKind.wrap_i64]; omega
        have hbs : a ≤ i ∧ i ≤ m ∧ m ≤ en ∧ en ≤ e ∧ i ≤ mid ∧ mid ≤ en ∧ mid - i = en - m ∧ en - mid = m - i := by omega
        obtain ⟨U1, hU1⟩ : ∃ U1, U1 = U.take (i - a) := ⟨_, rfl⟩
        obtain ⟨U2, hU2⟩ : ∃ U2, U2 = U.drop (i - a) := ⟨_, rfl⟩
        obtain ⟨V1, hV1⟩ : ∃ V1, V1 = V.take (en - m) := ⟨_, rfl⟩
        obtain ⟨V2, hV2⟩ : ∃ V2, V2 = V.drop (en - m) := ⟨_, rfl⟩
        have hUU : U = U1 ++ U2 := by rw [hU1, hU2, List.take_append_drop]
        have hVV : V = V1 ++ V2 := by rw [hV1, hV2, List.take_append_drop]
        have l1 : U1.length = i - a := by rw [hU1, List.length_take]; omega
        have l2 : U2.length = m - i := by rw [hU2, List.length_drop]; omega
        have l3 : V1.length = en - m := by rw [hV1, List.length_take]; omega
        have l4 : V2.length = e - en := by rw [hV2, List.length_drop]; omega
        clear hU1 hU2 hV1 hV2
        have hLe := HLe.out
        rw [hUU, hVV] at hLe
        have c1 : ∀ x y, U1.getLast? = some x → V2.head? = some y → ltc cf y x = false := by
          intro x y hx hy
          have hs := last_split hx
          have l1' := congrArg List.length hs
          simp only [List.length_append, List.length_cons, List.length_nil] at l1'
          cases hv2 : V2 with
          | nil => rw [hv2] at hy; cases hy
          | cons y' V2' =>
            rw [hv2] at hy l4
            simp only [List.head?_cons, Option.some.injEq] at hy
            subst hy
            simp only [List.length_cons] at l4
            rcases hc1 with hc | ⟨x', y'', g1, g2, g3⟩
            · omega
            · have e1 : L[i - 1]? = some x := by
                rw [hLe, hs, show Lp ++ (U1.dropLast ++ [x] ++ U2) ++ (V1 ++ V2) ++ Lq = (Lp ++ U1.dropLast) ++ x :: (U2 ++ (V1 ++ V2) ++ Lq) by simp, show i - 1 = (Lp ++ U1.dropLast).length by simp only [List.length_append]; omega]
                exact mid_get _ _ _
              have e2 : L[nn - i]? = some y' := by
                rw [hLe, hv2, show Lp ++ (U1 ++ U2) ++ (V1 ++ y' :: V2') ++ Lq = (Lp ++ (U1 ++ U2) ++ V1) ++ y' :: (V2' ++ Lq) by simp, show nn - i = (Lp ++ (U1 ++ U2) ++ V1).length by simp only [List.length_append]; omega]
                exact mid_get _ _ _
              rw [e1] at g1
              rw [e2] at g2
              rw [Option.some.inj g1, Option.some.inj g2]; exact g3
        have c2 : ∀ x y, V1.getLast? = some x → U2.head? = some y → ltc cf y x = false := by
          intro x y hx hy
          have hs := last_split hx
          have l3' := congrArg List.length hs
          simp only [List.length_append, List.length_cons, List.length_nil] at l3'
          cases hv2 : U2 with
          | nil => rw [hv2] at hy; cases hy
          | cons y' U2' =>
            rw [hv2] at hy l2
            simp only [List.head?_cons, Option.some.injEq] at hy
            subst hy
            simp only [List.length_cons] at l2
            rcases hc2 with hc | ⟨x', y'', g1, g2, g3⟩
            · omega
            · have e1 : L[i]? = some y' := by
                rw [hLe, hv2, show Lp ++ (U1 ++ y' :: U2') ++ (V1 ++ V2) ++ Lq = (Lp ++ U1) ++ y' :: (U2' ++ (V1 ++ V2) ++ Lq) by simp, show i = (Lp ++ U1).length by simp only [List.length_append]; omega]
                exact mid_get _ _ _
              have e2 : L[nn - 1 - i]? = some x := by
                rw [hLe, hs, show Lp ++ (U1 ++ U2) ++ (V1.dropLast ++ [x] ++ V2) ++ Lq = (Lp ++ (U1 ++ U2) ++ V1.dropLast) ++ x :: (V2 ++ Lq) by simp, show nn - 1 - i = (Lp ++ (U1 ++ U2) ++ V1.dropLast).length by simp only [List.length_append]; rw [hv2]; simp only [List.length_cons]; omega]
                exact mid_get _ _ _
              rw [e1] at g1
              rw [e2] at g2
              rw [← Option.some.inj g1, ← Option.some.inj g2] at g3; exact hT.asym _ _ g3
        have sU := hSU
        have sV := hSV
        rw [hUU] at sU
        rw [hVV] at sV
        have hro : 0 < U2.length → 0 < V1.length → ∀ w', Arr w' b 31 J cells L → Calls Tryd.prog 123 #[.slice (some ⟨b, 0, none⟩) n c, .int .i64 (i : Int), .int .i64 (m : Int), .int .i64 (en : Int), .func (.func g) #[] cap] w' (fun en' w2 => en' = .returned (.tuple #[]) ∧ Arr w2 b 31 J cells (Lp ++ U1 ++ V1 ++ U2 ++ V2 ++ Lq) ∧ But (· = b) w' w2) := by
          intro q1 q2 w' hw'
          refine (rotate_c hsz h1 (Lp ++ U1) U2 V1 (V2 ++ Lq) (by rw [hLe]; simp) q1 q2 hn (by rw [List.length_append]; omega) (by rw [List.length_append]; omega) (by rw [List.length_append]; omega) hb _ w' hw').mono ?_
          rintro en' w2 ⟨rfl, hA2, hb2⟩
          exact ⟨rfl, by rw [show Lp ++ U1 ++ V1 ++ U2 ++ V2 ++ Lq = Lp ++ U1 ++ V1 ++ U2 ++ (V2 ++ Lq) by simp]; exact hA2, hb2⟩
        have hs1 : 0 < U1.length → 0 < V1.length → ∀ w', Arr w' b 31 J cells (Lp ++ U1 ++ V1 ++ U2 ++ V2 ++ Lq) → Calls Tryd.prog 114 #[.slice (some ⟨b, 0, none⟩) n c, .int .i64 (a : Int), .int .i64 (i : Int), .int .i64 (mid : Int), .func (.func g) #[] cap] w' (SmP cf cells b J Lp (U1 ++ V1) (U2 ++ V2 ++ Lq) w') := by
          intro q1 q2 w' hw'
          refine HIH.out Lp U1 V1 (U2 ++ V2 ++ Lq) _ w' (by simp) q1 q2 (by omega) sU.left sV.left (by rw [← hn, hLe]; simp only [List.length_append]; omega) hw' a i mid ha (by omega) (by omega)
        have hs2 : 0 < U2.length → 0 < V2.length → ∀ W1 w', W1.length = U1.length + V1.length → Arr w' b 31 J cells (Lp ++ W1 ++ (U2 ++ V2 ++ Lq)) → Calls Tryd.prog 114 #[.slice (some ⟨b, 0, none⟩) n c, .int .i64 (mid : Int), .int .i64 (en : Int), .int .i64 (e : Int), .func (.func g) #[] cap] w' (SmP cf cells b J (Lp ++ W1) (U2 ++ V2) Lq w') := by
          intro q1 q2 W1 w' hW1 hw'
          refine HIH.out (Lp ++ W1) U2 V2 Lq _ w' (by simp) q1 q2 (by omega) sU.right sV.right (by rw [← hn, hLe]; simp only [List.length_append]; omega) hw' mid en e (by rw [List.length_append]; omega) (by omega) (by omega)
        have HRO := Lib.hid hro
        have HS1 := Lib.hid hs1
        have HS2 := Lib.hid hs2
        have HB := Lib.hid hbs
        have HLL := Lib.hid (And.intro hLe (And.intro hUU (And.intro hVV (And.intro l1 (And.intro l2 (And.intro l3 (And.intro l4 (And.intro sU (And.intro sV (And.intro c1 c2))))))))))
        clear hro hs1 hs2 hLe hUU hVV l1 l2 l3 l4 sU sV c1 c2 hc1 hc2 ha hm he hnl hnn hpp hae hmid hst hX hij1 hij2 hij3 hbs hen
        by_cases k0a : i < m
        · have i0a : (i : Int) < (m : Int) := by omega
          have d0a : decide ((i : Int) < (m : Int)) = true := decide_eq_true i0a
          by_cases k0b : m < en
          · have i0b : (m : Int) < (en : Int) := by omega
            have d0b : decide ((m : Int) < (en : Int)) = true := decide_eq_true i0b
            by_cases k1a : a < i
            · have i1a : (a : Int) < (i : Int) := by omega
              have d1a : decide ((a : Int) < (i : Int)) = true := decide_eq_true i1a
              by_cases k1b : i < mid
              · have i1b : (i : Int) < (mid : Int) := by omega
                have d1b : decide ((i : Int) < (mid : Int)) = true := decide_eq_true i1b
                by_cases k2a : mid < en
                · have i2a : (mid : Int) < (en : Int) := by omega
                  have d2a : decide ((mid : Int) < (en : Int)) = true := decide_eq_true i2a
                  by_cases k2b : en < e
                  · have i2b : (en : Int) < (e : Int) := by omega
                    have d2b : decide ((en : Int) < (e : Int)) = true := decide_eq_true i2b
                    obtain ⟨hLe, hUU, hVV, l1, l2, l3, l4, sU, sV, c1, c2⟩ := HLL.out
                    obtain ⟨b1, b2, b3, b4, b5, b6, b7, b8⟩ := HB.out
                    have hro := HRO.out (by omega) (by omega)
                    have hs1 := HS1.out (by omega) (by omega)
                    have hs2 := HS2.out (by omega) (by omega)
                    have t1 := Lib.hid True.intro
                    clear hLe hUU hVV l1 l2 l3 l4 sU sV c1 c2 b1 b2 b3 b4 b5 b6 b7 b8
                    go_wp2_with (first | (go_at_call 123; refine (hro _ hA).mono ?_; rintro en1 wA ⟨rfl, hA1, hbA⟩) | (go_at_call 114; have Tz := t1; clear Tz t1; refine (hs1 _ hA1).mono ?_; rintro en2 wB ⟨rfl, W1, p1, s1, hA2, hbB⟩) | (go_at_call 114; refine (hs2 W1 _ (by rw [p1.length_eq, List.length_append]) hA2).mono ?_; rintro en3 wC ⟨rfl, W2, p2, s2, hA3, hbC⟩))
                    obtain ⟨hLe, hUU, hVV, l1, l2, l3, l4, sU, sV, c1, c2⟩ := HLL.out
                    obtain ⟨b1, b2, b3, b4, b5, b6, b7, b8⟩ := HB.out
                    have hF := merge_fin hT sU sV c1 c2 p1 p2 s1 s2
                    go_end0
                    exact ⟨rfl, W1 ++ W2, by rw [hUU, hVV]; exact hF.1, hF.2, by rw [show Lp ++ (W1 ++ W2) ++ Lq = Lp ++ W1 ++ W2 ++ Lq by simp]; exact hA3, (((hB.trans hbA).trans hbB).trans hbC)⟩
                  · have i2b : ¬ (en : Int) < (e : Int) := by omega
                    have d2b : decide ((en : Int) < (e : Int)) = false := decide_eq_false i2b
                    obtain ⟨hLe, hUU, hVV, l1, l2, l3, l4, sU, sV, c1, c2⟩ := HLL.out
                    obtain ⟨b1, b2, b3, b4, b5, b6, b7, b8⟩ := HB.out
                    have hro := HRO.out (by omega) (by omega)
                    have hs1 := HS1.out (by omega) (by omega)
                    have t1 := Lib.hid True.intro
                    clear hLe hUU hVV l1 l2 l3 l4 sU sV c1 c2 b1 b2 b3 b4 b5 b6 b7 b8
                    go_wp2_with (first | (go_at_call 123; refine (hro _ hA).mono ?_; rintro en1 wA ⟨rfl, hA1, hbA⟩) | (go_at_call 114; have Tz := t1; clear Tz t1; refine (hs1 _ hA1).mono ?_; rintro en2 wB ⟨rfl, W1, p1, s1, hA2, hbB⟩))
                    obtain ⟨hLe, hUU, hVV, l1, l2, l3, l4, sU, sV, c1, c2⟩ := HLL.out
                    obtain ⟨b1, b2, b3, b4, b5, b6, b7, b8⟩ := HB.out
                    obtain ⟨W2, hW2⟩ : ∃ W2, U2 ++ V2 = W2 := ⟨_, rfl⟩
                    have p2 : W2.Perm (U2 ++ V2) := by rw [hW2]
                    have s2 : Sorted (ltc cf) W2 := by rw [← hW2]; exact one_sorted sU.right sV.right (by omega)
                    have hA3 : Arr wB b 31 J cells (Lp ++ W1 ++ W2 ++ Lq) := by rw [← hW2, show Lp ++ W1 ++ (U2 ++ V2) ++ Lq = Lp ++ W1 ++ (U2 ++ V2 ++ Lq) by simp]; exact hA2
                    have hF := merge_fin hT sU sV c1 c2 p1 p2 s1 s2
                    go_end0
                    exact ⟨rfl, W1 ++ W2, by rw [hUU, hVV]; exact hF.1, hF.2, by rw [show Lp ++ (W1 ++ W2) ++ Lq = Lp ++ W1 ++ W2 ++ Lq by simp]; exact hA3, ((hB.trans hbA).trans hbB)⟩
                · have i2a : ¬ (mid : Int) < (en : Int) := by omega
                  have d2a : decide ((mid : Int) < (en : Int)) = false := decide_eq_false i2a
                  obtain ⟨hLe, hUU, hVV, l1, l2, l3, l4, sU, sV, c1, c2⟩ := HLL.out
                  obtain ⟨b1, b2, b3, b4, b5, b6, b7, b8⟩ := HB.out
                  have hro := HRO.out (by omega) (by omega)
                  have hs1 := HS1.out (by omega) (by omega)
                  have t1 := Lib.hid True.intro
                  clear hLe hUU hVV l1 l2 l3 l4 sU sV c1 c2 b1 b2 b3 b4 b5 b6 b7 b8
                  go_wp2_with (first | (go_at_call 123; refine (hro _ hA).mono ?_; rintro en1 wA ⟨rfl, hA1, hbA⟩) | (go_at_call 114; have Tz := t1; clear Tz t1; refine (hs1 _ hA1).mono ?_; rintro en2 wB ⟨rfl, W1, p1, s1, hA2, hbB⟩))
                  obtain ⟨hLe, hUU, hVV, l1, l2, l3, l4, sU, sV, c1, c2⟩ := HLL.out
                  obtain ⟨b1, b2, b3, b4, b5, b6, b7, b8⟩ := HB.out
                  obtain ⟨W2, hW2⟩ : ∃ W2, U2 ++ V2 = W2 := ⟨_, rfl⟩
                  have p2 : W2.Perm (U2 ++ V2) := by rw [hW2]
                  have s2 : Sorted (ltc cf) W2 := by rw [← hW2]; exact one_sorted sU.right sV.right (by omega)
                  have hA3 : Arr wB b 31 J cells (Lp ++ W1 ++ W2 ++ Lq) := by rw [← hW2, show Lp ++ W1 ++ (U2 ++ V2) ++ Lq = Lp ++ W1 ++ (U2 ++ V2 ++ Lq) by simp]; exact hA2
                  have hF := merge_fin hT sU sV c1 c2 p1 p2 s1 s2
                  go_end0
                  exact ⟨rfl, W1 ++ W2, by rw [hUU, hVV]; exact hF.1, hF.2, by rw [show Lp ++ (W1 ++ W2) ++ Lq = Lp ++ W1 ++ W2 ++ Lq by simp]; exact hA3, ((hB.trans hbA).trans hbB)⟩
              · have i1b : ¬ (i : Int) < (mid : Int) := by omega
                have d1b : decide ((i : Int) < (mid : Int)) = false := decide_eq_false i1b
                by_cases k2a : mid < en
                · have i2a : (mid : Int) < (en : Int) := by omega
                  have d2a : decide ((mid : Int) < (en : Int)) = true := decide_eq_true i2a
                  by_cases k2b : en < e
                  · have i2b : (en : Int) < (e : Int) := by omega
                    have d2b : decide ((en : Int) < (e : Int)) = true := decide_eq_true i2b
                    obtain ⟨hLe, hUU, hVV, l1, l2, l3, l4, sU, sV, c1, c2⟩ := HLL.out
                    obtain ⟨b1, b2, b3, b4, b5, b6, b7, b8⟩ := HB.out
                    have hro := HRO.out (by omega) (by omega)
                    have hs2 := HS2.out (by omega) (by omega)
                    have t1 := Lib.hid True.intro
                    clear hLe hUU hVV l1 l2 l3 l4 sU sV c1 c2 b1 b2 b3 b4 b5 b6 b7 b8
                    go_wp2_with (first | (go_at_call 123; refine (hro _ hA).mono ?_; rintro en1 wA ⟨rfl, hA1, hbA⟩) | (go_at_call 114; refine (hs2 (U1 ++ V1) _ (by rw [List.length_append]) (by rw [show Lp ++ (U1 ++ V1) ++ (U2 ++ V2 ++ Lq) = Lp ++ U1 ++ V1 ++ U2 ++ V2 ++ Lq by simp]; exact hA1)).mono ?_; rintro en3 wC ⟨rfl, W2, p2, s2, hA3, hbC⟩))
                    obtain ⟨hLe, hUU, hVV, l1, l2, l3, l4, sU, sV, c1, c2⟩ := HLL.out
                    obtain ⟨b1, b2, b3, b4, b5, b6, b7, b8⟩ := HB.out
                    obtain ⟨W1, hW1⟩ : ∃ W1, U1 ++ V1 = W1 := ⟨_, rfl⟩
                    have p1 : W1.Perm (U1 ++ V1) := by rw [hW1]
                    have s1 : Sorted (ltc cf) W1 := by rw [← hW1]; exact one_sorted sU.left sV.left (by omega)
                    have hA2 : Arr wA b 31 J cells (Lp ++ W1 ++ (U2 ++ V2 ++ Lq)) := by rw [← hW1, show Lp ++ (U1 ++ V1) ++ (U2 ++ V2 ++ Lq) = Lp ++ U1 ++ V1 ++ U2 ++ V2 ++ Lq by simp]; exact hA1
                    rw [hW1] at hA3
                    have hF := merge_fin hT sU sV c1 c2 p1 p2 s1 s2
                    go_end0
                    exact ⟨rfl, W1 ++ W2, by rw [hUU, hVV]; exact hF.1, hF.2, by rw [show Lp ++ (W1 ++ W2) ++ Lq = Lp ++ W1 ++ W2 ++ Lq by simp]; exact hA3, ((hB.trans hbA).trans hbC)⟩
                  · have i2b : ¬ (en : Int) < (e : Int) := by omega
                    have d2b : decide ((en : Int) < (e : Int)) = false := decide_eq_false i2b
                    obtain ⟨hLe, hUU, hVV, l1, l2, l3, l4, sU, sV, c1, c2⟩ := HLL.out
                    obtain ⟨b1, b2, b3, b4, b5, b6, b7, b8⟩ := HB.out
                    have hro := HRO.out (by omega) (by omega)
                    have t1 := Lib.hid True.intro
                    clear hLe hUU hVV l1 l2 l3 l4 sU sV c1 c2 b1 b2 b3 b4 b5 b6 b7 b8
                    go_wp2_with (first | (go_at_call 123; refine (hro _ hA).mono ?_; rintro en1 wA ⟨rfl, hA1, hbA⟩))
                    obtain ⟨hLe, hUU, hVV, l1, l2, l3, l4, sU, sV, c1, c2⟩ := HLL.out
                    obtain ⟨b1, b2, b3, b4, b5, b6, b7, b8⟩ := HB.out
                    obtain ⟨W1, hW1⟩ : ∃ W1, U1 ++ V1 = W1 := ⟨_, rfl⟩
                    have p1 : W1.Perm (U1 ++ V1) := by rw [hW1]
                    have s1 : Sorted (ltc cf) W1 := by rw [← hW1]; exact one_sorted sU.left sV.left (by omega)
                    have hA2 : Arr wA b 31 J cells (Lp ++ W1 ++ (U2 ++ V2 ++ Lq)) := by rw [← hW1, show Lp ++ (U1 ++ V1) ++ (U2 ++ V2 ++ Lq) = Lp ++ U1 ++ V1 ++ U2 ++ V2 ++ Lq by simp]; exact hA1
                    obtain ⟨W2, hW2⟩ : ∃ W2, U2 ++ V2 = W2 := ⟨_, rfl⟩
                    have p2 : W2.Perm (U2 ++ V2) := by rw [hW2]
                    have s2 : Sorted (ltc cf) W2 := by rw [← hW2]; exact one_sorted sU.right sV.right (by omega)
                    have hA3 : Arr wA b 31 J cells (Lp ++ W1 ++ W2 ++ Lq) := by rw [← hW2, show Lp ++ W1 ++ (U2 ++ V2) ++ Lq = Lp ++ W1 ++ (U2 ++ V2 ++ Lq) by simp]; exact hA2
                    have hF := merge_fin hT sU sV c1 c2 p1 p2 s1 s2
                    go_end0
                    exact ⟨rfl, W1 ++ W2, by rw [hUU, hVV]; exact hF.1, hF.2, by rw [show Lp ++ (W1 ++ W2) ++ Lq = Lp ++ W1 ++ W2 ++ Lq by simp]; exact hA3, (hB.trans hbA)⟩
                · have i2a : ¬ (mid : Int) < (en : Int) := by omega
                  have d2a : decide ((mid : Int) < (en : Int)) = false := decide_eq_false i2a
                  obtain ⟨hLe, hUU, hVV, l1, l2, l3, l4, sU, sV, c1, c2⟩ := HLL.out
                  obtain ⟨b1, b2, b3, b4, b5, b6, b7, b8⟩ := HB.out
                  have hro := HRO.out (by omega) (by omega)
                  have t1 := Lib.hid True.intro
                  clear hLe hUU hVV l1 l2 l3 l4 sU sV c1 c2 b1 b2 b3 b4 b5 b6 b7 b8
                  go_wp2_with (first | (go_at_call 123; refine (hro _ hA).mono ?_; rintro en1 wA ⟨rfl, hA1, hbA⟩))
                  obtain ⟨hLe, hUU, hVV, l1, l2, l3, l4, sU, sV, c1, c2⟩ := HLL.out
                  obtain ⟨b1, b2, b3, b4, b5, b6, b7, b8⟩ := HB.out
                  obtain ⟨W1, hW1⟩ : ∃ W1, U1 ++ V1 = W1 := ⟨_, rfl⟩
                  have p1 : W1.Perm (U1 ++ V1) := by rw [hW1]
                  have s1 : Sorted (ltc cf) W1 := by rw [← hW1]; exact one_sorted sU.left sV.left (by omega)
                  have hA2 : Arr wA b 31 J cells (Lp ++ W1 ++ (U2 ++ V2 ++ Lq)) := by rw [← hW1, show Lp ++ (U1 ++ V1) ++ (U2 ++ V2 ++ Lq) = Lp ++ U1 ++ V1 ++ U2 ++ V2 ++ Lq by simp]; exact hA1
                  obtain ⟨W2, hW2⟩ : ∃ W2, U2 ++ V2 = W2 := ⟨_, rfl⟩
                  have p2 : W2.Perm (U2 ++ V2) := by rw [hW2]
                  have s2 : Sorted (ltc cf) W2 := by rw [← hW2]; exact one_sorted sU.right sV.right (by omega)
                  have hA3 : Arr wA b 31 J cells (Lp ++ W1 ++ W2 ++ Lq) := by rw [← hW2, show Lp ++ W1 ++ (U2 ++ V2) ++ Lq = Lp ++ W1 ++ (U2 ++ V2 ++ Lq) by simp]; exact hA2
                  have hF := merge_fin hT sU sV c1 c2 p1 p2 s1 s2
                  go_end0
                  exact ⟨rfl, W1 ++ W2, by rw [hUU, hVV]; exact hF.1, hF.2, by rw [show Lp ++ (W1 ++ W2) ++ Lq = Lp ++ W1 ++ W2 ++ Lq by simp]; exact hA3, (hB.trans hbA)⟩
            · have i1a : ¬ (a : Int) < (i : Int) := by omega
              have d1a : decide ((a : Int) < (i : Int)) = false := decide_eq_false i1a
              by_cases k2a : mid < en
              · have i2a : (mid : Int) < (en : Int) := by omega
                have d2a : decide ((mid : Int) < (en : Int)) = true := decide_eq_true i2a
                by_cases k2b : en < e
                · have i2b : (en : Int) < (e : Int) := by omega
                  have d2b : decide ((en : Int) < (e : Int)) = true := decide_eq_true i2b
                  obtain ⟨hLe, hUU, hVV, l1, l2, l3, l4, sU, sV, c1, c2⟩ := HLL.out
                  obtain ⟨b1, b2, b3, b4, b5, b6, b7, b8⟩ := HB.out
                  have hro := HRO.out (by omega) (by omega)
                  have hs2 := HS2.out (by omega) (by omega)
                  have t1 := Lib.hid True.intro
                  clear hLe hUU hVV l1 l2 l3 l4 sU sV c1 c2 b1 b2 b3 b4 b5 b6 b7 b8
                  go_wp2_with (first | (go_at_call 123; refine (hro _ hA).mono ?_; rintro en1 wA ⟨rfl, hA1, hbA⟩) | (go_at_call 114; refine (hs2 (U1 ++ V1) _ (by rw [List.length_append]) (by rw [show Lp ++ (U1 ++ V1) ++ (U2 ++ V2 ++ Lq) = Lp ++ U1 ++ V1 ++ U2 ++ V2 ++ Lq by simp]; exact hA1)).mono ?_; rintro en3 wC ⟨rfl, W2, p2, s2, hA3, hbC⟩))
                  obtain ⟨hLe, hUU, hVV, l1, l2, l3, l4, sU, sV, c1, c2⟩ := HLL.out
                  obtain ⟨b1, b2, b3, b4, b5, b6, b7, b8⟩ := HB.out
                  obtain ⟨W1, hW1⟩ : ∃ W1, U1 ++ V1 = W1 := ⟨_, rfl⟩
                  have p1 : W1.Perm (U1 ++ V1) := by rw [hW1]
                  have s1 : Sorted (ltc cf) W1 := by rw [← hW1]; exact one_sorted sU.left sV.left (by omega)
                  have hA2 : Arr wA b 31 J cells (Lp ++ W1 ++ (U2 ++ V2 ++ Lq)) := by rw [← hW1, show Lp ++ (U1 ++ V1) ++ (U2 ++ V2 ++ Lq) = Lp ++ U1 ++ V1 ++ U2 ++ V2 ++ Lq by simp]; exact hA1
                  rw [hW1] at hA3
                  have hF := merge_fin hT sU sV c1 c2 p1 p2 s1 s2
                  go_end0
                  exact ⟨rfl, W1 ++ W2, by rw [hUU, hVV]; exact hF.1, hF.2, by rw [show Lp ++ (W1 ++ W2) ++ Lq = Lp ++ W1 ++ W2 ++ Lq by simp]; exact hA3, ((hB.trans hbA).trans hbC)⟩
                · have i2b : ¬ (en : Int) < (e : Int) := by omega
                  have d2b : decide ((en : Int) < (e : Int)) = false := decide_eq_false i2b
                  obtain ⟨hLe, hUU, hVV, l1, l2, l3, l4, sU, sV, c1, c2⟩ := HLL.out
                  obtain ⟨b1, b2, b3, b4, b5, b6, b7, b8⟩ := HB.out
                  have hro := HRO.out (by omega) (by omega)
                  have t1 := Lib.hid True.intro
                  clear hLe hUU hVV l1 l2 l3 l4 sU sV c1 c2 b1 b2 b3 b4 b5 b6 b7 b8
                  go_wp2_with (first | (go_at_call 123; refine (hro _ hA).mono ?_; rintro en1 wA ⟨rfl, hA1, hbA⟩))
                  obtain ⟨hLe, hUU, hVV, l1, l2, l3, l4, sU, sV, c1, c2⟩ := HLL.out
                  obtain ⟨b1, b2, b3, b4, b5, b6, b7, b8⟩ := HB.out
                  obtain ⟨W1, hW1⟩ : ∃ W1, U1 ++ V1 = W1 := ⟨_, rfl⟩
                  have p1 : W1.Perm (U1 ++ V1) := by rw [hW1]
                  have s1 : Sorted (ltc cf) W1 := by rw [← hW1]; exact one_sorted sU.left sV.left (by omega)
                  have hA2 : Arr wA b 31 J cells (Lp ++ W1 ++ (U2 ++ V2 ++ Lq)) := by rw [← hW1, show Lp ++ (U1 ++ V1) ++ (U2 ++ V2 ++ Lq) = Lp ++ U1 ++ V1 ++ U2 ++ V2 ++ Lq by simp]; exact hA1
                  obtain ⟨W2, hW2⟩ : ∃ W2, U2 ++ V2 = W2 := ⟨_, rfl⟩
                  have p2 : W2.Perm (U2 ++ V2) := by rw [hW2]
                  have s2 : Sorted (ltc cf) W2 := by rw [← hW2]; exact one_sorted sU.right sV.right (by omega)
                  have hA3 : Arr wA b 31 J cells (Lp ++ W1 ++ W2 ++ Lq) := by rw [← hW2, show Lp ++ W1 ++ (U2 ++ V2) ++ Lq = Lp ++ W1 ++ (U2 ++ V2 ++ Lq) by simp]; exact hA2
                  have hF := merge_fin hT sU sV c1 c2 p1 p2 s1 s2
                  go_end0
                  exact ⟨rfl, W1 ++ W2, by rw [hUU, hVV]; exact hF.1, hF.2, by rw [show Lp ++ (W1 ++ W2) ++ Lq = Lp ++ W1 ++ W2 ++ Lq by simp]; exact hA3, (hB.trans hbA)⟩
              · have i2a : ¬ (mid : Int) < (en : Int) := by omega
                have d2a : decide ((mid : Int) < (en : Int)) = false := decide_eq_false i2a
                obtain ⟨hLe, hUU, hVV, l1, l2, l3, l4, sU, sV, c1, c2⟩ := HLL.out
                obtain ⟨b1, b2, b3, b4, b5, b6, b7, b8⟩ := HB.out
                have hro := HRO.out (by omega) (by omega)
                have t1 := Lib.hid True.intro
                clear hLe hUU hVV l1 l2 l3 l4 sU sV c1 c2 b1 b2 b3 b4 b5 b6 b7 b8
                go_wp2_with (first | (go_at_call 123; refine (hro _ hA).mono ?_; rintro en1 wA ⟨rfl, hA1, hbA⟩))
                obtain ⟨hLe, hUU, hVV, l1, l2, l3, l4, sU, sV, c1, c2⟩ := HLL.out
                obtain ⟨b1, b2, b3, b4, b5, b6, b7, b8⟩ := HB.out
                obtain ⟨W1, hW1⟩ : ∃ W1, U1 ++ V1 = W1 := ⟨_, rfl⟩
                have p1 : W1.Perm (U1 ++ V1) := by rw [hW1]
                have s1 : Sorted (ltc cf) W1 := by rw [← hW1]; exact one_sorted sU.left sV.left (by omega)
                have hA2 : Arr wA b 31 J cells (Lp ++ W1 ++ (U2 ++ V2 ++ Lq)) := by rw [← hW1, show Lp ++ (U1 ++ V1) ++ (U2 ++ V2 ++ Lq) = Lp ++ U1 ++ V1 ++ U2 ++ V2 ++ Lq by simp]; exact hA1
                obtain ⟨W2, hW2⟩ : ∃ W2, U2 ++ V2 = W2 := ⟨_, rfl⟩
                have p2 : W2.Perm (U2 ++ V2) := by rw [hW2]
                have s2 : Sorted (ltc cf) W2 := by rw [← hW2]; exact one_sorted sU.right sV.right (by omega)
                have hA3 : Arr wA b 31 J cells (Lp ++ W1 ++ W2 ++ Lq) := by rw [← hW2, show Lp ++ W1 ++ (U2 ++ V2) ++ Lq = Lp ++ W1 ++ (U2 ++ V2 ++ Lq) by simp]; exact hA2
                have hF := merge_fin hT sU sV c1 c2 p1 p2 s1 s2
                go_end0
                exact ⟨rfl, W1 ++ W2, by rw [hUU, hVV]; exact hF.1, hF.2, by rw [show Lp ++ (W1 ++ W2) ++ Lq = Lp ++ W1 ++ W2 ++ Lq by simp]; exact hA3, (hB.trans hbA)⟩
          · have i0b : ¬ (m : Int) < (en : Int) := by omega
            have d0b : decide ((m : Int) < (en : Int)) = false := decide_eq_false i0b
            by_cases k1a : a < i
            · have i1a : (a : Int) < (i : Int) := by omega
              have d1a : decide ((a : Int) < (i : Int)) = true := decide_eq_true i1a
              by_cases k1b : i < mid
              · have i1b : (i : Int) < (mid : Int) := by omega
                have d1b : decide ((i : Int) < (mid : Int)) = true := decide_eq_true i1b
                by_cases k2a : mid < en
                · have i2a : (mid : Int) < (en : Int) := by omega
                  have d2a : decide ((mid : Int) < (en : Int)) = true := decide_eq_true i2a
                  by_cases k2b : en < e
                  · have i2b : (en : Int) < (e : Int) := by omega
                    have d2b : decide ((en : Int) < (e : Int)) = true := decide_eq_true i2b
                    obtain ⟨hLe, hUU, hVV, l1, l2, l3, l4, sU, sV, c1, c2⟩ := HLL.out
                    obtain ⟨b1, b2, b3, b4, b5, b6, b7, b8⟩ := HB.out
                    have hA1 : Arr wr b 31 J cells (Lp ++ U1 ++ V1 ++ U2 ++ V2 ++ Lq) := by rw [← no_rot (by omega), ← hLe]; exact hA
                    have hs1 := HS1.out (by omega) (by omega)
                    have hs2 := HS2.out (by omega) (by omega)
                    have t1 := Lib.hid True.intro
                    clear hLe hUU hVV l1 l2 l3 l4 sU sV c1 c2 b1 b2 b3 b4 b5 b6 b7 b8
                    go_wp2_with (first | (go_at_call 114; have Tz := t1; clear Tz t1; refine (hs1 _ hA1).mono ?_; rintro en2 wB ⟨rfl, W1, p1, s1, hA2, hbB⟩) | (go_at_call 114; refine (hs2 W1 _ (by rw [p1.length_eq, List.length_append]) hA2).mono ?_; rintro en3 wC ⟨rfl, W2, p2, s2, hA3, hbC⟩))
                    obtain ⟨hLe, hUU, hVV, l1, l2, l3, l4, sU, sV, c1, c2⟩ := HLL.out
                    obtain ⟨b1, b2, b3, b4, b5, b6, b7, b8⟩ := HB.out
                    have hF := merge_fin hT sU sV c1 c2 p1 p2 s1 s2
                    go_end0
                    exact ⟨rfl, W1 ++ W2, by rw [hUU, hVV]; exact hF.1, hF.2, by rw [show Lp ++ (W1 ++ W2) ++ Lq = Lp ++ W1 ++ W2 ++ Lq by simp]; exact hA3, ((hB.trans hbB).trans hbC)⟩
                  · have i2b : ¬ (en : Int) < (e : Int) := by omega
                    have d2b : decide ((en : Int) < (e : Int)) = false := decide_eq_false i2b
                    obtain ⟨hLe, hUU, hVV, l1, l2, l3, l4, sU, sV, c1, c2⟩ := HLL.out
                    obtain ⟨b1, b2, b3, b4, b5, b6, b7, b8⟩ := HB.out
                    have hA1 : Arr wr b 31 J cells (Lp ++ U1 ++ V1 ++ U2 ++ V2 ++ Lq) := by rw [← no_rot (by omega), ← hLe]; exact hA
                    have hs1 := HS1.out (by omega) (by omega)
                    have t1 := Lib.hid True.intro
                    clear hLe hUU hVV l1 l2 l3 l4 sU sV c1 c2 b1 b2 b3 b4 b5 b6 b7 b8
                    go_wp2_with (first | (go_at_call 114; have Tz := t1; clear Tz t1; refine (hs1 _ hA1).mono ?_; rintro en2 wB ⟨rfl, W1, p1, s1, hA2, hbB⟩))
                    obtain ⟨hLe, hUU, hVV, l1, l2, l3, l4, sU, sV, c1, c2⟩ := HLL.out
                    obtain ⟨b1, b2, b3, b4, b5, b6, b7, b8⟩ := HB.out
                    obtain ⟨W2, hW2⟩ : ∃ W2, U2 ++ V2 = W2 := ⟨_, rfl⟩
                    have p2 : W2.Perm (U2 ++ V2) := by rw [hW2]
                    have s2 : Sorted (ltc cf) W2 := by rw [← hW2]; exact one_sorted sU.right sV.right (by omega)
                    have hA3 : Arr wB b 31 J cells (Lp ++ W1 ++ W2 ++ Lq) := by rw [← hW2, show Lp ++ W1 ++ (U2 ++ V2) ++ Lq = Lp ++ W1 ++ (U2 ++ V2 ++ Lq) by simp]; exact hA2
                    have hF := merge_fin hT sU sV c1 c2 p1 p2 s1 s2
                    go_end0
                    exact ⟨rfl, W1 ++ W2, by rw [hUU, hVV]; exact hF.1, hF.2, by rw [show Lp ++ (W1 ++ W2) ++ Lq = Lp ++ W1 ++ W2 ++ Lq by simp]; exact hA3, (hB.trans hbB)⟩
                · have i2a : ¬ (mid : Int) < (en : Int) := by omega
                  have d2a : decide ((mid : Int) < (en : Int)) = false := decide_eq_false i2a
                  obtain ⟨hLe, hUU, hVV, l1, l2, l3, l4, sU, sV, c1, c2⟩ := HLL.out
                  obtain ⟨b1, b2, b3, b4, b5, b6, b7, b8⟩ := HB.out
                  have hA1 : Arr wr b 31 J cells (Lp ++ U1 ++ V1 ++ U2 ++ V2 ++ Lq) := by rw [← no_rot (by omega), ← hLe]; exact hA
                  have hs1 := HS1.out (by omega) (by omega)
                  have t1 := Lib.hid True.intro
                  clear hLe hUU hVV l1 l2 l3 l4 sU sV c1 c2 b1 b2 b3 b4 b5 b6 b7 b8
                  go_wp2_with (first | (go_at_call 114; have Tz := t1; clear Tz t1; refine (hs1 _ hA1).mono ?_; rintro en2 wB ⟨rfl, W1, p1, s1, hA2, hbB⟩))
                  obtain ⟨hLe, hUU, hVV, l1, l2, l3, l4, sU, sV, c1, c2⟩ := HLL.out
                  obtain ⟨b1, b2, b3, b4, b5, b6, b7, b8⟩ := HB.out
                  obtain ⟨W2, hW2⟩ : ∃ W2, U2 ++ V2 = W2 := ⟨_, rfl⟩
                  have p2 : W2.Perm (U2 ++ V2) := by rw [hW2]
                  have s2 : Sorted (ltc cf) W2 := by rw [← hW2]; exact one_sorted sU.right sV.right (by omega)
                  have hA3 : Arr wB b 31 J cells (Lp ++ W1 ++ W2 ++ Lq) := by rw [← hW2, show Lp ++ W1 ++ (U2 ++ V2) ++ Lq = Lp ++ W1 ++ (U2 ++ V2 ++ Lq) by simp]; exact hA2
                  have hF := merge_fin hT sU sV c1 c2 p1 p2 s1 s2
                  go_end0
                  exact ⟨rfl, W1 ++ W2, by rw [hUU, hVV]; exact hF.1, hF.2, by rw [show Lp ++ (W1 ++ W2) ++ Lq = Lp ++ W1 ++ W2 ++ Lq by simp]; exact hA3, (hB.trans hbB)⟩
              · have i1b : ¬ (i : Int) < (mid : Int) := by omega
                have d1b : decide ((i : Int) < (mid : Int)) = false := decide_eq_false i1b
                by_cases k2a : mid < en
                · have i2a : (mid : Int) < (en : Int) := by omega
                  have d2a : decide ((mid : Int) < (en : Int)) = true := decide_eq_true i2a
                  by_cases k2b : en < e
                  · have i2b : (en : Int) < (e : Int) := by omega
                    have d2b : decide ((en : Int) < (e : Int)) = true := decide_eq_true i2b
                    obtain ⟨hLe, hUU, hVV, l1, l2, l3, l4, sU, sV, c1, c2⟩ := HLL.out
                    obtain ⟨b1, b2, b3, b4, b5, b6, b7, b8⟩ := HB.out
                    have hA1 : Arr wr b 31 J cells (Lp ++ U1 ++ V1 ++ U2 ++ V2 ++ Lq) := by rw [← no_rot (by omega), ← hLe]; exact hA
                    have hs2 := HS2.out (by omega) (by omega)
                    have t1 := Lib.hid True.intro
                    clear hLe hUU hVV l1 l2 l3 l4 sU sV c1 c2 b1 b2 b3 b4 b5 b6 b7 b8
                    go_wp2_with (first | (go_at_call 114; refine (hs2 (U1 ++ V1) _ (by rw [List.length_append]) (by rw [show Lp ++ (U1 ++ V1) ++ (U2 ++ V2 ++ Lq) = Lp ++ U1 ++ V1 ++ U2 ++ V2 ++ Lq by simp]; exact hA1)).mono ?_; rintro en3 wC ⟨rfl, W2, p2, s2, hA3, hbC⟩))
                    obtain ⟨hLe, hUU, hVV, l1, l2, l3, l4, sU, sV, c1, c2⟩ := HLL.out
                    obtain ⟨b1, b2, b3, b4, b5, b6, b7, b8⟩ := HB.out
                    obtain ⟨W1, hW1⟩ : ∃ W1, U1 ++ V1 = W1 := ⟨_, rfl⟩
                    have p1 : W1.Perm (U1 ++ V1) := by rw [hW1]
                    have s1 : Sorted (ltc cf) W1 := by rw [← hW1]; exact one_sorted sU.left sV.left (by omega)
                    have hA2 : Arr wr b 31 J cells (Lp ++ W1 ++ (U2 ++ V2 ++ Lq)) := by rw [← hW1, show Lp ++ (U1 ++ V1) ++ (U2 ++ V2 ++ Lq) = Lp ++ U1 ++ V1 ++ U2 ++ V2 ++ Lq by simp]; exact hA1
                    rw [hW1] at hA3
                    have hF := merge_fin hT sU sV c1 c2 p1 p2 s1 s2
                    go_end0
                    exact ⟨rfl, W1 ++ W2, by rw [hUU, hVV]; exact hF.1, hF.2, by rw [show Lp ++ (W1 ++ W2) ++ Lq = Lp ++ W1 ++ W2 ++ Lq by simp]; exact hA3, (hB.trans hbC)⟩
                  · have i2b : ¬ (en : Int) < (e : Int) := by omega
                    have d2b : decide ((en : Int) < (e : Int)) = false := decide_eq_false i2b
                    obtain ⟨hLe, hUU, hVV, l1, l2, l3, l4, sU, sV, c1, c2⟩ := HLL.out
                    obtain ⟨b1, b2, b3, b4, b5, b6, b7, b8⟩ := HB.out
                    have hA1 : Arr wr b 31 J cells (Lp ++ U1 ++ V1 ++ U2 ++ V2 ++ Lq) := by rw [← no_rot (by omega), ← hLe]; exact hA
                    have t1 := Lib.hid True.intro
                    clear hLe hUU hVV l1 l2 l3 l4 sU sV c1 c2 b1 b2 b3 b4 b5 b6 b7 b8
                    go_wp2
                    obtain ⟨hLe, hUU, hVV, l1, l2, l3, l4, sU, sV, c1, c2⟩ := HLL.out
                    obtain ⟨b1, b2, b3, b4, b5, b6, b7, b8⟩ := HB.out
                    obtain ⟨W1, hW1⟩ : ∃ W1, U1 ++ V1 = W1 := ⟨_, rfl⟩
                    have p1 : W1.Perm (U1 ++ V1) := by rw [hW1]
                    have s1 : Sorted (ltc cf) W1 := by rw [← hW1]; exact one_sorted sU.left sV.left (by omega)
                    have hA2 : Arr wr b 31 J cells (Lp ++ W1 ++ (U2 ++ V2 ++ Lq)) := by rw [← hW1, show Lp ++ (U1 ++ V1) ++ (U2 ++ V2 ++ Lq) = Lp ++ U1 ++ V1 ++ U2 ++ V2 ++ Lq by simp]; exact hA1
                    obtain ⟨W2, hW2⟩ : ∃ W2, U2 ++ V2 = W2 := ⟨_, rfl⟩
                    have p2 : W2.Perm (U2 ++ V2) := by rw [hW2]
                    have s2 : Sorted (ltc cf) W2 := by rw [← hW2]; exact one_sorted sU.right sV.right (by omega)
                    have hA3 : Arr wr b 31 J cells (Lp ++ W1 ++ W2 ++ Lq) := by rw [← hW2, show Lp ++ W1 ++ (U2 ++ V2) ++ Lq = Lp ++ W1 ++ (U2 ++ V2 ++ Lq) by simp]; exact hA2
                    have hF := merge_fin hT sU sV c1 c2 p1 p2 s1 s2
                    go_end0
                    exact ⟨rfl, W1 ++ W2, by rw [hUU, hVV]; exact hF.1, hF.2, by rw [show Lp ++ (W1 ++ W2) ++ Lq = Lp ++ W1 ++ W2 ++ Lq by simp]; exact hA3, hB⟩
                · have i2a : ¬ (mid : Int) < (en : Int) := by omega
                  have d2a : decide ((mid : Int) < (en : Int)) = false := decide_eq_false i2a
                  obtain ⟨hLe, hUU, hVV, l1, l2, l3, l4, sU, sV, c1, c2⟩ := HLL.out
                  obtain ⟨b1, b2, b3, b4, b5, b6, b7, b8⟩ := HB.out
                  have hA1 : Arr wr b 31 J cells (Lp ++ U1 ++ V1 ++ U2 ++ V2 ++ Lq) := by rw [← no_rot (by omega), ← hLe]; exact hA
                  have t1 := Lib.hid True.intro
                  clear hLe hUU hVV l1 l2 l3 l4 sU sV c1 c2 b1 b2 b3 b4 b5 b6 b7 b8
                  go_wp2
                  obtain ⟨hLe, hUU, hVV, l1, l2, l3, l4, sU, sV, c1, c2⟩ := HLL.out
                  obtain ⟨b1, b2, b3, b4, b5, b6, b7, b8⟩ := HB.out
                  obtain ⟨W1, hW1⟩ : ∃ W1, U1 ++ V1 = W1 := ⟨_, rfl⟩
                  have p1 : W1.Perm (U1 ++ V1) := by rw [hW1]
                  have s1 : Sorted (ltc cf) W1 := by rw [← hW1]; exact one_sorted sU.left sV.left (by omega)
                  have hA2 : Arr wr b 31 J cells (Lp ++ W1 ++ (U2 ++ V2 ++ Lq)) := by rw [← hW1, show Lp ++ (U1 ++ V1) ++ (U2 ++ V2 ++ Lq) = Lp ++ U1 ++ V1 ++ U2 ++ V2 ++ Lq by simp]; exact hA1
                  obtain ⟨W2, hW2⟩ : ∃ W2, U2 ++ V2 = W2 := ⟨_, rfl⟩
                  have p2 : W2.Perm (U2 ++ V2) := by rw [hW2]
                  have s2 : Sorted (ltc cf) W2 := by rw [← hW2]; exact one_sorted sU.right sV.right (by omega)
                  have hA3 : Arr wr b 31 J cells (Lp ++ W1 ++ W2 ++ Lq) := by rw [← hW2, show Lp ++ W1 ++ (U2 ++ V2) ++ Lq = Lp ++ W1 ++ (U2 ++ V2 ++ Lq) by simp]; exact hA2
                  have hF := merge_fin hT sU sV c1 c2 p1 p2 s1 s2
                  go_end0
                  exact ⟨rfl, W1 ++ W2, by rw [hUU, hVV]; exact hF.1, hF.2, by rw [show Lp ++ (W1 ++ W2) ++ Lq = Lp ++ W1 ++ W2 ++ Lq by simp]; exact hA3, hB⟩
            · have i1a : ¬ (a : Int) < (i : Int) := by omega
              have d1a : decide ((a : Int) < (i : Int)) = false := decide_eq_false i1a
              by_cases k2a : mid < en
              · have i2a : (mid : Int) < (en : Int) := by omega
                have d2a : decide ((mid : Int) < (en : Int)) = true := decide_eq_true i2a
                by_cases k2b : en < e
                · have i2b : (en : Int) < (e : Int) := by omega
                  have d2b : decide ((en : Int) < (e : Int)) = true := decide_eq_true i2b
                  obtain ⟨hLe, hUU, hVV, l1, l2, l3, l4, sU, sV, c1, c2⟩ := HLL.out
                  obtain ⟨b1, b2, b3, b4, b5, b6, b7, b8⟩ := HB.out
                  have hA1 : Arr wr b 31 J cells (Lp ++ U1 ++ V1 ++ U2 ++ V2 ++ Lq) := by rw [← no_rot (by omega), ← hLe]; exact hA
                  have hs2 := HS2.out (by omega) (by omega)
                  have t1 := Lib.hid True.intro
                  clear hLe hUU hVV l1 l2 l3 l4 sU sV c1 c2 b1 b2 b3 b4 b5 b6 b7 b8
                  go_wp2_with (first | (go_at_call 114; refine (hs2 (U1 ++ V1) _ (by rw [List.length_append]) (by rw [show Lp ++ (U1 ++ V1) ++ (U2 ++ V2 ++ Lq) = Lp ++ U1 ++ V1 ++ U2 ++ V2 ++ Lq by simp]; exact hA1)).mono ?_; rintro en3 wC ⟨rfl, W2, p2, s2, hA3, hbC⟩))
                  obtain ⟨hLe, hUU, hVV, l1, l2, l3, l4, sU, sV, c1, c2⟩ := HLL.out
                  obtain ⟨b1, b2, b3, b4, b5, b6, b7, b8⟩ := HB.out
                  obtain ⟨W1, hW1⟩ : ∃ W1, U1 ++ V1 = W1 := ⟨_, rfl⟩
                  have p1 : W1.Perm (U1 ++ V1) := by rw [hW1]
                  have s1 : Sorted (ltc cf) W1 := by rw [← hW1]; exact one_sorted sU.left sV.left (by omega)
                  have hA2 : Arr wr b 31 J cells (Lp ++ W1 ++ (U2 ++ V2 ++ Lq)) := by rw [← hW1, show Lp ++ (U1 ++ V1) ++ (U2 ++ V2 ++ Lq) = Lp ++ U1 ++ V1 ++ U2 ++ V2 ++ Lq by simp]; exact hA1
                  rw [hW1] at hA3
                  have hF := merge_fin hT sU sV c1 c2 p1 p2 s1 s2
                  go_end0
                  exact ⟨rfl, W1 ++ W2, by rw [hUU, hVV]; exact hF.1, hF.2, by rw [show Lp ++ (W1 ++ W2) ++ Lq = Lp ++ W1 ++ W2 ++ Lq by simp]; exact hA3, (hB.trans hbC)⟩
                · have i2b : ¬ (en : Int) < (e : Int) := by omega
                  have d2b : decide ((en : Int) < (e : Int)) = false := decide_eq_false i2b
                  obtain ⟨hLe, hUU, hVV, l1, l2, l3, l4, sU, sV, c1, c2⟩ := HLL.out
                  obtain ⟨b1, b2, b3, b4, b5, b6, b7, b8⟩ := HB.out
                  have hA1 : Arr wr b 31 J cells (Lp ++ U1 ++ V1 ++ U2 ++ V2 ++ Lq) := by rw [← no_rot (by omega), ← hLe]; exact hA
                  have t1 := Lib.hid True.intro
                  clear hLe hUU hVV l1 l2 l3 l4 sU sV c1 c2 b1 b2 b3 b4 b5 b6 b7 b8
                  go_wp2
                  obtain ⟨hLe, hUU, hVV, l1, l2, l3, l4, sU, sV, c1, c2⟩ := HLL.out
                  obtain ⟨b1, b2, b3, b4, b5, b6, b7, b8⟩ := HB.out
                  obtain ⟨W1, hW1⟩ : ∃ W1, U1 ++ V1 = W1 := ⟨_, rfl⟩
                  have p1 : W1.Perm (U1 ++ V1) := by rw [hW1]
                  have s1 : Sorted (ltc cf) W1 := by rw [← hW1]; exact one_sorted sU.left sV.left (by omega)
                  have hA2 : Arr wr b 31 J cells (Lp ++ W1 ++ (U2 ++ V2 ++ Lq)) := by rw [← hW1, show Lp ++ (U1 ++ V1) ++ (U2 ++ V2 ++ Lq) = Lp ++ U1 ++ V1 ++ U2 ++ V2 ++ Lq by simp]; exact hA1
                  obtain ⟨W2, hW2⟩ : ∃ W2, U2 ++ V2 = W2 := ⟨_, rfl⟩
                  have p2 : W2.Perm (U2 ++ V2) := by rw [hW2]
                  have s2 : Sorted (ltc cf) W2 := by rw [← hW2]; exact one_sorted sU.right sV.right (by omega)
                  have hA3 : Arr wr b 31 J cells (Lp ++ W1 ++ W2 ++ Lq) := by rw [← hW2, show Lp ++ W1 ++ (U2 ++ V2) ++ Lq = Lp ++ W1 ++ (U2 ++ V2 ++ Lq) by simp]; exact hA2
                  have hF := merge_fin hT sU sV c1 c2 p1 p2 s1 s2
                  go_end0
                  exact ⟨rfl, W1 ++ W2, by rw [hUU, hVV]; exact hF.1, hF.2, by rw [show Lp ++ (W1 ++ W2) ++ Lq = Lp ++ W1 ++ W2 ++ Lq by simp]; exact hA3, hB⟩
              · have i2a : ¬ (mid : Int) < (en : Int) := by omega
                have d2a : decide ((mid : Int) < (en : Int)) = false := decide_eq_false i2a
                obtain ⟨hLe, hUU, hVV, l1, l2, l3, l4, sU, sV, c1, c2⟩ := HLL.out
                obtain ⟨b1, b2, b3, b4, b5, b6, b7, b8⟩ := HB.out
                have hA1 : Arr wr b 31 J cells (Lp ++ U1 ++ V1 ++ U2 ++ V2 ++ Lq) := by rw [← no_rot (by omega), ← hLe]; exact hA
                have t1 := Lib.hid True.intro
                clear hLe hUU hVV l1 l2 l3 l4 sU sV c1 c2 b1 b2 b3 b4 b5 b6 b7 b8
                go_wp2
                obtain ⟨hLe, hUU, hVV, l1, l2, l3, l4, sU, sV, c1, c2⟩ := HLL.out
                obtain ⟨b1, b2, b3, b4, b5, b6, b7, b8⟩ := HB.out
                obtain ⟨W1, hW1⟩ : ∃ W1, U1 ++ V1 = W1 := ⟨_, rfl⟩
                have p1 : W1.Perm (U1 ++ V1) := by rw [hW1]
                have s1 : Sorted (ltc cf) W1 := by rw [← hW1]; exact one_sorted sU.left sV.left (by omega)
                have hA2 : Arr wr b 31 J cells (Lp ++ W1 ++ (U2 ++ V2 ++ Lq)) := by rw [← hW1, show Lp ++ (U1 ++ V1) ++ (U2 ++ V2 ++ Lq) = Lp ++ U1 ++ V1 ++ U2 ++ V2 ++ Lq by simp]; exact hA1
                obtain ⟨W2, hW2⟩ : ∃ W2, U2 ++ V2 = W2 := ⟨_, rfl⟩
                have p2 : W2.Perm (U2 ++ V2) := by rw [hW2]
                have s2 : Sorted (ltc cf) W2 := by rw [← hW2]; exact one_sorted sU.right sV.right (by omega)
                have hA3 : Arr wr b 31 J cells (Lp ++ W1 ++ W2 ++ Lq) := by rw [← hW2, show Lp ++ W1 ++ (U2 ++ V2) ++ Lq = Lp ++ W1 ++ (U2 ++ V2 ++ Lq) by simp]; exact hA2
                have hF := merge_fin hT sU sV c1 c2 p1 p2 s1 s2
                go_end0
                exact ⟨rfl, W1 ++ W2, by rw [hUU, hVV]; exact hF.1, hF.2, by rw [show Lp ++ (W1 ++ W2) ++ Lq = Lp ++ W1 ++ W2 ++ Lq by simp]; exact hA3, hB⟩
        · have i0a : ¬ (i : Int) < (m : Int) := by omega
          have d0a : decide ((i : Int) < (m : Int)) = false := decide_eq_false i0a
          by_cases k1a : a < i
          · have i1a : (a : Int) < (i : Int) := by omega
            have d1a : decide ((a : Int) < (i : Int)) = true := decide_eq_true i1a
            by_cases k1b : i < mid
            · have i1b : (i : Int) < (mid : Int) := by omega
              have d1b : decide ((i : Int) < (mid : Int)) = true := decide_eq_true i1b
              by_cases k2a : mid < en
              · have i2a : (mid : Int) < (en : Int) := by omega
                have d2a : decide ((mid : Int) < (en : Int)) = true := decide_eq_true i2a
                by_cases k2b : en < e
                · have i2b : (en : Int) < (e : Int) := by omega
                  have d2b : decide ((en : Int) < (e : Int)) = true := decide_eq_true i2b
                  obtain ⟨hLe, hUU, hVV, l1, l2, l3, l4, sU, sV, c1, c2⟩ := HLL.out
                  obtain ⟨b1, b2, b3, b4, b5, b6, b7, b8⟩ := HB.out
                  have hA1 : Arr wr b 31 J cells (Lp ++ U1 ++ V1 ++ U2 ++ V2 ++ Lq) := by rw [← no_rot (by omega), ← hLe]; exact hA
                  have hs1 := HS1.out (by omega) (by omega)
                  have hs2 := HS2.out (by omega) (by omega)
                  have t1 := Lib.hid True.intro
                  clear hLe hUU hVV l1 l2 l3 l4 sU sV c1 c2 b1 b2 b3 b4 b5 b6 b7 b8
                  go_wp2_with (first | (go_at_call 114; have Tz := t1; clear Tz t1; refine (hs1 _ hA1).mono ?_; rintro en2 wB ⟨rfl, W1, p1, s1, hA2, hbB⟩) | (go_at_call 114; refine (hs2 W1 _ (by rw [p1.length_eq, List.length_append]) hA2).mono ?_; rintro en3 wC ⟨rfl, W2, p2, s2, hA3, hbC⟩))
                  obtain ⟨hLe, hUU, hVV, l1, l2, l3, l4, sU, sV, c1, c2⟩ := HLL.out
                  obtain ⟨b1, b2, b3, b4, b5, b6, b7, b8⟩ := HB.out
                  have hF := merge_fin hT sU sV c1 c2 p1 p2 s1 s2
                  go_end0
                  exact ⟨rfl, W1 ++ W2, by rw [hUU, hVV]; exact hF.1, hF.2, by rw [show Lp ++ (W1 ++ W2) ++ Lq = Lp ++ W1 ++ W2 ++ Lq by simp]; exact hA3, ((hB.trans hbB).trans hbC)⟩
                · have i2b : ¬ (en : Int) < (e : Int) := by omega
                  have d2b : decide ((en : Int) < (e : Int)) = false := decide_eq_false i2b
                  obtain ⟨hLe, hUU, hVV, l1, l2, l3, l4, sU, sV, c1, c2⟩ := HLL.out
                  obtain ⟨b1, b2, b3, b4, b5, b6, b7, b8⟩ := HB.out
                  have hA1 : Arr wr b 31 J cells (Lp ++ U1 ++ V1 ++ U2 ++ V2 ++ Lq) := by rw [← no_rot (by omega), ← hLe]; exact hA
                  have hs1 := HS1.out (by omega) (by omega)
                  have t1 := Lib.hid True.intro
                  clear hLe hUU hVV l1 l2 l3 l4 sU sV c1 c2 b1 b2 b3 b4 b5 b6 b7 b8
                  go_wp2_with (first | (go_at_call 114; have Tz := t1; clear Tz t1; refine (hs1 _ hA1).mono ?_; rintro en2 wB ⟨rfl, W1, p1, s1, hA2, hbB⟩))
                  obtain ⟨hLe, hUU, hVV, l1, l2, l3, l4, sU, sV, c1, c2⟩ := HLL.out
                  obtain ⟨b1, b2, b3, b4, b5, b6, b7, b8⟩ := HB.out
                  obtain ⟨W2, hW2⟩ : ∃ W2, U2 ++ V2 = W2 := ⟨_, rfl⟩
                  have p2 : W2.Perm (U2 ++ V2) := by rw [hW2]
                  have s2 : Sorted (ltc cf) W2 := by rw [← hW2]; exact one_sorted sU.right sV.right (by omega)
                  have hA3 : Arr wB b 31 J cells (Lp ++ W1 ++ W2 ++ Lq) := by rw [← hW2, show Lp ++ W1 ++ (U2 ++ V2) ++ Lq = Lp ++ W1 ++ (U2 ++ V2 ++ Lq) by simp]; exact hA2
                  have hF := merge_fin hT sU sV c1 c2 p1 p2 s1 s2
                  go_end0
                  exact ⟨rfl, W1 ++ W2, by rw [hUU, hVV]; exact hF.1, hF.2, by rw [show Lp ++ (W1 ++ W2) ++ Lq = Lp ++ W1 ++ W2 ++ Lq by simp]; exact hA3, (hB.trans hbB)⟩
              · have i2a : ¬ (mid : Int) < (en : Int) := by omega
                have d2a : decide ((mid : Int) < (en : Int)) = false := decide_eq_false i2a
                obtain ⟨hLe, hUU, hVV, l1, l2, l3, l4, sU, sV, c1, c2⟩ := HLL.out
                obtain ⟨b1, b2, b3, b4, b5, b6, b7, b8⟩ := HB.out
                have hA1 : Arr wr b 31 J cells (Lp ++ U1 ++ V1 ++ U2 ++ V2 ++ Lq) := by rw [← no_rot (by omega), ← hLe]; exact hA
                have hs1 := HS1.out (by omega) (by omega)
                have t1 := Lib.hid True.intro
                clear hLe hUU hVV l1 l2 l3 l4 sU sV c1 c2 b1 b2 b3 b4 b5 b6 b7 b8
                go_wp2_with (first | (go_at_call 114; have Tz := t1; clear Tz t1; refine (hs1 _ hA1).mono ?_; rintro en2 wB ⟨rfl, W1, p1, s1, hA2, hbB⟩))
                obtain ⟨hLe, hUU, hVV, l1, l2, l3, l4, sU, sV, c1, c2⟩ := HLL.out
                obtain ⟨b1, b2, b3, b4, b5, b6, b7, b8⟩ := HB.out
                obtain ⟨W2, hW2⟩ : ∃ W2, U2 ++ V2 = W2 := ⟨_, rfl⟩
                have p2 : W2.Perm (U2 ++ V2) := by rw [hW2]
                have s2 : Sorted (ltc cf) W2 := by rw [← hW2]; exact one_sorted sU.right sV.right (by omega)
                have hA3 : Arr wB b 31 J cells (Lp ++ W1 ++ W2 ++ Lq) := by rw [← hW2, show Lp ++ W1 ++ (U2 ++ V2) ++ Lq = Lp ++ W1 ++ (U2 ++ V2 ++ Lq) by simp]; exact hA2
                have hF := merge_fin hT sU sV c1 c2 p1 p2 s1 s2
                go_end0
                exact ⟨rfl, W1 ++ W2, by rw [hUU, hVV]; exact hF.1, hF.2, by rw [show Lp ++ (W1 ++ W2) ++ Lq = Lp ++ W1 ++ W2 ++ Lq by simp]; exact hA3, (hB.trans hbB)⟩
            · have i1b : ¬ (i : Int) < (mid : Int) := by omega
              have d1b : decide ((i : Int) < (mid : Int)) = false := decide_eq_false i1b
              by_cases k2a : mid < en
              · have i2a : (mid : Int) < (en : Int) := by omega
                have d2a : decide ((mid : Int) < (en : Int)) = true := decide_eq_true i2a
                by_cases k2b : en < e
                · have i2b : (en : Int) < (e : Int) := by omega
                  have d2b : decide ((en : Int) < (e : Int)) = true := decide_eq_true i2b
                  obtain ⟨hLe, hUU, hVV, l1, l2, l3, l4, sU, sV, c1, c2⟩ := HLL.out
                  obtain ⟨b1, b2, b3, b4, b5, b6, b7, b8⟩ := HB.out
                  have hA1 : Arr wr b 31 J cells (Lp ++ U1 ++ V1 ++ U2 ++ V2 ++ Lq) := by rw [← no_rot (by omega), ← hLe]; exact hA
                  have hs2 := HS2.out (by omega) (by omega)
                  have t1 := Lib.hid True.intro
                  clear hLe hUU hVV l1 l2 l3 l4 sU sV c1 c2 b1 b2 b3 b4 b5 b6 b7 b8
                  go_wp2_with (first | (go_at_call 114; refine (hs2 (U1 ++ V1) _ (by rw [List.length_append]) (by rw [show Lp ++ (U1 ++ V1) ++ (U2 ++ V2 ++ Lq) = Lp ++ U1 ++ V1 ++ U2 ++ V2 ++ Lq by simp]; exact hA1)).mono ?_; rintro en3 wC ⟨rfl, W2, p2, s2, hA3, hbC⟩))
                  obtain ⟨hLe, hUU, hVV, l1, l2, l3, l4, sU, sV, c1, c2⟩ := HLL.out
                  obtain ⟨b1, b2, b3, b4, b5, b6, b7, b8⟩ := HB.out
                  obtain ⟨W1, hW1⟩ : ∃ W1, U1 ++ V1 = W1 := ⟨_, rfl⟩
                  have p1 : W1.Perm (U1 ++ V1) := by rw [hW1]
                  have s1 : Sorted (ltc cf) W1 := by rw [← hW1]; exact one_sorted sU.left sV.left (by omega)
                  have hA2 : Arr wr b 31 J cells (Lp ++ W1 ++ (U2 ++ V2 ++ Lq)) := by rw [← hW1, show Lp ++ (U1 ++ V1) ++ (U2 ++ V2 ++ Lq) = Lp ++ U1 ++ V1 ++ U2 ++ V2 ++ Lq by simp]; exact hA1
                  rw [hW1] at hA3
                  have hF := merge_fin hT sU sV c1 c2 p1 p2 s1 s2
                  go_end0
                  exact ⟨rfl, W1 ++ W2, by rw [hUU, hVV]; exact hF.1, hF.2, by rw [show Lp ++ (W1 ++ W2) ++ Lq = Lp ++ W1 ++ W2 ++ Lq by simp]; exact hA3, (hB.trans hbC)⟩
                · have i2b : ¬ (en : Int) < (e : Int) := by omega
                  have d2b : decide ((en : Int) < (e : Int)) = false := decide_eq_false i2b
                  obtain ⟨hLe, hUU, hVV, l1, l2, l3, l4, sU, sV, c1, c2⟩ := HLL.out
                  obtain ⟨b1, b2, b3, b4, b5, b6, b7, b8⟩ := HB.out
                  have hA1 : Arr wr b 31 J cells (Lp ++ U1 ++ V1 ++ U2 ++ V2 ++ Lq) := by rw [← no_rot (by omega), ← hLe]; exact hA
                  have t1 := Lib.hid True.intro
                  clear hLe hUU hVV l1 l2 l3 l4 sU sV c1 c2 b1 b2 b3 b4 b5 b6 b7 b8
                  go_wp2
                  obtain ⟨hLe, hUU, hVV, l1, l2, l3, l4, sU, sV, c1, c2⟩ := HLL.out
                  obtain ⟨b1, b2, b3, b4, b5, b6, b7, b8⟩ := HB.out
                  obtain ⟨W1, hW1⟩ : ∃ W1, U1 ++ V1 = W1 := ⟨_, rfl⟩
                  have p1 : W1.Perm (U1 ++ V1) := by rw [hW1]
                  have s1 : Sorted (ltc cf) W1 := by rw [← hW1]; exact one_sorted sU.left sV.left (by omega)
                  have hA2 : Arr wr b 31 J cells (Lp ++ W1 ++ (U2 ++ V2 ++ Lq)) := by rw [← hW1, show Lp ++ (U1 ++ V1) ++ (U2 ++ V2 ++ Lq) = Lp ++ U1 ++ V1 ++ U2 ++ V2 ++ Lq by simp]; exact hA1
                  obtain ⟨W2, hW2⟩ : ∃ W2, U2 ++ V2 = W2 := ⟨_, rfl⟩
                  have p2 : W2.Perm (U2 ++ V2) := by rw [hW2]
                  have s2 : Sorted (ltc cf) W2 := by rw [← hW2]; exact one_sorted sU.right sV.right (by omega)
                  have hA3 : Arr wr b 31 J cells (Lp ++ W1 ++ W2 ++ Lq) := by rw [← hW2, show Lp ++ W1 ++ (U2 ++ V2) ++ Lq = Lp ++ W1 ++ (U2 ++ V2 ++ Lq) by simp]; exact hA2
                  have hF := merge_fin hT sU sV c1 c2 p1 p2 s1 s2
                  go_end0
                  exact ⟨rfl, W1 ++ W2, by rw [hUU, hVV]; exact hF.1, hF.2, by rw [show Lp ++ (W1 ++ W2) ++ Lq = Lp ++ W1 ++ W2 ++ Lq by simp]; exact hA3, hB⟩
              · have i2a : ¬ (mid : Int) < (en : Int) := by omega
                have d2a : decide ((mid : Int) < (en : Int)) = false := decide_eq_false i2a
                obtain ⟨hLe, hUU, hVV, l1, l2, l3, l4, sU, sV, c1, c2⟩ := HLL.out
                obtain ⟨b1, b2, b3, b4, b5, b6, b7, b8⟩ := HB.out
                have hA1 : Arr wr b 31 J cells (Lp ++ U1 ++ V1 ++ U2 ++ V2 ++ Lq) := by rw [← no_rot (by omega), ← hLe]; exact hA
                have t1 := Lib.hid True.intro
                clear hLe hUU hVV l1 l2 l3 l4 sU sV c1 c2 b1 b2 b3 b4 b5 b6 b7 b8
                go_wp2
                obtain ⟨hLe, hUU, hVV, l1, l2, l3, l4, sU, sV, c1, c2⟩ := HLL.out
                obtain ⟨b1, b2, b3, b4, b5, b6, b7, b8⟩ := HB.out
                obtain ⟨W1, hW1⟩ : ∃ W1, U1 ++ V1 = W1 := ⟨_, rfl⟩
                have p1 : W1.Perm (U1 ++ V1) := by rw [hW1]
                have s1 : Sorted (ltc cf) W1 := by rw [← hW1]; exact one_sorted sU.left sV.left (by omega)
                have hA2 : Arr wr b 31 J cells (Lp ++ W1 ++ (U2 ++ V2 ++ Lq)) := by rw [← hW1, show Lp ++ (U1 ++ V1) ++ (U2 ++ V2 ++ Lq) = Lp ++ U1 ++ V1 ++ U2 ++ V2 ++ Lq by simp]; exact hA1
                obtain ⟨W2, hW2⟩ : ∃ W2, U2 ++ V2 = W2 := ⟨_, rfl⟩
                have p2 : W2.Perm (U2 ++ V2) := by rw [hW2]
                have s2 : Sorted (ltc cf) W2 := by rw [← hW2]; exact one_sorted sU.right sV.right (by omega)
                have hA3 : Arr wr b 31 J cells (Lp ++ W1 ++ W2 ++ Lq) := by rw [← hW2, show Lp ++ W1 ++ (U2 ++ V2) ++ Lq = Lp ++ W1 ++ (U2 ++ V2 ++ Lq) by simp]; exact hA2
                have hF := merge_fin hT sU sV c1 c2 p1 p2 s1 s2
                go_end0
                exact ⟨rfl, W1 ++ W2, by rw [hUU, hVV]; exact hF.1, hF.2, by rw [show Lp ++ (W1 ++ W2) ++ Lq = Lp ++ W1 ++ W2 ++ Lq by simp]; exact hA3, hB⟩
          · have i1a : ¬ (a : Int) < (i : Int) := by omega
            have d1a : decide ((a : Int) < (i : Int)) = false := decide_eq_false i1a
            by_cases k2a : mid < en
            · have i2a : (mid : Int) < (en : Int) := by omega
              have d2a : decide ((mid : Int) < (en : Int)) = true := decide_eq_true i2a
              by_cases k2b : en < e
              · have i2b : (en : Int) < (e : Int) := by omega
                have d2b : decide ((en : Int) < (e : Int)) = true := decide_eq_true i2b
                obtain ⟨hLe, hUU, hVV, l1, l2, l3, l4, sU, sV, c1, c2⟩ := HLL.out
                obtain ⟨b1, b2, b3, b4, b5, b6, b7, b8⟩ := HB.out
                have hA1 : Arr wr b 31 J cells (Lp ++ U1 ++ V1 ++ U2 ++ V2 ++ Lq) := by rw [← no_rot (by omega), ← hLe]; exact hA
                have hs2 := HS2.out (by omega) (by omega)
                have t1 := Lib.hid True.intro
                clear hLe hUU hVV l1 l2 l3 l4 sU sV c1 c2 b1 b2 b3 b4 b5 b6 b7 b8
                go_wp2_with (first | (go_at_call 114; refine (hs2 (U1 ++ V1) _ (by rw [List.length_append]) (by rw [show Lp ++ (U1 ++ V1) ++ (U2 ++ V2 ++ Lq) = Lp ++ U1 ++ V1 ++ U2 ++ V2 ++ Lq by simp]; exact hA1)).mono ?_; rintro en3 wC ⟨rfl, W2, p2, s2, hA3, hbC⟩))
                obtain ⟨hLe, hUU, hVV, l1, l2, l3, l4, sU, sV, c1, c2⟩ := HLL.out
                obtain ⟨b1, b2, b3, b4, b5, b6, b7, b8⟩ := HB.out
                obtain ⟨W1, hW1⟩ : ∃ W1, U1 ++ V1 = W1 := ⟨_, rfl⟩
                have p1 : W1.Perm (U1 ++ V1) := by rw [hW1]
                have s1 : Sorted (ltc cf) W1 := by rw [← hW1]; exact one_sorted sU.left sV.left (by omega)
                have hA2 : Arr wr b 31 J cells (Lp ++ W1 ++ (U2 ++ V2 ++ Lq)) := by rw [← hW1, show Lp ++ (U1 ++ V1) ++ (U2 ++ V2 ++ Lq) = Lp ++ U1 ++ V1 ++ U2 ++ V2 ++ Lq by simp]; exact hA1
                rw [hW1] at hA3
                have hF := merge_fin hT sU sV c1 c2 p1 p2 s1 s2
                go_end0
                exact ⟨rfl, W1 ++ W2, by rw [hUU, hVV]; exact hF.1, hF.2, by rw [show Lp ++ (W1 ++ W2) ++ Lq = Lp ++ W1 ++ W2 ++ Lq by simp]; exact hA3, (hB.trans hbC)⟩
              · have i2b : ¬ (en : Int) < (e : Int) := by omega
                have d2b : decide ((en : Int) < (e : Int)) = false := decide_eq_false i2b
                obtain ⟨hLe, hUU, hVV, l1, l2, l3, l4, sU, sV, c1, c2⟩ := HLL.out
                obtain ⟨b1, b2, b3, b4, b5, b6, b7, b8⟩ := HB.out
                have hA1 : Arr wr b 31 J cells (Lp ++ U1 ++ V1 ++ U2 ++ V2 ++ Lq) := by rw [← no_rot (by omega), ← hLe]; exact hA
                have t1 := Lib.hid True.intro
                clear hLe hUU hVV l1 l2 l3 l4 sU sV c1 c2 b1 b2 b3 b4 b5 b6 b7 b8
                go_wp2
                obtain ⟨hLe, hUU, hVV, l1, l2, l3, l4, sU, sV, c1, c2⟩ := HLL.out
                obtain ⟨b1, b2, b3, b4, b5, b6, b7, b8⟩ := HB.out
                obtain ⟨W1, hW1⟩ : ∃ W1, U1 ++ V1 = W1 := ⟨_, rfl⟩
                have p1 : W1.Perm (U1 ++ V1) := by rw [hW1]
                have s1 : Sorted (ltc cf) W1 := by rw [← hW1]; exact one_sorted sU.left sV.left (by omega)
                have hA2 : Arr wr b 31 J cells (Lp ++ W1 ++ (U2 ++ V2 ++ Lq)) := by rw [← hW1, show Lp ++ (U1 ++ V1) ++ (U2 ++ V2 ++ Lq) = Lp ++ U1 ++ V1 ++ U2 ++ V2 ++ Lq by simp]; exact hA1
                obtain ⟨W2, hW2⟩ : ∃ W2, U2 ++ V2 = W2 := ⟨_, rfl⟩
                have p2 : W2.Perm (U2 ++ V2) := by rw [hW2]
                have s2 : Sorted (ltc cf) W2 := by rw [← hW2]; exact one_sorted sU.right sV.right (by omega)
                have hA3 : Arr wr b 31 J cells (Lp ++ W1 ++ W2 ++ Lq) := by rw [← hW2, show Lp ++ W1 ++ (U2 ++ V2) ++ Lq = Lp ++ W1 ++ (U2 ++ V2 ++ Lq) by simp]; exact hA2
                have hF := merge_fin hT sU sV c1 c2 p1 p2 s1 s2
                go_end0
                exact ⟨rfl, W1 ++ W2, by rw [hUU, hVV]; exact hF.1, hF.2, by rw [show Lp ++ (W1 ++ W2) ++ Lq = Lp ++ W1 ++ W2 ++ Lq by simp]; exact hA3, hB⟩
            · have i2a : ¬ (mid : Int) < (en : Int) := by omega
              have d2a : decide ((mid : Int) < (en : Int)) = false := decide_eq_false i2a
              obtain ⟨hLe, hUU, hVV, l1, l2, l3, l4, sU, sV, c1, c2⟩ := HLL.out
              obtain ⟨b1, b2, b3, b4, b5, b6, b7, b8⟩ := HB.out
              have hA1 : Arr wr b 31 J cells (Lp ++ U1 ++ V1 ++ U2 ++ V2 ++ Lq) := by rw [← no_rot (by omega), ← hLe]; exact hA
              have t1 := Lib.hid True.intro
              clear hLe hUU hVV l1 l2 l3 l4 sU sV c1 c2 b1 b2 b3 b4 b5 b6 b7 b8
              go_wp2
              obtain ⟨hLe, hUU, hVV, l1, l2, l3, l4, sU, sV, c1, c2⟩ := HLL.out
              obtain ⟨b1, b2, b3, b4, b5, b6, b7, b8⟩ := HB.out
              obtain ⟨W1, hW1⟩ : ∃ W1, U1 ++ V1 = W1 := ⟨_, rfl⟩
              have p1 : W1.Perm (U1 ++ V1) := by rw [hW1]
              have s1 : Sorted (ltc cf) W1 := by rw [← hW1]; exact one_sorted sU.left sV.left (by omega)
              have hA2 : Arr wr b 31 J cells (Lp ++ W1 ++ (U2 ++ V2 ++ Lq)) := by rw [← hW1, show Lp ++ (U1 ++ V1) ++ (U2 ++ V2 ++ Lq) = Lp ++ U1 ++ V1 ++ U2 ++ V2 ++ Lq by simp]; exact hA1
              obtain ⟨W2, hW2⟩ : ∃ W2, U2 ++ V2 = W2 := ⟨_, rfl⟩
              have p2 : W2.Perm (U2 ++ V2) := by rw [hW2]
              have s2 : Sorted (ltc cf) W2 := by rw [← hW2]; exact one_sorted sU.right sV.right (by omega)
              have hA3 : Arr wr b 31 J cells (Lp ++ W1 ++ W2 ++ Lq) := by rw [← hW2, show Lp ++ W1 ++ (U2 ++ V2) ++ Lq = Lp ++ W1 ++ (U2 ++ V2 ++ Lq) by simp]; exact hA2
              have hF := merge_fin hT sU sV c1 c2 p1 p2 s1 s2
              go_end0
              exact ⟨rfl, W1 ++ W2, by rw [hUU, hVV]; exact hF.1, hF.2, by rw [show Lp ++ (W1 ++ W2) ++ Lq = Lp ++ W1 ++ W2 ++ Lq by simp]; exact hA3, hB⟩
  · have hmmI : ¬ (mid : Int) < (m : Int) := by omega
    have dmm : decide ((mid : Int) < (m : Int)) = false := decide_eq_false hmmI
    have hst : a ≤ m ∧ a ≤ a ∧ m ≤ m := by omega
    have HX := Lib.hid (show (mid < m ∧ a = nn - e ∧ m = mid) ∨ (m ≤ mid ∧ a = a ∧ m = m) from .inr ⟨by omega, rfl, rfl⟩)
    have HI := Lib.hid (And.intro ha (And.intro hm (And.intro he (And.intro hnl (And.intro hnn (And.intro hpp (And.intro hae (And.intro hmid hst))))))))
    clear hcmp IH hL ha hm he hnl hnn hpp hae hmid hst hma hem hmm
    go_enter Tryd.func114, Tryd.ntmps114
    go_wp2
    go_loopw [20, 21] (fun vi vj wr => ∃ (i j : Nat), vi = .int .i64 i ∧ vj = .int .i64 j ∧ a ≤ i ∧ i ≤ j ∧ j ≤ m ∧ (i = a ∨ ∃ x y, L[i - 1]? = some x ∧ L[nn - i]? = some y ∧ ltc cf y x = false) ∧ (j = m ∨ ∃ x y, L[j]? = some x ∧ L[nn - 1 - j]? = some y ∧ ltc cf y x = true) ∧ Arr wr b 31 J cells L ∧ But (· = b) w wr) (fun vi vj _ => (intOf vj).toNat - (intOf vi).toNat)
    case atStart =>
      have := HI.out.2.2.2.2.2.2.2.2
      exact ⟨a, m, rfl, rfl, Nat.le_refl _, this.1, Nat.le_refl _, .inl rfl, .inl rfl, h, But.refl _ _⟩
    case round =>
      clear h
      obtain ⟨i, j, rfl, rfl, hij1, hij2, hij3, hc1, hc2, hA, hB⟩ := hrel
      by_cases hij : i < j
      · have hijI : (i : Int) < (j : Int) := by omega
        obtain ⟨ha, hm, he, hnl, hnn, hpp, hae, hmid, hst⟩ := HI.out
        have hX := HX.out
        obtain ⟨s, hs⟩ : ∃ s, i + j = s := ⟨_, rfl⟩
        obtain ⟨hh, hhe⟩ : ∃ hh, s / 2 = hh := ⟨_, rfl⟩
        have hb1 : i ≤ hh ∧ hh < j := by omega
        have ws : IntKind.i64.wrap ((i : Int) + (j : Int)) = (s : Int) := by rw [IntKind.wrap_i64]; omega
        have wu : IntKind.u64.wrap (s : Int) = (s : Int) := by rw [IntKind.wrap_u64]; omega
        have wh : IntKind.i64.wrap ((s : Int) / 2) = (hh : Int) := by rw [IntKind.wrap_i64]; omega
        have wi : IntKind.i64.wrap ((hh : Int) + 1) = ((hh + 1 : Nat) : Int) := by rw [IntKind.wrap_i64]; omega
        have wp : IntKind.i64.wrap ((pp : Int) - (hh : Int)) = ((pp - hh : Nat) : Int) := by rw [IntKind.wrap_i64]; omega
        obtain ⟨h2, hh2⟩ : ∃ h2, hh + 1 = h2 := ⟨_, rfl⟩
        rw [hh2] at wi
        obtain ⟨pc, hpc⟩ : ∃ pc, pp - hh = pc := ⟨_, rfl⟩
        rw [hpc] at wp
        have hpcn : pc < n ∧ hh < pc := by omega
        obtain ⟨x, hx⟩ : ∃ x, L[hh]? = some x := ⟨L[hh]'(by omega), List.getElem?_eq_getElem (by omega)⟩
        obtain ⟨y, hy⟩ : ∃ y, L[pc]? = some y := ⟨L[pc]'(by omega), List.getElem?_eq_getElem (by omega)⟩
        have hr1 := hA.at hsz hy
        have hr2 := hA.at hsz hx
        have hhI : (hh : Int) < (n : Int) := by omega
        have hpI : (pc : Int) < (n : Int) := by omega
        have hp2 : hpcn = hpcn := rfl
        obtain ⟨cv, hcv⟩ : ∃ cv, cf y x = cv := ⟨_, rfl⟩
        have hcx := fun w1 => HC.out y x w1
        simp only [hcv] at hcx
        have HCX := Lib.hid hcx
        obtain ⟨be, hbe⟩ : ∃ be, decide (cv < 0) = be := ⟨_, rfl⟩
        have HBE := Lib.hid hbe
        have HQ := Lib.hid (And.intro hij1 (And.intro hij2 (And.intro hij3 (And.intro hc1 (And.intro hc2 (And.intro hb1 (And.intro hx (And.intro hy (And.intro hcv (And.intro hh2 (And.intro hpc (And.intro hpp hnn))))))))))))
        have HA := Lib.hid (And.intro hA hB)
        clear hp2 ha hnl hm he hij1 hij2 hij3 hc1 hc2 hb1 hx hy hcx hcv hs hhe hA hB hh2 hpc hpcn hpp hnn hae hmid hst hX
        go_wp2
        refine wp_region_pt (fun _ => False) (.q 0 (.q 1 (.q 2 (.q 3 (.q 4 (.q 5 (.q 6 (.q 7 (.q 8 (.q 9 (.q 10 (.c 11 (.q 12 (.q 13 .done)))))))))))))) (by kernel_rfl) (by kernel_rfl) (by kernel_rfl) (by decide) (fun _ _ d _ _ h => by cases d <;> exact h) (fun Wd hBd => ?_)
        try simp only [Act.put, List.getElem_toArray, List.getElem_cons_zero, List.getElem_cons_succ, List.setIfInBounds_toArray, List.set_cons_zero, List.set_cons_succ]
        have hr1 := rangeAt_up hBd hr1
        have hr2 := rangeAt_up hBd hr2
        refine pt_q (v := ?_) rfl (by rfl) ?_ ?_
        rotate_left
        · intro w' hBw'
          first | (go_simp; done) | (go_simp; with_reducible rfl)
        try simp only [Act.put, List.getElem_toArray, List.getElem_cons_zero, List.getElem_cons_succ, List.setIfInBounds_toArray, List.set_cons_zero, List.set_cons_succ]
        refine pt_q (v := ?_) rfl (by rfl) ?_ ?_
        rotate_left
        · intro w' hBw'
          first | (go_simp; done) | (go_simp; with_reducible rfl)
        try simp only [Act.put, List.getElem_toArray, List.getElem_cons_zero, List.getElem_cons_succ, List.setIfInBounds_toArray, List.set_cons_zero, List.set_cons_succ]
        refine pt_q (v := ?_) rfl (by rfl) ?_ ?_
        rotate_left
        · intro w' hBw'
          first | (go_simp; done) | (go_simp; with_reducible rfl)
        try simp only [Act.put, List.getElem_toArray, List.getElem_cons_zero, List.getElem_cons_succ, List.setIfInBounds_toArray, List.set_cons_zero, List.set_cons_succ]
        refine pt_q (v := ?_) rfl (by rfl) ?_ ?_
        rotate_left
        · intro w' hBw'
          first | (go_simp; done) | (go_simp; with_reducible rfl)
        try simp only [Act.put, List.getElem_toArray, List.getElem_cons_zero, List.getElem_cons_succ, List.setIfInBounds_toArray, List.set_cons_zero, List.set_cons_succ]
        refine pt_q (v := ?_) rfl (by rfl) ?_ ?_
        rotate_left
        · intro w' hBw'
          first | (go_simp; done) | (go_simp; with_reducible rfl)
        try simp only [Act.put, List.getElem_toArray, List.getElem_cons_zero, List.getElem_cons_succ, List.setIfInBounds_toArray, List.set_cons_zero, List.set_cons_succ]
        refine pt_q (v := ?_) rfl (by rfl) ?_ ?_
        rotate_left
        · intro w' hBw'
          first | (go_simp; done) | (go_simp; with_reducible rfl)
        try simp only [Act.put, List.getElem_toArray, List.getElem_cons_zero, List.getElem_cons_succ, List.setIfInBounds_toArray, List.set_cons_zero, List.set_cons_succ]
        refine pt_load rfl (by rfl) 31 (.tmp 163) rfl b (pc * 4) rfl (cells y) _ hr1 (fun h => h) Tryd.underlying31 rfl (by rw [hsz]; kernel_rfl) ?_
        try simp only [Act.put, List.getElem_toArray, List.getElem_cons_zero, List.getElem_cons_succ, List.setIfInBounds_toArray, List.set_cons_zero, List.set_cons_succ]
        refine pt_q (v := ?_) rfl (by rfl) ?_ ?_
        rotate_left
        · intro w' hBw'
          first | (go_simp; done) | (go_simp; with_reducible rfl)
        try simp only [Act.put, List.getElem_toArray, List.getElem_cons_zero, List.getElem_cons_succ, List.setIfInBounds_toArray, List.set_cons_zero, List.set_cons_succ]
        refine pt_q (v := ?_) rfl (by rfl) ?_ ?_
        rotate_left
        · intro w' hBw'
          first | (go_simp; done) | (go_simp; with_reducible rfl)
        try simp only [Act.put, List.getElem_toArray, List.getElem_cons_zero, List.getElem_cons_succ, List.setIfInBounds_toArray, List.set_cons_zero, List.set_cons_succ]
        refine pt_q (v := ?_) rfl (by rfl) ?_ ?_
        rotate_left
        · intro w' hBw'
          first | (go_simp; done) | (go_simp; with_reducible rfl)
        try simp only [Act.put, List.getElem_toArray, List.getElem_cons_zero, List.getElem_cons_succ, List.setIfInBounds_toArray, List.set_cons_zero, List.set_cons_succ]
        refine pt_load rfl (by rfl) 31 (.tmp 167) rfl b (hh * 4) rfl (cells x) _ hr2 (fun h => h) Tryd.underlying31 rfl (by rw [hsz]; kernel_rfl) ?_
        try simp only [Act.put, List.getElem_toArray, List.getElem_cons_zero, List.getElem_cons_succ, List.setIfInBounds_toArray, List.set_cons_zero, List.set_cons_succ]
        refine pt_c ?_
        refine pt_step rfl (by rfl) (fun K hK => ?_)
        go_simp
        refine (Calls.cast rfl (HCX.out Wd)).mono ?_
        rintro en w4 ⟨rfl, hb4⟩
        refine hK.out _ _ (But.of_below hb4) ?_
        clear hK K
        try simp only [Act.put, List.getElem_toArray, List.getElem_cons_zero, List.getElem_cons_succ, List.setIfInBounds_toArray, List.set_cons_zero, List.set_cons_succ]
        refine pt_q (v := ?_) rfl (by rfl) ?_ ?_
        rotate_left
        · intro w' hBw'
          first | (go_simp; done) | (go_simp; with_reducible rfl)
        try simp only [Act.put, List.getElem_toArray, List.getElem_cons_zero, List.getElem_cons_succ, List.setIfInBounds_toArray, List.set_cons_zero, List.set_cons_succ]
        refine pt_q (v := ?_) rfl (by rfl) ?_ ?_
        rotate_left
        · intro w' hBw'
          first | (go_simp; done) | (go_simp; with_reducible rfl)
        try simp only [Act.put, List.getElem_toArray, List.getElem_cons_zero, List.getElem_cons_succ, List.setIfInBounds_toArray, List.set_cons_zero, List.set_cons_succ]
        refine pt_done ?_
        obtain ⟨hij1, hij2, hij3, hc1, hc2, hb1, hx, hy, hcv, hh2, hpc, hpp, hnn⟩ := HQ.out
        have HA2 := Lib.hid (And.intro (RowAt.below HA.out.1 (hBd.trans (hb4.mono hBd.size))) (HA.out.2.trans (But.of_below (hBd.trans (hb4.mono hBd.size)))))
        clear hr1 hr2 hb4 hBd hbe
        cases be with
        | true =>
          have HLT := Lib.hid (show ltc cf y x = true by unfold ltc; rw [hcv]; exact HBE.out)
          clear hij1 hij2 hij3 hc1 hc2 hb1 hx hy hcv hh2 hpc hpp hnn
          go_wp2
          obtain ⟨hij1, hij2, hij3, hc1, hc2, hb1, hx, hy, hcv, hh2, hpc, hpp, hnn⟩ := HQ.out
          refine ⟨⟨i, hh, rfl, rfl, by omega, by omega, by omega, hc1, .inr ⟨x, y, hx, by rw [show nn - 1 - hh = pc by omega]; exact hy, HLT.out⟩, HA2.out.1, HA2.out.2⟩, by simp [intOf]; omega⟩
        | false =>
          have HLT := Lib.hid (show ltc cf y x = false by unfold ltc; rw [hcv]; exact HBE.out)
          clear hij1 hij2 hij3 hc1 hc2 hb1 hx hy hcv hh2 hpc hpp hnn
          go_wp2
          obtain ⟨hij1, hij2, hij3, hc1, hc2, hb1, hx, hy, hcv, hh2, hpc, hpp, hnn⟩ := HQ.out
          refine ⟨⟨h2, j, rfl, rfl, by omega, by omega, by omega, .inr ⟨x, y, by rw [← hh2]; exact hx, by rw [show nn - h2 = pc by omega]; exact hy, HLT.out⟩, hc2, HA2.out.1, HA2.out.2⟩, by simp [intOf]; omega⟩
      · obtain rfl : i = j := by omega
        obtain ⟨ha, hm, he, hnl, hnn, hpp, hae, hmid, hst⟩ := HI.out
        have hX := HX.out
        obtain ⟨en, hen⟩ : ∃ en, nn - i = en := ⟨_, rfl⟩
        have wen : IntKind.i64.wrap ((nn : Int) - (i : Int)) = (en : Int) := by rw [IntKind.wrap_i64]; omega
        have hbs : a ≤ i ∧ i ≤ m ∧ m ≤ en ∧ en ≤ e ∧ i ≤ mid ∧ mid ≤ en ∧ mid - i = en - m ∧ en - mid = m - i := by omega
        obtain ⟨U1, hU1⟩ : ∃ U1, U1 = U.take (i - a) := ⟨_, rfl⟩
        obtain ⟨U2, hU2⟩ : ∃ U2, U2 = U.drop (i - a) := ⟨_, rfl⟩
        obtain ⟨V1, hV1⟩ : ∃ V1, V1 = V.take (en - m) := ⟨_, rfl⟩
        obtain ⟨V2, hV2⟩ : ∃ V2, V2 = V.drop (en - m) := ⟨_, rfl⟩
        have hUU : U = U1 ++ U2 := by rw [hU1, hU2, List.take_append_drop]
        have hVV : V = V1 ++ V2 := by rw [hV1, hV2, List.take_append_drop]
        have l1 : U1.length = i - a := by rw [hU1, List.length_take]; omega
        have l2 : U2.length = m - i := by rw [hU2, List.length_drop]; omega
        have l3 : V1.length = en - m := by rw [hV1, List.length_take]; omega
        have l4 : V2.length = e - en := by rw [hV2, List.length_drop]; omega
        clear hU1 hU2 hV1 hV2
        have hLe := HLe.out
        rw [hUU, hVV] at hLe
        have c1 : ∀ x y, U1.getLast? = some x → V2.head? = some y → ltc cf y x = false := by
          intro x y hx hy
          have hs := last_split hx
          have l1' := congrArg List.length hs
          simp only [List.length_append, List.length_cons, List.length_nil] at l1'
          cases hv2 : V2 with
          | nil => rw [hv2] at hy; cases hy
          | cons y' V2' =>
            rw [hv2] at hy l4
            simp only [List.head?_cons, Option.some.injEq] at hy
            subst hy
            simp only [List.length_cons] at l4
            rcases hc1 with hc | ⟨x', y'', g1, g2, g3⟩
            · omega
            · have e1 : L[i - 1]? = some x := by
                rw [hLe, hs, show Lp ++ (U1.dropLast ++ [x] ++ U2) ++ (V1 ++ V2) ++ Lq = (Lp ++ U1.dropLast) ++ x :: (U2 ++ (V1 ++ V2) ++ Lq) by simp, show i - 1 = (Lp ++ U1.dropLast).length by simp only [List.length_append]; omega]
                exact mid_get _ _ _
              have e2 : L[nn - i]? = some y' := by
                rw [hLe, hv2, show Lp ++ (U1 ++ U2) ++ (V1 ++ y' :: V2') ++ Lq = (Lp ++ (U1 ++ U2) ++ V1) ++ y' :: (V2' ++ Lq) by simp, show nn - i = (Lp ++ (U1 ++ U2) ++ V1).length by simp only [List.length_append]; omega]
                exact mid_get _ _ _
              rw [e1] at g1
              rw [e2] at g2
              rw [Option.some.inj g1, Option.some.inj g2]; exact g3
        have c2 : ∀ x y, V1.getLast? = some x → U2.head? = some y → ltc cf y x = false := by
          intro x y hx hy
          have hs := last_split hx
          have l3' := congrArg List.length hs
          simp only [List.length_append, List.length_cons, List.length_nil] at l3'
          cases hv2 : U2 with
          | nil => rw [hv2] at hy; cases hy
          | cons y' U2' =>
            rw [hv2] at hy l2
            simp only [List.head?_cons, Option.some.injEq] at hy
            subst hy
            simp only [List.length_cons] at l2
            rcases hc2 with hc | ⟨x', y'', g1, g2, g3⟩
            · omega
            · have e1 : L[i]? = some y' := by
                rw [hLe, hv2, show Lp ++ (U1 ++ y' :: U2') ++ (V1 ++ V2) ++ Lq = (Lp ++ U1) ++ y' :: (U2' ++ (V1 ++ V2) ++ Lq) by simp, show i = (Lp ++ U1).length by simp only [List.length_append]; omega]
                exact mid_get _ _ _
              have e2 : L[nn - 1 - i]? = some x := by
                rw [hLe, hs, show Lp ++ (U1 ++ U2) ++ (V1.dropLast ++ [x] ++ V2) ++ Lq = (Lp ++ (U1 ++ U2) ++ V1.dropLast) ++ x :: (V2 ++ Lq) by simp, show nn - 1 - i = (Lp ++ (U1 ++ U2) ++ V1.dropLast).length by simp only [List.length_append]; rw [hv2]; simp only [List.length_cons]; omega]
                exact mid_get _ _ _
              rw [e1] at g1
              rw [e2] at g2
              rw [← Option.some.inj g1, ← Option.some.inj g2] at g3; exact hT.asym _ _ g3
        have sU := hSU
        have sV := hSV
        rw [hUU] at sU
        rw [hVV] at sV
        have hro : 0 < U2.length → 0 < V1.length → ∀ w', Arr w' b 31 J cells L → Calls Tryd.prog 123 #[.slice (some ⟨b, 0, none⟩) n c, .int .i64 (i : Int), .int .i64 (m : Int), .int .i64 (en : Int), .func (.func g) #[] cap] w' (fun en' w2 => en' = .returned (.tuple #[]) ∧ Arr w2 b 31 J cells (Lp ++ U1 ++ V1 ++ U2 ++ V2 ++ Lq) ∧ But (· = b) w' w2) := by
          intro q1 q2 w' hw'
          refine (rotate_c hsz h1 (Lp ++ U1) U2 V1 (V2 ++ Lq) (by rw [hLe]; simp) q1 q2 hn (by rw [List.length_append]; omega) (by rw [List.length_append]; omega) (by rw [List.length_append]; omega) hb _ w' hw').mono ?_
          rintro en' w2 ⟨rfl, hA2, hb2⟩
          exact ⟨rfl, by rw [show Lp ++ U1 ++ V1 ++ U2 ++ V2 ++ Lq = Lp ++ U1 ++ V1 ++ U2 ++ (V2 ++ Lq) by simp]; exact hA2, hb2⟩
        have hs1 : 0 < U1.length → 0 < V1.length → ∀ w', Arr w' b 31 J cells (Lp ++ U1 ++ V1 ++ U2 ++ V2 ++ Lq) → Calls Tryd.prog 114 #[.slice (some ⟨b, 0, none⟩) n c, .int .i64 (a : Int), .int .i64 (i : Int), .int .i64 (mid : Int), .func (.func g) #[] cap] w' (SmP cf cells b J Lp (U1 ++ V1) (U2 ++ V2 ++ Lq) w') := by
          intro q1 q2 w' hw'
          refine HIH.out Lp U1 V1 (U2 ++ V2 ++ Lq) _ w' (by simp) q1 q2 (by omega) sU.left sV.left (by rw [← hn, hLe]; simp only [List.length_append]; omega) hw' a i mid ha (by omega) (by omega)
        have hs2 : 0 < U2.length → 0 < V2.length → ∀ W1 w', W1.length = U1.length + V1.length → Arr w' b 31 J cells (Lp ++ W1 ++ (U2 ++ V2 ++ Lq)) → Calls Tryd.prog 114 #[.slice (some ⟨b, 0, none⟩) n c, .int .i64 (mid : Int), .int .i64 (en : Int), .int .i64 (e : Int), .func (.func g) #[] cap] w' (SmP cf cells b J (Lp ++ W1) (U2 ++ V2) Lq w') := by
          intro q1 q2 W1 w' hW1 hw'
          refine HIH.out (Lp ++ W1) U2 V2 Lq _ w' (by simp) q1 q2 (by omega) sU.right sV.right (by rw [← hn, hLe]; simp only [List.length_append]; omega) hw' mid en e (by rw [List.length_append]; omega) (by omega) (by omega)
        have HRO := Lib.hid hro
        have HS1 := Lib.hid hs1
        have HS2 := Lib.hid hs2
        have HB := Lib.hid hbs
        have HLL := Lib.hid (And.intro hLe (And.intro hUU (And.intro hVV (And.intro l1 (And.intro l2 (And.intro l3 (And.intro l4 (And.intro sU (And.intro sV (And.intro c1 c2))))))))))
        clear hro hs1 hs2 hLe hUU hVV l1 l2 l3 l4 sU sV c1 c2 hc1 hc2 ha hm he hnl hnn hpp hae hmid hst hX hij1 hij2 hij3 hbs hen
        by_cases k0a : i < m
        · have i0a : (i : Int) < (m : Int) := by omega
          have d0a : decide ((i : Int) < (m : Int)) = true := decide_eq_true i0a
          by_cases k0b : m < en
          · have i0b : (m : Int) < (en : Int) := by omega
            have d0b : decide ((m : Int) < (en : Int)) = true := decide_eq_true i0b
            by_cases k1a : a < i
            · have i1a : (a : Int) < (i : Int) := by omega
              have d1a : decide ((a : Int) < (i : Int)) = true := decide_eq_true i1a
              by_cases k1b : i < mid
              · have i1b : (i : Int) < (mid : Int) := by omega
                have d1b : decide ((i : Int) < (mid : Int)) = true := decide_eq_true i1b
                by_cases k2a : mid < en
                · have i2a : (mid : Int) < (en : Int) := by omega
                  have d2a : decide ((mid : Int) < (en : Int)) = true := decide_eq_true i2a
                  by_cases k2b : en < e
                  · have i2b : (en : Int) < (e : Int) := by omega
                    have d2b : decide ((en : Int) < (e : Int)) = true := decide_eq_true i2b
                    obtain ⟨hLe, hUU, hVV, l1, l2, l3, l4, sU, sV, c1, c2⟩ := HLL.out
                    obtain ⟨b1, b2, b3, b4, b5, b6, b7, b8⟩ := HB.out
                    have hro := HRO.out (by omega) (by omega)
                    have hs1 := HS1.out (by omega) (by omega)
                    have hs2 := HS2.out (by omega) (by omega)
                    have t1 := Lib.hid True.intro
                    clear hLe hUU hVV l1 l2 l3 l4 sU sV c1 c2 b1 b2 b3 b4 b5 b6 b7 b8
                    go_wp2_with (first | (go_at_call 123; refine (hro _ hA).mono ?_; rintro en1 wA ⟨rfl, hA1, hbA⟩) | (go_at_call 114; have Tz := t1; clear Tz t1; refine (hs1 _ hA1).mono ?_; rintro en2 wB ⟨rfl, W1, p1, s1, hA2, hbB⟩) | (go_at_call 114; refine (hs2 W1 _ (by rw [p1.length_eq, List.length_append]) hA2).mono ?_; rintro en3 wC ⟨rfl, W2, p2, s2, hA3, hbC⟩))
                    obtain ⟨hLe, hUU, hVV, l1, l2, l3, l4, sU, sV, c1, c2⟩ := HLL.out
                    obtain ⟨b1, b2, b3, b4, b5, b6, b7, b8⟩ := HB.out
                    have hF := merge_fin hT sU sV c1 c2 p1 p2 s1 s2
                    go_end0
                    exact ⟨rfl, W1 ++ W2, by rw [hUU, hVV]; exact hF.1, hF.2, by rw [show Lp ++ (W1 ++ W2) ++ Lq = Lp ++ W1 ++ W2 ++ Lq by simp]; exact hA3, (((hB.trans hbA).trans hbB).trans hbC)⟩
                  · have i2b : ¬ (en : Int) < (e : Int) := by omega
                    have d2b : decide ((en : Int) < (e : Int)) = false := decide_eq_false i2b
                    obtain ⟨hLe, hUU, hVV, l1, l2, l3, l4, sU, sV, c1, c2⟩ := HLL.out
                    obtain ⟨b1, b2, b3, b4, b5, b6, b7, b8⟩ := HB.out
                    have hro := HRO.out (by omega) (by omega)
                    have hs1 := HS1.out (by omega) (by omega)
                    have t1 := Lib.hid True.intro
                    clear hLe hUU hVV l1 l2 l3 l4 sU sV c1 c2 b1 b2 b3 b4 b5 b6 b7 b8
                    go_wp2_with (first | (go_at_call 123; refine (hro _ hA).mono ?_; rintro en1 wA ⟨rfl, hA1, hbA⟩) | (go_at_call 114; have Tz := t1; clear Tz t1; refine (hs1 _ hA1).mono ?_; rintro en2 wB ⟨rfl, W1, p1, s1, hA2, hbB⟩))
                    obtain ⟨hLe, hUU, hVV, l1, l2, l3, l4, sU, sV, c1, c2⟩ := HLL.out
                    obtain ⟨b1, b2, b3, b4, b5, b6, b7, b8⟩ := HB.out
                    obtain ⟨W2, hW2⟩ : ∃ W2, U2 ++ V2 = W2 := ⟨_, rfl⟩
                    have p2 : W2.Perm (U2 ++ V2) := by rw [hW2]
                    have s2 : Sorted (ltc cf) W2 := by rw [← hW2]; exact one_sorted sU.right sV.right (by omega)
                    have hA3 : Arr wB b 31 J cells (Lp ++ W1 ++ W2 ++ Lq) := by rw [← hW2, show Lp ++ W1 ++ (U2 ++ V2) ++ Lq = Lp ++ W1 ++ (U2 ++ V2 ++ Lq) by simp]; exact hA2
                    have hF := merge_fin hT sU sV c1 c2 p1 p2 s1 s2
                    go_end0
                    exact ⟨rfl, W1 ++ W2, by rw [hUU, hVV]; exact hF.1, hF.2, by rw [show Lp ++ (W1 ++ W2) ++ Lq = Lp ++ W1 ++ W2 ++ Lq by simp]; exact hA3, ((hB.trans hbA).trans hbB)⟩
                · have i2a : ¬ (mid : Int) < (en : Int) := by omega
                  have d2a : decide ((mid : Int) < (en : Int)) = false := decide_eq_false i2a
                  obtain ⟨hLe, hUU, hVV, l1, l2, l3, l4, sU, sV, c1, c2⟩ := HLL.out
                  obtain ⟨b1, b2, b3, b4, b5, b6, b7, b8⟩ := HB.out
                  have hro := HRO.out (by omega) (by omega)
                  have hs1 := HS1.out (by omega) (by omega)
                  have t1 := Lib.hid True.intro
                  clear hLe hUU hVV l1 l2 l3 l4 sU sV c1 c2 b1 b2 b3 b4 b5 b6 b7 b8
                  go_wp2_with (first | (go_at_call 123; refine (hro _ hA).mono ?_; rintro en1 wA ⟨rfl, hA1, hbA⟩) | (go_at_call 114; have Tz := t1; clear Tz t1; refine (hs1 _ hA1).mono ?_; rintro en2 wB ⟨rfl, W1, p1, s1, hA2, hbB⟩))
                  obtain ⟨hLe, hUU, hVV, l1, l2, l3, l4, sU, sV, c1, c2⟩ := HLL.out
                  obtain ⟨b1, b2, b3, b4, b5, b6, b7, b8⟩ := HB.out
                  obtain ⟨W2, hW2⟩ : ∃ W2, U2 ++ V2 = W2 := ⟨_, rfl⟩
                  have p2 : W2.Perm (U2 ++ V2) := by rw [hW2]
                  have s2 : Sorted (ltc cf) W2 := by rw [← hW2]; exact one_sorted sU.right sV.right (by omega)
                  have hA3 : Arr wB b 31 J cells (Lp ++ W1 ++ W2 ++ Lq) := by rw [← hW2, show Lp ++ W1 ++ (U2 ++ V2) ++ Lq = Lp ++ W1 ++ (U2 ++ V2 ++ Lq) by simp]; exact hA2
                  have hF := merge_fin hT sU sV c1 c2 p1 p2 s1 s2
                  go_end0
                  exact ⟨rfl, W1 ++ W2, by rw [hUU, hVV]; exact hF.1, hF.2, by rw [show Lp ++ (W1 ++ W2) ++ Lq = Lp ++ W1 ++ W2 ++ Lq by simp]; exact hA3, ((hB.trans hbA).trans hbB)⟩
              · have i1b : ¬ (i : Int) < (mid : Int) := by omega
                have d1b : decide ((i : Int) < (mid : Int)) = false := decide_eq_false i1b
                by_cases k2a : mid < en
                · have i2a : (mid : Int) < (en : Int) := by omega
                  have d2a : decide ((mid : Int) < (en : Int)) = true := decide_eq_true i2a
                  by_cases k2b : en < e
                  · have i2b : (en : Int) < (e : Int) := by omega
                    have d2b : decide ((en : Int) < (e : Int)) = true := decide_eq_true i2b
                    obtain ⟨hLe, hUU, hVV, l1, l2, l3, l4, sU, sV, c1, c2⟩ := HLL.out
                    obtain ⟨b1, b2, b3, b4, b5, b6, b7, b8⟩ := HB.out
                    have hro := HRO.out (by omega) (by omega)
                    have hs2 := HS2.out (by omega) (by omega)
                    have t1 := Lib.hid True.intro
                    clear hLe hUU hVV l1 l2 l3 l4 sU sV c1 c2 b1 b2 b3 b4 b5 b6 b7 b8
                    go_wp2_with (first | (go_at_call 123; refine (hro _ hA).mono ?_; rintro en1 wA ⟨rfl, hA1, hbA⟩) | (go_at_call 114; refine (hs2 (U1 ++ V1) _ (by rw [List.length_append]) (by rw [show Lp ++ (U1 ++ V1) ++ (U2 ++ V2 ++ Lq) = Lp ++ U1 ++ V1 ++ U2 ++ V2 ++ Lq by simp]; exact hA1)).mono ?_; rintro en3 wC ⟨rfl, W2, p2, s2, hA3, hbC⟩))
                    obtain ⟨hLe, hUU, hVV, l1, l2, l3, l4, sU, sV, c1, c2⟩ := HLL.out
                    obtain ⟨b1, b2, b3, b4, b5, b6, b7, b8⟩ := HB.out
                    obtain ⟨W1, hW1⟩ : ∃ W1, U1 ++ V1 = W1 := ⟨_, rfl⟩
                    have p1 : W1.Perm (U1 ++ V1) := by rw [hW1]
                    have s1 : Sorted (ltc cf) W1 := by rw [← hW1]; exact one_sorted sU.left sV.left (by omega)
                    have hA2 : Arr wA b 31 J cells (Lp ++ W1 ++ (U2 ++ V2 ++ Lq)) := by rw [← hW1, show Lp ++ (U1 ++ V1) ++ (U2 ++ V2 ++ Lq) = Lp ++ U1 ++ V1 ++ U2 ++ V2 ++ Lq by simp]; exact hA1
                    rw [hW1] at hA3
                    have hF := merge_fin hT sU sV c1 c2 p1 p2 s1 s2
                    go_end0
                    exact ⟨rfl, W1 ++ W2, by rw [hUU, hVV]; exact hF.1, hF.2, by rw [show Lp ++ (W1 ++ W2) ++ Lq = Lp ++ W1 ++ W2 ++ Lq by simp]; exact hA3, ((hB.trans hbA).trans hbC)⟩
                  · have i2b : ¬ (en : Int) < (e : Int) := by omega
                    have d2b : decide ((en : Int) < (e : Int)) = false := decide_eq_false i2b
                    obtain ⟨hLe, hUU, hVV, l1, l2, l3, l4, sU, sV, c1, c2⟩ := HLL.out
                    obtain ⟨b1, b2, b3, b4, b5, b6, b7, b8⟩ := HB.out
                    have hro := HRO.out (by omega) (by omega)
                    have t1 := Lib.hid True.intro
                    clear hLe hUU hVV l1 l2 l3 l4 sU sV c1 c2 b1 b2 b3 b4 b5 b6 b7 b8
                    go_wp2_with (first | (go_at_call 123; refine (hro _ hA).mono ?_; rintro en1 wA ⟨rfl, hA1, hbA⟩))
                    obtain ⟨hLe, hUU, hVV, l1, l2, l3, l4, sU, sV, c1, c2⟩ := HLL.out
                    obtain ⟨b1, b2, b3, b4, b5, b6, b7, b8⟩ := HB.out
                    obtain ⟨W1, hW1⟩ : ∃ W1, U1 ++ V1 = W1 := ⟨_, rfl⟩
                    have p1 : W1.Perm (U1 ++ V1) := by rw [hW1]
                    have s1 : Sorted (ltc cf) W1 := by rw [← hW1]; exact one_sorted sU.left sV.left (by omega)
                    have hA2 : Arr wA b 31 J cells (Lp ++ W1 ++ (U2 ++ V2 ++ Lq)) := by rw [← hW1, show Lp ++ (U1 ++ V1) ++ (U2 ++ V2 ++ Lq) = Lp ++ U1 ++ V1 ++ U2 ++ V2 ++ Lq by simp]; exact hA1
                    obtain ⟨W2, hW2⟩ : ∃ W2, U2 ++ V2 = W2 := ⟨_, rfl⟩
                    have p2 : W2.Perm (U2 ++ V2) := by rw [hW2]
                    have s2 : Sorted (ltc cf) W2 := by rw [← hW2]; exact one_sorted sU.right sV.right (by omega)
                    have hA3 : Arr wA b 31 J cells (Lp ++ W1 ++ W2 ++ Lq) := by rw [← hW2, show Lp ++ W1 ++ (U2 ++ V2) ++ Lq = Lp ++ W1 ++ (U2 ++ V2 ++ Lq) by simp]; exact hA2
                    have hF := merge_fin hT sU sV c1 c2 p1 p2 s1 s2
                    go_end0
                    exact ⟨rfl, W1 ++ W2, by rw [hUU, hVV]; exact hF.1, hF.2, by rw [show Lp ++ (W1 ++ W2) ++ Lq = Lp ++ W1 ++ W2 ++ Lq by simp]; exact hA3, (hB.trans hbA)⟩
                · have i2a : ¬ (mid : Int) < (en : Int) := by omega
                  have d2a : decide ((mid : Int) < (en : Int)) = false := decide_eq_false i2a
                  obtain ⟨hLe, hUU, hVV, l1, l2, l3, l4, sU, sV, c1, c2⟩ := HLL.out
                  obtain ⟨b1, b2, b3, b4, b5, b6, b7, b8⟩ := HB.out
                  have hro := HRO.out (by omega) (by omega)
                  have t1 := Lib.hid True.intro
                  clear hLe hUU hVV l1 l2 l3 l4 sU sV c1 c2 b1 b2 b3 b4 b5 b6 b7 b8
                  go_wp2_with (first | (go_at_call 123; refine (hro _ hA).mono ?_; rintro en1 wA ⟨rfl, hA1, hbA⟩))
                  obtain ⟨hLe, hUU, hVV, l1, l2, l3, l4, sU, sV, c1, c2⟩ := HLL.out
                  obtain ⟨b1, b2, b3, b4, b5, b6, b7, b8⟩ := HB.out
                  obtain ⟨W1, hW1⟩ : ∃ W1, U1 ++ V1 = W1 := ⟨_, rfl⟩
                  have p1 : W1.Perm (U1 ++ V1) := by rw [hW1]
                  have s1 : Sorted (ltc cf) W1 := by rw [← hW1]; exact one_sorted sU.left sV.left (by omega)
                  have hA2 : Arr wA b 31 J cells (Lp ++ W1 ++ (U2 ++ V2 ++ Lq)) := by rw [← hW1, show Lp ++ (U1 ++ V1) ++ (U2 ++ V2 ++ Lq) = Lp ++ U1 ++ V1 ++ U2 ++ V2 ++ Lq by simp]; exact hA1
                  obtain ⟨W2, hW2⟩ : ∃ W2, U2 ++ V2 = W2 := ⟨_, rfl⟩
                  have p2 : W2.Perm (U2 ++ V2) := by rw [hW2]
                  have s2 : Sorted (ltc cf) W2 := by rw [← hW2]; exact one_sorted sU.right sV.right (by omega)
                  have hA3 : Arr wA b 31 J cells (Lp ++ W1 ++ W2 ++ Lq) := by rw [← hW2, show Lp ++ W1 ++ (U2 ++ V2) ++ Lq = Lp ++ W1 ++ (U2 ++ V2 ++ Lq) by simp]; exact hA2
                  have hF := merge_fin hT sU sV c1 c2 p1 p2 s1 s2
                  go_end0
                  exact ⟨rfl, W1 ++ W2, by rw [hUU, hVV]; exact hF.1, hF.2, by rw [show Lp ++ (W1 ++ W2) ++ Lq = Lp ++ W1 ++ W2 ++ Lq by simp]; exact hA3, (hB.trans hbA)⟩
            · have i1a : ¬ (a : Int) < (i : Int) := by omega
              have d1a : decide ((a : Int) < (i : Int)) = false := decide_eq_false i1a
              by_cases k2a : mid < en
              · have i2a : (mid : Int) < (en : Int) := by omega
                have d2a : decide ((mid : Int) < (en : Int)) = true := decide_eq_true i2a
                by_cases k2b : en < e
                · have i2b : (en : Int) < (e : Int) := by omega
                  have d2b : decide ((en : Int) < (e : Int)) = true := decide_eq_true i2b
                  obtain ⟨hLe, hUU, hVV, l1, l2, l3, l4, sU, sV, c1, c2⟩ := HLL.out
                  obtain ⟨b1, b2, b3, b4, b5, b6, b7, b8⟩ := HB.out
                  have hro := HRO.out (by omega) (by omega)
                  have hs2 := HS2.out (by omega) (by omega)
                  have t1 := Lib.hid True.intro
                  clear hLe hUU hVV l1 l2 l3 l4 sU sV c1 c2 b1 b2 b3 b4 b5 b6 b7 b8
                  go_wp2_with (first | (go_at_call 123; refine (hro _ hA).mono ?_; rintro en1 wA ⟨rfl, hA1, hbA⟩) | (go_at_call 114; refine (hs2 (U1 ++ V1) _ (by rw [List.length_append]) (by rw [show Lp ++ (U1 ++ V1) ++ (U2 ++ V2 ++ Lq) = Lp ++ U1 ++ V1 ++ U2 ++ V2 ++ Lq by simp]; exact hA1)).mono ?_; rintro en3 wC ⟨rfl, W2, p2, s2, hA3, hbC⟩))
                  obtain ⟨hLe, hUU, hVV, l1, l2, l3, l4, sU, sV, c1, c2⟩ := HLL.out
                  obtain ⟨b1, b2, b3, b4, b5, b6, b7, b8⟩ := HB.out
                  obtain ⟨W1, hW1⟩ : ∃ W1, U1 ++ V1 = W1 := ⟨_, rfl⟩
                  have p1 : W1.Perm (U1 ++ V1) := by rw [hW1]
                  have s1 : Sorted (ltc cf) W1 := by rw [← hW1]; exact one_sorted sU.left sV.left (by omega)
                  have hA2 : Arr wA b 31 J cells (Lp ++ W1 ++ (U2 ++ V2 ++ Lq)) := by rw [← hW1, show Lp ++ (U1 ++ V1) ++ (U2 ++ V2 ++ Lq) = Lp ++ U1 ++ V1 ++ U2 ++ V2 ++ Lq by simp]; exact hA1
                  rw [hW1] at hA3
                  have hF := merge_fin hT sU sV c1 c2 p1 p2 s1 s2
                  go_end0
                  exact ⟨rfl, W1 ++ W2, by rw [hUU, hVV]; exact hF.1, hF.2, by rw [show Lp ++ (W1 ++ W2) ++ Lq = Lp ++ W1 ++ W2 ++ Lq by simp]; exact hA3, ((hB.trans hbA).trans hbC)⟩
                · have i2b : ¬ (en : Int) < (e : Int) := by omega
                  have d2b : decide ((en : Int) < (e : Int)) = false := decide_eq_false i2b
                  obtain ⟨hLe, hUU, hVV, l1, l2, l3, l4, sU, sV, c1, c2⟩ := HLL.out
                  obtain ⟨b1, b2, b3, b4, b5, b6, b7, b8⟩ := HB.out
                  have hro := HRO.out (by omega) (by omega)
                  have t1 := Lib.hid True.intro
                  clear hLe hUU hVV l1 l2 l3 l4 sU sV c1 c2 b1 b2 b3 b4 b5 b6 b7 b8
                  go_wp2_with (first | (go_at_call 123; refine (hro _ hA).mono ?_; rintro en1 wA ⟨rfl, hA1, hbA⟩))
                  obtain ⟨hLe, hUU, hVV, l1, l2, l3, l4, sU, sV, c1, c2⟩ := HLL.out
                  obtain ⟨b1, b2, b3, b4, b5, b6, b7, b8⟩ := HB.out
                  obtain ⟨W1, hW1⟩ : ∃ W1, U1 ++ V1 = W1 := ⟨_, rfl⟩
                  have p1 : W1.Perm (U1 ++ V1) := by rw [hW1]
                  have s1 : Sorted (ltc cf) W1 := by rw [← hW1]; exact one_sorted sU.left sV.left (by omega)
                  have hA2 : Arr wA b 31 J cells (Lp ++ W1 ++ (U2 ++ V2 ++ Lq)) := by rw [← hW1, show Lp ++ (U1 ++ V1) ++ (U2 ++ V2 ++ Lq) = Lp ++ U1 ++ V1 ++ U2 ++ V2 ++ Lq by simp]; exact hA1
                  obtain ⟨W2, hW2⟩ : ∃ W2, U2 ++ V2 = W2 := ⟨_, rfl⟩
                  have p2 : W2.Perm (U2 ++ V2) := by rw [hW2]
                  have s2 : Sorted (ltc cf) W2 := by rw [← hW2]; exact one_sorted sU.right sV.right (by omega)
                  have hA3 : Arr wA b 31 J cells (Lp ++ W1 ++ W2 ++ Lq) := by rw [← hW2, show Lp ++ W1 ++ (U2 ++ V2) ++ Lq = Lp ++ W1 ++ (U2 ++ V2 ++ Lq) by simp]; exact hA2
                  have hF := merge_fin hT sU sV c1 c2 p1 p2 s1 s2
                  go_end0
                  exact ⟨rfl, W1 ++ W2, by rw [hUU, hVV]; exact hF.1, hF.2, by rw [show Lp ++ (W1 ++ W2) ++ Lq = Lp ++ W1 ++ W2 ++ Lq by simp]; exact hA3, (hB.trans hbA)⟩
              · have i2a : ¬ (mid : Int) < (en : Int) := by omega
                have d2a : decide ((mid : Int) < (en : Int)) = false := decide_eq_false i2a
                obtain ⟨hLe, hUU, hVV, l1, l2, l3, l4, sU, sV, c1, c2⟩ := HLL.out
                obtain ⟨b1, b2, b3, b4, b5, b6, b7, b8⟩ := HB.out
                have hro := HRO.out (by omega) (by omega)
                have t1 := Lib.hid True.intro
                clear hLe hUU hVV l1 l2 l3 l4 sU sV c1 c2 b1 b2 b3 b4 b5 b6 b7 b8
                go_wp2_with (first | (go_at_call 123; refine (hro _ hA).mono ?_; rintro en1 wA ⟨rfl, hA1, hbA⟩))
                obtain ⟨hLe, hUU, hVV, l1, l2, l3, l4, sU, sV, c1, c2⟩ := HLL.out
                obtain ⟨b1, b2, b3, b4, b5, b6, b7, b8⟩ := HB.out
                obtain ⟨W1, hW1⟩ : ∃ W1, U1 ++ V1 = W1 := ⟨_, rfl⟩
                have p1 : W1.Perm (U1 ++ V1) := by rw [hW1]
                have s1 : Sorted (ltc cf) W1 := by rw [← hW1]; exact one_sorted sU.left sV.left (by omega)
                have hA2 : Arr wA b 31 J cells (Lp ++ W1 ++ (U2 ++ V2 ++ Lq)) := by rw [← hW1, show Lp ++ (U1 ++ V1) ++ (U2 ++ V2 ++ Lq) = Lp ++ U1 ++ V1 ++ U2 ++ V2 ++ Lq by simp]; exact hA1
                obtain ⟨W2, hW2⟩ : ∃ W2, U2 ++ V2 = W2 := ⟨_, rfl⟩
                have p2 : W2.Perm (U2 ++ V2) := by rw [hW2]
                have s2 : Sorted (ltc cf) W2 := by rw [← hW2]; exact one_sorted sU.right sV.right (by omega)
                have hA3 : Arr wA b 31 J cells (Lp ++ W1 ++ W2 ++ Lq) := by rw [← hW2, show Lp ++ W1 ++ (U2 ++ V2) ++ Lq = Lp ++ W1 ++ (U2 ++ V2 ++ Lq) by simp]; exact hA2
                have hF := merge_fin hT sU sV c1 c2 p1 p2 s1 s2
                go_end0
                exact ⟨rfl, W1 ++ W2, by rw [hUU, hVV]; exact hF.1, hF.2, by rw [show Lp ++ (W1 ++ W2) ++ Lq = Lp ++ W1 ++ W2 ++ Lq by simp]; exact hA3, (hB.trans hbA)⟩
          · have i0b : ¬ (m : Int) < (en : Int) := by omega
            have d0b : decide ((m : Int) < (en : Int)) = false := decide_eq_false i0b
            by_cases k1a : a < i
            · have i1a : (a : Int) < (i : Int) := by omega
              have d1a : decide ((a : Int) < (i : Int)) = true := decide_eq_true i1a
              by_cases k1b : i < mid
              · have i1b : (i : Int) < (mid : Int) := by omega
                have d1b : decide ((i : Int) < (mid : Int)) = true := decide_eq_true i1b
                by_cases k2a : mid < en
                · have i2a : (mid : Int) < (en : Int) := by omega
                  have d2a : decide ((mid : Int) < (en : Int)) = true := decide_eq_true i2a
                  by_cases k2b : en < e
                  · have i2b : (en : Int) < (e : Int) := by omega
                    have d2b : decide ((en : Int) < (e : Int)) = true := decide_eq_true i2b
                    obtain ⟨hLe, hUU, hVV, l1, l2, l3, l4, sU, sV, c1, c2⟩ := HLL.out
                    obtain ⟨b1, b2, b3, b4, b5, b6, b7, b8⟩ := HB.out
                    have hA1 : Arr wr b 31 J cells (Lp ++ U1 ++ V1 ++ U2 ++ V2 ++ Lq) := by rw [← no_rot (by omega), ← hLe]; exact hA
                    have hs1 := HS1.out (by omega) (by omega)
                    have hs2 := HS2.out (by omega) (by omega)
                    have t1 := Lib.hid True.intro
                    clear hLe hUU hVV l1 l2 l3 l4 sU sV c1 c2 b1 b2 b3 b4 b5 b6 b7 b8
                    go_wp2_with (first | (go_at_call 114; have Tz := t1; clear Tz t1; refine (hs1 _ hA1).mono ?_; rintro en2 wB ⟨rfl, W1, p1, s1, hA2, hbB⟩) | (go_at_call 114; refine (hs2 W1 _ (by rw [p1.length_eq, List.length_append]) hA2).mono ?_; rintro en3 wC ⟨rfl, W2, p2, s2, hA3, hbC⟩))
                    obtain ⟨hLe, hUU, hVV, l1, l2, l3, l4, sU, sV, c1, c2⟩ := HLL.out
                    obtain ⟨b1, b2, b3, b4, b5, b6, b7, b8⟩ := HB.out
                    have hF := merge_fin hT sU sV c1 c2 p1 p2 s1 s2
                    go_end0
                    exact ⟨rfl, W1 ++ W2, by rw [hUU, hVV]; exact hF.1, hF.2, by rw [show Lp ++ (W1 ++ W2) ++ Lq = Lp ++ W1 ++ W2 ++ Lq by simp]; exact hA3, ((hB.trans hbB).trans hbC)⟩
                  · have i2b : ¬ (en : Int) < (e : Int) := by omega
                    have d2b : decide ((en : Int) < (e : Int)) = false := decide_eq_false i2b
                    obtain ⟨hLe, hUU, hVV, l1, l2, l3, l4, sU, sV, c1, c2⟩ := HLL.out
                    obtain ⟨b1, b2, b3, b4, b5, b6, b7, b8⟩ := HB.out
                    have hA1 : Arr wr b 31 J cells (Lp ++ U1 ++ V1 ++ U2 ++ V2 ++ Lq) := by rw [← no_rot (by omega), ← hLe]; exact hA
                    have hs1 := HS1.out (by omega) (by omega)
                    have t1 := Lib.hid True.intro
                    clear hLe hUU hVV l1 l2 l3 l4 sU sV c1 c2 b1 b2 b3 b4 b5 b6 b7 b8
                    go_wp2_with (first | (go_at_call 114; have Tz := t1; clear Tz t1; refine (hs1 _ hA1).mono ?_; rintro en2 wB ⟨rfl, W1, p1, s1, hA2, hbB⟩))
                    obtain ⟨hLe, hUU, hVV, l1, l2, l3, l4, sU, sV, c1, c2⟩ := HLL.out
                    obtain ⟨b1, b2, b3, b4, b5, b6, b7, b8⟩ := HB.out
                    obtain ⟨W2, hW2⟩ : ∃ W2, U2 ++ V2 = W2 := ⟨_, rfl⟩
                    have p2 : W2.Perm (U2 ++ V2) := by rw [hW2]
                    have s2 : Sorted (ltc cf) W2 := by rw [← hW2]; exact one_sorted sU.right sV.right (by omega)
                    have hA3 : Arr wB b 31 J cells (Lp ++ W1 ++ W2 ++ Lq) := by rw [← hW2, show Lp ++ W1 ++ (U2 ++ V2) ++ Lq = Lp ++ W1 ++ (U2 ++ V2 ++ Lq) by simp]; exact hA2
                    have hF := merge_fin hT sU sV c1 c2 p1 p2 s1 s2
                    go_end0
                    exact ⟨rfl, W1 ++ W2, by rw [hUU, hVV]; exact hF.1, hF.2, by rw [show Lp ++ (W1 ++ W2) ++ Lq = Lp ++ W1 ++ W2 ++ Lq by simp]; exact hA3, (hB.trans hbB)⟩
                · have i2a : ¬ (mid : Int) < (en : Int) := by omega
                  have d2a : decide ((mid : Int) < (en : Int)) = false := decide_eq_false i2a
                  obtain ⟨hLe, hUU, hVV, l1, l2, l3, l4, sU, sV, c1, c2⟩ := HLL.out
                  obtain ⟨b1, b2, b3, b4, b5, b6, b7, b8⟩ := HB.out
                  have hA1 : Arr wr b 31 J cells (Lp ++ U1 ++ V1 ++ U2 ++ V2 ++ Lq) := by rw [← no_rot (by omega), ← hLe]; exact hA
                  have hs1 := HS1.out (by omega) (by omega)
                  have t1 := Lib.hid True.intro
                  clear hLe hUU hVV l1 l2 l3 l4 sU sV c1 c2 b1 b2 b3 b4 b5 b6 b7 b8
                  go_wp2_with (first | (go_at_call 114; have Tz := t1; clear Tz t1; refine (hs1 _ hA1).mono ?_; rintro en2 wB ⟨rfl, W1, p1, s1, hA2, hbB⟩))
                  obtain ⟨hLe, hUU, hVV, l1, l2, l3, l4, sU, sV, c1, c2⟩ := HLL.out
                  obtain ⟨b1, b2, b3, b4, b5, b6, b7, b8⟩ := HB.out
                  obtain ⟨W2, hW2⟩ : ∃ W2, U2 ++ V2 = W2 := ⟨_, rfl⟩
                  have p2 : W2.Perm (U2 ++ V2) := by rw [hW2]
                  have s2 : Sorted (ltc cf) W2 := by rw [← hW2]; exact one_sorted sU.right sV.right (by omega)
                  have hA3 : Arr wB b 31 J cells (Lp ++ W1 ++ W2 ++ Lq) := by rw [← hW2, show Lp ++ W1 ++ (U2 ++ V2) ++ Lq = Lp ++ W1 ++ (U2 ++ V2 ++ Lq) by simp]; exact hA2
                  have hF := merge_fin hT sU sV c1 c2 p1 p2 s1 s2
                  go_end0
                  exact ⟨rfl, W1 ++ W2, by rw [hUU, hVV]; exact hF.1, hF.2, by rw [show Lp ++ (W1 ++ W2) ++ Lq = Lp ++ W1 ++ W2 ++ Lq by simp]; exact hA3, (hB.trans hbB)⟩
              · have i1b : ¬ (i : Int) < (mid : Int) := by omega
                have d1b : decide ((i : Int) < (mid : Int)) = false := decide_eq_false i1b
                by_cases k2a : mid < en
                · have i2a : (mid : Int) < (en : Int) := by omega
                  have d2a : decide ((mid : Int) < (en : Int)) = true := decide_eq_true i2a
                  by_cases k2b : en < e
                  · have i2b : (en : Int) < (e : Int) := by omega
                    have d2b : decide ((en : Int) < (e : Int)) = true := decide_eq_true i2b
                    obtain ⟨hLe, hUU, hVV, l1, l2, l3, l4, sU, sV, c1, c2⟩ := HLL.out
                    obtain ⟨b1, b2, b3, b4, b5, b6, b7, b8⟩ := HB.out
                    have hA1 : Arr wr b 31 J cells (Lp ++ U1 ++ V1 ++ U2 ++ V2 ++ Lq) := by rw [← no_rot (by omega), ← hLe]; exact hA
                    have hs2 := HS2.out (by omega) (by omega)
                    have t1 := Lib.hid True.intro
                    clear hLe hUU hVV l1 l2 l3 l4 sU sV c1 c2 b1 b2 b3 b4 b5 b6 b7 b8
                    go_wp2_with (first | (go_at_call 114; refine (hs2 (U1 ++ V1) _ (by rw [List.length_append]) (by rw [show Lp ++ (U1 ++ V1) ++ (U2 ++ V2 ++ Lq) = Lp ++ U1 ++ V1 ++ U2 ++ V2 ++ Lq by simp]; exact hA1)).mono ?_; rintro en3 wC ⟨rfl, W2, p2, s2, hA3, hbC⟩))
                    obtain ⟨hLe, hUU, hVV, l1, l2, l3, l4, sU, sV, c1, c2⟩ := HLL.out
                    obtain ⟨b1, b2, b3, b4, b5, b6, b7, b8⟩ := HB.out
                    obtain ⟨W1, hW1⟩ : ∃ W1, U1 ++ V1 = W1 := ⟨_, rfl⟩
                    have p1 : W1.Perm (U1 ++ V1) := by rw [hW1]
                    have s1 : Sorted (ltc cf) W1 := by rw [← hW1]; exact one_sorted sU.left sV.left (by omega)
                    have hA2 : Arr wr b 31 J cells (Lp ++ W1 ++ (U2 ++ V2 ++ Lq)) := by rw [← hW1, show Lp ++ (U1 ++ V1) ++ (U2 ++ V2 ++ Lq) = Lp ++ U1 ++ V1 ++ U2 ++ V2 ++ Lq by simp]; exact hA1
                    rw [hW1] at hA3
                    have hF := merge_fin hT sU sV c1 c2 p1 p2 s1 s2
                    go_end0
                    exact ⟨rfl, W1 ++ W2, by rw [hUU, hVV]; exact hF.1, hF.2, by rw [show Lp ++ (W1 ++ W2) ++ Lq = Lp ++ W1 ++ W2 ++ Lq by simp]; exact hA3, (hB.trans hbC)⟩
                  · have i2b : ¬ (en : Int) < (e : Int) := by omega
                    have d2b : decide ((en : Int) < (e : Int)) = false := decide_eq_false i2b
                    obtain ⟨hLe, hUU, hVV, l1, l2, l3, l4, sU, sV, c1, c2⟩ := HLL.out
                    obtain ⟨b1, b2, b3, b4, b5, b6, b7, b8⟩ := HB.out
                    have hA1 : Arr wr b 31 J cells (Lp ++ U1 ++ V1 ++ U2 ++ V2 ++ Lq) := by rw [← no_rot (by omega), ← hLe]; exact hA
                    have t1 := Lib.hid True.intro
                    clear hLe hUU hVV l1 l2 l3 l4 sU sV c1 c2 b1 b2 b3 b4 b5 b6 b7 b8
                    go_wp2
                    obtain ⟨hLe, hUU, hVV, l1, l2, l3, l4, sU, sV, c1, c2⟩ := HLL.out
                    obtain ⟨b1, b2, b3, b4, b5, b6, b7, b8⟩ := HB.out
                    obtain ⟨W1, hW1⟩ : ∃ W1, U1 ++ V1 = W1 := ⟨_, rfl⟩
                    have p1 : W1.Perm (U1 ++ V1) := by rw [hW1]
                    have s1 : Sorted (ltc cf) W1 := by rw [← hW1]; exact one_sorted sU.left sV.left (by omega)
                    have hA2 : Arr wr b 31 J cells (Lp ++ W1 ++ (U2 ++ V2 ++ Lq)) := by rw [← hW1, show Lp ++ (U1 ++ V1) ++ (U2 ++ V2 ++ Lq) = Lp ++ U1 ++ V1 ++ U2 ++ V2 ++ Lq by simp]; exact hA1
                    obtain ⟨W2, hW2⟩ : ∃ W2, U2 ++ V2 = W2 := ⟨_, rfl⟩
                    have p2 : W2.Perm (U2 ++ V2) := by rw [hW2]
                    have s2 : Sorted (ltc cf) W2 := by rw [← hW2]; exact one_sorted sU.right sV.right (by omega)
                    have hA3 : Arr wr b 31 J cells (Lp ++ W1 ++ W2 ++ Lq) := by rw [← hW2, show Lp ++ W1 ++ (U2 ++ V2) ++ Lq = Lp ++ W1 ++ (U2 ++ V2 ++ Lq) by simp]; exact hA2
                    have hF := merge_fin hT sU sV c1 c2 p1 p2 s1 s2
                    go_end0
                    exact ⟨rfl, W1 ++ W2, by rw [hUU, hVV]; exact hF.1, hF.2, by rw [show Lp ++ (W1 ++ W2) ++ Lq = Lp ++ W1 ++ W2 ++ Lq by simp]; exact hA3, hB⟩
                · have i2a : ¬ (mid : Int) < (en : Int) := by omega
                  have d2a : decide ((mid : Int) < (en : Int)) = false := decide_eq_false i2a
                  obtain ⟨hLe, hUU, hVV, l1, l2, l3, l4, sU, sV, c1, c2⟩ := HLL.out
                  obtain ⟨b1, b2, b3, b4, b5, b6, b7, b8⟩ := HB.out
                  have hA1 : Arr wr b 31 J cells (Lp ++ U1 ++ V1 ++ U2 ++ V2 ++ Lq) := by rw [← no_rot (by omega), ← hLe]; exact hA
                  have t1 := Lib.hid True.intro
                  clear hLe hUU hVV l1 l2 l3 l4 sU sV c1 c2 b1 b2 b3 b4 b5 b6 b7 b8
                  go_wp2
                  obtain ⟨hLe, hUU, hVV, l1, l2, l3, l4, sU, sV, c1, c2⟩ := HLL.out
                  obtain ⟨b1, b2, b3, b4, b5, b6, b7, b8⟩ := HB.out
                  obtain ⟨W1, hW1⟩ : ∃ W1, U1 ++ V1 = W1 := ⟨_, rfl⟩
                  have p1 : W1.Perm (U1 ++ V1) := by rw [hW1]
                  have s1 : Sorted (ltc cf) W1 := by rw [← hW1]; exact one_sorted sU.left sV.left (by omega)
                  have hA2 : Arr wr b 31 J cells (Lp ++ W1 ++ (U2 ++ V2 ++ Lq)) := by rw [← hW1, show Lp ++ (U1 ++ V1) ++ (U2 ++ V2 ++ Lq) = Lp ++ U1 ++ V1 ++ U2 ++ V2 ++ Lq by simp]; exact hA1
                  obtain ⟨W2, hW2⟩ : ∃ W2, U2 ++ V2 = W2 := ⟨_, rfl⟩
                  have p2 : W2.Perm (U2 ++ V2) := by rw [hW2]
                  have s2 : Sorted (ltc cf) W2 := by rw [← hW2]; exact one_sorted sU.right sV.right (by omega)
                  have hA3 : Arr wr b 31 J cells (Lp ++ W1 ++ W2 ++ Lq) := by rw [← hW2, show Lp ++ W1 ++ (U2 ++ V2) ++ Lq = Lp ++ W1 ++ (U2 ++ V2 ++ Lq) by simp]; exact hA2
                  have hF := merge_fin hT sU sV c1 c2 p1 p2 s1 s2
                  go_end0
                  exact ⟨rfl, W1 ++ W2, by rw [hUU, hVV]; exact hF.1, hF.2, by rw [show Lp ++ (W1 ++ W2) ++ Lq = Lp ++ W1 ++ W2 ++ Lq by simp]; exact hA3, hB⟩
            · have i1a : ¬ (a : Int) < (i : Int) := by omega
              have d1a : decide ((a : Int) < (i : Int)) = false := decide_eq_false i1a
              by_cases k2a : mid < en
              · have i2a : (mid : Int) < (en : Int) := by omega
                have d2a : decide ((mid : Int) < (en : Int)) = true := decide_eq_true i2a
                by_cases k2b : en < e
                · have i2b : (en : Int) < (e : Int) := by omega
                  have d2b : decide ((en : Int) < (e : Int)) = true := decide_eq_true i2b
                  obtain ⟨hLe, hUU, hVV, l1, l2, l3, l4, sU, sV, c1, c2⟩ := HLL.out
                  obtain ⟨b1, b2, b3, b4, b5, b6, b7, b8⟩ := HB.out
                  have hA1 : Arr wr b 31 J cells (Lp ++ U1 ++ V1 ++ U2 ++ V2 ++ Lq) := by rw [← no_rot (by omega), ← hLe]; exact hA
                  have hs2 := HS2.out (by omega) (by omega)
                  have t1 := Lib.hid True.intro
                  clear hLe hUU hVV l1 l2 l3 l4 sU sV c1 c2 b1 b2 b3 b4 b5 b6 b7 b8
                  go_wp2_with (first | (go_at_call 114; refine (hs2 (U1 ++ V1) _ (by rw [List.length_append]) (by rw [show Lp ++ (U1 ++ V1) ++ (U2 ++ V2 ++ Lq) = Lp ++ U1 ++ V1 ++ U2 ++ V2 ++ Lq by simp]; exact hA1)).mono ?_; rintro en3 wC ⟨rfl, W2, p2, s2, hA3, hbC⟩))
                  obtain ⟨hLe, hUU, hVV, l1, l2, l3, l4, sU, sV, c1, c2⟩ := HLL.out
                  obtain ⟨b1, b2, b3, b4, b5, b6, b7, b8⟩ := HB.out
                  obtain ⟨W1, hW1⟩ : ∃ W1, U1 ++ V1 = W1 := ⟨_, rfl⟩
                  have p1 : W1.Perm (U1 ++ V1) := by rw [hW1]
                  have s1 : Sorted (ltc cf) W1 := by rw [← hW1]; exact one_sorted sU.left sV.left (by omega)
                  have hA2 : Arr wr b 31 J cells (Lp ++ W1 ++ (U2 ++ V2 ++ Lq)) := by rw [← hW1, show Lp ++ (U1 ++ V1) ++ (U2 ++ V2 ++ Lq) = Lp ++ U1 ++ V1 ++ U2 ++ V2 ++ Lq by simp]; exact hA1
                  rw [hW1] at hA3
                  have hF := merge_fin hT sU sV c1 c2 p1 p2 s1 s2
                  go_end0
                  exact ⟨rfl, W1 ++ W2, by rw [hUU, hVV]; exact hF.1, hF.2, by rw [show Lp ++ (W1 ++ W2) ++ Lq = Lp ++ W1 ++ W2 ++ Lq by simp]; exact hA3, (hB.trans hbC)⟩
                · have i2b : ¬ (en : Int) < (e : Int) := by omega
                  have d2b : decide ((en : Int) < (e : Int)) = false := decide_eq_false i2b
                  obtain ⟨hLe, hUU, hVV, l1, l2, l3, l4, sU, sV, c1, c2⟩ := HLL.out
                  obtain ⟨b1, b2, b3, b4, b5, b6, b7, b8⟩ := HB.out
                  have hA1 : Arr wr b 31 J cells (Lp ++ U1 ++ V1 ++ U2 ++ V2 ++ Lq) := by rw [← no_rot (by omega), ← hLe]; exact hA
                  have t1 := Lib.hid True.intro
                  clear hLe hUU hVV l1 l2 l3 l4 sU sV c1 c2 b1 b2 b3 b4 b5 b6 b7 b8
                  go_wp2
                  obtain ⟨hLe, hUU, hVV, l1, l2, l3, l4, sU, sV, c1, c2⟩ := HLL.out
                  obtain ⟨b1, b2, b3, b4, b5, b6, b7, b8⟩ := HB.out
                  obtain ⟨W1, hW1⟩ : ∃ W1, U1 ++ V1 = W1 := ⟨_, rfl⟩
                  have p1 : W1.Perm (U1 ++ V1) := by rw [hW1]
                  have s1 : Sorted (ltc cf) W1 := by rw [← hW1]; exact one_sorted sU.left sV.left (by omega)
                  have hA2 : Arr wr b 31 J cells (Lp ++ W1 ++ (U2 ++ V2 ++ Lq)) := by rw [← hW1, show Lp ++ (U1 ++ V1) ++ (U2 ++ V2 ++ Lq) = Lp ++ U1 ++ V1 ++ U2 ++ V2 ++ Lq by simp]; exact hA1
                  obtain ⟨W2, hW2⟩ : ∃ W2, U2 ++ V2 = W2 := ⟨_, rfl⟩
                  have p2 : W2.Perm (U2 ++ V2) := by rw [hW2]
                  have s2 : Sorted (ltc cf) W2 := by rw [← hW2]; exact one_sorted sU.right sV.right (by omega)
                  have hA3 : Arr wr b 31 J cells (Lp ++ W1 ++ W2 ++ Lq) := by rw [← hW2, show Lp ++ W1 ++ (U2 ++ V2) ++ Lq = Lp ++ W1 ++ (U2 ++ V2 ++ Lq) by simp]; exact hA2
                  have hF := merge_fin hT sU sV c1 c2 p1 p2 s1 s2
                  go_end0
                  exact ⟨rfl, W1 ++ W2, by rw [hUU, hVV]; exact hF.1, hF.2, by rw [show Lp ++ (W1 ++ W2) ++ Lq = Lp ++ W1 ++ W2 ++ Lq by simp]; exact hA3, hB⟩
              · have i2a : ¬ (mid : Int) < (en : Int) := by omega
                have d2a : decide ((mid : Int) < (en : Int)) = false := decide_eq_false i2a
                obtain ⟨hLe, hUU, hVV, l1, l2, l3, l4, sU, sV, c1, c2⟩ := HLL.out
                obtain ⟨b1, b2, b3, b4, b5, b6, b7, b8⟩ := HB.out
                have hA1 : Arr wr b 31 J cells (Lp ++ U1 ++ V1 ++ U2 ++ V2 ++ Lq) := by rw [← no_rot (by omega), ← hLe]; exact hA
                have t1 := Lib.hid True.intro
                clear hLe hUU hVV l1 l2 l3 l4 sU sV c1 c2 b1 b2 b3 b4 b5 b6 b7 b8
                go_wp2
                obtain ⟨hLe, hUU, hVV, l1, l2, l3, l4, sU, sV, c1, c2⟩ := HLL.out
                obtain ⟨b1, b2, b3, b4, b5, b6, b7, b8⟩ := HB.out
                obtain ⟨W1, hW1⟩ : ∃ W1, U1 ++ V1 = W1 := ⟨_, rfl⟩
                have p1 : W1.Perm (U1 ++ V1) := by rw [hW1]
                have s1 : Sorted (ltc cf) W1 := by rw [← hW1]; exact one_sorted sU.left sV.left (by omega)
                have hA2 : Arr wr b 31 J cells (Lp ++ W1 ++ (U2 ++ V2 ++ Lq)) := by rw [← hW1, show Lp ++ (U1 ++ V1) ++ (U2 ++ V2 ++ Lq) = Lp ++ U1 ++ V1 ++ U2 ++ V2 ++ Lq by simp]; exact hA1
                obtain ⟨W2, hW2⟩ : ∃ W2, U2 ++ V2 = W2 := ⟨_, rfl⟩
                have p2 : W2.Perm (U2 ++ V2) := by rw [hW2]
                have s2 : Sorted (ltc cf) W2 := by rw [← hW2]; exact one_sorted sU.right sV.right (by omega)
                have hA3 : Arr wr b 31 J cells (Lp ++ W1 ++ W2 ++ Lq) := by rw [← hW2, show Lp ++ W1 ++ (U2 ++ V2) ++ Lq = Lp ++ W1 ++ (U2 ++ V2 ++ Lq) by simp]; exact hA2
                have hF := merge_fin hT sU sV c1 c2 p1 p2 s1 s2
                go_end0
                exact ⟨rfl, W1 ++ W2, by rw [hUU, hVV]; exact hF.1, hF.2, by rw [show Lp ++ (W1 ++ W2) ++ Lq = Lp ++ W1 ++ W2 ++ Lq by simp]; exact hA3, hB⟩
        · have i0a : ¬ (i : Int) < (m : Int) := by omega
          have d0a : decide ((i : Int) < (m : Int)) = false := decide_eq_false i0a
          by_cases k1a : a < i
          · have i1a : (a : Int) < (i : Int) := by omega
            have d1a : decide ((a : Int) < (i : Int)) = true := decide_eq_true i1a
            by_cases k1b : i < mid
            · have i1b : (i : Int) < (mid : Int) := by omega
              have d1b : decide ((i : Int) < (mid : Int)) = true := decide_eq_true i1b
              by_cases k2a : mid < en
              · have i2a : (mid : Int) < (en : Int) := by omega
                have d2a : decide ((mid : Int) < (en : Int)) = true := decide_eq_true i2a
                by_cases k2b : en < e
                · have i2b : (en : Int) < (e : Int) := by omega
                  have d2b : decide ((en : Int) < (e : Int)) = true := decide_eq_true i2b
                  obtain ⟨hLe, hUU, hVV, l1, l2, l3, l4, sU, sV, c1, c2⟩ := HLL.out
                  obtain ⟨b1, b2, b3, b4, b5, b6, b7, b8⟩ := HB.out
                  have hA1 : Arr wr b 31 J cells (Lp ++ U1 ++ V1 ++ U2 ++ V2 ++ Lq) := by rw [← no_rot (by omega), ← hLe]; exact hA
                  have hs1 := HS1.out (by omega) (by omega)
                  have hs2 := HS2.out (by omega) (by omega)
                  have t1 := Lib.hid True.intro
                  clear hLe hUU hVV l1 l2 l3 l4 sU sV c1 c2 b1 b2 b3 b4 b5 b6 b7 b8
                  go_wp2_with (first | (go_at_call 114; have Tz := t1; clear Tz t1; refine (hs1 _ hA1).mono ?_; rintro en2 wB ⟨rfl, W1, p1, s1, hA2, hbB⟩) | (go_at_call 114; refine (hs2 W1 _ (by rw [p1.length_eq, List.length_append]) hA2).mono ?_; rintro en3 wC ⟨rfl, W2, p2, s2, hA3, hbC⟩))
                  obtain ⟨hLe, hUU, hVV, l1, l2, l3, l4, sU, sV, c1, c2⟩ := HLL.out
                  obtain ⟨b1, b2, b3, b4, b5, b6, b7, b8⟩ := HB.out
                  have hF := merge_fin hT sU sV c1 c2 p1 p2 s1 s2
                  go_end0
                  exact ⟨rfl, W1 ++ W2, by rw [hUU, hVV]; exact hF.1, hF.2, by rw [show Lp ++ (W1 ++ W2) ++ Lq = Lp ++ W1 ++ W2 ++ Lq by simp]; exact hA3, ((hB.trans hbB).trans hbC)⟩
                · have i2b : ¬ (en : Int) < (e : Int) := by omega
                  have d2b : decide ((en : Int) < (e : Int)) = false := decide_eq_false i2b
                  obtain ⟨hLe, hUU, hVV, l1, l2, l3, l4, sU, sV, c1, c2⟩ := HLL.out
                  obtain ⟨b1, b2, b3, b4, b5, b6, b7, b8⟩ := HB.out
                  have hA1 : Arr wr b 31 J cells (Lp ++ U1 ++ V1 ++ U2 ++ V2 ++ Lq) := by rw [← no_rot (by omega), ← hLe]; exact hA
                  have hs1 := HS1.out (by omega) (by omega)
                  have t1 := Lib.hid True.intro
                  clear hLe hUU hVV l1 l2 l3 l4 sU sV c1 c2 b1 b2 b3 b4 b5 b6 b7 b8
                  go_wp2_with (first | (go_at_call 114; have Tz := t1; clear Tz t1; refine (hs1 _ hA1).mono ?_; rintro en2 wB ⟨rfl, W1, p1, s1, hA2, hbB⟩))
                  obtain ⟨hLe, hUU, hVV, l1, l2, l3, l4, sU, sV, c1, c2⟩ := HLL.out
                  obtain ⟨b1, b2, b3, b4, b5, b6, b7, b8⟩ := HB.out
                  obtain ⟨W2, hW2⟩ : ∃ W2, U2 ++ V2 = W2 := ⟨_, rfl⟩
                  have p2 : W2.Perm (U2 ++ V2) := by rw [hW2]
                  have s2 : Sorted (ltc cf) W2 := by rw [← hW2]; exact one_sorted sU.right sV.right (by omega)
                  have hA3 : Arr wB b 31 J cells (Lp ++ W1 ++ W2 ++ Lq) := by rw [← hW2, show Lp ++ W1 ++ (U2 ++ V2) ++ Lq = Lp ++ W1 ++ (U2 ++ V2 ++ Lq) by simp]; exact hA2
                  have hF := merge_fin hT sU sV c1 c2 p1 p2 s1 s2
                  go_end0
                  exact ⟨rfl, W1 ++ W2, by rw [hUU, hVV]; exact hF.1, hF.2, by rw [show Lp ++ (W1 ++ W2) ++ Lq = Lp ++ W1 ++ W2 ++ Lq by simp]; exact hA3, (hB.trans hbB)⟩
              · have i2a : ¬ (mid : Int) < (en : Int) := by omega
                have d2a : decide ((mid : Int) < (en : Int)) = false := decide_eq_false i2a
                obtain ⟨hLe, hUU, hVV, l1, l2, l3, l4, sU, sV, c1, c2⟩ := HLL.out
                obtain ⟨b1, b2, b3, b4, b5, b6, b7, b8⟩ := HB.out
                have hA1 : Arr wr b 31 J cells (Lp ++ U1 ++ V1 ++ U2 ++ V2 ++ Lq) := by rw [← no_rot (by omega), ← hLe]; exact hA
                have hs1 := HS1.out (by omega) (by omega)
                have t1 := Lib.hid True.intro
                clear hLe hUU hVV l1 l2 l3 l4 sU sV c1 c2 b1 b2 b3 b4 b5 b6 b7 b8
                go_wp2_with (first | (go_at_call 114; have Tz := t1; clear Tz t1; refine (hs1 _ hA1).mono ?_; rintro en2 wB ⟨rfl, W1, p1, s1, hA2, hbB⟩))
                obtain ⟨hLe, hUU, hVV, l1, l2, l3, l4, sU, sV, c1, c2⟩ := HLL.out
                obtain ⟨b1, b2, b3, b4, b5, b6, b7, b8⟩ := HB.out
                obtain ⟨W2, hW2⟩ : ∃ W2, U2 ++ V2 = W2 := ⟨_, rfl⟩
                have p2 : W2.Perm (U2 ++ V2) := by rw [hW2]
                have s2 : Sorted (ltc cf) W2 := by rw [← hW2]; exact one_sorted sU.right sV.right (by omega)
                have hA3 : Arr wB b 31 J cells (Lp ++ W1 ++ W2 ++ Lq) := by rw [← hW2, show Lp ++ W1 ++ (U2 ++ V2) ++ Lq = Lp ++ W1 ++ (U2 ++ V2 ++ Lq) by simp]; exact hA2
                have hF := merge_fin hT sU sV c1 c2 p1 p2 s1 s2
                go_end0
                exact ⟨rfl, W1 ++ W2, by rw [hUU, hVV]; exact hF.1, hF.2, by rw [show Lp ++ (W1 ++ W2) ++ Lq = Lp ++ W1 ++ W2 ++ Lq by simp]; exact hA3, (hB.trans hbB)⟩
            · have i1b : ¬ (i : Int) < (mid : Int) := by omega
              have d1b : decide ((i : Int) < (mid : Int)) = false := decide_eq_false i1b
              by_cases k2a : mid < en
              · have i2a : (mid : Int) < (en : Int) := by omega
                have d2a : decide ((mid : Int) < (en : Int)) = true := decide_eq_true i2a
                by_cases k2b : en < e
                · have i2b : (en : Int) < (e : Int) := by omega
                  have d2b : decide ((en : Int) < (e : Int)) = true := decide_eq_true i2b
                  obtain ⟨hLe, hUU, hVV, l1, l2, l3, l4, sU, sV, c1, c2⟩ := HLL.out
                  obtain ⟨b1, b2, b3, b4, b5, b6, b7, b8⟩ := HB.out
                  have hA1 : Arr wr b 31 J cells (Lp ++ U1 ++ V1 ++ U2 ++ V2 ++ Lq) := by rw [← no_rot (by omega), ← hLe]; exact hA
                  have hs2 := HS2.out (by omega) (by omega)
                  have t1 := Lib.hid True.intro
                  clear hLe hUU hVV l1 l2 l3 l4 sU sV c1 c2 b1 b2 b3 b4 b5 b6 b7 b8
                  go_wp2_with (first | (go_at_call 114; refine (hs2 (U1 ++ V1) _ (by rw [List.length_append]) (by rw [show Lp ++ (U1 ++ V1) ++ (U2 ++ V2 ++ Lq) = Lp ++ U1 ++ V1 ++ U2 ++ V2 ++ Lq by simp]; exact hA1)).mono ?_; rintro en3 wC ⟨rfl, W2, p2, s2, hA3, hbC⟩))
                  obtain ⟨hLe, hUU, hVV, l1, l2, l3, l4, sU, sV, c1, c2⟩ := HLL.out
                  obtain ⟨b1, b2, b3, b4, b5, b6, b7, b8⟩ := HB.out
                  obtain ⟨W1, hW1⟩ : ∃ W1, U1 ++ V1 = W1 := ⟨_, rfl⟩
                  have p1 : W1.Perm (U1 ++ V1) := by rw [hW1]
                  have s1 : Sorted (ltc cf) W1 := by rw [← hW1]; exact one_sorted sU.left sV.left (by omega)
                  have hA2 : Arr wr b 31 J cells (Lp ++ W1 ++ (U2 ++ V2 ++ Lq)) := by rw [← hW1, show Lp ++ (U1 ++ V1) ++ (U2 ++ V2 ++ Lq) = Lp ++ U1 ++ V1 ++ U2 ++ V2 ++ Lq by simp]; exact hA1
                  rw [hW1] at hA3
                  have hF := merge_fin hT sU sV c1 c2 p1 p2 s1 s2
                  go_end0
                  exact ⟨rfl, W1 ++ W2, by rw [hUU, hVV]; exact hF.1, hF.2, by rw [show Lp ++ (W1 ++ W2) ++ Lq = Lp ++ W1 ++ W2 ++ Lq by simp]; exact hA3, (hB.trans hbC)⟩
                · have i2b : ¬ (en : Int) < (e : Int) := by omega
                  have d2b : decide ((en : Int) < (e : Int)) = false := decide_eq_false i2b
                  obtain ⟨hLe, hUU, hVV, l1, l2, l3, l4, sU, sV, c1, c2⟩ := HLL.out
                  obtain ⟨b1, b2, b3, b4, b5, b6, b7, b8⟩ := HB.out
                  have hA1 : Arr wr b 31 J cells (Lp ++ U1 ++ V1 ++ U2 ++ V2 ++ Lq) := by rw [← no_rot (by omega), ← hLe]; exact hA
                  have t1 := Lib.hid True.intro
                  clear hLe hUU hVV l1 l2 l3 l4 sU sV c1 c2 b1 b2 b3 b4 b5 b6 b7 b8
                  go_wp2
                  obtain ⟨hLe, hUU, hVV, l1, l2, l3, l4, sU, sV, c1, c2⟩ := HLL.out
                  obtain ⟨b1, b2, b3, b4, b5, b6, b7, b8⟩ := HB.out
                  obtain ⟨W1, hW1⟩ : ∃ W1, U1 ++ V1 = W1 := ⟨_, rfl⟩
                  have p1 : W1.Perm (U1 ++ V1) := by rw [hW1]
                  have s1 : Sorted (ltc cf) W1 := by rw [← hW1]; exact one_sorted sU.left sV.left (by omega)
                  have hA2 : Arr wr b 31 J cells (Lp ++ W1 ++ (U2 ++ V2 ++ Lq)) := by rw [← hW1, show Lp ++ (U1 ++ V1) ++ (U2 ++ V2 ++ Lq) = Lp ++ U1 ++ V1 ++ U2 ++ V2 ++ Lq by simp]; exact hA1
                  obtain ⟨W2, hW2⟩ : ∃ W2, U2 ++ V2 = W2 := ⟨_, rfl⟩
                  have p2 : W2.Perm (U2 ++ V2) := by rw [hW2]
                  have s2 : Sorted (ltc cf) W2 := by rw [← hW2]; exact one_sorted sU.right sV.right (by omega)
                  have hA3 : Arr wr b 31 J cells (Lp ++ W1 ++ W2 ++ Lq) := by rw [← hW2, show Lp ++ W1 ++ (U2 ++ V2) ++ Lq = Lp ++ W1 ++ (U2 ++ V2 ++ Lq) by simp]; exact hA2
                  have hF := merge_fin hT sU sV c1 c2 p1 p2 s1 s2
                  go_end0
                  exact ⟨rfl, W1 ++ W2, by rw [hUU, hVV]; exact hF.1, hF.2, by rw [show Lp ++ (W1 ++ W2) ++ Lq = Lp ++ W1 ++ W2 ++ Lq by simp]; exact hA3, hB⟩
              · have i2a : ¬ (mid : Int) < (en : Int) := by omega
                have d2a : decide ((mid : Int) < (en : Int)) = false := decide_eq_false i2a
                obtain ⟨hLe, hUU, hVV, l1, l2, l3, l4, sU, sV, c1, c2⟩ := HLL.out
                obtain ⟨b1, b2, b3, b4, b5, b6, b7, b8⟩ := HB.out
                have hA1 : Arr wr b 31 J cells (Lp ++ U1 ++ V1 ++ U2 ++ V2 ++ Lq) := by rw [← no_rot (by omega), ← hLe]; exact hA
                have t1 := Lib.hid True.intro
                clear hLe hUU hVV l1 l2 l3 l4 sU sV c1 c2 b1 b2 b3 b4 b5 b6 b7 b8
                go_wp2
                obtain ⟨hLe, hUU, hVV, l1, l2, l3, l4, sU, sV, c1, c2⟩ := HLL.out
                obtain ⟨b1, b2, b3, b4, b5, b6, b7, b8⟩ := HB.out
                obtain ⟨W1, hW1⟩ : ∃ W1, U1 ++ V1 = W1 := ⟨_, rfl⟩
                have p1 : W1.Perm (U1 ++ V1) := by rw [hW1]
                have s1 : Sorted (ltc cf) W1 := by rw [← hW1]; exact one_sorted sU.left sV.left (by omega)
                have hA2 : Arr wr b 31 J cells (Lp ++ W1 ++ (U2 ++ V2 ++ Lq)) := by rw [← hW1, show Lp ++ (U1 ++ V1) ++ (U2 ++ V2 ++ Lq) = Lp ++ U1 ++ V1 ++ U2 ++ V2 ++ Lq by simp]; exact hA1
                obtain ⟨W2, hW2⟩ : ∃ W2, U2 ++ V2 = W2 := ⟨_, rfl⟩
                have p2 : W2.Perm (U2 ++ V2) := by rw [hW2]
                have s2 : Sorted (ltc cf) W2 := by rw [← hW2]; exact one_sorted sU.right sV.right (by omega)
                have hA3 : Arr wr b 31 J cells (Lp ++ W1 ++ W2 ++ Lq) := by rw [← hW2, show Lp ++ W1 ++ (U2 ++ V2) ++ Lq = Lp ++ W1 ++ (U2 ++ V2 ++ Lq) by simp]; exact hA2
                have hF := merge_fin hT sU sV c1 c2 p1 p2 s1 s2
                go_end0
                exact ⟨rfl, W1 ++ W2, by rw [hUU, hVV]; exact hF.1, hF.2, by rw [show Lp ++ (W1 ++ W2) ++ Lq = Lp ++ W1 ++ W2 ++ Lq by simp]; exact hA3, hB⟩
          · have i1a : ¬ (a : Int) < (i : Int) := by omega
            have d1a : decide ((a : Int) < (i : Int)) = false := decide_eq_false i1a
            by_cases k2a : mid < en
            · have i2a : (mid : Int) < (en : Int) := by omega
              have d2a : decide ((mid : Int) < (en : Int)) = true := decide_eq_true i2a
              by_cases k2b : en < e
              · have i2b : (en : Int) < (e : Int) := by omega
                have d2b : decide ((en : Int) < (e : Int)) = true := decide_eq_true i2b
                obtain ⟨hLe, hUU, hVV, l1, l2, l3, l4, sU, sV, c1, c2⟩ := HLL.out
                obtain ⟨b1, b2, b3, b4, b5, b6, b7, b8⟩ := HB.out
                have hA1 : Arr wr b 31 J cells (Lp ++ U1 ++ V1 ++ U2 ++ V2 ++ Lq) := by rw [← no_rot (by omega), ← hLe]; exact hA
                have hs2 := HS2.out (by omega) (by omega)
                have t1 := Lib.hid True.intro
                clear hLe hUU hVV l1 l2 l3 l4 sU sV c1 c2 b1 b2 b3 b4 b5 b6 b7 b8
                go_wp2_with (first | (go_at_call 114; refine (hs2 (U1 ++ V1) _ (by rw [List.length_append]) (by rw [show Lp ++ (U1 ++ V1) ++ (U2 ++ V2 ++ Lq) = Lp ++ U1 ++ V1 ++ U2 ++ V2 ++ Lq by simp]; exact hA1)).mono ?_; rintro en3 wC ⟨rfl, W2, p2, s2, hA3, hbC⟩))
                obtain ⟨hLe, hUU, hVV, l1, l2, l3, l4, sU, sV, c1, c2⟩ := HLL.out
                obtain ⟨b1, b2, b3, b4, b5, b6, b7, b8⟩ := HB.out
                obtain ⟨W1, hW1⟩ : ∃ W1, U1 ++ V1 = W1 := ⟨_, rfl⟩
                have p1 : W1.Perm (U1 ++ V1) := by rw [hW1]
                have s1 : Sorted (ltc cf) W1 := by rw [← hW1]; exact one_sorted sU.left sV.left (by omega)
                have hA2 : Arr wr b 31 J cells (Lp ++ W1 ++ (U2 ++ V2 ++ Lq)) := by rw [← hW1, show Lp ++ (U1 ++ V1) ++ (U2 ++ V2 ++ Lq) = Lp ++ U1 ++ V1 ++ U2 ++ V2 ++ Lq by simp]; exact hA1
                rw [hW1] at hA3
                have hF := merge_fin hT sU sV c1 c2 p1 p2 s1 s2
                go_end0
                exact ⟨rfl, W1 ++ W2, by rw [hUU, hVV]; exact hF.1, hF.2, by rw [show Lp ++ (W1 ++ W2) ++ Lq = Lp ++ W1 ++ W2 ++ Lq by simp]; exact hA3, (hB.trans hbC)⟩
              · have i2b : ¬ (en : Int) < (e : Int) := by omega
                have d2b : decide ((en : Int) < (e : Int)) = false := decide_eq_false i2b
                obtain ⟨hLe, hUU, hVV, l1, l2, l3, l4, sU, sV, c1, c2⟩ := HLL.out
                obtain ⟨b1, b2, b3, b4, b5, b6, b7, b8⟩ := HB.out
                have hA1 : Arr wr b 31 J cells (Lp ++ U1 ++ V1 ++ U2 ++ V2 ++ Lq) := by rw [← no_rot (by omega), ← hLe]; exact hA
                have t1 := Lib.hid True.intro
                clear hLe hUU hVV l1 l2 l3 l4 sU sV c1 c2 b1 b2 b3 b4 b5 b6 b7 b8
                go_wp2
                obtain ⟨hLe, hUU, hVV, l1, l2, l3, l4, sU, sV, c1, c2⟩ := HLL.out
                obtain ⟨b1, b2, b3, b4, b5, b6, b7, b8⟩ := HB.out
                obtain ⟨W1, hW1⟩ : ∃ W1, U1 ++ V1 = W1 := ⟨_, rfl⟩
                have p1 : W1.Perm (U1 ++ V1) := by rw [hW1]
                have s1 : Sorted (ltc cf) W1 := by rw [← hW1]; exact one_sorted sU.left sV.left (by omega)
                have hA2 : Arr wr b 31 J cells (Lp ++ W1 ++ (U2 ++ V2 ++ Lq)) := by rw [← hW1, show Lp ++ (U1 ++ V1) ++ (U2 ++ V2 ++ Lq) = Lp ++ U1 ++ V1 ++ U2 ++ V2 ++ Lq by simp]; exact hA1
                obtain ⟨W2, hW2⟩ : ∃ W2, U2 ++ V2 = W2 := ⟨_, rfl⟩
                have p2 : W2.Perm (U2 ++ V2) := by rw [hW2]
                have s2 : Sorted (ltc cf) W2 := by rw [← hW2]; exact one_sorted sU.right sV.right (by omega)
                have hA3 : Arr wr b 31 J cells (Lp ++ W1 ++ W2 ++ Lq) := by rw [← hW2, show Lp ++ W1 ++ (U2 ++ V2) ++ Lq = Lp ++ W1 ++ (U2 ++ V2 ++ Lq) by simp]; exact hA2
                have hF := merge_fin hT sU sV c1 c2 p1 p2 s1 s2
                go_end0
                exact ⟨rfl, W1 ++ W2, by rw [hUU, hVV]; exact hF.1, hF.2, by rw [show Lp ++ (W1 ++ W2) ++ Lq = Lp ++ W1 ++ W2 ++ Lq by simp]; exact hA3, hB⟩
            · have i2a : ¬ (mid : Int) < (en : Int) := by omega
              have d2a : decide ((mid : Int) < (en : Int)) = false := decide_eq_false i2a
              obtain ⟨hLe, hUU, hVV, l1, l2, l3, l4, sU, sV, c1, c2⟩ := HLL.out
              obtain ⟨b1, b2, b3, b4, b5, b6, b7, b8⟩ := HB.out
              have hA1 : Arr wr b 31 J cells (Lp ++ U1 ++ V1 ++ U2 ++ V2 ++ Lq) := by rw [← no_rot (by omega), ← hLe]; exact hA
              have t1 := Lib.hid True.intro
              clear hLe hUU hVV l1 l2 l3 l4 sU sV c1 c2 b1 b2 b3 b4 b5 b6 b7 b8
              go_wp2
              obtain ⟨hLe, hUU, hVV, l1, l2, l3, l4, sU, sV, c1, c2⟩ := HLL.out
              obtain ⟨b1, b2, b3, b4, b5, b6, b7, b8⟩ := HB.out
              obtain ⟨W1, hW1⟩ : ∃ W1, U1 ++ V1 = W1 := ⟨_, rfl⟩
              have p1 : W1.Perm (U1 ++ V1) := by rw [hW1]
              have s1 : Sorted (ltc cf) W1 := by rw [← hW1]; exact one_sorted sU.left sV.left (by omega)
              have hA2 : Arr wr b 31 J cells (Lp ++ W1 ++ (U2 ++ V2 ++ Lq)) := by rw [← hW1, show Lp ++ (U1 ++ V1) ++ (U2 ++ V2 ++ Lq) = Lp ++ U1 ++ V1 ++ U2 ++ V2 ++ Lq by simp]; exact hA1
              obtain ⟨W2, hW2⟩ : ∃ W2, U2 ++ V2 = W2 := ⟨_, rfl⟩
              have p2 : W2.Perm (U2 ++ V2) := by rw [hW2]
              have s2 : Sorted (ltc cf) W2 := by rw [← hW2]; exact one_sorted sU.right sV.right (by omega)
              have hA3 : Arr wr b 31 J cells (Lp ++ W1 ++ W2 ++ Lq) := by rw [← hW2, show Lp ++ W1 ++ (U2 ++ V2) ++ Lq = Lp ++ W1 ++ (U2 ++ V2 ++ Lq) by simp]; exact hA2
              have hF := merge_fin hT sU sV c1 c2 p1 p2 s1 s2
              go_end0
              exact ⟨rfl, W1 ++ W2, by rw [hUU, hVV]; exact hF.1, hF.2, by rw [show Lp ++ (W1 ++ W2) ++ Lq = Lp ++ W1 ++ W2 ++ Lq by simp]; exact hA3, hB⟩
end
end Go.Proofs.YtpfgepgjpnekdaaDoor
