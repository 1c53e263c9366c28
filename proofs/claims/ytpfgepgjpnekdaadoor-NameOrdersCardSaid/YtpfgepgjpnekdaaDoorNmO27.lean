/-
  NStabI: several texts in one (bundle.py).
-/
import Derived.Test.YtpfgepgjpnekdaaDoorNmO26
namespace Go.Proofs.YtpfgepgjpnekdaaDoor
open Go.RowKit Srt
set_option linter.unusedSimpArgs false
set_option linter.unusedVariables false

section
variable {α : Type} {cells : α → List Value} {cf : α → α → Int}
theorem symMerge_c (hsz : ∀ x, (cells x).length = 4) (h1 : ∀ x, (cells x).all (·.oneCell') = true) (hT : TO (ltc cf)) {n : Nat} (hb : n ≤ 1000000000) {b c : Nat} {J : List Value} (g : FuncId) (cap : Array Value) (hent : Enters Tryd.prog g) (hcmp : ∀ (x y : α) (w1 : World), Calls Tryd.prog g (#[.agg (cells x).toArray, .agg (cells y).toArray] ++ cap) w1 (Ret (.int .i64 (cf x y)) w1)) :
    ∀ (N : Nat) (Lp U V Lq L : List α) (w : World), U.length + V.length ≤ N → L = Lp ++ U ++ V ++ Lq → 0 < U.length → 0 < V.length → Sorted (ltc cf) U → Sorted (ltc cf) V → L.length = n → Arr w b 31 J cells L →
      ∀ a m e : Nat, Lp.length = a → a + U.length = m → m + V.length = e → Calls Tryd.prog 114 #[.slice (some ⟨b, 0, none⟩) n c, .int .i64 (a : Int), .int .i64 (m : Int), .int .i64 (e : Int), .func (.func g) #[] cap] w (SmP cf cells b J Lp (U ++ V) Lq w)
  | 0, Lp, U, V, Lq, L, w, hN, _, hU, _, _, _, _, _, _, _, _, _, _, _ => by omega
  | N + 1, Lp, U, V, Lq, L, w, hN, hL, hU, hV, hSU, hSV, hn, h, a, m, e, ha, hm, he => by
    by_cases u1 : U.length = 1
    · obtain ⟨x, rfl⟩ := List.length_eq_one_iff.1 u1
      exact sm1_c hsz h1 hT Lp V Lq x (by rw [hL]; simp) hV hSV hn ha (by simpa using hm) he hb g cap hent hcmp w h
    · by_cases v1 : V.length = 1
      · obtain ⟨x, rfl⟩ := List.length_eq_one_iff.1 v1
        exact sm2_c hsz h1 hT Lp U Lq x (by rw [hL]; simp) (by omega) hSU hn ha hm (by simpa using he) hb g cap hent hcmp w h
      · exact sm3_c hsz h1 hT Lp U V Lq hL (by omega) (by omega) hSU hSV hn ha hm he hb g cap hent hcmp
          (fun Lp' U' V' Lq' L' w' hL' hU' hV' hlt sU' sV' hn' h' a' m' e' ha' hm' he' => symMerge_c hsz h1 hT hb g cap hent hcmp N Lp' U' V' Lq' L' w' (by omega) hL' hU' hV' sU' sV' hn' h' a' m' e' ha' hm' he') w h
set_option maxRecDepth 100000 in
theorem insert0_c {n c b a : Nat} (hb : a ≤ 1000000000) (f : Value) (w : World) : Calls Tryd.prog 113 #[.slice (some ⟨b, 0, none⟩) n c, .int .i64 (a : Int), .int .i64 (a : Int), f] w fun en w' => en = .returned (.tuple #[]) ∧ w = w' := by
  have wa : IntKind.i64.wrap ((a : Int) + 1) = ((a + 1 : Nat) : Int) := by rw [IntKind.wrap_i64]; omega
  obtain ⟨a1, ha1⟩ : ∃ a1, a + 1 = a1 := ⟨_, rfl⟩
  rw [ha1] at wa
  have hlt : ¬ (a1 : Int) < (a : Int) := by omega
  have hd : decide ((a1 : Int) < (a : Int)) = false := decide_eq_false hlt
  go_enter Tryd.func113, Tryd.ntmps113
  go_wp2
  go_loopw [8] (fun vi wr => vi = .int .i64 (a1 : Int) ∧ wr = w) (fun _ _ => 0)
  case atStart => exact ⟨rfl, rfl⟩
  case round =>
    obtain ⟨rfl, rfl⟩ := hrel
    go_wp2
    go_end0
    exact ⟨rfl, rfl⟩
theorem Blocks.app {lt : α → α → Bool} {s k : Nat} {P W : List α} (hP : Blocks lt s P) (hl : P.length = k * s) (hW : Sorted lt W) (hWl : W.length ≤ s) : Blocks lt s (P ++ W) := by
  intro j
  rcases Nat.lt_or_ge j k with hj | hj
  · have h1 : j * s + s ≤ P.length := by rw [hl, ← Nat.succ_mul]; exact Nat.mul_le_mul_right _ hj
    have := hP j
    rwa [List.drop_append_of_le_length (by omega), List.take_append_of_le_length (by rw [List.length_drop]; omega)]
  · have h1 : P.length ≤ j * s := by rw [hl]; exact Nat.mul_le_mul_right _ hj
    rw [List.drop_append, List.drop_of_length_le h1, List.nil_append]
    have h2 : Sorted lt W := hW
    refine (List.Pairwise.sublist ?_ h2)
    exact (List.take_sublist _ _).trans (List.drop_sublist _ _)
theorem Blocks.drop {lt : α → α → Bool} {s : Nat} {R : List α} (h : Blocks lt s R) (k : Nat) : Blocks lt s (R.drop (k * s)) := by
  intro j
  have := h (k + j)
  rwa [List.drop_drop, ← Nat.add_mul]
theorem Blocks.nil {lt : α → α → Bool} {s : Nat} : Blocks lt s ([] : List α) := fun j => by simp [Sorted]
set_option maxHeartbeats 4000000 in
set_option maxRecDepth 100000 in
theorem stable_c (hsz : ∀ x, (cells x).length = 4) (h1 : ∀ x, (cells x).all (·.oneCell') = true) (hT : TO (ltc cf)) {L : List α} {n : Nat} (hn : L.length = n) (hb : n ≤ 100000000) {b c : Nat} {J : List Value} (g : FuncId) (cap : Array Value) (hent : Enters Tryd.prog g) (hcmp : ∀ (x y : α) (w1 : World), Calls Tryd.prog g (#[.agg (cells x).toArray, .agg (cells y).toArray] ++ cap) w1 (Ret (.int .i64 (cf x y)) w1)) (w : World) (h : Arr w b 31 J cells L) :
    Calls Tryd.prog 101 #[.slice (some ⟨b, 0, none⟩) n c, .int .i64 (n : Int), .func (.func g) #[] cap] w fun en w' => en = .returned (.tuple #[]) ∧ ∃ W, W.Perm L ∧ Sorted (ltc cf) W ∧ Arr w' b 31 J cells W ∧ But (· = b) w w' := by
  have HM := Lib.hid (fun (Lp U V Lq : List α) w' => symMerge_c hsz h1 hT (n := n) (c := c) (b := b) (J := J) (by omega) g cap hent hcmp (U.length + V.length) Lp U V Lq _ w' (Nat.le_refl _) rfl)
  have HN := Lib.hid (fun (Lp X Lq : List α) (hX : 0 < X.length) (hl : (Lp ++ X ++ Lq).length = n) w' => insert_c hsz h1 hT (c := c) (b := b) (J := J) Lp X Lq rfl hX hl rfl rfl (by omega) g cap hent hcmp w')
  have HL := Lib.hid hn
  clear hcmp hn
  go_enter Tryd.func101, Tryd.ntmps101
  go_wp2
  go_loopw [7, 8] (fun va vb wr => ∃ (a bb k : Nat) (P R : List α), va = .int .i64 a ∧ vb = .int .i64 bb ∧ bb = a + 20 ∧ a = k * 20 ∧ P.length = a ∧ (P ++ R).Perm L ∧ Blocks (ltc cf) 20 P ∧ Arr wr b 31 J cells (P ++ R) ∧ But (· = b) w wr) (fun va _ _ => n - (intOf va).toNat)
  case atStart => exact ⟨0, 20, 0, [], L, rfl, rfl, rfl, rfl, rfl, by simp, Blocks.nil, by simpa using h, But.refl _ _⟩
  case round =>
    clear h
    obtain ⟨a, bb, k, P, R, rfl, rfl, hbb, hak, hPl, hp, hBk, hA, hB⟩ := hrel
    have hpl := hp.length_eq
    rw [List.length_append, HL.out] at hpl
    by_cases hle : bb ≤ n
    · have hleI : (bb : Int) ≤ (n : Int) := by omega
      have wbb : IntKind.i64.wrap ((bb : Int) + 20) = ((bb + 20 : Nat) : Int) := by rw [IntKind.wrap_i64]; omega
      obtain ⟨b2, hb2⟩ : ∃ b2, bb + 20 = b2 := ⟨_, rfl⟩
      rw [hb2] at wbb
      have hRt : (R.take 20).length = 20 := by rw [List.length_take]; omega
      have hc := HN.out P (R.take 20) (R.drop 20) (by omega) (by rw [List.append_assoc, List.take_append_drop, List.length_append]; exact hpl) wr (by rw [List.append_assoc, List.take_append_drop]; exact hA)
      rw [hRt, hPl, ← hbb] at hc
      have HC := Lib.hid hc
      have HQ := Lib.hid (And.intro hbb (And.intro hak (And.intro hPl (And.intro hp (And.intro hBk (And.intro hb2 (And.intro hRt hpl)))))))
      clear hc hbb hak hPl hp hBk hA hpl hb2 hRt
      go_wp2_with (go_at_call 113; refine HC.out.mono ?_; rintro en w3 ⟨rfl, X', px, sx, hA3, hb3⟩)
      obtain ⟨hbb, hak, hPl, hp, hBk, hb2, hRt, hpl⟩ := HQ.out
      refine ⟨⟨bb, b2, k + 1, P ++ X', R.drop 20, rfl, rfl, hb2.symm, by omega, ?_, ?_, ?_, hA3, hB.trans hb3⟩, ?_⟩
      · rw [List.length_append, px.length_eq, hRt]; omega
      · refine List.Perm.trans ?_ hp
        rw [List.append_assoc]
        refine List.Perm.append_left P ?_
        have := List.Perm.append_right (R.drop 20) px
        rwa [List.take_append_drop] at this
      · exact Blocks.app hBk (by rw [hPl]; exact hak) sx (by rw [px.length_eq, hRt]; exact Nat.le_refl _)
      · simp [intOf]; omega
    · have hleI : ¬ (bb : Int) ≤ (n : Int) := by omega
      by_cases hR0 : 0 < R.length
      · have hc := HN.out P R [] hR0 (by rw [List.append_nil, List.length_append]; exact hpl) wr (by rw [List.append_nil]; exact hA)
        rw [hpl, hPl] at hc
        have HC := Lib.hid hc
        have HQ := Lib.hid (And.intro hak (And.intro hPl (And.intro hp (And.intro hBk (And.intro hbb hpl)))))
        clear hc hak hPl hp hBk hA hpl hR0
        go_wp2_with (go_at_call 113; refine HC.out.mono ?_; rintro en w3 ⟨rfl, X', px, sx, hA3, hb3⟩)
        obtain ⟨hak, hPl, hp, hBk, hbb, hpl⟩ := HQ.out
        obtain ⟨Q, hQ⟩ : ∃ Q, P ++ X' = Q := ⟨_, rfl⟩
        have HQQ := Lib.hid (show Q.Perm L ∧ Blocks (ltc cf) 20 Q ∧ Arr w3 b 31 J cells Q ∧ But (· = b) w w3 from by
          rw [← hQ]
          refine ⟨(List.Perm.append_left P px).trans hp, Blocks.app hBk (by rw [hPl]; exact hak) sx (by rw [px.length_eq]; omega), by simpa using hA3, hB.trans hb3⟩)
        clear hak hPl hp hBk hpl px sx hA3 hb3 hB hQ hbb
        go_loopw [6] (fun vs wr => ∃ (s : Nat) (Q : List α), vs = .int .i64 s ∧ 1 ≤ s ∧ Q.Perm L ∧ Blocks (ltc cf) s Q ∧ Arr wr b 31 J cells Q ∧ But (· = b) w wr) (fun vs _ => n - (intOf vs).toNat)
        case atStart => exact ⟨20, Q, rfl, by decide, HQQ.out.1, HQQ.out.2.1, HQQ.out.2.2.1, HQQ.out.2.2.2⟩
        case round =>
          clear HQQ
          obtain ⟨s, Q, rfl, hs1, hpq, hBq, hAq, hBw⟩ := hrel
          have hql := hpq.length_eq
          rw [HL.out] at hql
          by_cases hsn : s < n
          · have hsnI : (s : Int) < (n : Int) := by omega
            obtain ⟨s2, hs2⟩ : ∃ s2, 2 * s = s2 := ⟨_, rfl⟩
            have w2a : IntKind.i64.wrap (2 * (s : Int)) = (s2 : Int) := by rw [IntKind.wrap_i64]; omega
            have w2b : IntKind.i64.wrap ((s : Int) * 2) = (s2 : Int) := by rw [IntKind.wrap_i64]; omega
            have HS2 := Lib.hid (And.intro hs2 (And.intro hs1 hsn))
            have HQ0 := Lib.hid (And.intro hpq (And.intro hBq (And.intro hAq hBw)))
            clear hs2 hpq hBq hAq hBw hql
            go_wp2
            go_loopw [7, 8] (fun va vb wj => ∃ (a bb k : Nat) (P R : List α), va = .int .i64 a ∧ vb = .int .i64 bb ∧ bb = a + s2 ∧ a = k * s2 ∧ P.length = a ∧ (P ++ R).Perm L ∧ Blocks (ltc cf) s2 P ∧ Blocks (ltc cf) s R ∧ Arr wj b 31 J cells (P ++ R) ∧ But (· = b) w wj) (fun va _ _ => n - (intOf va).toNat)
            case atStart => exact ⟨0, s2, 0, [], Q, rfl, rfl, by simp, by simp, rfl, HQ0.out.1, Blocks.nil, HQ0.out.2.1, HQ0.out.2.2.1, HQ0.out.2.2.2⟩
            case round =>
              clear HQ0
              obtain ⟨a, bb, k, P, R, rfl, rfl, hbb, hak, hPl, hp, hBk, hBr, hA, hB⟩ := hrel
              have hpl := hp.length_eq
              rw [List.length_append, HL.out] at hpl
              obtain ⟨hs2, hs1', hsn'⟩ := HS2.out
              obtain ⟨m, hm⟩ : ∃ m, a + s = m := ⟨_, rfl⟩
              have was : IntKind.i64.wrap ((a : Int) + (s : Int)) = (m : Int) := by rw [IntKind.wrap_i64]; omega
              by_cases hle : bb ≤ n
              · have hleI : (bb : Int) ≤ (n : Int) := by omega
                obtain ⟨b2, hb2⟩ : ∃ b2, bb + s2 = b2 := ⟨_, rfl⟩
                have wbb : IntKind.i64.wrap ((bb : Int) + (s2 : Int)) = (b2 : Int) := by rw [IntKind.wrap_i64]; omega
                have e0 : R = R.take s ++ (R.drop s).take s ++ R.drop (2 * s) := by
                  rw [show R.drop (2 * s) = (R.drop s).drop s by rw [List.drop_drop]; congr 1; omega, List.append_assoc, List.take_append_drop, List.take_append_drop]
                have lU : (R.take s).length = s := by rw [List.length_take]; omega
                have lV : ((R.drop s).take s).length = s := by rw [List.length_take, List.length_drop]; omega
                have sU : Sorted (ltc cf) (R.take s) := by have := hBr 0; rwa [Nat.zero_mul, List.drop_zero] at this
                have sV : Sorted (ltc cf) ((R.drop s).take s) := by have := hBr 1; rwa [Nat.one_mul] at this
                have sR : Blocks (ltc cf) s (R.drop (2 * s)) := Blocks.drop hBr 2
                obtain ⟨U, hU⟩ : ∃ U, R.take s = U := ⟨_, rfl⟩
                obtain ⟨V, hV⟩ : ∃ V, (R.drop s).take s = V := ⟨_, rfl⟩
                obtain ⟨R2, hR2⟩ : ∃ R2, R.drop (2 * s) = R2 := ⟨_, rfl⟩
                rw [hU, hV, hR2] at e0
                rw [hU] at lU sU
                rw [hV] at lV sV
                rw [hR2] at sR
                have hLe : P ++ R = P ++ U ++ V ++ R2 := by rw [e0]; simp
                rw [hLe] at hA hp
                have hln := hp.length_eq
                rw [HL.out] at hln
                have hc := HM.out P U V R2 wr (by omega) (by omega) sU sV hln hA a m bb hPl (by omega) (by omega)
                have HC := Lib.hid hc
                have HQ := Lib.hid (And.intro hbb (And.intro hak (And.intro hPl (And.intro hp (And.intro hBk (And.intro hb2 (And.intro hpl (And.intro hln (And.intro lU (And.intro lV (And.intro sR (And.intro hs2 hm))))))))))))
                clear hc hbb hak hPl hp hBk hA hpl hb2 hln lU lV sU sV sR hU hV hR2 e0 hLe hBr hs2 hs1' hsn' hm
                go_wp2_with (go_at_call 114; refine HC.out.mono ?_; rintro en w3 ⟨rfl, W, pW, sW, hA3, hb3⟩)
                obtain ⟨hbb, hak, hPl, hp, hBk, hb2, hpl, hln, lU, lV, sR, hs2, hm⟩ := HQ.out
                have pl := pW.length_eq
                rw [List.length_append] at pl
                refine ⟨⟨bb, b2, k + 1, P ++ W, R2, rfl, rfl, hb2.symm, by rw [Nat.succ_mul]; omega, ?_, ?_, ?_, sR, hA3, hB.trans hb3⟩, ?_⟩
                · rw [List.length_append, pl]; omega
                · refine List.Perm.trans ?_ hp
                  rw [List.append_assoc, List.append_assoc P U V, List.append_assoc P]
                  exact List.Perm.append_left P (List.Perm.append_right R2 pW)
                · exact Blocks.app hBk (by rw [hPl]; exact hak) sW (by rw [pl]; omega)
                · simp [intOf]; omega
              · have hleI : ¬ (bb : Int) ≤ (n : Int) := by omega
                by_cases hmn : m < n
                · have hmnI : (m : Int) < (n : Int) := by omega
                  have sU : Sorted (ltc cf) (R.take s) := by have := hBr 0; rwa [Nat.zero_mul, List.drop_zero] at this
                  have sV : Sorted (ltc cf) (R.drop s) := by
                    have := hBr 1
                    rwa [Nat.one_mul, List.take_of_length_le (by rw [List.length_drop]; omega)] at this
                  have lU : (R.take s).length = s := by rw [List.length_take]; omega
                  have lV : (R.drop s).length = R.length - s := List.length_drop
                  have e0 : R = R.take s ++ R.drop s := (List.take_append_drop s R).symm
                  obtain ⟨U, hU⟩ : ∃ U, R.take s = U := ⟨_, rfl⟩
                  obtain ⟨V, hV⟩ : ∃ V, R.drop s = V := ⟨_, rfl⟩
                  rw [hU, hV] at e0
                  rw [hU] at lU sU
                  rw [hV] at lV sV
                  have hLe : P ++ R = P ++ U ++ V ++ [] := by rw [e0]; simp
                  rw [hLe] at hA hp
                  have hln := hp.length_eq
                  rw [HL.out] at hln
                  have hc := HM.out P U V [] wr (by omega) (by omega) sU sV hln hA a m n hPl (by omega) (by omega)
                  have HC := Lib.hid hc
                  have HQ := Lib.hid (And.intro hbb (And.intro hak (And.intro hPl (And.intro hp (And.intro hBk (And.intro hpl (And.intro lU (And.intro lV (And.intro hs2 hm)))))))))
                  clear hc hbb hak hPl hp hBk hA hpl hln lU lV sU sV hU hV e0 hLe hBr hs2 hs1' hm
                  go_wp2_with (go_at_call 114; refine HC.out.mono ?_; rintro en w3 ⟨rfl, W, pW, sW, hA3, hb3⟩)
                  obtain ⟨hbb, hak, hPl, hp, hBk, hpl, lU, lV, hs2, hm⟩ := HQ.out
                  have pl := pW.length_eq
                  rw [List.length_append] at pl
                  refine ⟨⟨s2, P ++ W, rfl, by omega, ?_, ?_, by simpa using hA3, hB.trans hb3⟩, ?_⟩
                  · refine List.Perm.trans ?_ hp
                    rw [List.append_nil, List.append_assoc]
                    exact List.Perm.append_left P pW
                  · exact Blocks.app hBk (by rw [hPl]; exact hak) sW (by rw [pl]; omega)
                  · simp [intOf]; omega
                · have hmnI : ¬ (m : Int) < (n : Int) := by omega
                  have sR : Sorted (ltc cf) R := Srt.Blocks.all (s := s) hBr (by omega)
                  have HQ := Lib.hid (And.intro hbb (And.intro hak (And.intro hPl (And.intro hp (And.intro hBk (And.intro hpl (And.intro sR (And.intro hs2 (And.intro hm hA)))))))))
                  clear hbb hak hPl hp hBk hA hpl sR hBr hs2 hs1' hm
                  go_wp2
                  obtain ⟨hbb, hak, hPl, hp, hBk, hpl, sR, hs2, hm, hA⟩ := HQ.out
                  refine ⟨⟨s2, P ++ R, rfl, by omega, hp, Blocks.app hBk (by rw [hPl]; exact hak) sR (by omega), hA, hB⟩, ?_⟩
                  simp [intOf]; omega
          · have hsnI : ¬ (s : Int) < (n : Int) := by omega
            go_wp2
            go_end0
            exact ⟨rfl, Q, hpq, Srt.Blocks.all (s := s) hBq (by omega), hAq, hBw⟩
      · obtain rfl : R = [] := List.eq_nil_of_length_eq_zero (by omega)
        have han : n = a := by simpa [hPl] using hpl.symm
        have hc := insert0_c (n := n) (c := c) (b := b) (a := a) (by omega) (.func (.func g) #[] cap) wr
        rw [← han] at hc
        have HC := Lib.hid hc
        obtain ⟨Q, hQ⟩ : ∃ Q, P = Q := ⟨_, rfl⟩
        have HQQ := Lib.hid (show Q.Perm L ∧ Blocks (ltc cf) 20 Q ∧ Arr wr b 31 J cells Q ∧ But (· = b) w wr from by
          rw [← hQ]
          exact ⟨by simpa using hp, hBk, by simpa using hA, hB⟩)
        subst han
        clear hak hPl hp hBk hpl hA hB hQ hc hR0
        go_wp2_with (go_at_call 113; refine HC.out.mono ?_; rintro en w3 ⟨rfl, rfl⟩)
        go_loopw [6] (fun vs wr => ∃ (s : Nat) (Q : List α), vs = .int .i64 s ∧ 1 ≤ s ∧ Q.Perm L ∧ Blocks (ltc cf) s Q ∧ Arr wr b 31 J cells Q ∧ But (· = b) w wr) (fun vs _ => n - (intOf vs).toNat)
        case atStart => exact ⟨20, Q, rfl, by decide, HQQ.out.1, HQQ.out.2.1, HQQ.out.2.2.1, HQQ.out.2.2.2⟩
        case round =>
          clear HQQ
          obtain ⟨s, Q, rfl, hs1, hpq, hBq, hAq, hBw⟩ := hrel
          have hql := hpq.length_eq
          rw [HL.out] at hql
          by_cases hsn : s < n
          · have hsnI : (s : Int) < (n : Int) := by omega
            obtain ⟨s2, hs2⟩ : ∃ s2, 2 * s = s2 := ⟨_, rfl⟩
            have w2a : IntKind.i64.wrap (2 * (s : Int)) = (s2 : Int) := by rw [IntKind.wrap_i64]; omega
            have w2b : IntKind.i64.wrap ((s : Int) * 2) = (s2 : Int) := by rw [IntKind.wrap_i64]; omega
            have HS2 := Lib.hid (And.intro hs2 (And.intro hs1 hsn))
            have HQ0 := Lib.hid (And.intro hpq (And.intro hBq (And.intro hAq hBw)))
            clear hs2 hpq hBq hAq hBw hql
            go_wp2
            go_loopw [7, 8] (fun va vb wj => ∃ (a bb k : Nat) (P R : List α), va = .int .i64 a ∧ vb = .int .i64 bb ∧ bb = a + s2 ∧ a = k * s2 ∧ P.length = a ∧ (P ++ R).Perm L ∧ Blocks (ltc cf) s2 P ∧ Blocks (ltc cf) s R ∧ Arr wj b 31 J cells (P ++ R) ∧ But (· = b) w wj) (fun va _ _ => n - (intOf va).toNat)
            case atStart => exact ⟨0, s2, 0, [], Q, rfl, rfl, by simp, by simp, rfl, HQ0.out.1, Blocks.nil, HQ0.out.2.1, HQ0.out.2.2.1, HQ0.out.2.2.2⟩
            case round =>
              clear HQ0
              obtain ⟨a, bb, k, P, R, rfl, rfl, hbb, hak, hPl, hp, hBk, hBr, hA, hB⟩ := hrel
              have hpl := hp.length_eq
              rw [List.length_append, HL.out] at hpl
              obtain ⟨hs2, hs1', hsn'⟩ := HS2.out
              obtain ⟨m, hm⟩ : ∃ m, a + s = m := ⟨_, rfl⟩
              have was : IntKind.i64.wrap ((a : Int) + (s : Int)) = (m : Int) := by rw [IntKind.wrap_i64]; omega
              by_cases hle : bb ≤ n
              · have hleI : (bb : Int) ≤ (n : Int) := by omega
                obtain ⟨b2, hb2⟩ : ∃ b2, bb + s2 = b2 := ⟨_, rfl⟩
                have wbb : IntKind.i64.wrap ((bb : Int) + (s2 : Int)) = (b2 : Int) := by rw [IntKind.wrap_i64]; omega
                have e0 : R = R.take s ++ (R.drop s).take s ++ R.drop (2 * s) := by
                  rw [show R.drop (2 * s) = (R.drop s).drop s by rw [List.drop_drop]; congr 1; omega, List.append_assoc, List.take_append_drop, List.take_append_drop]
                have lU : (R.take s).length = s := by rw [List.length_take]; omega
                have lV : ((R.drop s).take s).length = s := by rw [List.length_take, List.length_drop]; omega
                have sU : Sorted (ltc cf) (R.take s) := by have := hBr 0; rwa [Nat.zero_mul, List.drop_zero] at this
                have sV : Sorted (ltc cf) ((R.drop s).take s) := by have := hBr 1; rwa [Nat.one_mul] at this
                have sR : Blocks (ltc cf) s (R.drop (2 * s)) := Blocks.drop hBr 2
                obtain ⟨U, hU⟩ : ∃ U, R.take s = U := ⟨_, rfl⟩
                obtain ⟨V, hV⟩ : ∃ V, (R.drop s).take s = V := ⟨_, rfl⟩
                obtain ⟨R2, hR2⟩ : ∃ R2, R.drop (2 * s) = R2 := ⟨_, rfl⟩
                rw [hU, hV, hR2] at e0
                rw [hU] at lU sU
                rw [hV] at lV sV
                rw [hR2] at sR
                have hLe : P ++ R = P ++ U ++ V ++ R2 := by rw [e0]; simp
                rw [hLe] at hA hp
                have hln := hp.length_eq
                rw [HL.out] at hln
                have hc := HM.out P U V R2 wr (by omega) (by omega) sU sV hln hA a m bb hPl (by omega) (by omega)
                have HC := Lib.hid hc
                have HQ := Lib.hid (And.intro hbb (And.intro hak (And.intro hPl (And.intro hp (And.intro hBk (And.intro hb2 (And.intro hpl (And.intro hln (And.intro lU (And.intro lV (And.intro sR (And.intro hs2 hm))))))))))))
                clear hc hbb hak hPl hp hBk hA hpl hb2 hln lU lV sU sV sR hU hV hR2 e0 hLe hBr hs2 hs1' hsn' hm
                go_wp2_with (go_at_call 114; refine HC.out.mono ?_; rintro en w3 ⟨rfl, W, pW, sW, hA3, hb3⟩)
                obtain ⟨hbb, hak, hPl, hp, hBk, hb2, hpl, hln, lU, lV, sR, hs2, hm⟩ := HQ.out
                have pl := pW.length_eq
                rw [List.length_append] at pl
                refine ⟨⟨bb, b2, k + 1, P ++ W, R2, rfl, rfl, hb2.symm, by rw [Nat.succ_mul]; omega, ?_, ?_, ?_, sR, hA3, hB.trans hb3⟩, ?_⟩
                · rw [List.length_append, pl]; omega
                · refine List.Perm.trans ?_ hp
                  rw [List.append_assoc, List.append_assoc P U V, List.append_assoc P]
                  exact List.Perm.append_left P (List.Perm.append_right R2 pW)
                · exact Blocks.app hBk (by rw [hPl]; exact hak) sW (by rw [pl]; omega)
                · simp [intOf]; omega
              · have hleI : ¬ (bb : Int) ≤ (n : Int) := by omega
                by_cases hmn : m < n
                · have hmnI : (m : Int) < (n : Int) := by omega
                  have sU : Sorted (ltc cf) (R.take s) := by have := hBr 0; rwa [Nat.zero_mul, List.drop_zero] at this
                  have sV : Sorted (ltc cf) (R.drop s) := by
                    have := hBr 1
                    rwa [Nat.one_mul, List.take_of_length_le (by rw [List.length_drop]; omega)] at this
                  have lU : (R.take s).length = s := by rw [List.length_take]; omega
                  have lV : (R.drop s).length = R.length - s := List.length_drop
                  have e0 : R = R.take s ++ R.drop s := (List.take_append_drop s R).symm
                  obtain ⟨U, hU⟩ : ∃ U, R.take s = U := ⟨_, rfl⟩
                  obtain ⟨V, hV⟩ : ∃ V, R.drop s = V := ⟨_, rfl⟩
                  rw [hU, hV] at e0
                  rw [hU] at lU sU
                  rw [hV] at lV sV
                  have hLe : P ++ R = P ++ U ++ V ++ [] := by rw [e0]; simp
                  rw [hLe] at hA hp
                  have hln := hp.length_eq
                  rw [HL.out] at hln
                  have hc := HM.out P U V [] wr (by omega) (by omega) sU sV hln hA a m n hPl (by omega) (by omega)
                  have HC := Lib.hid hc
                  have HQ := Lib.hid (And.intro hbb (And.intro hak (And.intro hPl (And.intro hp (And.intro hBk (And.intro hpl (And.intro lU (And.intro lV (And.intro hs2 hm)))))))))
                  clear hc hbb hak hPl hp hBk hA hpl hln lU lV sU sV hU hV e0 hLe hBr hs2 hs1' hm
                  go_wp2_with (go_at_call 114; refine HC.out.mono ?_; rintro en w3 ⟨rfl, W, pW, sW, hA3, hb3⟩)
                  obtain ⟨hbb, hak, hPl, hp, hBk, hpl, lU, lV, hs2, hm⟩ := HQ.out
                  have pl := pW.length_eq
                  rw [List.length_append] at pl
                  refine ⟨⟨s2, P ++ W, rfl, by omega, ?_, ?_, by simpa using hA3, hB.trans hb3⟩, ?_⟩
                  · refine List.Perm.trans ?_ hp
                    rw [List.append_nil, List.append_assoc]
                    exact List.Perm.append_left P pW
                  · exact Blocks.app hBk (by rw [hPl]; exact hak) sW (by rw [pl]; omega)
                  · simp [intOf]; omega
                · have hmnI : ¬ (m : Int) < (n : Int) := by omega
                  have sR : Sorted (ltc cf) R := Srt.Blocks.all (s := s) hBr (by omega)
                  have HQ := Lib.hid (And.intro hbb (And.intro hak (And.intro hPl (And.intro hp (And.intro hBk (And.intro hpl (And.intro sR (And.intro hs2 (And.intro hm hA)))))))))
                  clear hbb hak hPl hp hBk hA hpl sR hBr hs2 hs1' hm
                  go_wp2
                  obtain ⟨hbb, hak, hPl, hp, hBk, hpl, sR, hs2, hm, hA⟩ := HQ.out
                  refine ⟨⟨s2, P ++ R, rfl, by omega, hp, Blocks.app hBk (by rw [hPl]; exact hak) sR (by omega), hA, hB⟩, ?_⟩
                  simp [intOf]; omega
          · have hsnI : ¬ (s : Int) < (n : Int) := by omega
            go_wp2
            go_end0
            exact ⟨rfl, Q, hpq, Srt.Blocks.all (s := s) hBq (by omega), hAq, hBw⟩
end
end Go.Proofs.YtpfgepgjpnekdaaDoor
