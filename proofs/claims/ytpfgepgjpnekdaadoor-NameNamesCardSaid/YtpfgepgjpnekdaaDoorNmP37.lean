/-
  NmOrd: several texts in one (bundle.py).
-/
import Derived.Test.YtpfgepgjpnekdaaDoorNmP22
import Derived.Test.YtpfgepgjpnekdaaDoorNmP23
import Derived.Test.YtpfgepgjpnekdaaDoorNmP36
namespace Go.Proofs.YtpfgepgjpnekdaaDoor
open Go.RowKit Srt Trc
set_option linter.unusedSimpArgs false
set_option linter.unusedVariables false

/-- Three ways. -/
def cmp3 (a b : Int) : Int := if a < b then -1 else if b < a then 1 else 0
/-- The first that is not 0. -/
def cmpL : List Int → Int
  | [] => 0
  | c :: r => if c = 0 then cmpL r else c
namespace Trc
def nmPs (x : Nm) : List Int := [x.node, x.service, x.time, x.seq]
def nmCs (x y : Nm) : List Int := [cmp3 x.node y.node, cmp3 x.service y.service, cmp3 x.time y.time, cmp3 x.seq y.seq]
def nmCmp (x y : Nm) : Int := cmpL (nmCs x y)
end Trc
theorem cmpL_at : ∀ (l : List Int) (k : Nat) (hk : k < l.length), (∀ j, j < k → l.getD j 0 = 0) → l[k] ≠ 0 → cmpL l = l[k]
  | c :: r, 0, _, _, h => by simp only [List.getElem_cons_zero] at h ⊢; exact if_neg h
  | c :: r, k + 1, hk, h0, h => by
    have h1 := h0 0 (by omega)
    simp only [List.getD_cons_zero] at h1
    subst h1
    simp only [List.getElem_cons_succ] at h ⊢
    show cmpL r = _
    exact cmpL_at r k (by simpa using hk) (fun j hj => by have := h0 (j + 1) (by omega); simpa using this) h
theorem cmpL_zero : ∀ (l : List Int), (∀ j, j < l.length → l.getD j 0 = 0) → cmpL l = 0
  | [], _ => rfl
  | c :: r, h => by
    have h1 := h 0 (by simp)
    simp only [List.getD_cons_zero] at h1
    subst h1
    show cmpL r = 0
    exact cmpL_zero r (fun j hj => by have := h (j + 1) (by simpa using hj); simpa using this)
abbrev WN : Type := {x : Nm // x.wf}
abbrev wnC (x : WN) : List Value := nmC x.1
def wnCmp (x y : WN) : Int := nmCmp x.1 y.1
theorem wnCmp_lt (x y : WN) : ltc wnCmp x y = decide (x.1.node < y.1.node ∨ x.1.node = y.1.node ∧ (x.1.service < y.1.service ∨ x.1.service = y.1.service ∧ (x.1.time < y.1.time ∨ x.1.time = y.1.time ∧ x.1.seq < y.1.seq))) := by
  unfold ltc wnCmp nmCmp nmCs cmpL cmpL cmpL cmpL cmpL cmp3
  refine decide_eq_decide.2 ?_
  repeat' split
  all_goals omega
theorem wnTO : TO (ltc wnCmp) := by
  refine ⟨fun x y h => ?_, fun x y z h1 h2 => ?_, fun x y h1 h2 => ?_⟩
  · rw [wnCmp_lt] at h ⊢
    have := of_decide_eq_true h
    exact decide_eq_false (by omega)
  · rw [wnCmp_lt] at h1 h2 ⊢
    have := of_decide_eq_false h1
    have := of_decide_eq_false h2
    exact decide_eq_false (by omega)
  · rw [wnCmp_lt] at h1 h2
    have := of_decide_eq_false h1
    have := of_decide_eq_false h2
    exact Subtype.ext (Nm.ext (by omega) (by omega) (by omega) (by omega))
set_option maxRecDepth 100000 in
theorem isNaN_c (a : Int) (w : World) : Calls Tryd.prog 96 #[.int .u64 a] w fun en w' => en = .returned (.bool false) ∧ w = w' := by
  go_enter Tryd.func96, Tryd.ntmps96
  go_wp2
  go_ret
  exact ⟨rfl, rfl⟩
set_option maxRecDepth 100000 in
theorem cmpU_c (a b : Int) (w : World) : Calls Tryd.prog 84 #[.int .u64 a, .int .u64 b] w fun en w' => en = .returned (.int .i64 (cmp3 a b)) ∧ w = w' := by
  by_cases h1 : a < b
  · rw [show cmp3 a b = -1 from if_pos h1]
    have d1 : decide (a < b) = true := decide_eq_true h1
    go_enter Tryd.func84, Tryd.ntmps84
    go_wp2_with (go_at_call 96; refine (isNaN_c _ _).mono ?_; rintro en w1 ⟨rfl, rfl⟩)
    go_ret
    exact ⟨rfl, rfl⟩
  · have d1 : decide (a < b) = false := decide_eq_false h1
    by_cases h2 : b < a
    · rw [show cmp3 a b = 1 from (if_neg h1).trans (if_pos h2)]
      have d2 : decide (b < a) = true := decide_eq_true h2
      go_enter Tryd.func84, Tryd.ntmps84
      go_wp2_with (go_at_call 96; refine (isNaN_c _ _).mono ?_; rintro en w1 ⟨rfl, rfl⟩)
      go_ret
      exact ⟨rfl, rfl⟩
    · rw [show cmp3 a b = 0 from (if_neg h1).trans (if_neg h2)]
      have d2 : decide (b < a) = false := decide_eq_false h2
      go_enter Tryd.func84, Tryd.ntmps84
      go_wp2_with (go_at_call 96; refine (isNaN_c _ _).mono ?_; rintro en w1 ⟨rfl, rfl⟩)
      go_ret
      exact ⟨rfl, rfl⟩
theorem nm_bounds {x : Nm} (h : x.wf) : (0 ≤ x.node ∧ x.node ≤ 4294967295) ∧ (0 ≤ x.service ∧ x.service ≤ 4294967295) ∧ (0 ≤ x.time ∧ x.time ≤ 18446744073709551615) ∧ (0 ≤ x.seq ∧ x.seq ≤ 4294967295) := by
  obtain ⟨h1, h2, h3, h4⟩ := h
  simp [Lit.wf, IntKind.min, IntKind.max, IntKind.signed, IntKind.bits] at h1 h2 h3 h4
  omega
abbrev keyF : Nat → FuncId
  | 0 => 62
  | 1 => 63
  | 2 => 64
  | _ => 65
theorem key0_c (x : Nm) (hx : x.wf) (w : World) : Calls Tryd.prog 62 #[nmV x] w (Ret (.int .u64 x.node) w) := by
  obtain ⟨a, b, c, d⟩ := x
  obtain ⟨h1, h2, h3, h4⟩ := nm_bounds hx
  simp only at h1 h2 h3 h4
  have w1 : IntKind.u64.wrap a = a := by rw [IntKind.wrap_u64]; omega
  have w2 : IntKind.u64.wrap b = b := by rw [IntKind.wrap_u64]; omega
  have w4 : IntKind.u64.wrap d = d := by rw [IntKind.wrap_u64]; omega
  go_enter Tryd.func62, Tryd.ntmps62
  go_wp2
  go_ret
  exact ⟨by simp [w1, w2, w4], below_alloc _ _⟩
theorem key1_c (x : Nm) (hx : x.wf) (w : World) : Calls Tryd.prog 63 #[nmV x] w (Ret (.int .u64 x.service) w) := by
  obtain ⟨a, b, c, d⟩ := x
  obtain ⟨h1, h2, h3, h4⟩ := nm_bounds hx
  simp only at h1 h2 h3 h4
  have w1 : IntKind.u64.wrap a = a := by rw [IntKind.wrap_u64]; omega
  have w2 : IntKind.u64.wrap b = b := by rw [IntKind.wrap_u64]; omega
  have w4 : IntKind.u64.wrap d = d := by rw [IntKind.wrap_u64]; omega
  go_enter Tryd.func63, Tryd.ntmps63
  go_wp2
  go_ret
  exact ⟨by simp [w1, w2, w4], below_alloc _ _⟩
theorem key2_c (x : Nm) (hx : x.wf) (w : World) : Calls Tryd.prog 64 #[nmV x] w (Ret (.int .u64 x.time) w) := by
  obtain ⟨a, b, c, d⟩ := x
  obtain ⟨h1, h2, h3, h4⟩ := nm_bounds hx
  simp only at h1 h2 h3 h4
  have w1 : IntKind.u64.wrap a = a := by rw [IntKind.wrap_u64]; omega
  have w2 : IntKind.u64.wrap b = b := by rw [IntKind.wrap_u64]; omega
  have w4 : IntKind.u64.wrap d = d := by rw [IntKind.wrap_u64]; omega
  go_enter Tryd.func64, Tryd.ntmps64
  go_wp2
  go_ret
  exact ⟨by simp [w1, w2, w4], below_alloc _ _⟩
theorem key3_c (x : Nm) (hx : x.wf) (w : World) : Calls Tryd.prog 65 #[nmV x] w (Ret (.int .u64 x.seq) w) := by
  obtain ⟨a, b, c, d⟩ := x
  obtain ⟨h1, h2, h3, h4⟩ := nm_bounds hx
  simp only at h1 h2 h3 h4
  have w1 : IntKind.u64.wrap a = a := by rw [IntKind.wrap_u64]; omega
  have w2 : IntKind.u64.wrap b = b := by rw [IntKind.wrap_u64]; omega
  have w4 : IntKind.u64.wrap d = d := by rw [IntKind.wrap_u64]; omega
  go_enter Tryd.func65, Tryd.ntmps65
  go_wp2
  go_ret
  exact ⟨by simp [w1, w2, w4], below_alloc _ _⟩
theorem enters_key : ∀ k, Enters Tryd.prog (keyF k)
  | 0 => enters_of Tryd.func62 (by kernel_rfl) rfl
  | 1 => enters_of Tryd.func63 (by kernel_rfl) rfl
  | 2 => enters_of Tryd.func64 (by kernel_rfl) rfl
  | _ + 3 => enters_of Tryd.func65 (by kernel_rfl) rfl
theorem key_c (x : Nm) (hx : x.wf) : ∀ (k : Nat) (hk : k < 4) (w : World), Calls Tryd.prog (keyF k) #[nmV x] w (Ret (.int .u64 ((nmPs x).getD k 0)) w)
  | 0, _, w => key0_c x hx w
  | 1, _, w => key1_c x hx w
  | 2, _, w => key2_c x hx w
  | 3, _, w => key3_c x hx w
  | k + 4, hk, _ => by omega
theorem nmCs_at (x y : Nm) : ∀ k, k < 4 → cmp3 ((nmPs x).getD k 0) ((nmPs y).getD k 0) = (nmCs x y).getD k 0
  | 0, _ => rfl
  | 1, _ => rfl
  | 2, _ => rfl
  | 3, _ => rfl
  | k + 4, h => by omega
abbrev keyFs : List Value := [.func (.func 62) #[] #[], .func (.func 63) #[] #[], .func (.func 64) #[] #[], .func (.func 65) #[] #[]]
theorem keyFs_at : ∀ k, k < 4 → keyFs[k]? = some (.func (.func (keyF k)) #[] #[])
  | 0, _ => rfl
  | 1, _ => rfl
  | 2, _ => rfl
  | 3, _ => rfl
  | k + 4, h => by omega
set_option maxHeartbeats 1000000 in
set_option maxRecDepth 100000 in
theorem by_c (x y : Nm) (hx : x.wf) (hy : y.wf) {b : Nat} (w : World) (h : RowAt w b keyFs.toArray 103) : Calls Tryd.prog 61 #[nmV x, nmV y, .slice (some ⟨b, 0, none⟩) 4 4] w (Ret (.int .i64 (nmCmp x y)) w) := by
  have X0 : RowAt ((w.alloc (.cells (nmC x).toArray 102)).alloc (.cells (nmC y).toArray 102)) w.heap.size (nmC x).toArray 102 := (RowAt.new w _ _).alloc _
  have Y0 : RowAt ((w.alloc (.cells (nmC x).toArray 102)).alloc (.cells (nmC y).toArray 102)) (w.heap.size + 1) (nmC y).toArray 102 := by
    have := RowAt.new (w.alloc (.cells (nmC x).toArray 102)) (nmC y).toArray 102
    rwa [World.size_alloc] at this
  have hb2 : Below w.heap.size w ((w.alloc (.cells (nmC x).toArray 102)).alloc (.cells (nmC y).toArray 102)) := (below_alloc w _).alloc (by simp) _
  have F0 := h.below hb2
  have HX := Lib.hid hx
  have HY := Lib.hid hy
  have hz2 : ((w.alloc (.cells (nmC x).toArray 102)).alloc (.cells (nmC y).toArray 102)).heap.size = w.heap.size + 2 := by simp
  clear hx hy h
  go_enter Tryd.func61, Tryd.ntmps61
  go_wp2
  obtain ⟨W0, hW0⟩ : ∃ W0, ((w.alloc (.cells (nmC x).toArray 102)).alloc (.cells (nmC y).toArray 102)) = W0 := ⟨_, rfl⟩
  rw [hW0] at X0 Y0 hb2 F0 hz2 ⊢
  clear hW0
  go_loopw [6, 11] (fun vn vi wr => ∃ k : Nat, vn = .int .i64 0 ∧ vi = .int .i64 k ∧ k ≤ 4 ∧ (∀ j, j < k → (nmCs x y).getD j 0 = 0) ∧ Below W0.heap.size W0 wr) (fun _ vi _ => 4 - (intOf vi).toNat)
  case atStart => exact ⟨0, rfl, rfl, by omega, fun j hj => by omega, Below.refl _ _⟩
  case round =>
    obtain ⟨k, rfl, rfl, hk, h0, hB⟩ := hrel
    have H0 := Lib.hid h0
    clear h0
    by_cases hlt : k < 4
    · have hkI : (k : Int) < 4 := by omega
      have hfc := (F0.below hB).cell (i := k) (by rw [List.getElem?_toArray]; exact keyFs_at k hlt)
      have X1 := X0.below hB
      have Y1 := Y0.below hB
      have hkx := fun w1 => key_c x HX.out k hlt w1
      have hky := fun w1 => key_c y HY.out k hlt w1
      obtain ⟨px, hpx⟩ : ∃ p, (nmPs x).getD k 0 = p := ⟨_, rfl⟩
      obtain ⟨py, hpy⟩ : ∃ p, (nmPs y).getD k 0 = p := ⟨_, rfl⟩
      have hcs := nmCs_at x y k hlt
      simp only [hpx] at hkx hcs
      simp only [hpy] at hky hcs
      have hcc := fun w1 => cmpU_c px py w1
      obtain ⟨cv, hcv⟩ : ∃ c, cmp3 px py = c := ⟨_, rfl⟩
      simp only [hcv] at hcc hcs
      have HKX := Lib.hid hkx
      have HKY := Lib.hid hky
      have HCC := Lib.hid hcc
      have HCS := Lib.hid hcs
      have hent := enters_key k
      obtain ⟨f, hf⟩ : ∃ f, keyF k = f := ⟨_, rfl⟩
      rw [hf] at hent hfc HKX HKY
      unfold Enters at hent
      clear hkx hky hcc hcs hpx hpy hcv hf
      go_wp2
      refine wp_region_pt (fun _ => False) (.q 0 (.q 1 (.q 3 (.q 4 (.c 2 (.c 5 (.c 6 (.q 7 .done)))))))) (by kernel_rfl) (by kernel_rfl) (by kernel_rfl) (by decide) (fun _ _ d _ _ h => by cases d <;> exact h) (fun Wd hBd => ?_)
      try simp only [Act.put, List.getElem_toArray, List.getElem_cons_zero, List.getElem_cons_succ, List.setIfInBounds_toArray, List.set_cons_zero, List.set_cons_succ]
      have X2 := X1.below hBd
      have Y2 := Y1.below hBd
      have qx : ∀ w', But (fun _ => False) Wd w' → w'.rangeAt w.heap.size 0 (nmC x) := fun w' h => (h.below (B := Wd.heap.size) (fun k e => e.elim) (Nat.le_refl _)) |> fun hb => rangeAt_up hb X2.range
      have qy : ∀ w', But (fun _ => False) Wd w' → w'.rangeAt (w.heap.size + 1) 0 (nmC y) := fun w' h => (h.below (B := Wd.heap.size) (fun k e => e.elim) (Nat.le_refl _)) |> fun hb => rangeAt_up hb Y2.range
      refine pt_q (v := ?_) rfl (by rfl) ?_ ?_
      rotate_left
      · intro w' hBw'
        first | (go_simp; done) | (go_simp; with_reducible rfl)
      try simp only [Act.put, List.getElem_toArray, List.getElem_cons_zero, List.getElem_cons_succ, List.setIfInBounds_toArray, List.set_cons_zero, List.set_cons_succ]
      refine pt_load rfl (by rfl) 102 (.tmp 3) rfl w.heap.size 0 rfl (nmC x) _ X2.range (fun h => h) Tryd.underlying102 rfl (by kernel_rfl) ?_
      try simp only [Act.put, List.getElem_toArray, List.getElem_cons_zero, List.getElem_cons_succ, List.setIfInBounds_toArray, List.set_cons_zero, List.set_cons_succ]
      refine pt_q (v := ?_) rfl (by rfl) ?_ ?_
      rotate_left
      · intro w' hBw'
        first | (go_simp; done) | (go_simp; with_reducible rfl)
      try simp only [Act.put, List.getElem_toArray, List.getElem_cons_zero, List.getElem_cons_succ, List.setIfInBounds_toArray, List.set_cons_zero, List.set_cons_succ]
      refine pt_load rfl (by rfl) 102 (.tmp 4) rfl (w.heap.size + 1) 0 rfl (nmC y) _ Y2.range (fun h => h) Tryd.underlying102 rfl (by kernel_rfl) ?_
      try simp only [Act.put, List.getElem_toArray, List.getElem_cons_zero, List.getElem_cons_succ, List.setIfInBounds_toArray, List.set_cons_zero, List.set_cons_succ]
      refine pt_c ?_
      refine pt_step rfl (by rfl) (fun K hK => ?_)
      go_simp
      refine (HKX.out _).mono ?_
      rintro en w3 ⟨rfl, hb3⟩
      refine hK.out _ _ (But.of_below hb3) ?_
      clear hK K
      try simp only [Act.put, List.getElem_toArray, List.getElem_cons_zero, List.getElem_cons_succ, List.setIfInBounds_toArray, List.set_cons_zero, List.set_cons_succ]
      refine pt_c ?_
      refine pt_step rfl (by rfl) (fun K hK => ?_)
      go_simp
      refine (HKY.out _).mono ?_
      rintro en w4 ⟨rfl, hb4⟩
      refine hK.out _ _ (But.of_below hb4) ?_
      clear hK K
      try simp only [Act.put, List.getElem_toArray, List.getElem_cons_zero, List.getElem_cons_succ, List.setIfInBounds_toArray, List.set_cons_zero, List.set_cons_succ]
      refine pt_c ?_
      refine pt_step rfl (by rfl) (fun K hK => ?_)
      go_simp
      refine (HCC.out _ ).mono ?_
      rintro en w5 ⟨rfl, rfl⟩
      refine hK.out _ _ (But.refl _ _) ?_
      clear hK K
      try simp only [Act.put, List.getElem_toArray, List.getElem_cons_zero, List.getElem_cons_succ, List.setIfInBounds_toArray, List.set_cons_zero, List.set_cons_succ]
      refine pt_q (v := ?_) rfl (by rfl) ?_ ?_
      rotate_left
      · intro w' hBw'
        first | (go_simp; done) | (go_simp; with_reducible rfl)
      try simp only [Act.put, List.getElem_toArray, List.getElem_cons_zero, List.getElem_cons_succ, List.setIfInBounds_toArray, List.set_cons_zero, List.set_cons_succ]
      refine pt_done ?_
      have hbx := below_up hB (below_up hBd (below_up hb3 hb4))
      by_cases hc : cv = 0
      · subst hc
        go_wp2
        exact ⟨⟨k + 1, rfl, by go_num, by omega, (fun j hj => by rcases Nat.lt_or_ge j k with h | h; exact H0.out j h; (obtain rfl : j = k := (by omega)); exact HCS.out.symm), hbx⟩, by simp [intOf]; omega⟩
      · have dc : (cv == 0) = false := by simp [hc]
        go_wp2
        go_ret
        have hl4 : (nmCs x y).length = 4 := rfl
        have he : (nmCs x y)[k]'(hl4 ▸ hlt) = cv := by rw [HCS.out, List.getD_eq_getElem?_getD, List.getElem?_eq_getElem (by omega)]; rfl
        exact ⟨retI (((cmpL_at (nmCs x y) k (hl4 ▸ hlt) H0.out (fun e => hc (he.symm.trans e))).trans he).symm), below_up hb2 hbx⟩
    · obtain rfl : k = 4 := by omega
      go_wp2
      go_ret
      exact ⟨retI (by unfold nmCmp; rw [cmpL_zero _ (fun j hj => H0.out j hj)]), below_up hb2 hB⟩
set_option maxHeartbeats 1000000 in
set_option maxRecDepth 100000 in
theorem order_c (x y : Nm) (hx : x.wf) (hy : y.wf) (w : World) : Calls Tryd.prog 18 #[nmV x, nmV y] w (Ret (.int .i64 (nmCmp x y)) w) := by
  have X0 : RowAt ((w.alloc (.cells (nmC x).toArray 31)).alloc (.cells (nmC y).toArray 31)) w.heap.size (nmC x).toArray 31 := (RowAt.new w _ _).alloc _
  have Y0 : RowAt ((w.alloc (.cells (nmC x).toArray 31)).alloc (.cells (nmC y).toArray 31)) (w.heap.size + 1) (nmC y).toArray 31 := by
    have := RowAt.new (w.alloc (.cells (nmC x).toArray 31)) (nmC y).toArray 31
    rwa [World.size_alloc] at this
  have hb2 : Below w.heap.size w ((w.alloc (.cells (nmC x).toArray 31)).alloc (.cells (nmC y).toArray 31)) := (below_alloc w _).alloc (by simp) _
  have hz2 : ((w.alloc (.cells (nmC x).toArray 31)).alloc (.cells (nmC y).toArray 31)).heap.size = w.heap.size + 2 := by simp
  have R0 := RowAt.new ((w.alloc (.cells (nmC x).toArray 31)).alloc (.cells (nmC y).toArray 31)) keyFs.toArray 103
  have hb3 := below_alloc ((w.alloc (.cells (nmC x).toArray 31)).alloc (.cells (nmC y).toArray 31)) (.cells keyFs.toArray 103)
  rw [hz2] at R0
  have hby := by_c x y hx hy _ R0
  obtain ⟨r, hr⟩ : ∃ r, nmCmp x y = r := ⟨_, rfl⟩
  rw [hr] at hby ⊢
  have HBY := Lib.hid hby
  clear hby hr
  go_enter Tryd.func18, Tryd.ntmps18
  go_wp2_with (first
    | (refine wpList_load_mid rfl 31 (.tmp 2) rfl w.heap.size 0 rfl (nmC x) _ X0.range Tryd.underlying31 rfl (by kernel_rfl) ?_)
    | (refine wpList_load_mid rfl 31 (.tmp 3) rfl (w.heap.size + 1) 0 rfl (nmC y) _ Y0.range Tryd.underlying31 rfl (by kernel_rfl) ?_)
    | (go_at_call 61; go_loud (refine HBY.out.mono ?_; rintro en w4 ⟨rfl, hb4⟩)))
  go_ret
  exact ⟨rfl, below_up hb2 (below_up hb3 hb4)⟩
end Go.Proofs.YtpfgepgjpnekdaaDoor
