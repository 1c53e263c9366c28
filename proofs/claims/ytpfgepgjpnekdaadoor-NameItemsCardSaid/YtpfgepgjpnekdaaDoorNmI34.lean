/-
  NmOrd, NmPl, NmPt: several texts in one (bundle.py).
-/
import Derived.Test.YtpfgepgjpnekdaaDoorNmI19
import Derived.Test.YtpfgepgjpnekdaaDoorNmI20
import Derived.Test.YtpfgepgjpnekdaaDoorNmI33
import Derived.Test.YtpfgepgjpnekdaaDoorNmI30
import Derived.Test.YtpfgepgjpnekdaaDoorNmI26
namespace Go.Proofs.YtpfgepgjpnekdaaDoor
open Go.RowKit Srt Trc
set_option linter.unusedSimpArgs false
set_option linter.unusedVariables false

/-- Three ways. -/
def cmp3 (a b : Int) : Int := if a < b then -1 else if b < a then 1 else 0
/-- The first that is not 0. -/
def cmpL : List Int → Int
  | [] => 0
  | c :: r => if c = 0 then cmpL r else c
namespace Trc
def nmPs (x : Nm) : List Int := [x.node, x.service, x.time, x.seq]
def nmCs (x y : Nm) : List Int := [cmp3 x.node y.node, cmp3 x.service y.service, cmp3 x.time y.time, cmp3 x.seq y.seq]
def nmCmp (x y : Nm) : Int := cmpL (nmCs x y)
end Trc
theorem cmpL_at : ∀ (l : List Int) (k : Nat) (hk : k < l.length), (∀ j, j < k → l.getD j 0 = 0) → l[k] ≠ 0 → cmpL l = l[k]
  | c :: r, 0, _, _, h => by simp only [List.getElem_cons_zero] at h ⊢; exact if_neg h
  | c :: r, k + 1, hk, h0, h => by
    have h1 := h0 0 (by omega)
    simp only [List.getD_cons_zero] at h1
    subst h1
    simp only [List.getElem_cons_succ] at h ⊢
    show cmpL r = _
    exact cmpL_at r k (by simpa using hk) (fun j hj => by have := h0 (j + 1) (by omega); simpa using this) h
theorem cmpL_zero : ∀ (l : List Int), (∀ j, j < l.length → l.getD j 0 = 0) → cmpL l = 0
  | [], _ => rfl
  | c :: r, h => by
    have h1 := h 0 (by simp)
    simp only [List.getD_cons_zero] at h1
    subst h1
    show cmpL r = 0
    exact cmpL_zero r (fun j hj => by have := h (j + 1) (by simpa using hj); simpa using this)
abbrev WN : Type := {x : Nm // x.wf}
abbrev wnC (x : WN) : List Value := nmC x.1
def wnCmp (x y : WN) : Int := nmCmp x.1 y.1
theorem wnCmp_lt (x y : WN) : ltc wnCmp x y = decide (x.1.node < y.1.node ∨ x.1.node = y.1.node ∧ (x.1.service < y.1.service ∨ x.1.service = y.1.service ∧ (x.1.time < y.1.time ∨ x.1.time = y.1.time ∧ x.1.seq < y.1.seq))) := by
  unfold ltc wnCmp nmCmp nmCs cmpL cmpL cmpL cmpL cmpL cmp3
  refine decide_eq_decide.2 ?_
  repeat' split
  all_goals omega
theorem wnTO : TO (ltc wnCmp) := by
  refine ⟨fun x y h => ?_, fun x y z h1 h2 => ?_, fun x y h1 h2 => ?_⟩
  · rw [wnCmp_lt] at h ⊢
    have := of_decide_eq_true h
    exact decide_eq_false (by omega)
  · rw [wnCmp_lt] at h1 h2 ⊢
    have := of_decide_eq_false h1
    have := of_decide_eq_false h2
    exact decide_eq_false (by omega)
  · rw [wnCmp_lt] at h1 h2
    have := of_decide_eq_false h1
    have := of_decide_eq_false h2
    exact Subtype.ext (Nm.ext (by omega) (by omega) (by omega) (by omega))
set_option maxRecDepth 100000 in
theorem isNaN_c (a : Int) (w : World) : Calls Tryd.prog 96 #[.int .u64 a] w fun en w' => en = .returned (.bool false) ∧ w = w' := by
  go_enter Tryd.func96, Tryd.ntmps96
  go_wp2
  go_ret
  exact ⟨rfl, rfl⟩
set_option maxRecDepth 100000 in
theorem cmpU_c (a b : Int) (w : World) : Calls Tryd.prog 84 #[.int .u64 a, .int .u64 b] w fun en w' => en = .returned (.int .i64 (cmp3 a b)) ∧ w = w' := by
  by_cases h1 : a < b
  · rw [show cmp3 a b = -1 from if_pos h1]
    have d1 : decide (a < b) = true := decide_eq_true h1
    go_enter Tryd.func84, Tryd.ntmps84
    go_wp2_with (go_at_call 96; refine (isNaN_c _ _).mono ?_; rintro en w1 ⟨rfl, rfl⟩)
    go_ret
    exact ⟨rfl, rfl⟩
  · have d1 : decide (a < b) = false := decide_eq_false h1
    by_cases h2 : b < a
    · rw [show cmp3 a b = 1 from (if_neg h1).trans (if_pos h2)]
      have d2 : decide (b < a) = true := decide_eq_true h2
      go_enter Tryd.func84, Tryd.ntmps84
      go_wp2_with (go_at_call 96; refine (isNaN_c _ _).mono ?_; rintro en w1 ⟨rfl, rfl⟩)
      go_ret
      exact ⟨rfl, rfl⟩
    · rw [show cmp3 a b = 0 from (if_neg h1).trans (if_neg h2)]
      have d2 : decide (b < a) = false := decide_eq_false h2
      go_enter Tryd.func84, Tryd.ntmps84
      go_wp2_with (go_at_call 96; refine (isNaN_c _ _).mono ?_; rintro en w1 ⟨rfl, rfl⟩)
      go_ret
      exact ⟨rfl, rfl⟩
theorem nm_bounds {x : Nm} (h : x.wf) : (0 ≤ x.node ∧ x.node ≤ 4294967295) ∧ (0 ≤ x.service ∧ x.service ≤ 4294967295) ∧ (0 ≤ x.time ∧ x.time ≤ 18446744073709551615) ∧ (0 ≤ x.seq ∧ x.seq ≤ 4294967295) := by
  obtain ⟨h1, h2, h3, h4⟩ := h
  simp [Lit.wf, IntKind.min, IntKind.max, IntKind.signed, IntKind.bits] at h1 h2 h3 h4
  omega
abbrev keyF : Nat → FuncId
  | 0 => 62
  | 1 => 63
  | 2 => 64
  | _ => 65
theorem key0_c (x : Nm) (hx : x.wf) (w : World) : Calls Tryd.prog 62 #[nmV x] w (Ret (.int .u64 x.node) w) := by
  obtain ⟨a, b, c, d⟩ := x
  obtain ⟨h1, h2, h3, h4⟩ := nm_bounds hx
  simp only at h1 h2 h3 h4
  have w1 : IntKind.u64.wrap a = a := by rw [IntKind.wrap_u64]; omega
  have w2 : IntKind.u64.wrap b = b := by rw [IntKind.wrap_u64]; omega
  have w4 : IntKind.u64.wrap d = d := by rw [IntKind.wrap_u64]; omega
  go_enter Tryd.func62, Tryd.ntmps62
  go_wp2
  go_ret
  exact ⟨by simp [w1, w2, w4], below_alloc _ _⟩
theorem key1_c (x : Nm) (hx : x.wf) (w : World) : Calls Tryd.prog 63 #[nmV x] w (Ret (.int .u64 x.service) w) := by
  obtain ⟨a, b, c, d⟩ := x
  obtain ⟨h1, h2, h3, h4⟩ := nm_bounds hx
  simp only at h1 h2 h3 h4
  have w1 : IntKind.u64.wrap a = a := by rw [IntKind.wrap_u64]; omega
  have w2 : IntKind.u64.wrap b = b := by rw [IntKind.wrap_u64]; omega
  have w4 : IntKind.u64.wrap d = d := by rw [IntKind.wrap_u64]; omega
  go_enter Tryd.func63, Tryd.ntmps63
  go_wp2
  go_ret
  exact ⟨by simp [w1, w2, w4], below_alloc _ _⟩
theorem key2_c (x : Nm) (hx : x.wf) (w : World) : Calls Tryd.prog 64 #[nmV x] w (Ret (.int .u64 x.time) w) := by
  obtain ⟨a, b, c, d⟩ := x
  obtain ⟨h1, h2, h3, h4⟩ := nm_bounds hx
  simp only at h1 h2 h3 h4
  have w1 : IntKind.u64.wrap a = a := by rw [IntKind.wrap_u64]; omega
  have w2 : IntKind.u64.wrap b = b := by rw [IntKind.wrap_u64]; omega
  have w4 : IntKind.u64.wrap d = d := by rw [IntKind.wrap_u64]; omega
  go_enter Tryd.func64, Tryd.ntmps64
  go_wp2
  go_ret
  exact ⟨by simp [w1, w2, w4], below_alloc _ _⟩
theorem key3_c (x : Nm) (hx : x.wf) (w : World) : Calls Tryd.prog 65 #[nmV x] w (Ret (.int .u64 x.seq) w) := by
  obtain ⟨a, b, c, d⟩ := x
  obtain ⟨h1, h2, h3, h4⟩ := nm_bounds hx
  simp only at h1 h2 h3 h4
  have w1 : IntKind.u64.wrap a = a := by rw [IntKind.wrap_u64]; omega
  have w2 : IntKind.u64.wrap b = b := by rw [IntKind.wrap_u64]; omega
  have w4 : IntKind.u64.wrap d = d := by rw [IntKind.wrap_u64]; omega
  go_enter Tryd.func65, Tryd.ntmps65
  go_wp2
  go_ret
  exact ⟨by simp [w1, w2, w4], below_alloc _ _⟩
theorem enters_key : ∀ k, Enters Tryd.prog (keyF k)
  | 0 => enters_of Tryd.func62 (by kernel_rfl) rfl
  | 1 => enters_of Tryd.func63 (by kernel_rfl) rfl
  | 2 => enters_of Tryd.func64 (by kernel_rfl) rfl
  | _ + 3 => enters_of Tryd.func65 (by kernel_rfl) rfl
theorem key_c (x : Nm) (hx : x.wf) : ∀ (k : Nat) (hk : k < 4) (w : World), Calls Tryd.prog (keyF k) #[nmV x] w (Ret (.int .u64 ((nmPs x).getD k 0)) w)
  | 0, _, w => key0_c x hx w
  | 1, _, w => key1_c x hx w
  | 2, _, w => key2_c x hx w
  | 3, _, w => key3_c x hx w
  | k + 4, hk, _ => by omega
theorem nmCs_at (x y : Nm) : ∀ k, k < 4 → cmp3 ((nmPs x).getD k 0) ((nmPs y).getD k 0) = (nmCs x y).getD k 0
  | 0, _ => rfl
  | 1, _ => rfl
  | 2, _ => rfl
  | 3, _ => rfl
  | k + 4, h => by omega
abbrev keyFs : List Value := [.func (.func 62) #[] #[], .func (.func 63) #[] #[], .func (.func 64) #[] #[], .func (.func 65) #[] #[]]
theorem keyFs_at : ∀ k, k < 4 → keyFs[k]? = some (.func (.func (keyF k)) #[] #[])
  | 0, _ => rfl
  | 1, _ => rfl
  | 2, _ => rfl
  | 3, _ => rfl
  | k + 4, h => by omega
set_option maxHeartbeats 1000000 in
set_option maxRecDepth 100000 in
theorem by_c (x y : Nm) (hx : x.wf) (hy : y.wf) {b : Nat} (w : World) (h : RowAt w b keyFs.toArray 103) : Calls Tryd.prog 61 #[nmV x, nmV y, .slice (some ⟨b, 0, none⟩) 4 4] w (Ret (.int .i64 (nmCmp x y)) w) := by
  have X0 : RowAt ((w.alloc (.cells (nmC x).toArray 102)).alloc (.cells (nmC y).toArray 102)) w.heap.size (nmC x).toArray 102 := (RowAt.new w _ _).alloc _
  have Y0 : RowAt ((w.alloc (.cells (nmC x).toArray 102)).alloc (.cells (nmC y).toArray 102)) (w.heap.size + 1) (nmC y).toArray 102 := by
    have := RowAt.new (w.alloc (.cells (nmC x).toArray 102)) (nmC y).toArray 102
    rwa [World.size_alloc] at this
  have hb2 : Below w.heap.size w ((w.alloc (.cells (nmC x).toArray 102)).alloc (.cells (nmC y).toArray 102)) := (below_alloc w _).alloc (by simp) _
  have F0 := h.below hb2
  have HX := Lib.hid hx
  have HY := Lib.hid hy
  have hz2 : ((w.alloc (.cells (nmC x).toArray 102)).alloc (.cells (nmC y).toArray 102)).heap.size = w.heap.size + 2 := by simp
  clear hx hy h
  go_enter Tryd.func61, Tryd.ntmps61
  go_wp2
  obtain ⟨W0, hW0⟩ : ∃ W0, ((w.alloc (.cells (nmC x).toArray 102)).alloc (.cells (nmC y).toArray 102)) = W0 := ⟨_, rfl⟩
  rw [hW0] at X0 Y0 hb2 F0 hz2 ⊢
  clear hW0
  go_loopw [6, 11] (fun vn vi wr => ∃ k : Nat, vn = .int .i64 0 ∧ vi = .int .i64 k ∧ k ≤ 4 ∧ (∀ j, j < k → (nmCs x y).getD j 0 = 0) ∧ Below W0.heap.size W0 wr) (fun _ vi _ => 4 - (intOf vi).toNat)
  case atStart => exact ⟨0, rfl, rfl, by omega, fun j hj => by omega, Below.refl _ _⟩
  case round =>
    obtain ⟨k, rfl, rfl, hk, h0, hB⟩ := hrel
    have H0 := Lib.hid h0
    clear h0
    by_cases hlt : k < 4
    · have hkI : (k : Int) < 4 := by omega
      have hfc := (F0.below hB).cell (i := k) (by rw [List.getElem?_toArray]; exact keyFs_at k hlt)
      have X1 := X0.below hB
      have Y1 := Y0.below hB
      have hkx := fun w1 => key_c x HX.out k hlt w1
      have hky := fun w1 => key_c y HY.out k hlt w1
      obtain ⟨px, hpx⟩ : ∃ p, (nmPs x).getD k 0 = p := ⟨_, rfl⟩
      obtain ⟨py, hpy⟩ : ∃ p, (nmPs y).getD k 0 = p := ⟨_, rfl⟩
      have hcs := nmCs_at x y k hlt
      simp only [hpx] at hkx hcs
      simp only [hpy] at hky hcs
      have hcc := fun w1 => cmpU_c px py w1
      obtain ⟨cv, hcv⟩ : ∃ c, cmp3 px py = c := ⟨_, rfl⟩
      simp only [hcv] at hcc hcs
      have HKX := Lib.hid hkx
      have HKY := Lib.hid hky
      have HCC := Lib.hid hcc
      have HCS := Lib.hid hcs
      have hent := enters_key k
      obtain ⟨f, hf⟩ : ∃ f, keyF k = f := ⟨_, rfl⟩
      rw [hf] at hent hfc HKX HKY
      unfold Enters at hent
      clear hkx hky hcc hcs hpx hpy hcv hf
      go_wp2
      refine wp_region_pt (fun _ => False) (.q 0 (.q 1 (.q 3 (.q 4 (.c 2 (.c 5 (.c 6 (.q 7 .done)))))))) (by kernel_rfl) (by kernel_rfl) (by kernel_rfl) (by decide) (fun _ _ d _ _ h => by cases d <;> exact h) (fun Wd hBd => ?_)
      try simp only [Act.put, List.getElem_toArray, List.getElem_cons_zero, List.getElem_cons_succ, List.setIfInBounds_toArray, List.set_cons_zero, List.set_cons_succ]
      have X2 := X1.below hBd
      have Y2 := Y1.below hBd
      have qx : ∀ w', But (fun _ => False) Wd w' → w'.rangeAt w.heap.size 0 (nmC x) := fun w' h => (h.below (B := Wd.heap.size) (fun k e => e.elim) (Nat.le_refl _)) |> fun hb => rangeAt_up hb X2.range
      have qy : ∀ w', But (fun _ => False) Wd w' → w'.rangeAt (w.heap.size + 1) 0 (nmC y) := fun w' h => (h.below (B := Wd.heap.size) (fun k e => e.elim) (Nat.le_refl _)) |> fun hb => rangeAt_up hb Y2.range
      refine pt_q (v := ?_) rfl (by rfl) ?_ ?_
      rotate_left
      · intro w' hBw'
        first | (go_simp; done) | (go_simp; with_reducible rfl)
      try simp only [Act.put, List.getElem_toArray, List.getElem_cons_zero, List.getElem_cons_succ, List.setIfInBounds_toArray, List.set_cons_zero, List.set_cons_succ]
      refine pt_load rfl (by rfl) 102 (.tmp 3) rfl w.heap.size 0 rfl (nmC x) _ X2.range (fun h => h) Tryd.underlying102 rfl (by kernel_rfl) ?_
      try simp only [Act.put, List.getElem_toArray, List.getElem_cons_zero, List.getElem_cons_succ, List.setIfInBounds_toArray, List.set_cons_zero, List.set_cons_succ]
      refine pt_q (v := ?_) rfl (by rfl) ?_ ?_
      rotate_left
      · intro w' hBw'
        first | (go_simp; done) | (go_simp; with_reducible rfl)
      try simp only [Act.put, List.getElem_toArray, List.getElem_cons_zero, List.getElem_cons_succ, List.setIfInBounds_toArray, List.set_cons_zero, List.set_cons_succ]
      refine pt_load rfl (by rfl) 102 (.tmp 4) rfl (w.heap.size + 1) 0 rfl (nmC y) _ Y2.range (fun h => h) Tryd.underlying102 rfl (by kernel_rfl) ?_
      try simp only [Act.put, List.getElem_toArray, List.getElem_cons_zero, List.getElem_cons_succ, List.setIfInBounds_toArray, List.set_cons_zero, List.set_cons_succ]
      refine pt_c ?_
      refine pt_step rfl (by rfl) (fun K hK => ?_)
      go_simp
      refine (HKX.out _).mono ?_
      rintro en w3 ⟨rfl, hb3⟩
      refine hK.out _ _ (But.of_below hb3) ?_
      clear hK K
      try simp only [Act.put, List.getElem_toArray, List.getElem_cons_zero, List.getElem_cons_succ, List.setIfInBounds_toArray, List.set_cons_zero, List.set_cons_succ]
      refine pt_c ?_
      refine pt_step rfl (by rfl) (fun K hK => ?_)
      go_simp
      refine (HKY.out _).mono ?_
      rintro en w4 ⟨rfl, hb4⟩
      refine hK.out _ _ (But.of_below hb4) ?_
      clear hK K
      try simp only [Act.put, List.getElem_toArray, List.getElem_cons_zero, List.getElem_cons_succ, List.setIfInBounds_toArray, List.set_cons_zero, List.set_cons_succ]
      refine pt_c ?_
      refine pt_step rfl (by rfl) (fun K hK => ?_)
      go_simp
      refine (HCC.out _ ).mono ?_
      rintro en w5 ⟨rfl, rfl⟩
      refine hK.out _ _ (But.refl _ _) ?_
      clear hK K
      try simp only [Act.put, List.getElem_toArray, List.getElem_cons_zero, List.getElem_cons_succ, List.setIfInBounds_toArray, List.set_cons_zero, List.set_cons_succ]
      refine pt_q (v := ?_) rfl (by rfl) ?_ ?_
      rotate_left
      · intro w' hBw'
        first | (go_simp; done) | (go_simp; with_reducible rfl)
      try simp only [Act.put, List.getElem_toArray, List.getElem_cons_zero, List.getElem_cons_succ, List.setIfInBounds_toArray, List.set_cons_zero, List.set_cons_succ]
      refine pt_done ?_
      have hbx := below_up hB (below_up hBd (below_up hb3 hb4))
      by_cases hc : cv = 0
      · subst hc
        go_wp2
        exact ⟨⟨k + 1, rfl, by go_num, by omega, (fun j hj => by rcases Nat.lt_or_ge j k with h | h; exact H0.out j h; (obtain rfl : j = k := (by omega)); exact HCS.out.symm), hbx⟩, by simp [intOf]; omega⟩
      · have dc : (cv == 0) = false := by simp [hc]
        go_wp2
        go_ret
        have hl4 : (nmCs x y).length = 4 := rfl
        have he : (nmCs x y)[k]'(hl4 ▸ hlt) = cv := by rw [HCS.out, List.getD_eq_getElem?_getD, List.getElem?_eq_getElem (by omega)]; rfl
        exact ⟨retI (((cmpL_at (nmCs x y) k (hl4 ▸ hlt) H0.out (fun e => hc (he.symm.trans e))).trans he).symm), below_up hb2 hbx⟩
    · obtain rfl : k = 4 := by omega
      go_wp2
      go_ret
      exact ⟨retI (by unfold nmCmp; rw [cmpL_zero _ (fun j hj => H0.out j hj)]), below_up hb2 hB⟩
set_option maxHeartbeats 1000000 in
set_option maxRecDepth 100000 in
theorem order_c (x y : Nm) (hx : x.wf) (hy : y.wf) (w : World) : Calls Tryd.prog 18 #[nmV x, nmV y] w (Ret (.int .i64 (nmCmp x y)) w) := by
  have X0 : RowAt ((w.alloc (.cells (nmC x).toArray 31)).alloc (.cells (nmC y).toArray 31)) w.heap.size (nmC x).toArray 31 := (RowAt.new w _ _).alloc _
  have Y0 : RowAt ((w.alloc (.cells (nmC x).toArray 31)).alloc (.cells (nmC y).toArray 31)) (w.heap.size + 1) (nmC y).toArray 31 := by
    have := RowAt.new (w.alloc (.cells (nmC x).toArray 31)) (nmC y).toArray 31
    rwa [World.size_alloc] at this
  have hb2 : Below w.heap.size w ((w.alloc (.cells (nmC x).toArray 31)).alloc (.cells (nmC y).toArray 31)) := (below_alloc w _).alloc (by simp) _
  have hz2 : ((w.alloc (.cells (nmC x).toArray 31)).alloc (.cells (nmC y).toArray 31)).heap.size = w.heap.size + 2 := by simp
  have R0 := RowAt.new ((w.alloc (.cells (nmC x).toArray 31)).alloc (.cells (nmC y).toArray 31)) keyFs.toArray 103
  have hb3 := below_alloc ((w.alloc (.cells (nmC x).toArray 31)).alloc (.cells (nmC y).toArray 31)) (.cells keyFs.toArray 103)
  rw [hz2] at R0
  have hby := by_c x y hx hy _ R0
  obtain ⟨r, hr⟩ : ∃ r, nmCmp x y = r := ⟨_, rfl⟩
  rw [hr] at hby ⊢
  have HBY := Lib.hid hby
  clear hby hr
  go_enter Tryd.func18, Tryd.ntmps18
  go_wp2_with (first
    | (refine wpList_load_mid rfl 31 (.tmp 2) rfl w.heap.size 0 rfl (nmC x) _ X0.range Tryd.underlying31 rfl (by kernel_rfl) ?_)
    | (refine wpList_load_mid rfl 31 (.tmp 3) rfl (w.heap.size + 1) 0 rfl (nmC y) _ Y0.range Tryd.underlying31 rfl (by kernel_rfl) ?_)
    | (go_at_call 61; go_loud (refine HBY.out.mono ?_; rintro en w4 ⟨rfl, hb4⟩)))
  go_ret
  exact ⟨rfl, below_up hb2 (below_up hb3 hb4)⟩
end Go.Proofs.YtpfgepgjpnekdaaDoor

namespace Go.Proofs.YtpfgepgjpnekdaaDoor
open Go.RowKit Trc Cb
set_option linter.unusedSimpArgs false
set_option linter.unusedVariables false
namespace Dig
theorem toNum_mk (n bound : Nat) (hb : bound < 10000000000000000000) (h : n ≤ bound) : toNum (Lib.decDigits n) bound = some n :=
  (toNum_iff _ _ _ hb).2 ⟨all_dec n, lean_dec n, by rw [val_dec]; exact h, (val_dec n).symm⟩
theorem dec_no {c : UInt8} (h : isD c = false) (n : Nat) : c ∉ Lib.decDigits n := fun hc => by
  have := List.all_eq_true.1 (all_dec n) c hc
  rw [h] at this; cases this
theorem endP_mk (n m : Nat) (h0 : n ≠ 0) (hn : n < 4294967296) (hm : m < 4294967296) : endP (toldP n m) = some (n, m) := by
  have ht : toldP n m = ipnL ++ (Lib.decDigits n ++ 46 :: Lib.decDigits m) := by unfold toldP; rw [if_neg h0]; simp
  have hd : (toldP n m).drop 4 = Lib.decDigits n ++ 46 :: Lib.decDigits m := by rw [ht]; rfl
  have hk : (toldP n m).take 4 = ipnL := by rw [ht]; rfl
  unfold endP
  rw [if_neg (by rw [ht]; intro e; simp [ipnL, nobodyL] at e), if_pos hk, hd, cut_mk (dec_no (by decide) n)]
  simp only
  rw [toNum_mk n _ (by decide) (by omega), toNum_mk m _ (by decide) (by omega)]
  simp only
  rw [if_neg h0]
theorem endP_none : endP (toldP 0 0) = some (0, 0) := by
  rw [show toldP 0 0 = nobodyL from rfl]
  unfold endP
  rw [if_pos rfl]
theorem told_no (n m : Nat) : (32 : UInt8) ∉ toldP n m := by
  unfold toldP
  split
  · decide
  · simp only [List.mem_append, not_or]
    exact ⟨⟨⟨by decide, dec_no (by decide) n⟩, by decide⟩, dec_no (by decide) m⟩
theorem nameQ_mk (n m t s : Nat) (h0 : n ≠ 0) (hn : n < 4294967296) (hm : m < 4294967296) (ht : t ≤ 4611686018427387903) (hs : s < 4294967296) : nameQ (nameT n m t s) = some ⟨n, m, t, s⟩ := by
  have hT : nameT n m t s = toldP n m ++ 32 :: (Lib.decDigits t ++ 32 :: Lib.decDigits s) := by unfold nameT; simp
  unfold nameQ
  rw [hT, cut_mk (told_no n m)]
  simp only
  rw [endP_mk n m h0 hn hm]
  simp only
  rw [cut_mk (dec_no (by decide) t)]
  simp only
  rw [toNum_mk t _ (by decide) ht]
  simp only
  rw [toNum_mk s _ (by decide) (by omega)]
  simp only
  rw [if_neg h0]
theorem nameT_len (n m t s : Nat) (hn : n < 4294967296) (hm : m < 4294967296) (ht : t < 18446744073709551616) (hs : s < 4294967296) : (nameT n m t s).length ≤ 100 := by
  have := told_len n m hn hm
  have := dec_len t ht
  have := dec_len s (by omega)
  unfold nameT
  simp only [List.length_append, List.length_cons, List.length_nil]
  omega
/-- Right names with one text are one. -/
theorem nameT_inj {n m t s n' m' t' s' : Nat} (h : chkN n t = 0) (h' : chkN n' t' = 0) (hn : n < 4294967296) (hm : m < 4294967296) (hs : s < 4294967296) (hn' : n' < 4294967296) (hm' : m' < 4294967296) (hs' : s' < 4294967296)
    (e : nameT n m t s = nameT n' m' t' s') : n = n' ∧ m = m' ∧ t = t' ∧ s = s' := by
  have c : ∀ {a b : Nat}, chkN a b = 0 → a ≠ 0 ∧ b ≤ 4611686018427387903 := fun {a b} h => by
    unfold chkN at h
    split at h
    · cases h
    · omega
  have h1 := nameQ_mk n m t s (c h).1 hn hm (c h).2 hs
  have h2 := nameQ_mk n' m' t' s' (c h').1 hn' hm' (c h').2 hs'
  rw [e, h2] at h1
  simp only [Option.some.injEq, N4.mk.injEq] at h1
  exact ⟨h1.1.symm, h1.2.1.symm, h1.2.2.1.symm, h1.2.2.2.symm⟩
end Dig
theorem uI_inj {a b : Nat} (h : uI a = uI b) : a = b := by
  simp only [It.mk.injEq] at h; omega
theorem lI_inj {a b : List It} (h : lI a = lI b) : a = b := by
  simp only [It.mk.injEq] at h; exact h.2.2.2.2
theorem nmI_inj {n m t s n' m' t' s' : Nat} (h0 : n ≠ 0) (h0' : n' ≠ 0) (e : nmI n m t s = nmI n' m' t' s') : n = n' ∧ m = m' ∧ t = t' ∧ s = s' := by
  unfold nmI epI at e
  rw [if_neg h0, if_neg h0'] at e
  have e1 := lI_inj e
  simp only [List.cons.injEq, and_true] at e1
  have e2 := lI_inj e1.1
  simp only [List.cons.injEq, and_true, true_and] at e2
  have e3 := lI_inj e2
  simp only [List.cons.injEq, and_true] at e3
  exact ⟨uI_inj e3.1, uI_inj e3.2, uI_inj e1.2.1, uI_inj e1.2.2⟩
theorem cmp3_cases (a b : Int) : (a < b ∧ cmp3 a b = -1) ∨ (a = b ∧ cmp3 a b = 0) ∨ (b < a ∧ cmp3 a b = 1) := by
  unfold cmp3
  split
  · exact .inl ⟨‹_›, rfl⟩
  · split
    · exact .inr (.inr ⟨‹_›, rfl⟩)
    · exact .inr (.inl ⟨by omega, rfl⟩)
abbrev lexB (a b c d a' b' c' d' : Int) : Prop := a < a' ∨ a = a' ∧ (b < b' ∨ b = b' ∧ (c < c' ∨ c = c' ∧ d < d'))
theorem nmCmp_cases (x y : Nm) : (lexB x.node x.service x.time x.seq y.node y.service y.time y.seq ∧ nmCmp x y = -1) ∨ ((x.node = y.node ∧ x.service = y.service ∧ x.time = y.time ∧ x.seq = y.seq) ∧ nmCmp x y = 0) ∨ (lexB y.node y.service y.time y.seq x.node x.service x.time x.seq ∧ nmCmp x y = 1) := by
  have e : nmCmp x y = if cmp3 x.node y.node = 0 then (if cmp3 x.service y.service = 0 then (if cmp3 x.time y.time = 0 then (if cmp3 x.seq y.seq = 0 then 0 else cmp3 x.seq y.seq) else cmp3 x.time y.time) else cmp3 x.service y.service) else cmp3 x.node y.node := rfl
  rcases cmp3_cases x.node y.node with ⟨h1, c1⟩ | ⟨h1, c1⟩ | ⟨h1, c1⟩
  · exact .inl ⟨.inl h1, by rw [e, if_neg (by rw [c1]; decide), c1]⟩
  · rw [if_pos c1] at e
    rcases cmp3_cases x.service y.service with ⟨h2, c2⟩ | ⟨h2, c2⟩ | ⟨h2, c2⟩
    · exact .inl ⟨.inr ⟨h1, .inl h2⟩, by rw [e, if_neg (by rw [c2]; decide), c2]⟩
    · rw [if_pos c2] at e
      rcases cmp3_cases x.time y.time with ⟨h3, c3⟩ | ⟨h3, c3⟩ | ⟨h3, c3⟩
      · exact .inl ⟨.inr ⟨h1, .inr ⟨h2, .inl h3⟩⟩, by rw [e, if_neg (by rw [c3]; decide), c3]⟩
      · rw [if_pos c3] at e
        rcases cmp3_cases x.seq y.seq with ⟨h4, c4⟩ | ⟨h4, c4⟩ | ⟨h4, c4⟩
        · exact .inl ⟨.inr ⟨h1, .inr ⟨h2, .inr ⟨h3, h4⟩⟩⟩, by rw [e, if_neg (by rw [c4]; decide), c4]⟩
        · exact .inr (.inl ⟨⟨h1, h2, h3, h4⟩, by rw [e, if_pos c4]⟩)
        · exact .inr (.inr ⟨.inr ⟨h1.symm, .inr ⟨h2.symm, .inr ⟨h3.symm, h4⟩⟩⟩, by rw [e, if_neg (by rw [c4]; decide), c4]⟩)
      · exact .inr (.inr ⟨.inr ⟨h1.symm, .inr ⟨h2.symm, .inl h3⟩⟩, by rw [e, if_neg (by rw [c3]; decide), c3]⟩)
    · exact .inr (.inr ⟨.inr ⟨h1.symm, .inl h2⟩, by rw [e, if_neg (by rw [c2]; decide), c2]⟩)
  · exact .inr (.inr ⟨.inl h1, by rw [e, if_neg (by rw [c1]; decide), c1]⟩)
theorem nmCmp_neg (x y : Nm) : nmCmp x y = -nmCmp y x := by
  have h1 := nmCmp_cases x y
  have h2 := nmCmp_cases y x
  unfold lexB at h1 h2
  omega
theorem nmCmp_zero (x y : Nm) : nmCmp x y = 0 ↔ x = y := by
  have h1 := nmCmp_cases x y
  unfold lexB at h1
  constructor
  · intro h
    exact Nm.ext (by omega) (by omega) (by omega) (by omega)
  · rintro rfl
    omega
theorem nmCmp_b (x y : Nm) : -1 ≤ nmCmp x y ∧ nmCmp x y ≤ 1 := by
  have h1 := nmCmp_cases x y
  omega
theorem nmCmp_trans {x y z : Nm} (h1 : nmCmp x y < 0) (h2 : nmCmp y z < 0) : nmCmp x z < 0 := by
  have c1 := nmCmp_cases x y
  have c2 := nmCmp_cases y z
  have c3 := nmCmp_cases x z
  unfold lexB at c1 c2 c3
  omega
end Go.Proofs.YtpfgepgjpnekdaaDoor

namespace Go.Proofs.YtpfgepgjpnekdaaDoor
open Go.RowKit Trc Cb
set_option linter.unusedSimpArgs false
set_option linter.unusedVariables false
theorem readU_ep0 : readU (epI 0 0) = [1, 0] := by decide
theorem readU_ep (n m : Nat) (h : n ≠ 0) : readU (epI n m) = [2, (n : Int), (m : Int)] := by
  unfold epI
  rw [if_neg h]
  simp [readU, usK, usT, It.k, It.l, It.n]
theorem readU_nm (n m t s : Nat) (h : n ≠ 0) : readU (nmI n m t s) = [(t : Int), (s : Int), 2, (n : Int), (m : Int)] := by
  unfold nmI epI
  rw [if_neg h]
  simp [readU, usK, usT, It.k, It.l, It.n]
theorem of_epI (n m : Nat) (hn : n < 4294967296) (hm : m < 4294967296) (hc : Dig.chkP n m = 0) : ofV (epI n m) = .tuple #[epV n m, .int .i64 0] := by
  have h0 : n = 0 → m = 0 := fun h => by
    unfold Dig.chkP at hc
    split at hc
    · cases hc
    · rename_i h2; exact Decidable.byContradiction fun h3 => h2 ⟨h, h3⟩
  by_cases h : n = 0
  · obtain rfl := h
    obtain rfl := h0 rfl
    have ha : ofA (epI 0 0) = 0 := by unfold ofA; rw [readU_ep0]; rfl
    have hb : ofB (epI 0 0) = 0 := by unfold ofB; rw [readU_ep0]; rfl
    have hk : okE (epI 0 0) = true := by unfold okE; rw [ha, hb, sameB_refl, hc]; rfl
    unfold ofV
    rw [hk, ha, hb]
    rfl
  · have ha : ofA (epI n m) = n := by unfold ofA; rw [readU_ep n m h]; simp [g5]; omega
    have hb : ofB (epI n m) = m := by unfold ofB; rw [readU_ep n m h]; simp [g5]; omega
    have hk : okE (epI n m) = true := by unfold okE; rw [ha, hb, sameB_refl, hc]; rfl
    unfold ofV
    rw [hk, ha, hb]
    rfl
theorem nof_nmI (n m t s : Nat) (hn : n < 4294967296) (hm : m < 4294967296) (hs : s < 4294967296) (hc : Dig.chkN n t = 0) : nofV (nmI n m t s) = .tuple #[nmW n m t s, .int .i64 0] := by
  have h : n ≠ 0 := fun h => by
    unfold Dig.chkN at hc
    rw [if_pos (.inl h)] at hc
    cases hc
  have ha : naN (nmI n m t s) = n := by unfold naN; rw [readU_nm n m t s h]; simp [g5]; omega
  have hb : naM (nmI n m t s) = m := by unfold naM; rw [readU_nm n m t s h]; simp [g5]; omega
  have hct : naT (nmI n m t s) = t := by unfold naT; rw [readU_nm n m t s h]; simp [g5]
  have hd : naS (nmI n m t s) = s := by unfold naS; rw [readU_nm n m t s h]; simp [g5]; omega
  have hk : okN (nmI n m t s) = true := by unfold okN; rw [ha, hb, hct, hd, sameB_refl, hc]; rfl
  unfold nofV
  rw [hk, ha, hb, hct, hd]
  rfl
theorem parse_mk (n m : Nat) (hn : n < 4294967296) (hm : m < 4294967296) (hc : Dig.chkP n m = 0) : Dig.parseP (Dig.toldP n m) = ((n, m), 0) := by
  have h0 : n = 0 → m = 0 := fun h => by
    unfold Dig.chkP at hc
    split at hc
    · cases hc
    · rename_i h2; exact Decidable.byContradiction fun h3 => h2 ⟨h, h3⟩
  have hl : ¬ 100 < (Dig.toldP n m).length := by
    have := Dig.nameT_len n m 0 0 hn hm (by decide) (by decide)
    unfold Dig.nameT at this
    simp only [List.length_append] at this
    omega
  unfold Dig.parseP
  rw [if_neg hl]
  by_cases h : n = 0
  · obtain rfl := h
    obtain rfl := h0 rfl
    rw [Dig.endP_none]
  · rw [Dig.endP_mk n m h hn hm]
end Go.Proofs.YtpfgepgjpnekdaaDoor
