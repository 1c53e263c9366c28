/-
  The order of sights: the keys' parts, by, the comparison.
-/
import Derived.Test.YtfoncaamhleckaaSeD
import Derived.Sort.Grow
import Derived.Sort.Row
namespace Go.Proofs.Ytfoncaamhleckaa
open Go.RowKit Go.Maps Trc Sn Srt
set_option linter.unusedSimpArgs false
set_option linter.unusedVariables false

namespace Sn
def bI (b : Bool) : Int := if b then 1 else 0
def sgCs (x y : Sg) : List Int := [nmCmp x.n y.n, bI x.b - bI y.b, x.c - y.c]
def sgCmp (x y : Sg) : Int := cmp3 (cmpL (sgCs x y)) 0
/-- Is a sight ahead of another one? -/
def ltS (x y : Sg) : Prop :=
  (x.n.node < y.n.node ∨ x.n.node = y.n.node ∧ (x.n.service < y.n.service ∨ x.n.service = y.n.service ∧ (x.n.time < y.n.time ∨ x.n.time = y.n.time ∧ (x.n.seq < y.n.seq ∨ x.n.seq = y.n.seq ∧ (bI x.b < bI y.b ∨ bI x.b = bI y.b ∧ x.c < y.c)))))
theorem cmp3_cases (a b : Int) : (a < b ∧ cmp3 a b = -1) ∨ (a = b ∧ cmp3 a b = 0) ∨ (b < a ∧ cmp3 a b = 1) := by
  unfold cmp3
  split
  · exact .inl ⟨by assumption, rfl⟩
  · split
    · exact .inr (.inr ⟨by assumption, rfl⟩)
    · exact .inr (.inl ⟨by omega, rfl⟩)
theorem cmpL_cons (a : Int) (l : List Int) : cmpL (a :: l) = if a = 0 then cmpL l else a := rfl
theorem cmpL_nil : cmpL [] = 0 := rfl
theorem nmCmp_cases (x y : Nm) : (nmCmp x y < 0 ∧ (x.node < y.node ∨ x.node = y.node ∧ (x.service < y.service ∨ x.service = y.service ∧ (x.time < y.time ∨ x.time = y.time ∧ x.seq < y.seq)))) ∨ (nmCmp x y = 0 ∧ x.node = y.node ∧ x.service = y.service ∧ x.time = y.time ∧ x.seq = y.seq) ∨
    (0 < nmCmp x y ∧ (y.node < x.node ∨ x.node = y.node ∧ (y.service < x.service ∨ x.service = y.service ∧ (y.time < x.time ∨ x.time = y.time ∧ y.seq < x.seq)))) := by
  have h1 := cmp3_cases x.node y.node
  have h2 := cmp3_cases x.service y.service
  have h3 := cmp3_cases x.time y.time
  have h4 := cmp3_cases x.seq y.seq
  unfold nmCmp nmCs
  rw [cmpL_cons, cmpL_cons, cmpL_cons, cmpL_cons, cmpL_nil]
  generalize cmp3 x.node y.node = a at *
  generalize cmp3 x.service y.service = b at *
  generalize cmp3 x.time y.time = c at *
  generalize cmp3 x.seq y.seq = d at *
  rcases h1 with ⟨h1, rfl⟩ | ⟨h1, rfl⟩ | ⟨h1, rfl⟩
  · simp; omega
  · rcases h2 with ⟨h2, rfl⟩ | ⟨h2, rfl⟩ | ⟨h2, rfl⟩
    · simp; omega
    · rcases h3 with ⟨h3, rfl⟩ | ⟨h3, rfl⟩ | ⟨h3, rfl⟩
      · simp; omega
      · rcases h4 with ⟨h4, rfl⟩ | ⟨h4, rfl⟩ | ⟨h4, rfl⟩ <;> (simp; omega)
      · simp; omega
    · simp; omega
  · simp; omega
theorem bI_b (b : Bool) : (b = true ∧ bI b = 1) ∨ (b = false ∧ bI b = 0) := by cases b; exact .inr ⟨rfl, rfl⟩; exact .inl ⟨rfl, rfl⟩
theorem sgCmp_lt (x y : Sg) : sgCmp x y < 0 ↔ ltS x y := by
  unfold sgCmp sgCs ltS
  rw [cmpL_cons, cmpL_cons, cmpL_cons, cmpL_nil]
  have hn := nmCmp_cases x.n y.n
  generalize nmCmp x.n y.n = n at *
  generalize bI x.b = bx at *
  generalize bI y.b = b_y at *
  have hc := cmp3_cases (if n = 0 then (if bx - b_y = 0 then (if x.c - y.c = 0 then 0 else x.c - y.c) else bx - b_y) else n) 0
  generalize cmp3 (if n = 0 then (if bx - b_y = 0 then (if x.c - y.c = 0 then 0 else x.c - y.c) else bx - b_y) else n) 0 = r at *
  rcases hn with ⟨hn, h⟩ | ⟨hn, h⟩ | ⟨hn, h⟩
  · rw [if_neg (by omega)] at hc
    omega
  · rw [if_pos (by omega)] at hc
    by_cases hb : bx - b_y = 0
    · rw [if_pos hb] at hc
      by_cases hcc : x.c - y.c = 0
      · rw [if_pos hcc] at hc; omega
      · rw [if_neg hcc] at hc; omega
    · rw [if_neg hb] at hc; omega
  · rw [if_neg (by omega)] at hc
    omega
theorem ltS_irrefl (x : Sg) : ¬ ltS x x := by unfold ltS; omega
theorem ltS_trans {x y z : Sg} (h1 : ltS x y) (h2 : ltS y z) : ltS x z := by unfold ltS at *; omega
theorem ltS_tri (x y : Sg) : x = y ∨ ltS x y ∨ ltS y x := by
  by_cases h : x = y
  · exact .inl h
  · right
    obtain ⟨⟨a, b, c, d⟩, e, f⟩ := x
    obtain ⟨⟨a', b', c', d'⟩, e', f'⟩ := y
    unfold ltS
    have h1 := bI_b e
    have h2 := bI_b e'
    have h3 : ¬ (a = a' ∧ b = b' ∧ c = c' ∧ d = d' ∧ bI e = bI e' ∧ f = f') := by
      rintro ⟨rfl, rfl, rfl, rfl, he, rfl⟩
      have : e = e' := by
        rcases h1 with ⟨p, q⟩ | ⟨p, q⟩ <;> rcases h2 with ⟨p', q'⟩ | ⟨p', q'⟩ <;> first | omega | (rw [p, p']; done)
      subst this
      exact h rfl
    simp only
    clear h h1 h2
    generalize bI e = u at *
    generalize bI e' = u' at *
    omega
end Sn

set_option maxRecDepth 100000 in
theorem isNaNI_c (a : Int) (w : World) : Calls Try.prog 58 #[.int .i64 a] w fun en w' => en = .returned (.bool false) ∧ w = w' := by
  go_enter Try.func58, Try.ntmps58
  go_wp2
  go_ret
  exact ⟨rfl, rfl⟩
set_option maxRecDepth 100000 in
theorem cmpI_c (a b : Int) (w : World) : Calls Try.prog 52 #[.int .i64 a, .int .i64 b] w fun en w' => en = .returned (.int .i64 (cmp3 a b)) ∧ w = w' := by
  by_cases h1 : a < b
  · rw [show cmp3 a b = -1 from if_pos h1]
    have d1 : decide (a < b) = true := decide_eq_true h1
    go_enter Try.func52, Try.ntmps52
    go_wp2_with (go_at_call 58; refine (isNaNI_c _ _).mono ?_; rintro en w1 ⟨rfl, rfl⟩)
    go_ret
    exact ⟨rfl, rfl⟩
  · have d1 : decide (a < b) = false := decide_eq_false h1
    by_cases h2 : b < a
    · rw [show cmp3 a b = 1 from (if_neg h1).trans (if_pos h2)]
      have d2 : decide (b < a) = true := decide_eq_true h2
      go_enter Try.func52, Try.ntmps52
      go_wp2_with (go_at_call 58; refine (isNaNI_c _ _).mono ?_; rintro en w1 ⟨rfl, rfl⟩)
      go_ret
      exact ⟨rfl, rfl⟩
    · rw [show cmp3 a b = 0 from (if_neg h1).trans (if_neg h2)]
      have d2 : decide (b < a) = false := decide_eq_false h2
      go_enter Try.func52, Try.ntmps52
      go_wp2_with (go_at_call 58; refine (isNaNI_c _ _).mono ?_; rintro en w1 ⟨rfl, rfl⟩)
      go_ret
      exact ⟨rfl, rfl⟩

abbrev KY : TypeId := 94
set_option maxRecDepth 100000 in
theorem seNamed_c (x y : Sg) (hx : x.wf) (hy : y.wf) (w : World) : Calls Try.prog 44 #[sgV x, sgV y] w (RetD (.int .i64 (nmCmp x.n y.n)) w) := by
  have X0 := sg_nmK ((RowAt.new w (sgC x).toArray KY).alloc (.cells (sgC y).toArray KY))
  have Y0 := sg_nmK (RowAt.new (w.alloc (.cells (sgC x).toArray KY)) (sgC y).toArray KY)
  rw [World.size_alloc] at Y0
  have hb2 : Below w.heap.size w ((w.alloc (.cells (sgC x).toArray KY)).alloc (.cells (sgC y).toArray KY)) := (below_alloc w _).alloc (by simp) _
  have ho := Lib.hid (fun w => order_c x.n y.n hx.1 hy.1 w)
  obtain ⟨r, hr⟩ : ∃ r, nmCmp x.n y.n = r := ⟨_, rfl⟩
  rw [hr] at ho ⊢
  clear hr
  go_enter Try.func44, Try.ntmps44
  go_wp2_with (first
    | (refine wpList_load_mid rfl 36 (.tmp 5) rfl w.heap.size 0 rfl (nmC x.n) _ X0 Try.underlying36 rfl (by kernel_rfl) ?_)
    | (refine wpList_load_mid rfl 36 (.tmp 7) rfl (w.heap.size + 1) 0 rfl (nmC y.n) _ Y0 Try.underlying36 rfl (by kernel_rfl) ?_)
    | (go_at_call 53; refine (ho.out _).mono ?_; rintro en w4 ⟨rfl, hb4, hd4⟩))
  go_ret
  exact ⟨rfl, below_up hb2 hb4, hd4⟩
theorem sg_c {x : Sg} (h : x.wf) : 0 ≤ x.c ∧ x.c ≤ 255 := by
  have := h.2
  simp [Lit.wf, IntKind.min, IntKind.max, IntKind.signed, IntKind.bits] at this
  omega
set_option maxRecDepth 100000 in
theorem seCount_c (x y : Sg) (hx : x.wf) (hy : y.wf) (w : World) : Calls Try.prog 46 #[sgV x, sgV y] w (RetD (.int .i64 (x.c - y.c)) w) := by
  have hxc := sg_c hx
  have hyc := sg_c hy
  have w1 : IntKind.i64.wrap x.c = x.c := by rw [IntKind.wrap_i64]; omega
  have w2 : IntKind.i64.wrap y.c = y.c := by rw [IntKind.wrap_i64]; omega
  have w3 : IntKind.i64.wrap (x.c - y.c) = x.c - y.c := by rw [IntKind.wrap_i64]; omega
  clear hxc hyc hx hy
  have hb2 : Below w.heap.size w ((w.alloc (.cells (sgC x).toArray KY)).alloc (.cells (sgC y).toArray KY)) := (below_alloc w _).alloc (by simp) _
  go_enter Try.func46, Try.ntmps46
  go_wp2
  go_ret
  exact ⟨by simp [w1, w2, w3], hb2, Nat.le_refl _⟩
theorem two_keys0 (a b c d f a' b' c' d' f' : Int) (e e' : Bool) (w : World) : (Instr.index 106 (.agg #[.int .u32 a, .int .u32 b, .int .u64 c, .int .u32 d, .bool e, .int .u8 f, .int .u32 a', .int .u32 b', .int .u64 c', .int .u32 d', .bool e', .int .u8 f']) (.int .i64 0)).run Try.prog w = .ok (.agg #[.int .u32 a, .int .u32 b, .int .u64 c, .int .u32 d, .bool e, .int .u8 f]) w := by kernel_rfl
theorem two_keys1 (a b c d f a' b' c' d' f' : Int) (e e' : Bool) (w : World) : (Instr.index 106 (.agg #[.int .u32 a, .int .u32 b, .int .u64 c, .int .u32 d, .bool e, .int .u8 f, .int .u32 a', .int .u32 b', .int .u64 c', .int .u32 d', .bool e', .int .u8 f']) (.int .i64 1)).run Try.prog w = .ok (.agg #[.int .u32 a', .int .u32 b', .int .u64 c', .int .u32 d', .bool e', .int .u8 f']) w := by kernel_rfl
/-- How far back has come. -/
def Sn.bkAt (x y : Sg) (k : Nat) : List Value := [.int .i64 (if 0 < k then bI x.b else 0), .int .i64 (if 1 < k then bI y.b else 0)]
set_option maxHeartbeats 2000000 in
set_option maxRecDepth 100000 in
theorem seBack_c (x y : Sg) (w : World) : Calls Try.prog 45 #[sgV x, sgV y] w (RetD (.int .i64 (bI x.b - bI y.b)) w) := by
  obtain ⟨⟨a, b, c, d⟩, e, f⟩ := x
  obtain ⟨⟨a', b', c', d'⟩, e', f'⟩ := y
  have hi0 := two_keys0 a b c d f a' b' c' d' f' e e'
  have hi1 := two_keys1 a b c d f a' b' c' d' f' e e'
  have X0 := ((RowAt.new w #[.int .u32 a, .int .u32 b, .int .u64 c, .int .u32 d, .bool e, .int .u8 f] KY).alloc (.cells #[.int .u32 a', .int .u32 b', .int .u64 c', .int .u32 d', .bool e', .int .u8 f'] KY)).range
  have Y0 := (RowAt.new (w.alloc (.cells #[.int .u32 a, .int .u32 b, .int .u64 c, .int .u32 d, .bool e, .int .u8 f] KY)) #[.int .u32 a', .int .u32 b', .int .u64 c', .int .u32 d', .bool e', .int .u8 f'] KY).range
  rw [World.size_alloc] at Y0
  have hb2 : Below w.heap.size w ((w.alloc (.cells #[.int .u32 a, .int .u32 b, .int .u64 c, .int .u32 d, .bool e, .int .u8 f] KY)).alloc (.cells #[.int .u32 a', .int .u32 b', .int .u64 c', .int .u32 d', .bool e', .int .u8 f'] KY)) := (below_alloc w _).alloc (by simp) _
  go_enter Try.func45, Try.ntmps45
  go_wp2
  go_loopw [12] (fun i wr => ∃ k : Nat, k ≤ 2 ∧ i = .int .i64 k ∧ RowAt wr (w.heap.size + 1 + 1) (bkAt ⟨⟨a, b, c, d⟩, e, f⟩ ⟨⟨a', b', c', d'⟩, e', f'⟩ k).toArray 105 ∧ Below w.heap.size w wr ∧ w.drawn ≤ wr.drawn) (fun i _ => 2 - (intOf i).toNat)
  case atStart =>
    have hn := RowAt.new ((w.alloc (.cells #[.int .u32 a, .int .u32 b, .int .u64 c, .int .u32 d, .bool e, .int .u8 f] KY)).alloc (.cells #[.int .u32 a', .int .u32 b', .int .u64 c', .int .u32 d', .bool e', .int .u8 f'] KY)) #[.int .i64 0, .int .i64 0] 105
    rw [World.size_alloc, World.size_alloc] at hn
    exact ⟨0, by omega, rfl, hn, hb2.alloc (by simp; omega) _, Nat.le_refl _⟩
  case round =>
    obtain ⟨k, hk, rfl, R, hB, hD⟩ := hrel
    have hk3 : k = 0 ∨ k = 1 ∨ k = 2 := by omega
    have hBs := hB.size
    have HD := Lib.hid hD
    clear hD hk
    rcases hk3 with rfl | rfl | rfl
    · have RA := R.alloc (.cells #[.int .u32 a, .int .u32 b, .int .u64 c, .int .u32 d, .bool e, .int .u8 f] KY)
      have hBA := hB.alloc hB.size (.cells #[.int .u32 a, .int .u32 b, .int .u64 c, .int .u32 d, .bool e, .int .u8 f] KY)
      have r0 := RA.cell (i := 0) (v := .int .i64 0) rfl
      have r1 := RA.cell (i := 1) (v := .int .i64 0) rfl
      have f0 := RA.fz 0
      have hxx := RowAt.new wr #[.int .u32 a, .int .u32 b, .int .u64 c, .int .u32 d, .bool e, .int .u8 f] KY
      have x4 := hxx.cell (i := 4) (v := .bool e) rfl
      have RS := RA.set 0 (.int .i64 1)
      cases e with
      | false =>
        go_wp2
        go_roundw
        case rel => exact ⟨1, by omega, rfl, RA, hBA, HD.out⟩
        case measure => simp [intOf]
      | true =>
        go_wp2
        have hBS := hBA.setCell (p := ⟨w.heap.size + 1 + 1, 0, none⟩) (by show w.heap.size ≤ w.heap.size + 1 + 1; omega) (.int .i64 1)
        go_roundw
        case rel => exact ⟨1, by omega, rfl, RS, hBS, HD.out⟩
        case measure => simp [intOf]
    · have RA := R.alloc (.cells #[.int .u32 a', .int .u32 b', .int .u64 c', .int .u32 d', .bool e', .int .u8 f'] KY)
      have hBA := hB.alloc hB.size (.cells #[.int .u32 a', .int .u32 b', .int .u64 c', .int .u32 d', .bool e', .int .u8 f'] KY)
      have r0 := RA.cell (i := 0) (v := .int .i64 (bI e)) rfl
      have r1 := RA.cell (i := 1) (v := .int .i64 0) rfl
      have f0 := RA.fz 1
      have hxx := RowAt.new wr #[.int .u32 a', .int .u32 b', .int .u64 c', .int .u32 d', .bool e', .int .u8 f'] KY
      have x4 := hxx.cell (i := 4) (v := .bool e') rfl
      have RS := RA.set 1 (.int .i64 1)
      cases e' with
      | false =>
        go_wp2
        go_roundw
        case rel => exact ⟨2, by omega, rfl, RA, hBA, HD.out⟩
        case measure => simp [intOf]
      | true =>
        go_wp2
        have hBS := hBA.setCell (p := ⟨w.heap.size + 1 + 1, 1, none⟩) (by show w.heap.size ≤ w.heap.size + 1 + 1; omega) (.int .i64 1)
        go_roundw
        case rel => exact ⟨2, by omega, rfl, RS, hBS, HD.out⟩
        case measure => simp [intOf]
    · have r0 := R.cell (i := 0) (v := .int .i64 (bI e)) rfl
      have r1 := R.cell (i := 1) (v := .int .i64 (bI e')) rfl
      have hx0 := bI_b e
      have hy0 := bI_b e'
      have w3 : IntKind.i64.wrap (bI e - bI e') = bI e - bI e' := by rw [IntKind.wrap_i64]; omega
      clear hx0 hy0
      go_wp2
      go_ret
      exact ⟨by simp [w3], hB, HD.out⟩

abbrev seF : Nat → FuncId
  | 0 => 44
  | 1 => 45
  | _ => 46
theorem enters_seF : ∀ k, Enters Try.prog (seF k)
  | 0 => enters_of Try.func44 (by kernel_rfl) rfl
  | 1 => enters_of Try.func45 (by kernel_rfl) rfl
  | _ + 2 => enters_of Try.func46 (by kernel_rfl) rfl
theorem seF_c (x y : Sg) (hx : x.wf) (hy : y.wf) : ∀ (k : Nat) (hk : k < 3) (w : World), Calls Try.prog (seF k) #[sgV x, sgV y] w (RetD (.int .i64 ((sgCs x y).getD k 0)) w)
  | 0, _, w => seNamed_c x y hx hy w
  | 1, _, w => seBack_c x y w
  | 2, _, w => seCount_c x y hx hy w
  | k + 3, h, _ => by omega
abbrev seFs : List Value := [.func (.func 44) #[] #[], .func (.func 45) #[] #[], .func (.func 46) #[] #[]]
theorem seFs_at : ∀ k, k < 3 → seFs[k]? = some (.func (.func (seF k)) #[] #[])
  | 0, _ => rfl
  | 1, _ => rfl
  | 2, _ => rfl
  | k + 3, h => by omega
set_option maxHeartbeats 2000000 in
set_option maxRecDepth 100000 in
theorem seBy_c (x y : Sg) (hx : x.wf) (hy : y.wf) {b : Nat} (w : World) (h : RowAt w b seFs.toArray 95) :
    Calls Try.prog 43 #[sgV x, sgV y, .slice (some ⟨b, 0, none⟩) 3 3] w (RetD (.int .i64 (sgCmp x y)) w) := by
  have X0 := ((RowAt.new w (sgC x).toArray KY).alloc (.cells (sgC y).toArray KY)).range
  have Y0 := (RowAt.new (w.alloc (.cells (sgC x).toArray KY)) (sgC y).toArray KY).range
  rw [World.size_alloc] at Y0
  have hb2 : Below w.heap.size w ((w.alloc (.cells (sgC x).toArray KY)).alloc (.cells (sgC y).toArray KY)) := (below_alloc w _).alloc (by simp) _
  have hd2 : ((w.alloc (.cells (sgC x).toArray KY)).alloc (.cells (sgC y).toArray KY)).drawn = w.drawn := rfl
  have F0 := h.below hb2
  have HF := Lib.hid (seF_c x y hx hy)
  have hcs3 : (sgCs x y).length = 3 := rfl
  obtain ⟨cs, hcs⟩ : ∃ cs, sgCs x y = cs := ⟨_, rfl⟩
  obtain ⟨r, hr⟩ : ∃ r, sgCmp x y = r := ⟨_, rfl⟩
  have HR := Lib.hid (show cmp3 (cmpL cs) 0 = r by rw [← hcs]; exact hr)
  rw [hr]
  rw [hcs] at HF hcs3
  have HL3 := Lib.hid hcs3
  clear hr hcs hx hy h hcs3
  go_enter Try.func43, Try.ntmps43
  go_wp2
  obtain ⟨W0, hW0⟩ : ∃ W0, ((w.alloc (.cells (sgC x).toArray KY)).alloc (.cells (sgC y).toArray KY)) = W0 := ⟨_, rfl⟩
  rw [hW0] at X0 Y0 hb2 F0 hd2 ⊢
  clear hW0
  go_loopw [6, 12] (fun vn vi wr => ∃ k : Nat, vn = .int .i64 0 ∧ vi = .int .i64 k ∧ k ≤ 3 ∧ RowKit.Hid (∀ j, j < k → cs.getD j 0 = 0) ∧ Below W0.heap.size W0 wr ∧ W0.drawn ≤ wr.drawn) (fun _ vi _ => 3 - (intOf vi).toNat)
  case atStart => exact ⟨0, rfl, rfl, by omega, Lib.hid (fun j hj => by omega), Below.refl _ _, Nat.le_refl _⟩
  case round =>
    obtain ⟨k, rfl, rfl, hk, H0, hB, hD⟩ := hrel
    have HD := Lib.hid hD
    clear hD
    by_cases hlt : k < 3
    · have hkI : (k : Int) < 3 := by omega
      have hfc := (F0.below hB).cell (i := k) (by rw [List.getElem?_toArray]; exact seFs_at k hlt)
      have qx := rangeAt_up hB X0
      have qy := rangeAt_up hB Y0
      have hkc := HF.out k hlt wr
      obtain ⟨cv, hcv⟩ : ∃ c, cs.getD k 0 = c := ⟨_, rfl⟩
      have HCV := Lib.hid hcv
      rw [hcv] at hkc
      have hent := enters_seF k
      obtain ⟨f, hf⟩ : ∃ f, seF k = f := ⟨_, rfl⟩
      rw [hf] at hent hfc hkc
      unfold Enters at hent
      clear hcv hf
      by_cases hc : cv = 0
      · subst hc
        go_wp2_with (first
          | (refine wpList_load_mid rfl KY (.tmp 3) rfl w.heap.size 0 rfl (sgC x) _ qx Try.underlying94 rfl (by kernel_rfl) ?_)
          | (refine wpList_load_mid rfl KY (.tmp 4) rfl (w.heap.size + 1) 0 rfl (sgC y) _ qy Try.underlying94 rfl (by kernel_rfl) ?_)
          | (refine hkc.mono ?_; rintro en w4 ⟨rfl, hb4, hd4⟩))
        go_roundw
        case rel => exact ⟨k + 1, rfl, by go_num, by omega, Lib.hid (fun j hj => by rcases Nat.lt_or_ge j k with h | h; exact H0.out j h; (obtain rfl : j = k := (by omega)); exact HCV.out), below_up hB hb4, by have := HD.out; omega⟩
        case measure => simp [intOf]; omega
      · have hc1 : (cv == 0) = false := by simp [hc]
        have hl : cs.length = 3 := HL3.out
        have he : cs[k]'(hl ▸ hlt) = cv := by rw [← HCV.out, List.getD_eq_getElem?_getD, List.getElem?_eq_getElem (by omega)]; rfl
        have hrr : cmp3 cv 0 = r := by rw [← HR.out, cmpL_at cs k (hl ▸ hlt) H0.out (fun e => hc (he.symm.trans e)), he]
        have HRR := Lib.hid hrr
        have hcc := fun w1 => cmpI_c cv 0 w1
        rw [hrr] at hcc
        clear hl he hrr
        go_wp2_with (first
          | (refine wpList_load_mid rfl KY (.tmp 3) rfl w.heap.size 0 rfl (sgC x) _ qx Try.underlying94 rfl (by kernel_rfl) ?_)
          | (refine wpList_load_mid rfl KY (.tmp 4) rfl (w.heap.size + 1) 0 rfl (sgC y) _ qy Try.underlying94 rfl (by kernel_rfl) ?_)
          | (go_at_call 52; refine (hcc _).mono ?_; rintro en w5 ⟨rfl, rfl⟩)
          | (refine hkc.mono ?_; rintro en w4 ⟨rfl, hb4, hd4⟩))
        go_ret
        exact ⟨rfl, below_up hb2 (below_up hB hb4), by have := HD.out; omega⟩
    · obtain rfl : k = 3 := by omega
      have hrr : (0 : Int) = r := by rw [← HR.out, cmpL_zero cs (fun j hj => H0.out j (by have := HL3.out; omega))]; rfl
      go_wp2
      go_ret
      exact ⟨retI hrr, below_up hb2 hB, by have := HD.out; omega⟩
theorem grow_of {w w' : World} (h : Below w.heap.size w w') (hd : w.drawn ≤ w'.drawn) : ∃ q os', w' = Go.Sort.grow (w.drewN q) os' := by
  refine ⟨w'.drawn - w.drawn, w'.heap.extract w.heap.size w'.heap.size, ?_⟩
  obtain ⟨heap', tape', drawn', os', output'⟩ := w'
  have e1 : os' = w.os := h.os
  have e2 : tape' = w.tape := h.tape
  have e3 : output' = w.output := h.output
  have hs : w.heap.size ≤ heap'.size := h.size
  have hb : ∀ k, k < w.heap.size → heap'[k]? = w.heap[k]? := h.block
  have hd' : w.drawn ≤ drawn' := hd
  subst e1 e2 e3
  have eh : heap' = w.heap ++ heap'.extract w.heap.size heap'.size := by
    apply Array.ext_getElem?
    intro k
    by_cases hk : k < w.heap.size
    · rw [Array.getElem?_append_left hk]; exact hb k hk
    · rw [Array.getElem?_append_right (by omega), Array.getElem?_extract]
      by_cases hk2 : k < heap'.size
      · rw [if_pos (by omega)]; congr 1; omega
      · rw [if_neg (by omega), Array.getElem?_eq_none (by omega)]
  have ed : w.drawn + (drawn' - w.drawn) = drawn' := by omega
  simp only [Go.Sort.grow, World.drewN, ed]
  congr 1
set_option maxRecDepth 100000 in
theorem seCmp_c (x y : Sg) (hx : x.wf) (hy : y.wf) (W : World) : Calls Try.prog 42 #[sgV x, sgV y] W fun e w' => e = .returned (.int .i64 (sgCmp x y)) ∧ ∃ q os', w' = Go.Sort.grow (W.drewN q) os' := by
  have X0 := ((RowAt.new W (sgC x).toArray 38).alloc (.cells (sgC y).toArray 38)).range
  have Y0 := (RowAt.new (W.alloc (.cells (sgC x).toArray 38)) (sgC y).toArray 38).range
  rw [World.size_alloc] at Y0
  obtain ⟨W0, hW0⟩ : ∃ W0, ((W.alloc (.cells (sgC x).toArray 38)).alloc (.cells (sgC y).toArray 38)) = W0 := ⟨_, rfl⟩
  have hb2 : Below W.heap.size W W0 := by rw [← hW0]; exact (below_alloc W _).alloc (by simp) _
  have hd2 : W0.drawn = W.drawn := by rw [← hW0]; rfl
  rw [hW0] at X0 Y0
  have hR := RowAt.new W0 seFs.toArray 95
  have hb3 := below_alloc W0 (.cells seFs.toArray 95)
  have hby := seBy_c x y hx hy _ hR
  obtain ⟨r, hr⟩ : ∃ r, sgCmp x y = r := ⟨_, rfl⟩
  rw [hr] at hby ⊢
  have HB := Lib.hid hby
  have HD2 := Lib.hid hd2
  have HB2 := Lib.hid hb2
  have HB3 := Lib.hid hb3
  clear hr hby hR hd2 hb2 hb3
  go_enter Try.func42, Try.ntmps42
  go_wp2_with (first
    | (refine wpList_load_mid rfl 38 (.tmp 2) rfl W.heap.size 0 rfl (sgC x) _ X0 Try.underlying38 rfl (by kernel_rfl) ?_)
    | (refine wpList_load_mid rfl 38 (.tmp 3) rfl (W.heap.size + 1) 0 rfl (sgC y) _ Y0 Try.underlying38 rfl (by kernel_rfl) ?_)
    | (go_at_call 43; refine HB.out.mono ?_; rintro en w4 ⟨rfl, hb4, hd4⟩))
  go_ret
  exact ⟨rfl, grow_of (below_up HB2.out (below_up HB3.out hb4)) (by have h1 := HD2.out; have h2 : (W0.alloc (.cells seFs.toArray 95)).drawn = W0.drawn := rfl; omega)⟩
end Go.Proofs.Ytfoncaamhleckaa
