/-
  checkName_cN, rRightName_c, order_c, rOrder_c, wnCmp_lt, wnTO, nm_key: out of TraceA, TraceH, NmOrd, NmTx, NmNu, NmRef (extract.py).
-/
import Derived.Test.YtfoncaamhleckaaSlice
import Derived.Test.YtfoncaamhleckaaIter
import Derived.Test.YtfoncaamhleckaaPi
import Derived.Test.YtfoncaamhleckaaRec
import Derived.Test.YtfoncaamhleckaaRow
import Derived.Test.YtfoncaamhleckaaMapC
import Derived.Test.YtfoncaamhleckaaStabA
import Derived.Test.YtfoncaamhleckaaPiO
import Derived.Test.YtfoncaamhleckaaStore
import Derived.Test.YtfoncaamhleckaaFork
import Derived.Deep.LoopGhost
namespace Go.Proofs.Ytfoncaamhleckaa
open Go.RowKit
set_option linter.unusedSimpArgs false
set_option linter.unusedVariables false
/-- A contract that tells that the count of draws has not fallen. -/
def RetD (v : Value) (w : World) (en : Ending) (w' : World) : Prop := en = .returned v ∧ Below w.heap.size w w' ∧ w.drawn ≤ w'.drawn
theorem wp_region_ptD {P : Program} {ops : Array Oper} {Q : Exit → Act → World → Prop} {id : Nat} {a : Act} {w : World} (O : Nat → Prop) (t : Pt) (hm : P.follows .mixedOrders = true) (hs : Region.noSelect ops = true) (hB : ptB .any ops t (Array.replicate ops.size false) = true) (hl : t.len ≤ ops.size)
    (hQ : ∀ c (a : Act) d v w, Q (.panic c) (a.put d v) w → Q (.panic c) a w) (h : ∀ Wd, Below w.heap.size w Wd → Wd.drawn = w.drawn + 1 → wpPt P O ops Q t a Wd) : (Code.region id ops true).wp P Q a w :=
  wp_region_held (S := But O w.drew) hm (held_of_pt (md := .any) hs hQ t _ _ _ _ hl hB (h w.drew (Below.refl _ _).drew rfl))
namespace Trc
@[ext] structure Nm where
  node : Int
  service : Int
  time : Int
  seq : Int
deriving DecidableEq
end Trc
open Trc
abbrev nmC (x : Nm) : List Value := [.int .u32 x.node, .int .u32 x.service, .int .u64 x.time, .int .u32 x.seq]
abbrev nmV (x : Nm) : Value := .agg #[.int .u32 x.node, .int .u32 x.service, .int .u64 x.time, .int .u32 x.seq]
open Go.RowKit Go.Maps Trc
set_option linter.unusedSimpArgs false
set_option linter.unusedVariables false
def Trc.Nm.wf (x : Nm) : Prop := (Lit.int .u32 x.node).wf = true ∧ (Lit.int .u32 x.service).wf = true ∧ (Lit.int .u64 x.time).wf = true ∧ (Lit.int .u32 x.seq).wf = true
theorem nm_key (x : Nm) (h : x.wf) : ∃ l, keyOf Try.prog 36 (nmV x) = some l := by
  obtain ⟨h1, h2, h3, h4⟩ := h
  unfold keyOf
  rw [Try.underlying36]
  have hk : Try.prog.keyType 36 = true := by kernel_rfl
  have hf : (nmV x).formed Try.prog 36 = true := by
    unfold Value.formed
    rw [Try.underlying36]
    have hc : Try.prog.cellsOf 36 = 4 := by kernel_rfl
    rw [hc]
    rfl
  rw [hk, hf]
  simp only [Bool.and_true, if_true]
  obtain ⟨d, hd⟩ : ∃ d, Try.prog.types.size + 1 = d + 3 := ⟨Try.prog.types.size - 2, by have : 2 ≤ Try.prog.types.size := of_decide_eq_true (by kernel_rfl); omega⟩
  rw [hd]
  have c0 : Try.prog.cellsOf 36 = 4 := by kernel_rfl
  have c1 : Try.prog.cellsOf 34 = 2 := by kernel_rfl
  have c2 : Try.prog.cellsOf 23 = 1 := by kernel_rfl
  have c3 : Try.prog.cellsOf 32 = 1 := by kernel_rfl
  have hkl : Try.prog.keyLits (d + 3) 36 (nmV x).cells.toList = some [.int .u32 x.node, .int .u32 x.service, .int .u64 x.time, .int .u32 x.seq] := by
    simp [Program.keyLits, Value.cells, Try.underlying36, Try.underlying34, Try.underlying23, Try.underlying32, c0, c1, c2, c3, h1, h2, h3, h4]
    rw [if_pos (by decide)]
    rfl
  rw [hkl]
  exact ⟨_, rfl⟩
open Go.RowKit Srt Trc
set_option linter.unusedSimpArgs false
set_option linter.unusedVariables false
/-- Three ways. -/
def Srt.ltc {α : Type} (cf : α → α → Int) (x y : α) : Bool := decide (cf x y < 0)
def cmp3 (a b : Int) : Int := if a < b then -1 else if b < a then 1 else 0
/-- The first that is not 0. -/
def cmpL : List Int → Int
  | [] => 0
  | c :: r => if c = 0 then cmpL r else c
namespace Trc
def nmPs (x : Nm) : List Int := [x.node, x.service, x.time, x.seq]
def nmCs (x y : Nm) : List Int := [cmp3 x.node y.node, cmp3 x.service y.service, cmp3 x.time y.time, cmp3 x.seq y.seq]
def nmCmp (x y : Nm) : Int := cmpL (nmCs x y)
end Trc
theorem cmpL_at : ∀ (l : List Int) (k : Nat) (hk : k < l.length), (∀ j, j < k → l.getD j 0 = 0) → l[k] ≠ 0 → cmpL l = l[k]
  | c :: r, 0, _, _, h => by simp only [List.getElem_cons_zero] at h ⊢; exact if_neg h
  | c :: r, k + 1, hk, h0, h => by
    have h1 := h0 0 (by omega)
    simp only [List.getD_cons_zero] at h1
    subst h1
    simp only [List.getElem_cons_succ] at h ⊢
    show cmpL r = _
    exact cmpL_at r k (by simpa using hk) (fun j hj => by have := h0 (j + 1) (by omega); simpa using this) h
theorem cmpL_zero : ∀ (l : List Int), (∀ j, j < l.length → l.getD j 0 = 0) → cmpL l = 0
  | [], _ => rfl
  | c :: r, h => by
    have h1 := h 0 (by simp)
    simp only [List.getD_cons_zero] at h1
    subst h1
    show cmpL r = 0
    exact cmpL_zero r (fun j hj => by have := h (j + 1) (by simpa using hj); simpa using this)
abbrev WN : Type := {x : Nm // x.wf}
def wnCmp (x y : WN) : Int := nmCmp x.1 y.1
theorem wnCmp_lt (x y : WN) : ltc wnCmp x y = decide (x.1.node < y.1.node ∨ x.1.node = y.1.node ∧ (x.1.service < y.1.service ∨ x.1.service = y.1.service ∧ (x.1.time < y.1.time ∨ x.1.time = y.1.time ∧ x.1.seq < y.1.seq))) := by
  unfold ltc wnCmp nmCmp nmCs cmpL cmpL cmpL cmpL cmpL cmp3
  refine decide_eq_decide.2 ?_
  repeat' split
  all_goals omega
theorem wnTO : TO (ltc wnCmp) := by
  refine ⟨fun x y h => ?_, fun x y z h1 h2 => ?_, fun x y h1 h2 => ?_⟩
  · rw [wnCmp_lt] at h ⊢
    have := of_decide_eq_true h
    exact decide_eq_false (by omega)
  · rw [wnCmp_lt] at h1 h2 ⊢
    have := of_decide_eq_false h1
    have := of_decide_eq_false h2
    exact decide_eq_false (by omega)
  · rw [wnCmp_lt] at h1 h2
    have := of_decide_eq_false h1
    have := of_decide_eq_false h2
    exact Subtype.ext (Nm.ext (by omega) (by omega) (by omega) (by omega))
set_option maxRecDepth 100000 in
theorem isNaN_c (a : Int) (w : World) : Calls Try.prog 80 #[.int .u64 a] w fun en w' => en = .returned (.bool false) ∧ w = w' := by
  go_enter Try.func80, Try.ntmps80
  go_wp2
  go_ret
  exact ⟨rfl, rfl⟩
set_option maxRecDepth 100000 in
theorem cmpU_c (a b : Int) (w : World) : Calls Try.prog 74 #[.int .u64 a, .int .u64 b] w fun en w' => en = .returned (.int .i64 (cmp3 a b)) ∧ w = w' := by
  by_cases h1 : a < b
  · rw [show cmp3 a b = -1 from if_pos h1]
    have d1 : decide (a < b) = true := decide_eq_true h1
    go_enter Try.func74, Try.ntmps74
    go_wp2_with (go_at_call 80; refine (isNaN_c _ _).mono ?_; rintro en w1 ⟨rfl, rfl⟩)
    go_ret
    exact ⟨rfl, rfl⟩
  · have d1 : decide (a < b) = false := decide_eq_false h1
    by_cases h2 : b < a
    · rw [show cmp3 a b = 1 from (if_neg h1).trans (if_pos h2)]
      have d2 : decide (b < a) = true := decide_eq_true h2
      go_enter Try.func74, Try.ntmps74
      go_wp2_with (go_at_call 80; refine (isNaN_c _ _).mono ?_; rintro en w1 ⟨rfl, rfl⟩)
      go_ret
      exact ⟨rfl, rfl⟩
    · rw [show cmp3 a b = 0 from (if_neg h1).trans (if_neg h2)]
      have d2 : decide (b < a) = false := decide_eq_false h2
      go_enter Try.func74, Try.ntmps74
      go_wp2_with (go_at_call 80; refine (isNaN_c _ _).mono ?_; rintro en w1 ⟨rfl, rfl⟩)
      go_ret
      exact ⟨rfl, rfl⟩
theorem nm_bounds {x : Nm} (h : x.wf) : (0 ≤ x.node ∧ x.node ≤ 4294967295) ∧ (0 ≤ x.service ∧ x.service ≤ 4294967295) ∧ (0 ≤ x.time ∧ x.time ≤ 18446744073709551615) ∧ (0 ≤ x.seq ∧ x.seq ≤ 4294967295) := by
  obtain ⟨h1, h2, h3, h4⟩ := h
  simp [Lit.wf, IntKind.min, IntKind.max, IntKind.signed, IntKind.bits] at h1 h2 h3 h4
  omega
abbrev keyF : Nat → FuncId
  | 0 => 60
  | 1 => 61
  | 2 => 62
  | _ => 63
set_option maxRecDepth 100000 in
theorem key0_c (x : Nm) (hx : x.wf) (w : World) : Calls Try.prog 60 #[nmV x] w (RetD (.int .u64 x.node) w) := by
  obtain ⟨a, b, c, d⟩ := x
  obtain ⟨h1, h2, h3, h4⟩ := nm_bounds hx
  simp only at h1 h2 h3 h4
  have w1 : IntKind.u64.wrap a = a := by rw [IntKind.wrap_u64]; omega
  have w2 : IntKind.u64.wrap b = b := by rw [IntKind.wrap_u64]; omega
  have w4 : IntKind.u64.wrap d = d := by rw [IntKind.wrap_u64]; omega
  go_enter Try.func60, Try.ntmps60
  go_wp2
  go_ret
  exact ⟨by simp [w1, w2, w4], below_alloc _ _, Nat.le_refl _⟩
set_option maxRecDepth 100000 in
theorem key1_c (x : Nm) (hx : x.wf) (w : World) : Calls Try.prog 61 #[nmV x] w (RetD (.int .u64 x.service) w) := by
  obtain ⟨a, b, c, d⟩ := x
  obtain ⟨h1, h2, h3, h4⟩ := nm_bounds hx
  simp only at h1 h2 h3 h4
  have w1 : IntKind.u64.wrap a = a := by rw [IntKind.wrap_u64]; omega
  have w2 : IntKind.u64.wrap b = b := by rw [IntKind.wrap_u64]; omega
  have w4 : IntKind.u64.wrap d = d := by rw [IntKind.wrap_u64]; omega
  go_enter Try.func61, Try.ntmps61
  go_wp2
  go_ret
  exact ⟨by simp [w1, w2, w4], below_alloc _ _, Nat.le_refl _⟩
set_option maxRecDepth 100000 in
theorem key2_c (x : Nm) (hx : x.wf) (w : World) : Calls Try.prog 62 #[nmV x] w (RetD (.int .u64 x.time) w) := by
  obtain ⟨a, b, c, d⟩ := x
  obtain ⟨h1, h2, h3, h4⟩ := nm_bounds hx
  simp only at h1 h2 h3 h4
  have w1 : IntKind.u64.wrap a = a := by rw [IntKind.wrap_u64]; omega
  have w2 : IntKind.u64.wrap b = b := by rw [IntKind.wrap_u64]; omega
  have w4 : IntKind.u64.wrap d = d := by rw [IntKind.wrap_u64]; omega
  go_enter Try.func62, Try.ntmps62
  go_wp2
  go_ret
  exact ⟨by simp [w1, w2, w4], below_alloc _ _, Nat.le_refl _⟩
set_option maxRecDepth 100000 in
theorem key3_c (x : Nm) (hx : x.wf) (w : World) : Calls Try.prog 63 #[nmV x] w (RetD (.int .u64 x.seq) w) := by
  obtain ⟨a, b, c, d⟩ := x
  obtain ⟨h1, h2, h3, h4⟩ := nm_bounds hx
  simp only at h1 h2 h3 h4
  have w1 : IntKind.u64.wrap a = a := by rw [IntKind.wrap_u64]; omega
  have w2 : IntKind.u64.wrap b = b := by rw [IntKind.wrap_u64]; omega
  have w4 : IntKind.u64.wrap d = d := by rw [IntKind.wrap_u64]; omega
  go_enter Try.func63, Try.ntmps63
  go_wp2
  go_ret
  exact ⟨by simp [w1, w2, w4], below_alloc _ _, Nat.le_refl _⟩
theorem enters_key : ∀ k, Enters Try.prog (keyF k)
  | 0 => enters_of Try.func60 (by kernel_rfl) rfl
  | 1 => enters_of Try.func61 (by kernel_rfl) rfl
  | 2 => enters_of Try.func62 (by kernel_rfl) rfl
  | _ + 3 => enters_of Try.func63 (by kernel_rfl) rfl
theorem key_c (x : Nm) (hx : x.wf) : ∀ (k : Nat) (hk : k < 4) (w : World), Calls Try.prog (keyF k) #[nmV x] w (RetD (.int .u64 ((nmPs x).getD k 0)) w)
  | 0, _, w => key0_c x hx w
  | 1, _, w => key1_c x hx w
  | 2, _, w => key2_c x hx w
  | 3, _, w => key3_c x hx w
  | k + 4, hk, _ => by omega
theorem nmCs_at (x y : Nm) : ∀ k, k < 4 → cmp3 ((nmPs x).getD k 0) ((nmPs y).getD k 0) = (nmCs x y).getD k 0
  | 0, _ => rfl
  | 1, _ => rfl
  | 2, _ => rfl
  | 3, _ => rfl
  | k + 4, h => by omega
abbrev keyFs : List Value := [.func (.func 60) #[] #[], .func (.func 61) #[] #[], .func (.func 62) #[] #[], .func (.func 63) #[] #[]]
theorem keyFs_at : ∀ k, k < 4 → keyFs[k]? = some (.func (.func (keyF k)) #[] #[])
  | 0, _ => rfl
  | 1, _ => rfl
  | 2, _ => rfl
  | 3, _ => rfl
  | k + 4, h => by omega
set_option maxHeartbeats 1000000 in
set_option maxRecDepth 100000 in
theorem by_c (x y : Nm) (hx : x.wf) (hy : y.wf) {b : Nat} (w : World) (h : RowAt w b keyFs.toArray 115) : Calls Try.prog 59 #[nmV x, nmV y, .slice (some ⟨b, 0, none⟩) 4 4] w (RetD (.int .i64 (nmCmp x y)) w) := by
  have X0 : RowAt ((w.alloc (.cells (nmC x).toArray 114)).alloc (.cells (nmC y).toArray 114)) w.heap.size (nmC x).toArray 114 := (RowAt.new w _ _).alloc _
  have Y0 : RowAt ((w.alloc (.cells (nmC x).toArray 114)).alloc (.cells (nmC y).toArray 114)) (w.heap.size + 1) (nmC y).toArray 114 := by
    have := RowAt.new (w.alloc (.cells (nmC x).toArray 114)) (nmC y).toArray 114
    rwa [World.size_alloc] at this
  have hb2 : Below w.heap.size w ((w.alloc (.cells (nmC x).toArray 114)).alloc (.cells (nmC y).toArray 114)) := (below_alloc w _).alloc (by simp) _
  have F0 := h.below hb2
  have HX := Lib.hid hx
  have HY := Lib.hid hy
  have hz2 : ((w.alloc (.cells (nmC x).toArray 114)).alloc (.cells (nmC y).toArray 114)).heap.size = w.heap.size + 2 := by simp
  have hd2 : ((w.alloc (.cells (nmC x).toArray 114)).alloc (.cells (nmC y).toArray 114)).drawn = w.drawn := rfl
  clear hx hy h
  go_enter Try.func59, Try.ntmps59
  go_wp2
  obtain ⟨W0, hW0⟩ : ∃ W0, ((w.alloc (.cells (nmC x).toArray 114)).alloc (.cells (nmC y).toArray 114)) = W0 := ⟨_, rfl⟩
  rw [hW0] at X0 Y0 hb2 F0 hz2 hd2 ⊢
  clear hW0
  go_loopw [6, 11] (fun vn vi wr => ∃ k : Nat, vn = .int .i64 0 ∧ vi = .int .i64 k ∧ k ≤ 4 ∧ (∀ j, j < k → (nmCs x y).getD j 0 = 0) ∧ Below W0.heap.size W0 wr ∧ W0.drawn ≤ wr.drawn) (fun _ vi _ => 4 - (intOf vi).toNat)
  case atStart => exact ⟨0, rfl, rfl, by omega, fun j hj => by omega, Below.refl _ _, Nat.le_refl _⟩
  case round =>
    obtain ⟨k, rfl, rfl, hk, h0, hB, hD⟩ := hrel
    have H0 := Lib.hid h0
    clear h0
    by_cases hlt : k < 4
    · have hkI : (k : Int) < 4 := by omega
      have hfc := (F0.below hB).cell (i := k) (by rw [List.getElem?_toArray]; exact keyFs_at k hlt)
      have X1 := X0.below hB
      have Y1 := Y0.below hB
      have hkx := fun w1 => key_c x HX.out k hlt w1
      have hky := fun w1 => key_c y HY.out k hlt w1
      obtain ⟨px, hpx⟩ : ∃ p, (nmPs x).getD k 0 = p := ⟨_, rfl⟩
      obtain ⟨py, hpy⟩ : ∃ p, (nmPs y).getD k 0 = p := ⟨_, rfl⟩
      have hcs := nmCs_at x y k hlt
      simp only [hpx] at hkx hcs
      simp only [hpy] at hky hcs
      have hcc := fun w1 => cmpU_c px py w1
      obtain ⟨cv, hcv⟩ : ∃ c, cmp3 px py = c := ⟨_, rfl⟩
      simp only [hcv] at hcc hcs
      have HKX := Lib.hid hkx
      have HKY := Lib.hid hky
      have HCC := Lib.hid hcc
      have HCS := Lib.hid hcs
      have hent := enters_key k
      obtain ⟨f, hf⟩ : ∃ f, keyF k = f := ⟨_, rfl⟩
      rw [hf] at hent hfc HKX HKY
      unfold Enters at hent
      clear hkx hky hcc hcs hpx hpy hcv hf
      go_wp2
      refine wp_region_ptD (fun _ => False) (.q 0 (.q 1 (.q 3 (.q 4 (.c 2 (.c 5 (.c 6 (.q 7 .done)))))))) (by kernel_rfl) (by kernel_rfl) (by kernel_rfl) (by decide) (fun _ _ d _ _ h => by cases d <;> exact h) (fun Wd hBd hDd => ?_)
      try simp only [Act.put, List.getElem_toArray, List.getElem_cons_zero, List.getElem_cons_succ, List.setIfInBounds_toArray, List.set_cons_zero, List.set_cons_succ]
      have X2 := X1.below hBd
      have Y2 := Y1.below hBd
      have qx : ∀ w', But (fun _ => False) Wd w' → w'.rangeAt w.heap.size 0 (nmC x) := fun w' h => (h.below (B := Wd.heap.size) (fun k e => e.elim) (Nat.le_refl _)) |> fun hb => rangeAt_up hb X2.range
      have qy : ∀ w', But (fun _ => False) Wd w' → w'.rangeAt (w.heap.size + 1) 0 (nmC y) := fun w' h => (h.below (B := Wd.heap.size) (fun k e => e.elim) (Nat.le_refl _)) |> fun hb => rangeAt_up hb Y2.range
      refine pt_q (v := ?_) rfl (by rfl) ?_ ?_
      rotate_left
      · intro w' hBw'
        first | (go_simp; done) | (go_simp; with_reducible rfl)
      try simp only [Act.put, List.getElem_toArray, List.getElem_cons_zero, List.getElem_cons_succ, List.setIfInBounds_toArray, List.set_cons_zero, List.set_cons_succ]
      refine pt_load rfl (by rfl) 114 (.tmp 3) rfl w.heap.size 0 rfl (nmC x) _ X2.range (fun h => h) Try.underlying114 rfl (by kernel_rfl) ?_
      try simp only [Act.put, List.getElem_toArray, List.getElem_cons_zero, List.getElem_cons_succ, List.setIfInBounds_toArray, List.set_cons_zero, List.set_cons_succ]
      refine pt_q (v := ?_) rfl (by rfl) ?_ ?_
      rotate_left
      · intro w' hBw'
        first | (go_simp; done) | (go_simp; with_reducible rfl)
      try simp only [Act.put, List.getElem_toArray, List.getElem_cons_zero, List.getElem_cons_succ, List.setIfInBounds_toArray, List.set_cons_zero, List.set_cons_succ]
      refine pt_load rfl (by rfl) 114 (.tmp 4) rfl (w.heap.size + 1) 0 rfl (nmC y) _ Y2.range (fun h => h) Try.underlying114 rfl (by kernel_rfl) ?_
      try simp only [Act.put, List.getElem_toArray, List.getElem_cons_zero, List.getElem_cons_succ, List.setIfInBounds_toArray, List.set_cons_zero, List.set_cons_succ]
      refine pt_c ?_
      refine pt_step rfl (by rfl) (fun K hK => ?_)
      go_simp
      refine (HKX.out _).mono ?_
      rintro en w3 ⟨rfl, hb3, hd3⟩
      refine hK.out _ _ (But.of_below hb3) ?_
      clear hK K
      try simp only [Act.put, List.getElem_toArray, List.getElem_cons_zero, List.getElem_cons_succ, List.setIfInBounds_toArray, List.set_cons_zero, List.set_cons_succ]
      refine pt_c ?_
      refine pt_step rfl (by rfl) (fun K hK => ?_)
      go_simp
      refine (HKY.out _).mono ?_
      rintro en w4 ⟨rfl, hb4, hd4⟩
      refine hK.out _ _ (But.of_below hb4) ?_
      clear hK K
      try simp only [Act.put, List.getElem_toArray, List.getElem_cons_zero, List.getElem_cons_succ, List.setIfInBounds_toArray, List.set_cons_zero, List.set_cons_succ]
      refine pt_c ?_
      refine pt_step rfl (by rfl) (fun K hK => ?_)
      go_simp
      refine (HCC.out _ ).mono ?_
      rintro en w5 ⟨rfl, rfl⟩
      refine hK.out _ _ (But.refl _ _) ?_
      clear hK K
      try simp only [Act.put, List.getElem_toArray, List.getElem_cons_zero, List.getElem_cons_succ, List.setIfInBounds_toArray, List.set_cons_zero, List.set_cons_succ]
      refine pt_q (v := ?_) rfl (by rfl) ?_ ?_
      rotate_left
      · intro w' hBw'
        first | (go_simp; done) | (go_simp; with_reducible rfl)
      try simp only [Act.put, List.getElem_toArray, List.getElem_cons_zero, List.getElem_cons_succ, List.setIfInBounds_toArray, List.set_cons_zero, List.set_cons_succ]
      refine pt_done ?_
      have hbx := below_up hB (below_up hBd (below_up hb3 hb4))
      by_cases hc : cv = 0
      · subst hc
        go_wp2
        exact ⟨⟨k + 1, rfl, by go_num, by omega, (fun j hj => by rcases Nat.lt_or_ge j k with h | h; exact H0.out j h; (obtain rfl : j = k := (by omega)); exact HCS.out.symm), hbx, by omega⟩, by simp [intOf]; omega⟩
      · have dc : (cv == 0) = false := by simp [hc]
        go_wp2
        go_ret
        have hl4 : (nmCs x y).length = 4 := rfl
        have he : (nmCs x y)[k]'(hl4 ▸ hlt) = cv := by rw [HCS.out, List.getD_eq_getElem?_getD, List.getElem?_eq_getElem (by omega)]; rfl
        exact ⟨retI (((cmpL_at (nmCs x y) k (hl4 ▸ hlt) H0.out (fun e => hc (he.symm.trans e))).trans he).symm), below_up hb2 hbx, by omega⟩
    · obtain rfl : k = 4 := by omega
      go_wp2
      go_ret
      exact ⟨retI (by unfold nmCmp; rw [cmpL_zero _ (fun j hj => H0.out j hj)]), below_up hb2 hB, by omega⟩
set_option maxHeartbeats 1000000 in
set_option maxRecDepth 100000 in
theorem order_c (x y : Nm) (hx : x.wf) (hy : y.wf) (w : World) : Calls Try.prog 53 #[nmV x, nmV y] w (RetD (.int .i64 (nmCmp x y)) w) := by
  have X0 : RowAt ((w.alloc (.cells (nmC x).toArray 36)).alloc (.cells (nmC y).toArray 36)) w.heap.size (nmC x).toArray 36 := (RowAt.new w _ _).alloc _
  have Y0 : RowAt ((w.alloc (.cells (nmC x).toArray 36)).alloc (.cells (nmC y).toArray 36)) (w.heap.size + 1) (nmC y).toArray 36 := by
    have := RowAt.new (w.alloc (.cells (nmC x).toArray 36)) (nmC y).toArray 36
    rwa [World.size_alloc] at this
  have hb2 : Below w.heap.size w ((w.alloc (.cells (nmC x).toArray 36)).alloc (.cells (nmC y).toArray 36)) := (below_alloc w _).alloc (by simp) _
  have hz2 : ((w.alloc (.cells (nmC x).toArray 36)).alloc (.cells (nmC y).toArray 36)).heap.size = w.heap.size + 2 := by simp
  have R0 := RowAt.new ((w.alloc (.cells (nmC x).toArray 36)).alloc (.cells (nmC y).toArray 36)) keyFs.toArray 115
  have hb3 := below_alloc ((w.alloc (.cells (nmC x).toArray 36)).alloc (.cells (nmC y).toArray 36)) (.cells keyFs.toArray 115)
  rw [hz2] at R0
  have hby := by_c x y hx hy _ R0
  obtain ⟨r, hr⟩ : ∃ r, nmCmp x y = r := ⟨_, rfl⟩
  rw [hr] at hby ⊢
  have HBY := Lib.hid hby
  clear hby hr
  go_enter Try.func53, Try.ntmps53
  go_wp2_with (first
    | (refine wpList_load_mid rfl 36 (.tmp 2) rfl w.heap.size 0 rfl (nmC x) _ X0.range Try.underlying36 rfl (by kernel_rfl) ?_)
    | (refine wpList_load_mid rfl 36 (.tmp 3) rfl (w.heap.size + 1) 0 rfl (nmC y) _ Y0.range Try.underlying36 rfl (by kernel_rfl) ?_)
    | (go_at_call 59; go_loud (refine HBY.out.mono ?_; rintro en w4 ⟨rfl, hb4, hd4⟩)))
  go_ret
  exact ⟨rfl, below_up hb2 (below_up hb3 hb4), hd4⟩
open Go.RowKit Trc
set_option linter.unusedSimpArgs false
set_option linter.unusedVariables false
namespace Dig
def chkN (n t : Nat) : Int := if n = 0 ∨ 4611686018427387903 < t then 2 else 0
end Dig
abbrev nmW (n m t s : Nat) : Value := nmV ⟨n, m, t, s⟩
set_option maxRecDepth 100000 in
theorem checkName_cN (n m t s : Nat) (w : World) : Calls Try.prog 25 #[nmW n m t s] w (Ret (.int .i64 (Dig.chkN n t)) w) := by
  by_cases h : n = 0
  · subst h
    rw [show Dig.chkN 0 t = 2 from if_pos (.inl rfl)]
    go_enter Try.func25, Try.ntmps25
    go_wp2
    go_ret
    exact ⟨rfl, below_alloc _ _⟩
  · have hd : (((n : Int)) == 0) = false := by simp; omega
    by_cases ht : 4611686018427387903 < t
    · have hd2 : decide ((4611686018427387903 : Int) < (t : Int)) = true := decide_eq_true (by omega)
      rw [show Dig.chkN n t = 2 from if_pos (.inr ht)]
      go_enter Try.func25, Try.ntmps25
      go_wp2
      go_ret
      exact ⟨rfl, below_alloc _ _⟩
    · have hd2 : decide ((4611686018427387903 : Int) < (t : Int)) = false := decide_eq_false (by omega)
      rw [show Dig.chkN n t = 0 from if_neg (fun e => by rcases e with e | e; exact h e; exact ht e)]
      go_enter Try.func25, Try.ntmps25
      go_wp2
      go_ret
      exact ⟨rfl, below_alloc _ _⟩
open Go.RowKit Trc
set_option linter.unusedSimpArgs false
set_option linter.unusedVariables false
set_option maxRecDepth 100000 in
theorem rRightName_c (n m t s : Nat) (w : World) : Calls Try.prog 37 #[nmW n m t s] w (Ret (.bool (decide (Dig.chkN n t = 0))) w) := by
  by_cases h : n = 0
  · subst h
    rw [show decide (Dig.chkN 0 t = 0) = false from decide_eq_false (by rw [show Dig.chkN 0 t = 2 from if_pos (.inl rfl)]; decide)]
    go_enter Try.func37, Try.ntmps37
    go_wp2
    go_ret
    exact ⟨rfl, below_alloc _ _⟩
  · have hd2 : decide (0 < n) = true := decide_eq_true (by omega)
    by_cases ht : 4611686018427387903 < t
    · have hd3 : decide ((t : Int) ≤ 4611686018427387903) = false := decide_eq_false (by omega)
      have hd4 : decide (t ≤ 4611686018427387903) = false := decide_eq_false (by omega)
      rw [show decide (Dig.chkN n t = 0) = false from decide_eq_false (by rw [show Dig.chkN n t = 2 from if_pos (.inr ht)]; decide)]
      clear h
      go_enter Try.func37, Try.ntmps37
      go_wp2
      go_ret
      exact ⟨rfl, below_alloc _ _⟩
    · have hd3 : decide ((t : Int) ≤ 4611686018427387903) = true := decide_eq_true (by omega)
      have hd4 : decide (t ≤ 4611686018427387903) = true := decide_eq_true (by omega)
      rw [show decide (Dig.chkN n t = 0) = true from decide_eq_true (if_neg (fun e => by rcases e with e | e; exact h e; exact ht e))]
      clear h
      go_enter Try.func37, Try.ntmps37
      go_wp2
      go_ret
      exact ⟨rfl, below_alloc _ _⟩
open Go.RowKit Srt Trc
set_option linter.unusedSimpArgs false
set_option linter.unusedVariables false
set_option maxRecDepth 100000 in
theorem rord_c (a b : Int) (w : World) : Calls Try.prog 54 #[.int .u64 a, .int .u64 b] w fun en w' => en = .returned (.int .i64 (cmp3 a b)) ∧ w = w' := by
  by_cases h1 : a < b
  · rw [show cmp3 a b = -1 from if_pos h1]
    have d1 : decide (a < b) = true := decide_eq_true h1
    go_enter Try.func54, Try.ntmps54
    go_wp2
    go_ret
    exact ⟨rfl, rfl⟩
  · have d1 : decide (a < b) = false := decide_eq_false h1
    by_cases h2 : b < a
    · rw [show cmp3 a b = 1 from (if_neg h1).trans (if_pos h2)]
      have d2 : decide (b < a) = true := decide_eq_true h2
      go_enter Try.func54, Try.ntmps54
      go_wp2
      go_ret
      exact ⟨rfl, rfl⟩
    · rw [show cmp3 a b = 0 from (if_neg h1).trans (if_neg h2)]
      have d2 : decide (b < a) = false := decide_eq_false h2
      go_enter Try.func54, Try.ntmps54
      go_wp2
      go_ret
      exact ⟨rfl, rfl⟩
set_option maxHeartbeats 1000000 in
set_option maxRecDepth 100000 in
theorem rOrder_c (x y : Nm) (hx : x.wf) (hy : y.wf) (w : World) : Calls Try.prog 48 #[nmV x, nmV y] w (Ret (.int .i64 (nmCmp x y)) w) := by
  have hcv : nmCmp x y = cmpL [cmp3 x.node y.node, cmp3 x.service y.service, cmp3 x.time y.time, cmp3 x.seq y.seq] := rfl
  rw [hcv]
  clear hcv
  obtain ⟨a, b, c, d⟩ := x
  obtain ⟨a', b', c', d'⟩ := y
  obtain ⟨h1, h2, h3, h4⟩ := nm_bounds hx
  obtain ⟨h1', h2', h3', h4'⟩ := nm_bounds hy
  clear hx hy
  simp only at h1 h2 h3 h4 h1' h2' h3' h4'
  have w1 : IntKind.u64.wrap a = a := by rw [IntKind.wrap_u64]; omega
  have w2 : IntKind.u64.wrap b = b := by rw [IntKind.wrap_u64]; omega
  have w4 : IntKind.u64.wrap d = d := by rw [IntKind.wrap_u64]; omega
  have w1' : IntKind.u64.wrap a' = a' := by rw [IntKind.wrap_u64]; omega
  have w2' : IntKind.u64.wrap b' = b' := by rw [IntKind.wrap_u64]; omega
  have w4' : IntKind.u64.wrap d' = d' := by rw [IntKind.wrap_u64]; omega
  have k1 := fun w => rord_c a a' w
  have k2 := fun w => rord_c b b' w
  have k3 := fun w => rord_c c c' w
  have k4 := fun w => rord_c d d' w
  simp only
  generalize cmp3 a a' = c1 at *
  generalize cmp3 b b' = c2 at *
  generalize cmp3 c c' = c3 at *
  generalize cmp3 d d' = c4 at *
  have K1 := Lib.hid k1
  have K2 := Lib.hid k2
  have K3 := Lib.hid k3
  have K4 := Lib.hid k4
  clear k1 k2 k3 k4 h1 h2 h3 h4 h1' h2' h3' h4'
  have hb2 : Below w.heap.size w ((w.alloc (.cells (nmC ⟨a, b, c, d⟩).toArray 36)).alloc (.cells (nmC ⟨a', b', c', d'⟩).toArray 36)) := (below_alloc w _).alloc (by simp) _
  have X := (RowAt.new w (nmC ⟨a, b, c, d⟩).toArray 36).alloc (.cells (nmC ⟨a', b', c', d'⟩).toArray 36)
  have Y := RowAt.new (w.alloc (.cells (nmC ⟨a, b, c, d⟩).toArray 36)) (nmC ⟨a', b', c', d'⟩).toArray 36
  rw [World.size_alloc] at Y
  go_enter Try.func48, Try.ntmps48
  go_wp2
  refine wp_region_pt (fun _ => False) (.q 0 (.q 1 (.q 2 (.q 3 (.q 4 (.q 5 (.q 6 (.q 7 (.q 9 (.q 10 (.q 11 (.q 12 (.q 13 (.q 14 (.q 15 (.q 16 (.q 18 (.q 19 (.q 20 (.q 21 (.q 23 (.q 24 (.q 25 (.q 26 (.q 27 (.q 28 (.c 8 (.c 17 (.c 22 (.c 29 (.c 30 (.q 31 .done)))))))))))))))))))))))))))))))) (by kernel_rfl) (by kernel_rfl) (by kernel_rfl) (by decide) (fun _ _ d _ _ h => by cases d <;> exact h) (fun Wd hBd => ?_)
  try simp only [Act.put, List.getElem_toArray, List.getElem_cons_zero, List.getElem_cons_succ, List.setIfInBounds_toArray, List.set_cons_zero, List.set_cons_succ]
  have X1 := X.below hBd
  have Y1 := Y.below hBd
  have qt : ∀ w', But (fun _ => False) Wd w' → Below Wd.heap.size Wd w' := fun w' h => h.below (fun k e => e.elim) (Nat.le_refl _)
  have qx0 : ∀ w', But (fun _ => False) Wd w' → w'.cell? ⟨w.heap.size, 0, none⟩ = some (.int .u32 a) := fun w' h => cell_up (qt w' h) (X1.cell (i := 0) rfl)
  have qy0 : ∀ w', But (fun _ => False) Wd w' → w'.cell? ⟨w.heap.size + 1, 0, none⟩ = some (.int .u32 a') := fun w' h => cell_up (qt w' h) (Y1.cell (i := 0) rfl)
  have qx1 : ∀ w', But (fun _ => False) Wd w' → w'.cell? ⟨w.heap.size, 1, none⟩ = some (.int .u32 b) := fun w' h => cell_up (qt w' h) (X1.cell (i := 1) rfl)
  have qy1 : ∀ w', But (fun _ => False) Wd w' → w'.cell? ⟨w.heap.size + 1, 1, none⟩ = some (.int .u32 b') := fun w' h => cell_up (qt w' h) (Y1.cell (i := 1) rfl)
  have qx2 : ∀ w', But (fun _ => False) Wd w' → w'.cell? ⟨w.heap.size, 2, none⟩ = some (.int .u64 c) := fun w' h => cell_up (qt w' h) (X1.cell (i := 2) rfl)
  have qy2 : ∀ w', But (fun _ => False) Wd w' → w'.cell? ⟨w.heap.size + 1, 2, none⟩ = some (.int .u64 c') := fun w' h => cell_up (qt w' h) (Y1.cell (i := 2) rfl)
  have qx3 : ∀ w', But (fun _ => False) Wd w' → w'.cell? ⟨w.heap.size, 3, none⟩ = some (.int .u32 d) := fun w' h => cell_up (qt w' h) (X1.cell (i := 3) rfl)
  have qy3 : ∀ w', But (fun _ => False) Wd w' → w'.cell? ⟨w.heap.size + 1, 3, none⟩ = some (.int .u32 d') := fun w' h => cell_up (qt w' h) (Y1.cell (i := 3) rfl)
  refine pt_q (v := ?_) rfl (by rfl) ?_ ?_
  rotate_left
  · intro w' hBw'
    first | (go_simp; done) | (go_simp; with_reducible rfl)
  try simp only [Act.put, List.getElem_toArray, List.getElem_cons_zero, List.getElem_cons_succ, List.setIfInBounds_toArray, List.set_cons_zero, List.set_cons_succ]
  refine pt_q (v := ?_) rfl (by rfl) ?_ ?_
  rotate_left
  · intro w' hBw'
    first | (go_simp; done) | (go_simp; with_reducible rfl)
  try simp only [Act.put, List.getElem_toArray, List.getElem_cons_zero, List.getElem_cons_succ, List.setIfInBounds_toArray, List.set_cons_zero, List.set_cons_succ]
  refine pt_q (v := ?_) rfl (by rfl) ?_ ?_
  rotate_left
  · intro w' hBw'
    first | (go_simp; done) | (go_simp; with_reducible rfl)
  try simp only [Act.put, List.getElem_toArray, List.getElem_cons_zero, List.getElem_cons_succ, List.setIfInBounds_toArray, List.set_cons_zero, List.set_cons_succ]
  refine pt_q (v := ?_) rfl (by rfl) ?_ ?_
  rotate_left
  · intro w' hBw'
    first | (go_simp; done) | (go_simp; with_reducible rfl)
  try simp only [Act.put, List.getElem_toArray, List.getElem_cons_zero, List.getElem_cons_succ, List.setIfInBounds_toArray, List.set_cons_zero, List.set_cons_succ]
  refine pt_q (v := ?_) rfl (by rfl) ?_ ?_
  rotate_left
  · intro w' hBw'
    first | (go_simp; done) | (go_simp; with_reducible rfl)
  try simp only [Act.put, List.getElem_toArray, List.getElem_cons_zero, List.getElem_cons_succ, List.setIfInBounds_toArray, List.set_cons_zero, List.set_cons_succ]
  refine pt_q (v := ?_) rfl (by rfl) ?_ ?_
  rotate_left
  · intro w' hBw'
    first | (go_simp; done) | (go_simp; with_reducible rfl)
  try simp only [Act.put, List.getElem_toArray, List.getElem_cons_zero, List.getElem_cons_succ, List.setIfInBounds_toArray, List.set_cons_zero, List.set_cons_succ]
  refine pt_q (v := ?_) rfl (by rfl) ?_ ?_
  rotate_left
  · intro w' hBw'
    first | (go_simp; done) | (go_simp; with_reducible rfl)
  try simp only [Act.put, List.getElem_toArray, List.getElem_cons_zero, List.getElem_cons_succ, List.setIfInBounds_toArray, List.set_cons_zero, List.set_cons_succ]
  refine pt_q (v := ?_) rfl (by rfl) ?_ ?_
  rotate_left
  · intro w' hBw'
    first | (go_simp; done) | (go_simp; with_reducible rfl)
  try simp only [Act.put, List.getElem_toArray, List.getElem_cons_zero, List.getElem_cons_succ, List.setIfInBounds_toArray, List.set_cons_zero, List.set_cons_succ]
  refine pt_q (v := ?_) rfl (by rfl) ?_ ?_
  rotate_left
  · intro w' hBw'
    first | (go_simp; done) | (go_simp; with_reducible rfl)
  try simp only [Act.put, List.getElem_toArray, List.getElem_cons_zero, List.getElem_cons_succ, List.setIfInBounds_toArray, List.set_cons_zero, List.set_cons_succ]
  refine pt_q (v := ?_) rfl (by rfl) ?_ ?_
  rotate_left
  · intro w' hBw'
    first | (go_simp; done) | (go_simp; with_reducible rfl)
  try simp only [Act.put, List.getElem_toArray, List.getElem_cons_zero, List.getElem_cons_succ, List.setIfInBounds_toArray, List.set_cons_zero, List.set_cons_succ]
  refine pt_q (v := ?_) rfl (by rfl) ?_ ?_
  rotate_left
  · intro w' hBw'
    first | (go_simp; done) | (go_simp; with_reducible rfl)
  try simp only [Act.put, List.getElem_toArray, List.getElem_cons_zero, List.getElem_cons_succ, List.setIfInBounds_toArray, List.set_cons_zero, List.set_cons_succ]
  refine pt_q (v := ?_) rfl (by rfl) ?_ ?_
  rotate_left
  · intro w' hBw'
    first | (go_simp; done) | (go_simp; with_reducible rfl)
  try simp only [Act.put, List.getElem_toArray, List.getElem_cons_zero, List.getElem_cons_succ, List.setIfInBounds_toArray, List.set_cons_zero, List.set_cons_succ]
  refine pt_q (v := ?_) rfl (by rfl) ?_ ?_
  rotate_left
  · intro w' hBw'
    first | (go_simp; done) | (go_simp; with_reducible rfl)
  try simp only [Act.put, List.getElem_toArray, List.getElem_cons_zero, List.getElem_cons_succ, List.setIfInBounds_toArray, List.set_cons_zero, List.set_cons_succ]
  refine pt_q (v := ?_) rfl (by rfl) ?_ ?_
  rotate_left
  · intro w' hBw'
    first | (go_simp; done) | (go_simp; with_reducible rfl)
  try simp only [Act.put, List.getElem_toArray, List.getElem_cons_zero, List.getElem_cons_succ, List.setIfInBounds_toArray, List.set_cons_zero, List.set_cons_succ]
  refine pt_q (v := ?_) rfl (by rfl) ?_ ?_
  rotate_left
  · intro w' hBw'
    first | (go_simp; done) | (go_simp; with_reducible rfl)
  try simp only [Act.put, List.getElem_toArray, List.getElem_cons_zero, List.getElem_cons_succ, List.setIfInBounds_toArray, List.set_cons_zero, List.set_cons_succ]
  refine pt_q (v := ?_) rfl (by rfl) ?_ ?_
  rotate_left
  · intro w' hBw'
    first | (go_simp; done) | (go_simp; with_reducible rfl)
  try simp only [Act.put, List.getElem_toArray, List.getElem_cons_zero, List.getElem_cons_succ, List.setIfInBounds_toArray, List.set_cons_zero, List.set_cons_succ]
  refine pt_q (v := ?_) rfl (by rfl) ?_ ?_
  rotate_left
  · intro w' hBw'
    first | (go_simp; done) | (go_simp; with_reducible rfl)
  try simp only [Act.put, List.getElem_toArray, List.getElem_cons_zero, List.getElem_cons_succ, List.setIfInBounds_toArray, List.set_cons_zero, List.set_cons_succ]
  refine pt_q (v := ?_) rfl (by rfl) ?_ ?_
  rotate_left
  · intro w' hBw'
    first | (go_simp; done) | (go_simp; with_reducible rfl)
  try simp only [Act.put, List.getElem_toArray, List.getElem_cons_zero, List.getElem_cons_succ, List.setIfInBounds_toArray, List.set_cons_zero, List.set_cons_succ]
  refine pt_q (v := ?_) rfl (by rfl) ?_ ?_
  rotate_left
  · intro w' hBw'
    first | (go_simp; done) | (go_simp; with_reducible rfl)
  try simp only [Act.put, List.getElem_toArray, List.getElem_cons_zero, List.getElem_cons_succ, List.setIfInBounds_toArray, List.set_cons_zero, List.set_cons_succ]
  refine pt_q (v := ?_) rfl (by rfl) ?_ ?_
  rotate_left
  · intro w' hBw'
    first | (go_simp; done) | (go_simp; with_reducible rfl)
  try simp only [Act.put, List.getElem_toArray, List.getElem_cons_zero, List.getElem_cons_succ, List.setIfInBounds_toArray, List.set_cons_zero, List.set_cons_succ]
  refine pt_q (v := ?_) rfl (by rfl) ?_ ?_
  rotate_left
  · intro w' hBw'
    first | (go_simp; done) | (go_simp; with_reducible rfl)
  try simp only [Act.put, List.getElem_toArray, List.getElem_cons_zero, List.getElem_cons_succ, List.setIfInBounds_toArray, List.set_cons_zero, List.set_cons_succ]
  refine pt_q (v := ?_) rfl (by rfl) ?_ ?_
  rotate_left
  · intro w' hBw'
    first | (go_simp; done) | (go_simp; with_reducible rfl)
  try simp only [Act.put, List.getElem_toArray, List.getElem_cons_zero, List.getElem_cons_succ, List.setIfInBounds_toArray, List.set_cons_zero, List.set_cons_succ]
  refine pt_q (v := ?_) rfl (by rfl) ?_ ?_
  rotate_left
  · intro w' hBw'
    first | (go_simp; done) | (go_simp; with_reducible rfl)
  try simp only [Act.put, List.getElem_toArray, List.getElem_cons_zero, List.getElem_cons_succ, List.setIfInBounds_toArray, List.set_cons_zero, List.set_cons_succ]
  refine pt_q (v := ?_) rfl (by rfl) ?_ ?_
  rotate_left
  · intro w' hBw'
    first | (go_simp; done) | (go_simp; with_reducible rfl)
  try simp only [Act.put, List.getElem_toArray, List.getElem_cons_zero, List.getElem_cons_succ, List.setIfInBounds_toArray, List.set_cons_zero, List.set_cons_succ]
  refine pt_q (v := ?_) rfl (by rfl) ?_ ?_
  rotate_left
  · intro w' hBw'
    first | (go_simp; done) | (go_simp; with_reducible rfl)
  try simp only [Act.put, List.getElem_toArray, List.getElem_cons_zero, List.getElem_cons_succ, List.setIfInBounds_toArray, List.set_cons_zero, List.set_cons_succ]
  refine pt_q (v := ?_) rfl (by rfl) ?_ ?_
  rotate_left
  · intro w' hBw'
    first | (go_simp; done) | (go_simp; with_reducible rfl)
  try simp only [Act.put, List.getElem_toArray, List.getElem_cons_zero, List.getElem_cons_succ, List.setIfInBounds_toArray, List.set_cons_zero, List.set_cons_succ]
  refine pt_c ?_
  refine pt_step rfl (by rfl) (fun K hK => ?_)
  go_simp
  refine (K1.out _).mono ?_
  rintro en w3 ⟨rfl, rfl⟩
  refine hK.out _ _ (But.refl _ _) ?_
  clear hK K
  try simp only [Act.put, List.getElem_toArray, List.getElem_cons_zero, List.getElem_cons_succ, List.setIfInBounds_toArray, List.set_cons_zero, List.set_cons_succ]
  refine pt_c ?_
  refine pt_step rfl (by rfl) (fun K hK => ?_)
  go_simp
  refine (K2.out _).mono ?_
  rintro en w3 ⟨rfl, rfl⟩
  refine hK.out _ _ (But.refl _ _) ?_
  clear hK K
  try simp only [Act.put, List.getElem_toArray, List.getElem_cons_zero, List.getElem_cons_succ, List.setIfInBounds_toArray, List.set_cons_zero, List.set_cons_succ]
  refine pt_c ?_
  refine pt_step rfl (by rfl) (fun K hK => ?_)
  go_simp
  refine (K3.out _).mono ?_
  rintro en w3 ⟨rfl, rfl⟩
  refine hK.out _ _ (But.refl _ _) ?_
  clear hK K
  try simp only [Act.put, List.getElem_toArray, List.getElem_cons_zero, List.getElem_cons_succ, List.setIfInBounds_toArray, List.set_cons_zero, List.set_cons_succ]
  refine pt_c ?_
  refine pt_step rfl (by rfl) (fun K hK => ?_)
  go_simp
  refine (K4.out _).mono ?_
  rintro en w3 ⟨rfl, rfl⟩
  refine hK.out _ _ (But.refl _ _) ?_
  clear hK K
  try simp only [Act.put, List.getElem_toArray, List.getElem_cons_zero, List.getElem_cons_succ, List.setIfInBounds_toArray, List.set_cons_zero, List.set_cons_succ]
  refine pt_c ?_
  refine pt_step rfl (by rfl) (fun K hK => ?_)
  go_simp
  refine hK.out _ _ (But.alloc _ _) ?_
  clear hK K
  try simp only [Act.put, List.getElem_toArray, List.getElem_cons_zero, List.getElem_cons_succ, List.setIfInBounds_toArray, List.set_cons_zero, List.set_cons_succ]
  refine pt_q (v := ?_) rfl (by rfl) ?_ ?_
  rotate_left
  · intro w' hBw'
    first | (go_simp; done) | (go_simp; with_reducible rfl)
  try simp only [Act.put, List.getElem_toArray, List.getElem_cons_zero, List.getElem_cons_succ, List.setIfInBounds_toArray, List.set_cons_zero, List.set_cons_succ]
  refine pt_done ?_
  have hB := below_up (below_up hb2 hBd) (below_alloc Wd (.cells #[.int .i64 c1, .int .i64 c2, .int .i64 c3, .int .i64 c4] 3))
  have R := RowAt.new Wd #[.int .i64 c1, .int .i64 c2, .int .i64 c3, .int .i64 c4] 3
  clear X Y X1 Y1 qt qx0 qx1 qx2 qx3 qy0 qy1 qy2 qy3 hb2 hBd K1 K2 K3 K4 w1 w2 w4 w1' w2' w4'
  generalize Wd.heap.size = B at *
  generalize Wd.alloc (.cells #[.int .i64 c1, .int .i64 c2, .int .i64 c3, .int .i64 c4] 3) = W1 at *
  obtain ⟨cs, hcs⟩ : ∃ cs, [c1, c2, c3, c4] = cs := ⟨_, rfl⟩
  have hR : ∀ k (hk : k < cs.length), W1.cell? ⟨B, k, none⟩ = some (.int .i64 cs[k]) := fun k hk => by
    subst hcs
    rcases k with _ | _ | _ | _ | k
    · exact R.cell (i := 0) rfl
    · exact R.cell (i := 1) rfl
    · exact R.cell (i := 2) rfl
    · exact R.cell (i := 3) rfl
    · simp only [List.length_cons, List.length_nil] at hk; omega
  have HR := Lib.hid hR
  have h4 : cs.length = 4 := by rw [← hcs]; rfl
  have H4 := Lib.hid h4
  have HCS := Lib.hid hcs
  clear hcs hR h4 R
  go_wp2
  go_loop [6] (fun vi => ∃ k : Nat, vi = .int .i64 k ∧ k ≤ 4 ∧ ∀ j, j < k → cs.getD j 0 = 0) (fun vi => 4 - (intOf vi).toNat)
  case atStart => exact ⟨0, rfl, by omega, fun j hj => by omega⟩
  case round =>
    obtain ⟨k, rfl, hk, h0⟩ := hrel
    have H0 := Lib.hid h0
    clear h0
    by_cases hlt : k < 4
    · have hkI : (k : Int) < 4 := by omega
      have hkl : k < cs.length := by rw [H4.out]; exact hlt
      have hcell := HR.out k hkl
      obtain ⟨cv, hcv⟩ : ∃ cv, cs[k] = cv := ⟨_, rfl⟩
      rw [hcv] at hcell
      have HCV := Lib.hid hcv
      clear hcv
      by_cases hc : cv = 0
      · subst hc
        go_wp2
        exact ⟨⟨k + 1, by go_num, by omega, fun j hj => by rcases Nat.lt_or_ge j k with h | h; exact H0.out j h; (obtain rfl : j = k := (by omega)); rw [List.getD_eq_getElem?_getD, List.getElem?_eq_getElem hkl, HCV.out]; rfl⟩, by simp [intOf]; omega⟩
      · have hcb : (cv != 0) = true := by simp [hc]
        go_wp2
        go_ret
        exact ⟨retI (by rw [HCS.out]; exact ((cmpL_at cs k hkl H0.out (fun e => hc (HCV.out.symm.trans e))).trans HCV.out).symm), hB⟩
    · obtain rfl : k = 4 := by omega
      go_wp2
      go_ret
      exact ⟨retI (by rw [HCS.out]; exact (cmpL_zero cs (fun j hj => H0.out j (by rw [← H4.out]; exact hj))).symm), hB⟩
end Go.Proofs.Ytfoncaamhleckaa
