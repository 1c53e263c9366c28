/-
  No plan, or a zero one: what its methods tell.
-/
import Derived.Test.YtgbpdchdcbnoaaaConV
namespace Go.Proofs.Ytgbpdchdcbnoaaa
open Go.RowKit Vol
set_option linter.unusedSimpArgs false
set_option linter.unusedVariables false
attribute [local go_sem] Oper.semAt_some

/-- There is no plan, or one that is none. -/
def Void (w : World) (p : Value) : Prop := p = .pointer none ∨ ∃ B, p = .pointer (some ⟨B, 0, none⟩) ∧ RowAt w B #[.slice none 0 0, .bool false] 67
theorem Void.up {w w' : World} {p : Value} (h : Void w p) (hb : Below w.heap.size w w') : Void w' p := h.imp id fun ⟨B, h1, h2⟩ => ⟨B, h1, h2.below hb⟩

theorem void_nil (w : World) : Void w (.pointer none) := .inl rfl

theorem vNone_c (p : Value) (w : World) (h : Void w p) : Calls Try.prog 30 #[p] w fun en w' => en = .returned (.bool true) ∧ w = w' := by
  rcases h with rfl | ⟨B, rfl, hr⟩
  · go_enter Try.func30, Try.ntmps30
    go_wp2
    go_ret
    exact ⟨rfl, rfl⟩
  · have hc := hr.cell (i := 1) (v := .bool false) rfl
    go_enter Try.func30, Try.ntmps30
    go_wp2
    go_ret
    exact ⟨rfl, rfl⟩
theorem vOwn_c (p : Value) (w : World) (h : Void w p) : Calls Try.prog 41 #[p] w fun en w' => en = .returned (.slice none 0 0) ∧ w = w' := by
  go_enter Try.func41, Try.ntmps41
  go_wp2_with (go_at_call 30; refine (vNone_c _ _ h).mono ?_; rintro en w1 ⟨rfl, rfl⟩)
  go_ret
  exact ⟨rfl, rfl⟩
theorem vLen_c (p : Value) (w : World) (h : Void w p) : Calls Try.prog 15 #[p] w fun en w' => en = .returned (.int .i64 0) ∧ w = w' := by
  go_enter Try.func15, Try.ntmps15
  go_wp2_with (first
    | (go_at_call 41; refine (vOwn_c _ _ h).mono ?_; rintro en w1 ⟨rfl, rfl⟩)
    | (go_at_call 37; refine (lLen_c _ 0 [] _ (Sl.nil _ _)).mono ?_; rintro en w1 ⟨rfl, rfl⟩))
  go_ret
  exact ⟨rfl, rfl⟩
theorem vCopy_c (p : Value) (w : World) (h : Void w p) : Calls Try.prog 22 #[p] w fun en w' => en = .returned (.pointer none) ∧ w = w' := by
  go_enter Try.func22, Try.ntmps22
  go_wp2_with (go_at_call 30; refine (vNone_c _ _ h).mono ?_; rintro en w1 ⟨rfl, rfl⟩)
  go_ret
  exact ⟨rfl, rfl⟩
theorem vSame_c (p q : Value) (w : World) (h : Void w p) (hq : Void w q) : Calls Try.prog 16 #[p, q] w fun en w' => en = .returned (.bool true) ∧ w = w' := by
  go_enter Try.func16, Try.ntmps16
  go_wp2_with (first
    | (go_at_call 30; ((with_reducible refine (vNone_c _ _ h).mono ?_); rintro en w1 ⟨rfl, rfl⟩))
    | (go_at_call 30; ((with_reducible refine (vNone_c _ _ hq).mono ?_); rintro en w1 ⟨rfl, rfl⟩)))
  go_ret
  exact ⟨rfl, rfl⟩
/-- A plan is not the same as none. -/
theorem nSame_c {B : Nat} {v : Value} {L : List Ct} (w : World) (h : PlanAt w B v L) : Calls Try.prog 16 #[.pointer (some ⟨B, 0, none⟩), .pointer none] w fun en w' => en = .returned (.bool false) ∧ w = w' := by
  go_enter Try.func16, Try.ntmps16
  go_wp2_with (first
    | (go_at_call 30; ((with_reducible refine (pNone_c _ h).mono ?_); rintro en w1 ⟨rfl, rfl⟩))
    | (go_at_call 30; ((with_reducible refine (vNone_c _ _ (void_nil _)).mono ?_); rintro en w1 ⟨rfl, rfl⟩)))
  go_ret
  exact ⟨rfl, rfl⟩
theorem vat_c (p : Value) (f t at_ : Int) (w : World) (h : Void w p) : Calls Try.prog 44 #[p, .int .u32 f, .int .u32 t, .int .u64 at_] w (Ret (.int .i64 (-1)) w) := by
  have hB := below_alloc w (.cells #[.int .u64 at_] 23)
  go_enter Try.func44, Try.ntmps44
  go_wp2_with (go_at_call 30; refine (vNone_c _ _ (h.up hB)).mono ?_; rintro en w1 ⟨rfl, rfl⟩)
  go_ret
  exact ⟨rfl, hB⟩
set_option maxRecDepth 100000 in
theorem vAt_c (p : Value) (f t at_ : Int) (w : World) (h : Void w p) : Calls Try.prog 18 #[p, .int .u32 f, .int .u32 t, .int .u64 at_] w (Ret (.tuple #[ctV zct0, .bool false]) w) := by
  have hB0 := below_alloc w (.cells (ctC zct0).toArray 27)
  have Z0 := RowAt.new w (ctC zct0).toArray 27
  have h1 := h.up hB0
  go_enter Try.func18, Try.ntmps18
  go_wp2_with (go_at_call 44; refine (vat_c _ _ _ _ _ h1).mono ?_; rintro en w1 ⟨rfl, hb⟩; have Z1 := Z0.below hb; have z0 := Z1.cell (i := 0) (v := .int .u32 0) rfl; have z1 := Z1.cell (i := 1) (v := .int .u32 0) rfl; have z2 := Z1.cell (i := 2) (v := .int .u64 0) rfl; have z3 := Z1.cell (i := 3) (v := .int .u64 0) rfl; have z4 := Z1.cell (i := 4) (v := .int .u64 0) rfl; have f0 := Z1.fz 0; have f1 := Z1.fz 1; have f2 := Z1.fz 2; have f3 := Z1.fz 3; have f4 := Z1.fz 4)
  exact bodyPost_ret (v := .tuple #[ctV zct0, .bool false]) (by simp [results, Try.results18, go_sem, z0, z1, z2, z3, z4, zct0]) rfl ⟨rfl, (((((below_up hB0 hb).setCell (Nat.le_refl _) _).setCell (Nat.le_refl _) _).setCell (Nat.le_refl _) _).setCell (Nat.le_refl _) _).setCell (Nat.le_refl _) _⟩
theorem vPrune_c (p : Value) (at_ : Int) (w : World) (h : Void w p) : Calls Try.prog 28 #[p, .int .u64 at_] w (Ret (.tuple #[.int .i64 0, .int .i64 1]) w) := by
  have hB := below_alloc w (.cells #[.int .u64 at_] 23)
  go_enter Try.func28, Try.ntmps28
  go_wp2_with (go_at_call 30; refine (vNone_c _ _ (h.up hB)).mono ?_; rintro en w1 ⟨rfl, rfl⟩)
  go_ret2
  exact ⟨rfl, hB⟩
theorem vNext_c (p : Value) (at_ : Int) (w : World) (h : Void w p) : Calls Try.prog 27 #[p, .int .u64 at_] w (Ret (.tuple #[.int .u64 0, .bool false]) w) := by
  go_enter Try.func27, Try.ntmps27
  go_wp2_with (go_at_call 41; refine (vOwn_c _ _ h).mono ?_; rintro en w1 ⟨rfl, rfl⟩)
  refine wp_loop_rounds 1 ?_
  rw [rounds_succ]
  go_wp2
  go_ret2
  exact ⟨rfl, Below.refl _ _⟩
theorem vAll_c (p : Value) (w : World) (h : Void w p) : Calls Try.prog 23 #[p] w fun en w' => en = .returned (.func (.func 55) #[] #[.pointer (some ⟨w.heap.size, 0, none⟩)]) ∧ w' = w.alloc (.cells #[.slice none 0 0] 65) := by
  have hmf : ∀ (fn : Fn) (first cap : Array Value) (w : World), (Instr.makeFunc fn first cap).run Try.prog w = .ok (.func fn first cap) w := fun _ _ _ _ => rfl
  go_enter Try.func23, Try.ntmps23
  go_wp2_with (go_at_call 41; refine (vOwn_c _ _ h).mono ?_; rintro en w1 ⟨rfl, rfl⟩)
  go_ret
  exact ⟨rfl, rfl⟩
theorem AllAt.void (w : World) : AllAt (w.alloc (.cells #[.slice none 0 0] 65)) w.heap.size (.slice none 0 0) 0 [] := ⟨cell_new _ _ _, Sl.nil _ _⟩
set_option maxRecDepth 100000 in
theorem vFrom_c (p : Value) (f : Int) (w : World) (h : Void w p) :
    Calls Try.prog 52 #[p, .int .u32 f] w fun en w' => en = .returned (.func (.func 72) #[] #[.pointer (some ⟨w.heap.size + 2, 0, none⟩), .pointer (some ⟨w.heap.size, 0, none⟩)]) ∧
      FromAt w' (w.heap.size + 2) w.heap.size (w.heap.size + 1) f (.slice none 0 0) 0 [] ∧ Below w.heap.size w w' ∧ w'.heap.size = w.heap.size + 3 := by
  have hmf : ∀ (fn : Fn) (first cap : Array Value) (w : World), (Instr.makeFunc fn first cap).run Try.prog w = .ok (.func fn first cap) w := fun _ _ _ _ => rfl
  have h1 := h.up (below_alloc w (.cells #[.int .u32 f] 22))
  go_enter Try.func52, Try.ntmps52
  go_wp2_with (go_at_call 23; refine (vAll_c _ _ h1).mono ?_; rintro en w1 ⟨rfl, rfl⟩)
  go_ret
  refine ⟨by simp, ⟨?_, ?_, ?_, Sl.nil _ _⟩, ((below_alloc w _).alloc (by simp) _).alloc (by simp; omega) _, by simp⟩
  · have := cell_new ((w.alloc (.cells #[.int .u32 f] 22)).alloc (.cells #[.slice none 0 0] 65)) (.func (.func 55) #[] #[.pointer (some ⟨w.heap.size + 1, 0, none⟩)]) 56
    simpa using this
  · exact cell_up ((below_alloc _ _).alloc (by simp) _) (cell_new w _ _)
  · have := cell_new (w.alloc (.cells #[.int .u32 f] 22)) (.slice none 0 0) 65
    simp only [World.size_alloc] at this
    exact cell_up (below_alloc _ _) this

set_option maxHeartbeats 2000000 in
set_option maxRecDepth 100000 in
/-- asked: the first question is answered by yes. -/
theorem cAskedF_c (a : Qn) (l : List Qn) (v : Value) (n : Nat) (w : World) (hv : Sl w 2 v n ((a :: l).flatMap askC)) (ha : a.b = true) (hg : Enters Try.prog a.g)
    (hq : ∀ w1, Below w.heap.size w w1 → Calls Try.prog a.g (a.fst ++ a.cap) w1 (Ret (.bool true) w1)) :
    Calls Try.prog 29 #[v] w (Ret (.int .i64 a.e) w) := by
  have Hln := Sl.recs (cells := askC) (sz := 2) (fun _ => rfl) (by decide) hv
  have hn := hv.n_max
  obtain ⟨ad, c, rfl⟩ := hv.len
  have hlt : 0 < n := by simp at Hln; omega
  have hlt' : 0 < (a :: l).length := by simp
  obtain ⟨b, off, rfl, hr0⟩ := hv.rec_at (cells := askC) (sz := 2) (fun _ => rfl) hlt hlt'
  simp only [List.getElem_cons_zero] at hr0
  obtain ⟨g, fst, cap, e, bb⟩ := a
  simp only at hq hg ha ⊢
  subst ha
  have HQ := Lib.hid hq
  unfold Enters at hg
  clear hq Hln
  have hltI : (0 : Int) < (n : Int) := by omega
  go_enter Try.func29, Try.ntmps29
  go_wp2
  refine wp_scope_fwd 0 rfl ?_
  go_wp2
  go_loopw [7] (fun i wr => i = .int .i64 0 ∧ Below w.heap.size w wr) (fun i _ => 0)
  case atStart => exact ⟨rfl, Below.refl _ _⟩
  case round =>
    obtain ⟨rfl, hB⟩ := hrel
    have hr := rangeAt_up hB hr0
    simp only [Nat.zero_mul, Nat.add_zero] at hr
    have HB := Lib.hid hB
    have hcl := HQ.out _ (HB.out.alloc HB.out.size (.cells (askC ⟨g, fst, cap, e, true⟩).toArray 70))
    clear hB
    go_wp2_with (first
      | (refine wpList_load_mid rfl 70 (.tmp 9) rfl b off rfl (askC ⟨g, fst, cap, e, true⟩) _ hr Try.underlying70 rfl (by kernel_rfl) ?_)
      | (refine hcl.mono ?_; rintro en w1 ⟨rfl, hb⟩))
    refine wp_goto ?_
    refine And.intro rfl ?_
    show Code.wp _ _ _ _ _
    go_wp2
    try rw [jump_ret]
    go_ret
    exact ⟨rfl, below_up (HB.out.alloc HB.out.size _) hb⟩
/-- .. of a slice made just now, where there is no plan. -/
theorem vAsked_c (p : Value) (l : List Qn) (cs : List Value) (n : Nat) (hcs : cs = (⟨30, #[p], #[], 1, true⟩ :: l).flatMap askC) (hn : n = l.length + 1) (hm : n ≤ 10) (w : World) (k : Nat) (hk : k = w.heap.size) (h : Void w p) :
    Calls Try.prog 29 #[.slice (some ⟨k, 0, none⟩) n n] (w.alloc (.cells cs.toArray 70)) (Ret (.int .i64 1) (w.alloc (.cells cs.toArray 70))) := by
  subst hk
  have hlen : cs.length = n * 2 := by rw [hcs, rec_len (sz := 2) (fun _ => rfl), hn]; rfl
  have hsl : Sl (w.alloc (.cells cs.toArray 70)) 2 (.slice (some ⟨w.heap.size, 0, none⟩) n n) n cs := Sl.of_own (World.ownsRow_lit w cs.toArray n (size := 2) (e := 70) (base := w.heap.size) (Nat.le_refl _) (by unfold maxLen; omega) (by simpa using hlen))
  have hb := below_alloc w (.cells cs.toArray 70)
  generalize w.alloc (.cells cs.toArray 70) = w1 at *
  rw [hcs] at hsl
  exact cAskedF_c ⟨30, #[p], #[], 1, true⟩ l _ n _ hsl rfl enters_none (fun w2 hb2 => (Calls.cast rfl (vNone_c p w2 ((h.up hb).up hb2))).mono fun en w' ⟨he, hw'⟩ => ⟨he, hw' ▸ Below.refl _ _⟩)
set_option maxRecDepth 100000 in
theorem vDrop_c (p : Value) (f t at_ : Int) (w : World) (h : Void w p) : Calls Try.prog 17 #[p, .int .u32 f, .int .u32 t, .int .u64 at_] w (Ret (.tuple #[ctV zct0, .int .i64 1]) w) := by
  have hmf : ∀ (fn : Fn) (first cap : Array Value) (w : World), (Instr.makeFunc fn first cap).run Try.prog w = .ok (.func fn first cap) w := fun _ _ _ _ => rfl
  have hB0 := below_alloc w (.cells (ctC zct0).toArray 27)
  have Z0 := RowAt.new w (ctC zct0).toArray 27
  have h1 := h.up hB0
  go_enter Try.func17, Try.ntmps17
  go_wp2_with (first
    | (go_at_call 44; refine (vat_c _ _ _ _ _ h1).mono ?_; rintro en w1 ⟨rfl, hb⟩; have HB := Lib.hid (below_up (below_up hB0 hb) (below_alloc w1 (.cells #[.int .i64 (-1)] 3))); have h2 := (h1.up hb).up (below_alloc w1 (.cells #[.int .i64 (-1)] 3)); have Z2 := (Z0.below hb).below (below_alloc w1 (.cells #[.int .i64 (-1)] 3)))
    | (go_at_call 29; refine (vAsked_c p [⟨45, #[], #[.pointer (some ⟨w1.heap.size, 0, none⟩)], 5, true⟩] [.func (.func 30) #[p] #[], .int .i64 1, .func (.func 45) #[] #[.pointer (some ⟨w1.heap.size, 0, none⟩)], .int .i64 5] 2 rfl rfl (by decide) _ (w1.heap.size + 1) (by simp) h2).mono ?_; rintro en w2 ⟨rfl, hb2⟩; have HB2 := Lib.hid (below_up HB.out (below_new hb2)); have Z1 := Z2.below (below_new hb2); have z0 := Z1.cell (i := 0) (v := .int .u32 0) rfl; have z1 := Z1.cell (i := 1) (v := .int .u32 0) rfl; have z2 := Z1.cell (i := 2) (v := .int .u64 0) rfl; have z3 := Z1.cell (i := 3) (v := .int .u64 0) rfl; have z4 := Z1.cell (i := 4) (v := .int .u64 0) rfl; have f0 := Z1.fz 0; have f1 := Z1.fz 1; have f2 := Z1.fz 2; have f3 := Z1.fz 3; have f4 := Z1.fz 4))
  have hBf := (((((HB2.out.setCell (p := ⟨w.heap.size, 0, none⟩) (Nat.le_refl _) (.int .u32 0)).setCell (p := ⟨w.heap.size, 1, none⟩) (Nat.le_refl _) (.int .u32 0)).setCell (p := ⟨w.heap.size, 2, none⟩) (Nat.le_refl _) (.int .u64 0)).setCell (p := ⟨w.heap.size, 3, none⟩) (Nat.le_refl _) (.int .u64 0)).setCell (p := ⟨w.heap.size, 4, none⟩) (Nat.le_refl _) (.int .u64 0))
  exact bodyPost_ret (v := .tuple #[ctV zct0, .int .i64 1]) (by simp [results, Try.results17, go_sem, z0, z1, z2, z3, z4, zct0]) rfl ⟨rfl, hBf⟩
set_option maxRecDepth 100000 in
theorem vGet_c (p : Value) (i : Int) (w : World) (h : Void w p) : Calls Try.prog 49 #[p, .int .i64 i] w (Ret (.tuple #[ctV zct0, .int .i64 1]) w) := by
  obtain ⟨op, rfl⟩ : ∃ op, p = .pointer op := by
    rcases h with rfl | ⟨B, rfl, _⟩
    · exact ⟨_, rfl⟩
    · exact ⟨_, rfl⟩
  have hmf : ∀ (fn : Fn) (first cap : Array Value) (w : World), (Instr.makeFunc fn first cap).run Try.prog w = .ok (.func fn first cap) w := fun _ _ _ _ => rfl
  have hB3 : Below w.heap.size w (((w.alloc (.cells #[.pointer op] 33)).alloc (.cells #[.int .i64 i] 3)).alloc (.cells (ctC zct0).toArray 27)) := ((below_alloc w _).alloc (by simp) _).alloc (by simp; omega) _
  have Z0 := RowAt.new ((w.alloc (.cells #[.pointer op] 33)).alloc (.cells #[.int .i64 i] 3)) (ctC zct0).toArray 27
  rw [World.size_alloc, World.size_alloc] at Z0
  have h3 := h.up hB3
  go_enter Try.func49, Try.ntmps49
  go_wp2_with (go_at_call 29; refine (vAsked_c (.pointer op) [⟨70, #[], #[.pointer (some ⟨w.heap.size + 1, 0, none⟩), .pointer (some ⟨w.heap.size, 0, none⟩)], 4, true⟩] [.func (.func 30) #[.pointer op] #[], .int .i64 1, .func (.func 70) #[] #[.pointer (some ⟨w.heap.size + 1, 0, none⟩), .pointer (some ⟨w.heap.size, 0, none⟩)], .int .i64 4] 2 rfl rfl (by decide) _ (w.heap.size + 1 + 1 + 1) (by simp) h3).mono ?_; rintro en w2 ⟨rfl, hb2⟩; have HB2 := Lib.hid (below_up hB3 (below_new hb2)); have Z1 := Z0.below (below_new hb2); have z0 := Z1.cell (i := 0) (v := .int .u32 0) rfl; have z1 := Z1.cell (i := 1) (v := .int .u32 0) rfl; have z2 := Z1.cell (i := 2) (v := .int .u64 0) rfl; have z3 := Z1.cell (i := 3) (v := .int .u64 0) rfl; have z4 := Z1.cell (i := 4) (v := .int .u64 0) rfl; have f0 := Z1.fz 0; have f1 := Z1.fz 1; have f2 := Z1.fz 2; have f3 := Z1.fz 3; have f4 := Z1.fz 4)
  have hS := (But.set5 w2 (w.heap.size + 1 + 1) (.int .u32 0) (.int .u32 0) (.int .u64 0) (.int .u64 0) (.int .u64 0)).below (B := w.heap.size) (fun k hk => by omega) HB2.out.size
  exact bodyPost_ret (v := .tuple #[ctV zct0, .int .i64 1]) (by simp [results, Try.results49, go_sem, z0, z1, z2, z3, z4, zct0]) rfl ⟨rfl, HB2.out.trans hS⟩
set_option maxRecDepth 100000 in
theorem vAdd_c (p : Value) (c : Ct) (w : World) (h : Void w p) : Calls Try.prog 13 #[p, ctV c] w (Ret (.int .i64 1) w) := by
  obtain ⟨op, rfl⟩ : ∃ op, p = .pointer op := by
    rcases h with rfl | ⟨B, rfl, _⟩
    · exact ⟨_, rfl⟩
    · exact ⟨_, rfl⟩
  have hmf : ∀ (fn : Fn) (first cap : Array Value) (w : World), (Instr.makeFunc fn first cap).run Try.prog w = .ok (.func fn first cap) w := fun _ _ _ _ => rfl
  have hB2 : Below w.heap.size w ((w.alloc (.cells #[.pointer op] 33)).alloc (.cells (ctC c).toArray 27)) := (below_alloc w _).alloc (by simp) _
  have h2 := h.up hB2
  go_enter Try.func13, Try.ntmps13
  go_wp2_with (go_at_call 29; refine (vAsked_c (.pointer op) [⟨31, #[], #[.pointer (some ⟨w.heap.size + 1, 0, none⟩)], 2, true⟩, ⟨32, #[], #[.pointer (some ⟨w.heap.size, 0, none⟩), .pointer (some ⟨w.heap.size + 1, 0, none⟩)], 270, true⟩, ⟨36, #[], #[.pointer (some ⟨w.heap.size, 0, none⟩)], 271, true⟩] [.func (.func 30) #[.pointer op] #[], .int .i64 1, .func (.func 31) #[] #[.pointer (some ⟨w.heap.size + 1, 0, none⟩)], .int .i64 2, .func (.func 32) #[] #[.pointer (some ⟨w.heap.size, 0, none⟩), .pointer (some ⟨w.heap.size + 1, 0, none⟩)], .int .i64 270, .func (.func 36) #[] #[.pointer (some ⟨w.heap.size, 0, none⟩)], .int .i64 271] 4 rfl rfl (by decide) _ (w.heap.size + 1 + 1) (by simp) h2).mono ?_; rintro en w2 ⟨rfl, hb2⟩)
  go_ret
  exact ⟨rfl, below_up hB2 (below_new hb2)⟩
end Go.Proofs.Ytgbpdchdcbnoaaa
