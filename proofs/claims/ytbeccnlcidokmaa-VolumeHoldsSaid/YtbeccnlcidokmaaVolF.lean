/-
  The contracts of asked.
-/
import Derived.Test.YtbeccnlcidokmaaVolE
import Derived.Laws.EntriesVeiled
namespace Go.Proofs.Ytbeccnlcidokmaa
open Go.RowKit Go.Maps Vol
set_option linter.unusedSimpArgs false
set_option linter.unusedVariables false

theorem slT_ask : SlT Try.prog 64 50 2 16 := SlT.mk' Try.underlying64 (z := .agg #[.nilFunc, .int .i64 0]) (by kernel_rfl) rfl (by decide)
theorem Sl.cells_lit {w : World} {sz b off n c : Nat} {cs : List Value} (h : Sl w sz (.slice (some ⟨b, off, none⟩) n c) n cs) {j : Nat} {u : Value} (hn : 0 < n) (hj : cs[j]? = some u) : w.cell? ⟨b, off + j, none⟩ = some u := by
  obtain ⟨_, ⟨a, c', h1, h2⟩ | ⟨b', off', cap, h1, _, _, h2⟩⟩ := h
  · omega
  · simp only [Value.slice.injEq, Option.some.injEq, Addr.mk.injEq] at h1
    obtain ⟨⟨rfl, rfl, _⟩, _⟩ := h1
    exact h2 j u hj

set_option maxHeartbeats 4000000 in
set_option maxRecDepth 100000 in
theorem askedB_c {L M : Nat} {E : List (Ct × Int)} (c : Ct) (hc : c.Ok) (n : Int) (hn : 0 ≤ (lk E c).2) (hn0 : 0 < n) (ba bb bd : Nat) (v : Value) (w : World) (HF : Cap L M E c n ba bb bd w) (hv : Sl w 2 v 2 [.func (.func 18) #[] #[.pointer (some ⟨ba, 0, none⟩), .pointer (some ⟨bb, 0, none⟩), .pointer (some ⟨bd, 0, none⟩)], .int .i64 290, .func (.func 19) #[] #[.pointer (some ⟨ba, 0, none⟩), .pointer (some ⟨bb, 0, none⟩)], .int .i64 291]) :
    Calls Try.prog 17 #[.pointer (some ⟨L, 0, none⟩), ctV c, .int .u64 n, v] w (Ret (.int .i64 (if roomF c (lk E c).2 c.a < n then 290 else if (!(get E c).isSome && decide (512 ≤ E.length)) = true then 291 else 0)) w) := by
  have hmf : ∀ (fn : Fn) (first cap : Array Value) (w : World), (Instr.makeFunc fn first cap).run Try.prog w = .ok (.func fn first cap) w := fun _ _ _ _ => rfl
  have hB2 : Below w.heap.size w ((w.alloc (.cells (ctC c).toArray 32)).alloc (.cells #[.int .u64 n] 28)) := (below_alloc w _).alloc (by simp) _
  have C2 := (RowAt.new w (ctC c).toArray 32).alloc (.cells #[.int .u64 n] 28)
  have N2 := RowAt.new (w.alloc (.cells (ctC c).toArray 32)) #[.int .u64 n] 28
  rw [show (w.alloc (.cells (ctC c).toArray 32)).heap.size = w.heap.size + 1 by simp] at N2
  have hB3 : Below w.heap.size w (((w.alloc (.cells (ctC c).toArray 32)).alloc (.cells #[.int .u64 n] 28)).alloc (.cells [.func (.func 22) #[.pointer (some ⟨L, 0, none⟩)] #[], .int .i64 1, .func (.func 32) #[] #[.pointer (some ⟨w.heap.size, 0, none⟩), .pointer (some ⟨w.heap.size + 1, 0, none⟩)], .int .i64 2].toArray 50)) := hB2.alloc (by simp; omega) _
  have hown := World.ownsRow_lit ((w.alloc (.cells (ctC c).toArray 32)).alloc (.cells #[.int .u64 n] 28)) [.func (.func 22) #[.pointer (some ⟨L, 0, none⟩)] #[], .int .i64 1, .func (.func 32) #[] #[.pointer (some ⟨w.heap.size, 0, none⟩), .pointer (some ⟨w.heap.size + 1, 0, none⟩)], .int .i64 2].toArray 2 (size := 2) (e := 50) (base := w.heap.size) (by simp; omega) (by decide) rfl
  simp only [World.size_alloc] at hown
  have hv3 := hv.up hB3
  have HF3 := Cap.up _ _ hB3 HF
  have C3 := C2.alloc (.cells [.func (.func 22) #[.pointer (some ⟨L, 0, none⟩)] #[], .int .i64 1, .func (.func 32) #[] #[.pointer (some ⟨w.heap.size, 0, none⟩), .pointer (some ⟨w.heap.size + 1, 0, none⟩)], .int .i64 2].toArray 50)
  have N3 := N2.alloc (.cells [.func (.func 22) #[.pointer (some ⟨L, 0, none⟩)] #[], .int .i64 1, .func (.func 32) #[] #[.pointer (some ⟨w.heap.size, 0, none⟩), .pointer (some ⟨w.heap.size + 1, 0, none⟩)], .int .i64 2].toArray 50)
  obtain ⟨a, cap, rfl⟩ := hv.len
  obtain ⟨R, hR⟩ : ∃ R : Int, R = (if roomF c (lk E c).2 c.a < n then 290 else if (!(get E c).isSome && decide (512 ≤ E.length)) = true then 291 else 0) := ⟨_, rfl⟩
  rw [← hR]
  cases e3 : decide (roomF c (lk E c).2 c.a < n) with
  | true =>
    have h3 := of_decide_eq_true e3
    have hS : R = 290 := by rw [hR, if_pos h3]
    clear hR
    subst hS
    go_enter Try.func17, Try.ntmps17
    go_wp2
    refine wp_scope_fwd 0 rfl ?_
    go_wp2_with (at_builtin; go_loud (refine wpList_app rfl _ _ 64 rfl slT_ask w.heap.size rfl hown rfl hv3 (by intro u hu; simp at hu; rcases hu with h | h | h | h <;> (subst h; rfl)) (by decide) (by decide) (by simp; omega) ?_; intro v' w4 hown4 hgrow _; obtain ⟨g4, cap4, rfl⟩ := own_slice hown4))
    have hbut : But (fun j => j = w.heap.size + 2) _ w4 := But.grown hgrow (fun r hr => .inl (by have hr2 : some (w.heap.size + 1 + 1) = some r := hr; have := Option.some.inj hr2; omega))
    have HB4 : Below w.heap.size w w4 := hB3.trans (hbut.below (fun j hj => by omega) hB3.size)
    replace HF := Cap.up _ _ HB4 HF
    have C5 : RowAt w4 w.heap.size (ctC c).toArray 32 := (hbut.same _ C3.lt (by simp)).trans C3
    have N5 : RowAt w4 (w.heap.size + 1) #[.int .u64 n] 28 := (hbut.same _ N3.lt (by simp)).trans N3
    have hs4 := Sl.of_own hown4
    obtain ⟨b4, o4, rfl, _⟩ := hs4.cellAt (k := 0) (by decide) (by decide)
    have q0 := hs4.cells_lit (j := 0) (by decide) rfl
    have q1 := hs4.cells_lit (j := 1) (by decide) rfl
    have q2 := hs4.cells_lit (j := 2) (by decide) rfl
    have q3 := hs4.cells_lit (j := 3) (by decide) rfl
    have q4 := hs4.cells_lit (j := 4) (by decide) rfl
    have q5 := hs4.cells_lit (j := 5) (by decide) rfl
    have q6 := hs4.cells_lit (j := 6) (by decide) rfl
    have q7 := hs4.cells_lit (j := 7) (by decide) rfl
    simp only [Nat.add_zero] at q0
    have HB := Lib.hid HB4
    clear hown4 hgrow hbut hs4 HB4 hv hv3 HF3 hown C2 C3 N2 N3 hB2 hB3
    refine wp_loop_rounds 5 ?_
    rw [rounds_succ]
    go_wp2_with (first
      | (go_at_call 22; refine (vNone_c _ (HF.1.below (below_alloc _ _))).mono ?_; rintro en wn ⟨rfl, hb⟩; replace hb := below_up (below_alloc _ _) hb; replace q0 := cell_up hb q0; replace q1 := cell_up hb q1; replace q2 := cell_up hb q2; replace q3 := cell_up hb q3; replace q4 := cell_up hb q4; replace q5 := cell_up hb q5; replace q6 := cell_up hb q6; replace q7 := cell_up hb q7; replace HF := Cap.up _ _ hb HF; replace C5 := C5.below hb; replace N5 := N5.below hb; replace HB := Lib.hid (below_up HB.out hb); clear hb)
      | (go_at_call 32; refine (ask1_c c hc n hn0 _ _ _ (C5.below (below_alloc _ _)) (N5.below (below_alloc _ _))).mono ?_; rintro en wn ⟨rfl, hb⟩; replace hb := below_up (below_alloc _ _) hb; replace q0 := cell_up hb q0; replace q1 := cell_up hb q1; replace q2 := cell_up hb q2; replace q3 := cell_up hb q3; replace q4 := cell_up hb q4; replace q5 := cell_up hb q5; replace q6 := cell_up hb q6; replace q7 := cell_up hb q7; replace HF := Cap.up _ _ hb HF; replace C5 := C5.below hb; replace N5 := N5.below hb; replace HB := Lib.hid (below_up HB.out hb); clear hb)
      | (go_at_call 18; refine (book1_c c hc n hn _ _ _ _ (Cap.up _ _ (below_alloc _ _) HF)).mono ?_; rw [e3]; rintro en wn ⟨rfl, hb⟩; replace hb := below_up (below_alloc _ _) hb; replace q0 := cell_up hb q0; replace q1 := cell_up hb q1; replace q2 := cell_up hb q2; replace q3 := cell_up hb q3; replace q4 := cell_up hb q4; replace q5 := cell_up hb q5; replace q6 := cell_up hb q6; replace q7 := cell_up hb q7; replace HF := Cap.up _ _ hb HF; replace C5 := C5.below hb; replace N5 := N5.below hb; replace HB := Lib.hid (below_up HB.out hb); clear hb)
      | (go_at_call 19; refine (book2_c c hc n _ _ _ _ (Cap.up _ _ (below_alloc _ _) HF)).mono ?_; rw [e4]; rintro en wn ⟨rfl, hb⟩; replace hb := below_up (below_alloc _ _) hb; replace q0 := cell_up hb q0; replace q1 := cell_up hb q1; replace q2 := cell_up hb q2; replace q3 := cell_up hb q3; replace q4 := cell_up hb q4; replace q5 := cell_up hb q5; replace q6 := cell_up hb q6; replace q7 := cell_up hb q7; replace HF := Cap.up _ _ hb HF; replace C5 := C5.below hb; replace N5 := N5.below hb; replace HB := Lib.hid (below_up HB.out hb); clear hb))
    rw [rounds_succ]
    go_wp2_with (first
      | (go_at_call 22; refine (vNone_c _ (HF.1.below (below_alloc _ _))).mono ?_; rintro en wn ⟨rfl, hb⟩; replace hb := below_up (below_alloc _ _) hb; replace q0 := cell_up hb q0; replace q1 := cell_up hb q1; replace q2 := cell_up hb q2; replace q3 := cell_up hb q3; replace q4 := cell_up hb q4; replace q5 := cell_up hb q5; replace q6 := cell_up hb q6; replace q7 := cell_up hb q7; replace HF := Cap.up _ _ hb HF; replace C5 := C5.below hb; replace N5 := N5.below hb; replace HB := Lib.hid (below_up HB.out hb); clear hb)
      | (go_at_call 32; refine (ask1_c c hc n hn0 _ _ _ (C5.below (below_alloc _ _)) (N5.below (below_alloc _ _))).mono ?_; rintro en wn ⟨rfl, hb⟩; replace hb := below_up (below_alloc _ _) hb; replace q0 := cell_up hb q0; replace q1 := cell_up hb q1; replace q2 := cell_up hb q2; replace q3 := cell_up hb q3; replace q4 := cell_up hb q4; replace q5 := cell_up hb q5; replace q6 := cell_up hb q6; replace q7 := cell_up hb q7; replace HF := Cap.up _ _ hb HF; replace C5 := C5.below hb; replace N5 := N5.below hb; replace HB := Lib.hid (below_up HB.out hb); clear hb)
      | (go_at_call 18; refine (book1_c c hc n hn _ _ _ _ (Cap.up _ _ (below_alloc _ _) HF)).mono ?_; rw [e3]; rintro en wn ⟨rfl, hb⟩; replace hb := below_up (below_alloc _ _) hb; replace q0 := cell_up hb q0; replace q1 := cell_up hb q1; replace q2 := cell_up hb q2; replace q3 := cell_up hb q3; replace q4 := cell_up hb q4; replace q5 := cell_up hb q5; replace q6 := cell_up hb q6; replace q7 := cell_up hb q7; replace HF := Cap.up _ _ hb HF; replace C5 := C5.below hb; replace N5 := N5.below hb; replace HB := Lib.hid (below_up HB.out hb); clear hb)
      | (go_at_call 19; refine (book2_c c hc n _ _ _ _ (Cap.up _ _ (below_alloc _ _) HF)).mono ?_; rw [e4]; rintro en wn ⟨rfl, hb⟩; replace hb := below_up (below_alloc _ _) hb; replace q0 := cell_up hb q0; replace q1 := cell_up hb q1; replace q2 := cell_up hb q2; replace q3 := cell_up hb q3; replace q4 := cell_up hb q4; replace q5 := cell_up hb q5; replace q6 := cell_up hb q6; replace q7 := cell_up hb q7; replace HF := Cap.up _ _ hb HF; replace C5 := C5.below hb; replace N5 := N5.below hb; replace HB := Lib.hid (below_up HB.out hb); clear hb))
    rw [rounds_succ]
    go_wp2_with (first
      | (go_at_call 22; refine (vNone_c _ (HF.1.below (below_alloc _ _))).mono ?_; rintro en wn ⟨rfl, hb⟩; replace hb := below_up (below_alloc _ _) hb; replace q0 := cell_up hb q0; replace q1 := cell_up hb q1; replace q2 := cell_up hb q2; replace q3 := cell_up hb q3; replace q4 := cell_up hb q4; replace q5 := cell_up hb q5; replace q6 := cell_up hb q6; replace q7 := cell_up hb q7; replace HF := Cap.up _ _ hb HF; replace C5 := C5.below hb; replace N5 := N5.below hb; replace HB := Lib.hid (below_up HB.out hb); clear hb)
      | (go_at_call 32; refine (ask1_c c hc n hn0 _ _ _ (C5.below (below_alloc _ _)) (N5.below (below_alloc _ _))).mono ?_; rintro en wn ⟨rfl, hb⟩; replace hb := below_up (below_alloc _ _) hb; replace q0 := cell_up hb q0; replace q1 := cell_up hb q1; replace q2 := cell_up hb q2; replace q3 := cell_up hb q3; replace q4 := cell_up hb q4; replace q5 := cell_up hb q5; replace q6 := cell_up hb q6; replace q7 := cell_up hb q7; replace HF := Cap.up _ _ hb HF; replace C5 := C5.below hb; replace N5 := N5.below hb; replace HB := Lib.hid (below_up HB.out hb); clear hb)
      | (go_at_call 18; refine (book1_c c hc n hn _ _ _ _ (Cap.up _ _ (below_alloc _ _) HF)).mono ?_; rw [e3]; rintro en wn ⟨rfl, hb⟩; replace hb := below_up (below_alloc _ _) hb; replace q0 := cell_up hb q0; replace q1 := cell_up hb q1; replace q2 := cell_up hb q2; replace q3 := cell_up hb q3; replace q4 := cell_up hb q4; replace q5 := cell_up hb q5; replace q6 := cell_up hb q6; replace q7 := cell_up hb q7; replace HF := Cap.up _ _ hb HF; replace C5 := C5.below hb; replace N5 := N5.below hb; replace HB := Lib.hid (below_up HB.out hb); clear hb)
      | (go_at_call 19; refine (book2_c c hc n _ _ _ _ (Cap.up _ _ (below_alloc _ _) HF)).mono ?_; rw [e4]; rintro en wn ⟨rfl, hb⟩; replace hb := below_up (below_alloc _ _) hb; replace q0 := cell_up hb q0; replace q1 := cell_up hb q1; replace q2 := cell_up hb q2; replace q3 := cell_up hb q3; replace q4 := cell_up hb q4; replace q5 := cell_up hb q5; replace q6 := cell_up hb q6; replace q7 := cell_up hb q7; replace HF := Cap.up _ _ hb HF; replace C5 := C5.below hb; replace N5 := N5.below hb; replace HB := Lib.hid (below_up HB.out hb); clear hb))
    refine wp_goto ?_
    refine And.intro rfl ?_
    show Code.wp _ _ _ _ _
    go_wp2
    try rw [jump_ret]
    go_ret
    exact ⟨rfl, HB.out⟩
  | false =>
    have h3 := of_decide_eq_false e3
    rw [if_neg h3] at hR
    cases e4 : (!(get E c).isSome && decide (512 ≤ E.length)) with
    | true =>
      have hS : R = 291 := by rw [hR, if_pos e4]
      clear hR
      subst hS
      go_enter Try.func17, Try.ntmps17
      go_wp2
      refine wp_scope_fwd 0 rfl ?_
      go_wp2_with (at_builtin; go_loud (refine wpList_app rfl _ _ 64 rfl slT_ask w.heap.size rfl hown rfl hv3 (by intro u hu; simp at hu; rcases hu with h | h | h | h <;> (subst h; rfl)) (by decide) (by decide) (by simp; omega) ?_; intro v' w4 hown4 hgrow _; obtain ⟨g4, cap4, rfl⟩ := own_slice hown4))
      have hbut : But (fun j => j = w.heap.size + 2) _ w4 := But.grown hgrow (fun r hr => .inl (by have hr2 : some (w.heap.size + 1 + 1) = some r := hr; have := Option.some.inj hr2; omega))
      have HB4 : Below w.heap.size w w4 := hB3.trans (hbut.below (fun j hj => by omega) hB3.size)
      replace HF := Cap.up _ _ HB4 HF
      have C5 : RowAt w4 w.heap.size (ctC c).toArray 32 := (hbut.same _ C3.lt (by simp)).trans C3
      have N5 : RowAt w4 (w.heap.size + 1) #[.int .u64 n] 28 := (hbut.same _ N3.lt (by simp)).trans N3
      have hs4 := Sl.of_own hown4
      obtain ⟨b4, o4, rfl, _⟩ := hs4.cellAt (k := 0) (by decide) (by decide)
      have q0 := hs4.cells_lit (j := 0) (by decide) rfl
      have q1 := hs4.cells_lit (j := 1) (by decide) rfl
      have q2 := hs4.cells_lit (j := 2) (by decide) rfl
      have q3 := hs4.cells_lit (j := 3) (by decide) rfl
      have q4 := hs4.cells_lit (j := 4) (by decide) rfl
      have q5 := hs4.cells_lit (j := 5) (by decide) rfl
      have q6 := hs4.cells_lit (j := 6) (by decide) rfl
      have q7 := hs4.cells_lit (j := 7) (by decide) rfl
      simp only [Nat.add_zero] at q0
      have HB := Lib.hid HB4
      clear hown4 hgrow hbut hs4 HB4 hv hv3 HF3 hown C2 C3 N2 N3 hB2 hB3
      refine wp_loop_rounds 5 ?_
      rw [rounds_succ]
      go_wp2_with (first
        | (go_at_call 22; refine (vNone_c _ (HF.1.below (below_alloc _ _))).mono ?_; rintro en wn ⟨rfl, hb⟩; replace hb := below_up (below_alloc _ _) hb; replace q0 := cell_up hb q0; replace q1 := cell_up hb q1; replace q2 := cell_up hb q2; replace q3 := cell_up hb q3; replace q4 := cell_up hb q4; replace q5 := cell_up hb q5; replace q6 := cell_up hb q6; replace q7 := cell_up hb q7; replace HF := Cap.up _ _ hb HF; replace C5 := C5.below hb; replace N5 := N5.below hb; replace HB := Lib.hid (below_up HB.out hb); clear hb)
        | (go_at_call 32; refine (ask1_c c hc n hn0 _ _ _ (C5.below (below_alloc _ _)) (N5.below (below_alloc _ _))).mono ?_; rintro en wn ⟨rfl, hb⟩; replace hb := below_up (below_alloc _ _) hb; replace q0 := cell_up hb q0; replace q1 := cell_up hb q1; replace q2 := cell_up hb q2; replace q3 := cell_up hb q3; replace q4 := cell_up hb q4; replace q5 := cell_up hb q5; replace q6 := cell_up hb q6; replace q7 := cell_up hb q7; replace HF := Cap.up _ _ hb HF; replace C5 := C5.below hb; replace N5 := N5.below hb; replace HB := Lib.hid (below_up HB.out hb); clear hb)
        | (go_at_call 18; refine (book1_c c hc n hn _ _ _ _ (Cap.up _ _ (below_alloc _ _) HF)).mono ?_; rw [e3]; rintro en wn ⟨rfl, hb⟩; replace hb := below_up (below_alloc _ _) hb; replace q0 := cell_up hb q0; replace q1 := cell_up hb q1; replace q2 := cell_up hb q2; replace q3 := cell_up hb q3; replace q4 := cell_up hb q4; replace q5 := cell_up hb q5; replace q6 := cell_up hb q6; replace q7 := cell_up hb q7; replace HF := Cap.up _ _ hb HF; replace C5 := C5.below hb; replace N5 := N5.below hb; replace HB := Lib.hid (below_up HB.out hb); clear hb)
        | (go_at_call 19; refine (book2_c c hc n _ _ _ _ (Cap.up _ _ (below_alloc _ _) HF)).mono ?_; rw [e4]; rintro en wn ⟨rfl, hb⟩; replace hb := below_up (below_alloc _ _) hb; replace q0 := cell_up hb q0; replace q1 := cell_up hb q1; replace q2 := cell_up hb q2; replace q3 := cell_up hb q3; replace q4 := cell_up hb q4; replace q5 := cell_up hb q5; replace q6 := cell_up hb q6; replace q7 := cell_up hb q7; replace HF := Cap.up _ _ hb HF; replace C5 := C5.below hb; replace N5 := N5.below hb; replace HB := Lib.hid (below_up HB.out hb); clear hb))
      rw [rounds_succ]
      go_wp2_with (first
        | (go_at_call 22; refine (vNone_c _ (HF.1.below (below_alloc _ _))).mono ?_; rintro en wn ⟨rfl, hb⟩; replace hb := below_up (below_alloc _ _) hb; replace q0 := cell_up hb q0; replace q1 := cell_up hb q1; replace q2 := cell_up hb q2; replace q3 := cell_up hb q3; replace q4 := cell_up hb q4; replace q5 := cell_up hb q5; replace q6 := cell_up hb q6; replace q7 := cell_up hb q7; replace HF := Cap.up _ _ hb HF; replace C5 := C5.below hb; replace N5 := N5.below hb; replace HB := Lib.hid (below_up HB.out hb); clear hb)
        | (go_at_call 32; refine (ask1_c c hc n hn0 _ _ _ (C5.below (below_alloc _ _)) (N5.below (below_alloc _ _))).mono ?_; rintro en wn ⟨rfl, hb⟩; replace hb := below_up (below_alloc _ _) hb; replace q0 := cell_up hb q0; replace q1 := cell_up hb q1; replace q2 := cell_up hb q2; replace q3 := cell_up hb q3; replace q4 := cell_up hb q4; replace q5 := cell_up hb q5; replace q6 := cell_up hb q6; replace q7 := cell_up hb q7; replace HF := Cap.up _ _ hb HF; replace C5 := C5.below hb; replace N5 := N5.below hb; replace HB := Lib.hid (below_up HB.out hb); clear hb)
        | (go_at_call 18; refine (book1_c c hc n hn _ _ _ _ (Cap.up _ _ (below_alloc _ _) HF)).mono ?_; rw [e3]; rintro en wn ⟨rfl, hb⟩; replace hb := below_up (below_alloc _ _) hb; replace q0 := cell_up hb q0; replace q1 := cell_up hb q1; replace q2 := cell_up hb q2; replace q3 := cell_up hb q3; replace q4 := cell_up hb q4; replace q5 := cell_up hb q5; replace q6 := cell_up hb q6; replace q7 := cell_up hb q7; replace HF := Cap.up _ _ hb HF; replace C5 := C5.below hb; replace N5 := N5.below hb; replace HB := Lib.hid (below_up HB.out hb); clear hb)
        | (go_at_call 19; refine (book2_c c hc n _ _ _ _ (Cap.up _ _ (below_alloc _ _) HF)).mono ?_; rw [e4]; rintro en wn ⟨rfl, hb⟩; replace hb := below_up (below_alloc _ _) hb; replace q0 := cell_up hb q0; replace q1 := cell_up hb q1; replace q2 := cell_up hb q2; replace q3 := cell_up hb q3; replace q4 := cell_up hb q4; replace q5 := cell_up hb q5; replace q6 := cell_up hb q6; replace q7 := cell_up hb q7; replace HF := Cap.up _ _ hb HF; replace C5 := C5.below hb; replace N5 := N5.below hb; replace HB := Lib.hid (below_up HB.out hb); clear hb))
      rw [rounds_succ]
      go_wp2_with (first
        | (go_at_call 22; refine (vNone_c _ (HF.1.below (below_alloc _ _))).mono ?_; rintro en wn ⟨rfl, hb⟩; replace hb := below_up (below_alloc _ _) hb; replace q0 := cell_up hb q0; replace q1 := cell_up hb q1; replace q2 := cell_up hb q2; replace q3 := cell_up hb q3; replace q4 := cell_up hb q4; replace q5 := cell_up hb q5; replace q6 := cell_up hb q6; replace q7 := cell_up hb q7; replace HF := Cap.up _ _ hb HF; replace C5 := C5.below hb; replace N5 := N5.below hb; replace HB := Lib.hid (below_up HB.out hb); clear hb)
        | (go_at_call 32; refine (ask1_c c hc n hn0 _ _ _ (C5.below (below_alloc _ _)) (N5.below (below_alloc _ _))).mono ?_; rintro en wn ⟨rfl, hb⟩; replace hb := below_up (below_alloc _ _) hb; replace q0 := cell_up hb q0; replace q1 := cell_up hb q1; replace q2 := cell_up hb q2; replace q3 := cell_up hb q3; replace q4 := cell_up hb q4; replace q5 := cell_up hb q5; replace q6 := cell_up hb q6; replace q7 := cell_up hb q7; replace HF := Cap.up _ _ hb HF; replace C5 := C5.below hb; replace N5 := N5.below hb; replace HB := Lib.hid (below_up HB.out hb); clear hb)
        | (go_at_call 18; refine (book1_c c hc n hn _ _ _ _ (Cap.up _ _ (below_alloc _ _) HF)).mono ?_; rw [e3]; rintro en wn ⟨rfl, hb⟩; replace hb := below_up (below_alloc _ _) hb; replace q0 := cell_up hb q0; replace q1 := cell_up hb q1; replace q2 := cell_up hb q2; replace q3 := cell_up hb q3; replace q4 := cell_up hb q4; replace q5 := cell_up hb q5; replace q6 := cell_up hb q6; replace q7 := cell_up hb q7; replace HF := Cap.up _ _ hb HF; replace C5 := C5.below hb; replace N5 := N5.below hb; replace HB := Lib.hid (below_up HB.out hb); clear hb)
        | (go_at_call 19; refine (book2_c c hc n _ _ _ _ (Cap.up _ _ (below_alloc _ _) HF)).mono ?_; rw [e4]; rintro en wn ⟨rfl, hb⟩; replace hb := below_up (below_alloc _ _) hb; replace q0 := cell_up hb q0; replace q1 := cell_up hb q1; replace q2 := cell_up hb q2; replace q3 := cell_up hb q3; replace q4 := cell_up hb q4; replace q5 := cell_up hb q5; replace q6 := cell_up hb q6; replace q7 := cell_up hb q7; replace HF := Cap.up _ _ hb HF; replace C5 := C5.below hb; replace N5 := N5.below hb; replace HB := Lib.hid (below_up HB.out hb); clear hb))
      rw [rounds_succ]
      go_wp2_with (first
        | (go_at_call 22; refine (vNone_c _ (HF.1.below (below_alloc _ _))).mono ?_; rintro en wn ⟨rfl, hb⟩; replace hb := below_up (below_alloc _ _) hb; replace q0 := cell_up hb q0; replace q1 := cell_up hb q1; replace q2 := cell_up hb q2; replace q3 := cell_up hb q3; replace q4 := cell_up hb q4; replace q5 := cell_up hb q5; replace q6 := cell_up hb q6; replace q7 := cell_up hb q7; replace HF := Cap.up _ _ hb HF; replace C5 := C5.below hb; replace N5 := N5.below hb; replace HB := Lib.hid (below_up HB.out hb); clear hb)
        | (go_at_call 32; refine (ask1_c c hc n hn0 _ _ _ (C5.below (below_alloc _ _)) (N5.below (below_alloc _ _))).mono ?_; rintro en wn ⟨rfl, hb⟩; replace hb := below_up (below_alloc _ _) hb; replace q0 := cell_up hb q0; replace q1 := cell_up hb q1; replace q2 := cell_up hb q2; replace q3 := cell_up hb q3; replace q4 := cell_up hb q4; replace q5 := cell_up hb q5; replace q6 := cell_up hb q6; replace q7 := cell_up hb q7; replace HF := Cap.up _ _ hb HF; replace C5 := C5.below hb; replace N5 := N5.below hb; replace HB := Lib.hid (below_up HB.out hb); clear hb)
        | (go_at_call 18; refine (book1_c c hc n hn _ _ _ _ (Cap.up _ _ (below_alloc _ _) HF)).mono ?_; rw [e3]; rintro en wn ⟨rfl, hb⟩; replace hb := below_up (below_alloc _ _) hb; replace q0 := cell_up hb q0; replace q1 := cell_up hb q1; replace q2 := cell_up hb q2; replace q3 := cell_up hb q3; replace q4 := cell_up hb q4; replace q5 := cell_up hb q5; replace q6 := cell_up hb q6; replace q7 := cell_up hb q7; replace HF := Cap.up _ _ hb HF; replace C5 := C5.below hb; replace N5 := N5.below hb; replace HB := Lib.hid (below_up HB.out hb); clear hb)
        | (go_at_call 19; refine (book2_c c hc n _ _ _ _ (Cap.up _ _ (below_alloc _ _) HF)).mono ?_; rw [e4]; rintro en wn ⟨rfl, hb⟩; replace hb := below_up (below_alloc _ _) hb; replace q0 := cell_up hb q0; replace q1 := cell_up hb q1; replace q2 := cell_up hb q2; replace q3 := cell_up hb q3; replace q4 := cell_up hb q4; replace q5 := cell_up hb q5; replace q6 := cell_up hb q6; replace q7 := cell_up hb q7; replace HF := Cap.up _ _ hb HF; replace C5 := C5.below hb; replace N5 := N5.below hb; replace HB := Lib.hid (below_up HB.out hb); clear hb))
      refine wp_goto ?_
      refine And.intro rfl ?_
      show Code.wp _ _ _ _ _
      go_wp2
      try rw [jump_ret]
      go_ret
      exact ⟨rfl, HB.out⟩
    | false =>
      have hS : R = 0 := by rw [hR, if_neg (by rw [e4]; exact Bool.false_ne_true)]
      clear hR
      subst hS
      go_enter Try.func17, Try.ntmps17
      go_wp2
      refine wp_scope_fwd 0 rfl ?_
      go_wp2_with (at_builtin; go_loud (refine wpList_app rfl _ _ 64 rfl slT_ask w.heap.size rfl hown rfl hv3 (by intro u hu; simp at hu; rcases hu with h | h | h | h <;> (subst h; rfl)) (by decide) (by decide) (by simp; omega) ?_; intro v' w4 hown4 hgrow _; obtain ⟨g4, cap4, rfl⟩ := own_slice hown4))
      have hbut : But (fun j => j = w.heap.size + 2) _ w4 := But.grown hgrow (fun r hr => .inl (by have hr2 : some (w.heap.size + 1 + 1) = some r := hr; have := Option.some.inj hr2; omega))
      have HB4 : Below w.heap.size w w4 := hB3.trans (hbut.below (fun j hj => by omega) hB3.size)
      replace HF := Cap.up _ _ HB4 HF
      have C5 : RowAt w4 w.heap.size (ctC c).toArray 32 := (hbut.same _ C3.lt (by simp)).trans C3
      have N5 : RowAt w4 (w.heap.size + 1) #[.int .u64 n] 28 := (hbut.same _ N3.lt (by simp)).trans N3
      have hs4 := Sl.of_own hown4
      obtain ⟨b4, o4, rfl, _⟩ := hs4.cellAt (k := 0) (by decide) (by decide)
      have q0 := hs4.cells_lit (j := 0) (by decide) rfl
      have q1 := hs4.cells_lit (j := 1) (by decide) rfl
      have q2 := hs4.cells_lit (j := 2) (by decide) rfl
      have q3 := hs4.cells_lit (j := 3) (by decide) rfl
      have q4 := hs4.cells_lit (j := 4) (by decide) rfl
      have q5 := hs4.cells_lit (j := 5) (by decide) rfl
      have q6 := hs4.cells_lit (j := 6) (by decide) rfl
      have q7 := hs4.cells_lit (j := 7) (by decide) rfl
      simp only [Nat.add_zero] at q0
      have HB := Lib.hid HB4
      clear hown4 hgrow hbut hs4 HB4 hv hv3 HF3 hown C2 C3 N2 N3 hB2 hB3
      refine wp_loop_rounds 5 ?_
      rw [rounds_succ]
      go_wp2_with (first
        | (go_at_call 22; refine (vNone_c _ (HF.1.below (below_alloc _ _))).mono ?_; rintro en wn ⟨rfl, hb⟩; replace hb := below_up (below_alloc _ _) hb; replace q0 := cell_up hb q0; replace q1 := cell_up hb q1; replace q2 := cell_up hb q2; replace q3 := cell_up hb q3; replace q4 := cell_up hb q4; replace q5 := cell_up hb q5; replace q6 := cell_up hb q6; replace q7 := cell_up hb q7; replace HF := Cap.up _ _ hb HF; replace C5 := C5.below hb; replace N5 := N5.below hb; replace HB := Lib.hid (below_up HB.out hb); clear hb)
        | (go_at_call 32; refine (ask1_c c hc n hn0 _ _ _ (C5.below (below_alloc _ _)) (N5.below (below_alloc _ _))).mono ?_; rintro en wn ⟨rfl, hb⟩; replace hb := below_up (below_alloc _ _) hb; replace q0 := cell_up hb q0; replace q1 := cell_up hb q1; replace q2 := cell_up hb q2; replace q3 := cell_up hb q3; replace q4 := cell_up hb q4; replace q5 := cell_up hb q5; replace q6 := cell_up hb q6; replace q7 := cell_up hb q7; replace HF := Cap.up _ _ hb HF; replace C5 := C5.below hb; replace N5 := N5.below hb; replace HB := Lib.hid (below_up HB.out hb); clear hb)
        | (go_at_call 18; refine (book1_c c hc n hn _ _ _ _ (Cap.up _ _ (below_alloc _ _) HF)).mono ?_; rw [e3]; rintro en wn ⟨rfl, hb⟩; replace hb := below_up (below_alloc _ _) hb; replace q0 := cell_up hb q0; replace q1 := cell_up hb q1; replace q2 := cell_up hb q2; replace q3 := cell_up hb q3; replace q4 := cell_up hb q4; replace q5 := cell_up hb q5; replace q6 := cell_up hb q6; replace q7 := cell_up hb q7; replace HF := Cap.up _ _ hb HF; replace C5 := C5.below hb; replace N5 := N5.below hb; replace HB := Lib.hid (below_up HB.out hb); clear hb)
        | (go_at_call 19; refine (book2_c c hc n _ _ _ _ (Cap.up _ _ (below_alloc _ _) HF)).mono ?_; rw [e4]; rintro en wn ⟨rfl, hb⟩; replace hb := below_up (below_alloc _ _) hb; replace q0 := cell_up hb q0; replace q1 := cell_up hb q1; replace q2 := cell_up hb q2; replace q3 := cell_up hb q3; replace q4 := cell_up hb q4; replace q5 := cell_up hb q5; replace q6 := cell_up hb q6; replace q7 := cell_up hb q7; replace HF := Cap.up _ _ hb HF; replace C5 := C5.below hb; replace N5 := N5.below hb; replace HB := Lib.hid (below_up HB.out hb); clear hb))
      rw [rounds_succ]
      go_wp2_with (first
        | (go_at_call 22; refine (vNone_c _ (HF.1.below (below_alloc _ _))).mono ?_; rintro en wn ⟨rfl, hb⟩; replace hb := below_up (below_alloc _ _) hb; replace q0 := cell_up hb q0; replace q1 := cell_up hb q1; replace q2 := cell_up hb q2; replace q3 := cell_up hb q3; replace q4 := cell_up hb q4; replace q5 := cell_up hb q5; replace q6 := cell_up hb q6; replace q7 := cell_up hb q7; replace HF := Cap.up _ _ hb HF; replace C5 := C5.below hb; replace N5 := N5.below hb; replace HB := Lib.hid (below_up HB.out hb); clear hb)
        | (go_at_call 32; refine (ask1_c c hc n hn0 _ _ _ (C5.below (below_alloc _ _)) (N5.below (below_alloc _ _))).mono ?_; rintro en wn ⟨rfl, hb⟩; replace hb := below_up (below_alloc _ _) hb; replace q0 := cell_up hb q0; replace q1 := cell_up hb q1; replace q2 := cell_up hb q2; replace q3 := cell_up hb q3; replace q4 := cell_up hb q4; replace q5 := cell_up hb q5; replace q6 := cell_up hb q6; replace q7 := cell_up hb q7; replace HF := Cap.up _ _ hb HF; replace C5 := C5.below hb; replace N5 := N5.below hb; replace HB := Lib.hid (below_up HB.out hb); clear hb)
        | (go_at_call 18; refine (book1_c c hc n hn _ _ _ _ (Cap.up _ _ (below_alloc _ _) HF)).mono ?_; rw [e3]; rintro en wn ⟨rfl, hb⟩; replace hb := below_up (below_alloc _ _) hb; replace q0 := cell_up hb q0; replace q1 := cell_up hb q1; replace q2 := cell_up hb q2; replace q3 := cell_up hb q3; replace q4 := cell_up hb q4; replace q5 := cell_up hb q5; replace q6 := cell_up hb q6; replace q7 := cell_up hb q7; replace HF := Cap.up _ _ hb HF; replace C5 := C5.below hb; replace N5 := N5.below hb; replace HB := Lib.hid (below_up HB.out hb); clear hb)
        | (go_at_call 19; refine (book2_c c hc n _ _ _ _ (Cap.up _ _ (below_alloc _ _) HF)).mono ?_; rw [e4]; rintro en wn ⟨rfl, hb⟩; replace hb := below_up (below_alloc _ _) hb; replace q0 := cell_up hb q0; replace q1 := cell_up hb q1; replace q2 := cell_up hb q2; replace q3 := cell_up hb q3; replace q4 := cell_up hb q4; replace q5 := cell_up hb q5; replace q6 := cell_up hb q6; replace q7 := cell_up hb q7; replace HF := Cap.up _ _ hb HF; replace C5 := C5.below hb; replace N5 := N5.below hb; replace HB := Lib.hid (below_up HB.out hb); clear hb))
      rw [rounds_succ]
      go_wp2_with (first
        | (go_at_call 22; refine (vNone_c _ (HF.1.below (below_alloc _ _))).mono ?_; rintro en wn ⟨rfl, hb⟩; replace hb := below_up (below_alloc _ _) hb; replace q0 := cell_up hb q0; replace q1 := cell_up hb q1; replace q2 := cell_up hb q2; replace q3 := cell_up hb q3; replace q4 := cell_up hb q4; replace q5 := cell_up hb q5; replace q6 := cell_up hb q6; replace q7 := cell_up hb q7; replace HF := Cap.up _ _ hb HF; replace C5 := C5.below hb; replace N5 := N5.below hb; replace HB := Lib.hid (below_up HB.out hb); clear hb)
        | (go_at_call 32; refine (ask1_c c hc n hn0 _ _ _ (C5.below (below_alloc _ _)) (N5.below (below_alloc _ _))).mono ?_; rintro en wn ⟨rfl, hb⟩; replace hb := below_up (below_alloc _ _) hb; replace q0 := cell_up hb q0; replace q1 := cell_up hb q1; replace q2 := cell_up hb q2; replace q3 := cell_up hb q3; replace q4 := cell_up hb q4; replace q5 := cell_up hb q5; replace q6 := cell_up hb q6; replace q7 := cell_up hb q7; replace HF := Cap.up _ _ hb HF; replace C5 := C5.below hb; replace N5 := N5.below hb; replace HB := Lib.hid (below_up HB.out hb); clear hb)
        | (go_at_call 18; refine (book1_c c hc n hn _ _ _ _ (Cap.up _ _ (below_alloc _ _) HF)).mono ?_; rw [e3]; rintro en wn ⟨rfl, hb⟩; replace hb := below_up (below_alloc _ _) hb; replace q0 := cell_up hb q0; replace q1 := cell_up hb q1; replace q2 := cell_up hb q2; replace q3 := cell_up hb q3; replace q4 := cell_up hb q4; replace q5 := cell_up hb q5; replace q6 := cell_up hb q6; replace q7 := cell_up hb q7; replace HF := Cap.up _ _ hb HF; replace C5 := C5.below hb; replace N5 := N5.below hb; replace HB := Lib.hid (below_up HB.out hb); clear hb)
        | (go_at_call 19; refine (book2_c c hc n _ _ _ _ (Cap.up _ _ (below_alloc _ _) HF)).mono ?_; rw [e4]; rintro en wn ⟨rfl, hb⟩; replace hb := below_up (below_alloc _ _) hb; replace q0 := cell_up hb q0; replace q1 := cell_up hb q1; replace q2 := cell_up hb q2; replace q3 := cell_up hb q3; replace q4 := cell_up hb q4; replace q5 := cell_up hb q5; replace q6 := cell_up hb q6; replace q7 := cell_up hb q7; replace HF := Cap.up _ _ hb HF; replace C5 := C5.below hb; replace N5 := N5.below hb; replace HB := Lib.hid (below_up HB.out hb); clear hb))
      rw [rounds_succ]
      go_wp2_with (first
        | (go_at_call 22; refine (vNone_c _ (HF.1.below (below_alloc _ _))).mono ?_; rintro en wn ⟨rfl, hb⟩; replace hb := below_up (below_alloc _ _) hb; replace q0 := cell_up hb q0; replace q1 := cell_up hb q1; replace q2 := cell_up hb q2; replace q3 := cell_up hb q3; replace q4 := cell_up hb q4; replace q5 := cell_up hb q5; replace q6 := cell_up hb q6; replace q7 := cell_up hb q7; replace HF := Cap.up _ _ hb HF; replace C5 := C5.below hb; replace N5 := N5.below hb; replace HB := Lib.hid (below_up HB.out hb); clear hb)
        | (go_at_call 32; refine (ask1_c c hc n hn0 _ _ _ (C5.below (below_alloc _ _)) (N5.below (below_alloc _ _))).mono ?_; rintro en wn ⟨rfl, hb⟩; replace hb := below_up (below_alloc _ _) hb; replace q0 := cell_up hb q0; replace q1 := cell_up hb q1; replace q2 := cell_up hb q2; replace q3 := cell_up hb q3; replace q4 := cell_up hb q4; replace q5 := cell_up hb q5; replace q6 := cell_up hb q6; replace q7 := cell_up hb q7; replace HF := Cap.up _ _ hb HF; replace C5 := C5.below hb; replace N5 := N5.below hb; replace HB := Lib.hid (below_up HB.out hb); clear hb)
        | (go_at_call 18; refine (book1_c c hc n hn _ _ _ _ (Cap.up _ _ (below_alloc _ _) HF)).mono ?_; rw [e3]; rintro en wn ⟨rfl, hb⟩; replace hb := below_up (below_alloc _ _) hb; replace q0 := cell_up hb q0; replace q1 := cell_up hb q1; replace q2 := cell_up hb q2; replace q3 := cell_up hb q3; replace q4 := cell_up hb q4; replace q5 := cell_up hb q5; replace q6 := cell_up hb q6; replace q7 := cell_up hb q7; replace HF := Cap.up _ _ hb HF; replace C5 := C5.below hb; replace N5 := N5.below hb; replace HB := Lib.hid (below_up HB.out hb); clear hb)
        | (go_at_call 19; refine (book2_c c hc n _ _ _ _ (Cap.up _ _ (below_alloc _ _) HF)).mono ?_; rw [e4]; rintro en wn ⟨rfl, hb⟩; replace hb := below_up (below_alloc _ _) hb; replace q0 := cell_up hb q0; replace q1 := cell_up hb q1; replace q2 := cell_up hb q2; replace q3 := cell_up hb q3; replace q4 := cell_up hb q4; replace q5 := cell_up hb q5; replace q6 := cell_up hb q6; replace q7 := cell_up hb q7; replace HF := Cap.up _ _ hb HF; replace C5 := C5.below hb; replace N5 := N5.below hb; replace HB := Lib.hid (below_up HB.out hb); clear hb))
      rw [rounds_succ]
      go_wp2
      try rw [jump_ret]
      go_ret
      exact ⟨rfl, HB.out⟩


set_option maxHeartbeats 4000000 in
set_option maxRecDepth 100000 in
theorem askedF_c {L M : Nat} {E : List (Ct × Int)} (c : Ct) (hc : c.Ok) (n : Int) (hn : 0 ≤ (lk E c).2) (hn0 : 0 < n) (ba bb bd : Nat) (v : Value) (w : World) (HF : Cap L M E c n ba bb bd w) (hv : Sl w 2 v 1 [.func (.func 25) #[] #[.pointer (some ⟨ba, 0, none⟩), .pointer (some ⟨bb, 0, none⟩), .pointer (some ⟨bd, 0, none⟩)], .int .i64 5]) :
    Calls Try.prog 17 #[.pointer (some ⟨L, 0, none⟩), ctV c, .int .u64 n, v] w (Ret (.int .i64 (if (lk E c).2 < n then 5 else 0)) w) := by
  have hmf : ∀ (fn : Fn) (first cap : Array Value) (w : World), (Instr.makeFunc fn first cap).run Try.prog w = .ok (.func fn first cap) w := fun _ _ _ _ => rfl
  have hB2 : Below w.heap.size w ((w.alloc (.cells (ctC c).toArray 32)).alloc (.cells #[.int .u64 n] 28)) := (below_alloc w _).alloc (by simp) _
  have C2 := (RowAt.new w (ctC c).toArray 32).alloc (.cells #[.int .u64 n] 28)
  have N2 := RowAt.new (w.alloc (.cells (ctC c).toArray 32)) #[.int .u64 n] 28
  rw [show (w.alloc (.cells (ctC c).toArray 32)).heap.size = w.heap.size + 1 by simp] at N2
  have hB3 : Below w.heap.size w (((w.alloc (.cells (ctC c).toArray 32)).alloc (.cells #[.int .u64 n] 28)).alloc (.cells [.func (.func 22) #[.pointer (some ⟨L, 0, none⟩)] #[], .int .i64 1, .func (.func 32) #[] #[.pointer (some ⟨w.heap.size, 0, none⟩), .pointer (some ⟨w.heap.size + 1, 0, none⟩)], .int .i64 2].toArray 50)) := hB2.alloc (by simp; omega) _
  have hown := World.ownsRow_lit ((w.alloc (.cells (ctC c).toArray 32)).alloc (.cells #[.int .u64 n] 28)) [.func (.func 22) #[.pointer (some ⟨L, 0, none⟩)] #[], .int .i64 1, .func (.func 32) #[] #[.pointer (some ⟨w.heap.size, 0, none⟩), .pointer (some ⟨w.heap.size + 1, 0, none⟩)], .int .i64 2].toArray 2 (size := 2) (e := 50) (base := w.heap.size) (by simp; omega) (by decide) rfl
  simp only [World.size_alloc] at hown
  have hv3 := hv.up hB3
  have HF3 := Cap.up _ _ hB3 HF
  have C3 := C2.alloc (.cells [.func (.func 22) #[.pointer (some ⟨L, 0, none⟩)] #[], .int .i64 1, .func (.func 32) #[] #[.pointer (some ⟨w.heap.size, 0, none⟩), .pointer (some ⟨w.heap.size + 1, 0, none⟩)], .int .i64 2].toArray 50)
  have N3 := N2.alloc (.cells [.func (.func 22) #[.pointer (some ⟨L, 0, none⟩)] #[], .int .i64 1, .func (.func 32) #[] #[.pointer (some ⟨w.heap.size, 0, none⟩), .pointer (some ⟨w.heap.size + 1, 0, none⟩)], .int .i64 2].toArray 50)
  obtain ⟨a, cap, rfl⟩ := hv.len
  obtain ⟨R, hR⟩ : ∃ R : Int, R = (if (lk E c).2 < n then 5 else 0) := ⟨_, rfl⟩
  rw [← hR]
  cases e3 : decide ((lk E c).2 < n) with
  | true =>
    have h3 := of_decide_eq_true e3
    have hS : R = 5 := by rw [hR, if_pos h3]
    clear hR
    subst hS
    go_enter Try.func17, Try.ntmps17
    go_wp2
    refine wp_scope_fwd 0 rfl ?_
    go_wp2_with (at_builtin; go_loud (refine wpList_app rfl _ _ 64 rfl slT_ask w.heap.size rfl hown rfl hv3 (by intro u hu; simp at hu; rcases hu with h | h <;> (subst h; rfl)) (by decide) (by decide) (by simp; omega) ?_; intro v' w4 hown4 hgrow _; obtain ⟨g4, cap4, rfl⟩ := own_slice hown4))
    have hbut : But (fun j => j = w.heap.size + 2) _ w4 := But.grown hgrow (fun r hr => .inl (by have hr2 : some (w.heap.size + 1 + 1) = some r := hr; have := Option.some.inj hr2; omega))
    have HB4 : Below w.heap.size w w4 := hB3.trans (hbut.below (fun j hj => by omega) hB3.size)
    replace HF := Cap.up _ _ HB4 HF
    have C5 : RowAt w4 w.heap.size (ctC c).toArray 32 := (hbut.same _ C3.lt (by simp)).trans C3
    have N5 : RowAt w4 (w.heap.size + 1) #[.int .u64 n] 28 := (hbut.same _ N3.lt (by simp)).trans N3
    have hs4 := Sl.of_own hown4
    obtain ⟨b4, o4, rfl, _⟩ := hs4.cellAt (k := 0) (by decide) (by decide)
    have q0 := hs4.cells_lit (j := 0) (by decide) rfl
    have q1 := hs4.cells_lit (j := 1) (by decide) rfl
    have q2 := hs4.cells_lit (j := 2) (by decide) rfl
    have q3 := hs4.cells_lit (j := 3) (by decide) rfl
    have q4 := hs4.cells_lit (j := 4) (by decide) rfl
    have q5 := hs4.cells_lit (j := 5) (by decide) rfl
    simp only [Nat.add_zero] at q0
    have HB := Lib.hid HB4
    clear hown4 hgrow hbut hs4 HB4 hv hv3 HF3 hown C2 C3 N2 N3 hB2 hB3
    refine wp_loop_rounds 4 ?_
    rw [rounds_succ]
    go_wp2_with (first
      | (go_at_call 22; refine (vNone_c _ (HF.1.below (below_alloc _ _))).mono ?_; rintro en wn ⟨rfl, hb⟩; replace hb := below_up (below_alloc _ _) hb; replace q0 := cell_up hb q0; replace q1 := cell_up hb q1; replace q2 := cell_up hb q2; replace q3 := cell_up hb q3; replace q4 := cell_up hb q4; replace q5 := cell_up hb q5; replace HF := Cap.up _ _ hb HF; replace C5 := C5.below hb; replace N5 := N5.below hb; replace HB := Lib.hid (below_up HB.out hb); clear hb)
      | (go_at_call 32; refine (ask1_c c hc n hn0 _ _ _ (C5.below (below_alloc _ _)) (N5.below (below_alloc _ _))).mono ?_; rintro en wn ⟨rfl, hb⟩; replace hb := below_up (below_alloc _ _) hb; replace q0 := cell_up hb q0; replace q1 := cell_up hb q1; replace q2 := cell_up hb q2; replace q3 := cell_up hb q3; replace q4 := cell_up hb q4; replace q5 := cell_up hb q5; replace HF := Cap.up _ _ hb HF; replace C5 := C5.below hb; replace N5 := N5.below hb; replace HB := Lib.hid (below_up HB.out hb); clear hb)
      | (go_at_call 25; refine (free1_c c hc n _ _ _ _ (Cap.up _ _ (below_alloc _ _) HF)).mono ?_; rw [e3]; rintro en wn ⟨rfl, hb⟩; replace hb := below_up (below_alloc _ _) hb; replace q0 := cell_up hb q0; replace q1 := cell_up hb q1; replace q2 := cell_up hb q2; replace q3 := cell_up hb q3; replace q4 := cell_up hb q4; replace q5 := cell_up hb q5; replace HF := Cap.up _ _ hb HF; replace C5 := C5.below hb; replace N5 := N5.below hb; replace HB := Lib.hid (below_up HB.out hb); clear hb))
    rw [rounds_succ]
    go_wp2_with (first
      | (go_at_call 22; refine (vNone_c _ (HF.1.below (below_alloc _ _))).mono ?_; rintro en wn ⟨rfl, hb⟩; replace hb := below_up (below_alloc _ _) hb; replace q0 := cell_up hb q0; replace q1 := cell_up hb q1; replace q2 := cell_up hb q2; replace q3 := cell_up hb q3; replace q4 := cell_up hb q4; replace q5 := cell_up hb q5; replace HF := Cap.up _ _ hb HF; replace C5 := C5.below hb; replace N5 := N5.below hb; replace HB := Lib.hid (below_up HB.out hb); clear hb)
      | (go_at_call 32; refine (ask1_c c hc n hn0 _ _ _ (C5.below (below_alloc _ _)) (N5.below (below_alloc _ _))).mono ?_; rintro en wn ⟨rfl, hb⟩; replace hb := below_up (below_alloc _ _) hb; replace q0 := cell_up hb q0; replace q1 := cell_up hb q1; replace q2 := cell_up hb q2; replace q3 := cell_up hb q3; replace q4 := cell_up hb q4; replace q5 := cell_up hb q5; replace HF := Cap.up _ _ hb HF; replace C5 := C5.below hb; replace N5 := N5.below hb; replace HB := Lib.hid (below_up HB.out hb); clear hb)
      | (go_at_call 25; refine (free1_c c hc n _ _ _ _ (Cap.up _ _ (below_alloc _ _) HF)).mono ?_; rw [e3]; rintro en wn ⟨rfl, hb⟩; replace hb := below_up (below_alloc _ _) hb; replace q0 := cell_up hb q0; replace q1 := cell_up hb q1; replace q2 := cell_up hb q2; replace q3 := cell_up hb q3; replace q4 := cell_up hb q4; replace q5 := cell_up hb q5; replace HF := Cap.up _ _ hb HF; replace C5 := C5.below hb; replace N5 := N5.below hb; replace HB := Lib.hid (below_up HB.out hb); clear hb))
    rw [rounds_succ]
    go_wp2_with (first
      | (go_at_call 22; refine (vNone_c _ (HF.1.below (below_alloc _ _))).mono ?_; rintro en wn ⟨rfl, hb⟩; replace hb := below_up (below_alloc _ _) hb; replace q0 := cell_up hb q0; replace q1 := cell_up hb q1; replace q2 := cell_up hb q2; replace q3 := cell_up hb q3; replace q4 := cell_up hb q4; replace q5 := cell_up hb q5; replace HF := Cap.up _ _ hb HF; replace C5 := C5.below hb; replace N5 := N5.below hb; replace HB := Lib.hid (below_up HB.out hb); clear hb)
      | (go_at_call 32; refine (ask1_c c hc n hn0 _ _ _ (C5.below (below_alloc _ _)) (N5.below (below_alloc _ _))).mono ?_; rintro en wn ⟨rfl, hb⟩; replace hb := below_up (below_alloc _ _) hb; replace q0 := cell_up hb q0; replace q1 := cell_up hb q1; replace q2 := cell_up hb q2; replace q3 := cell_up hb q3; replace q4 := cell_up hb q4; replace q5 := cell_up hb q5; replace HF := Cap.up _ _ hb HF; replace C5 := C5.below hb; replace N5 := N5.below hb; replace HB := Lib.hid (below_up HB.out hb); clear hb)
      | (go_at_call 25; refine (free1_c c hc n _ _ _ _ (Cap.up _ _ (below_alloc _ _) HF)).mono ?_; rw [e3]; rintro en wn ⟨rfl, hb⟩; replace hb := below_up (below_alloc _ _) hb; replace q0 := cell_up hb q0; replace q1 := cell_up hb q1; replace q2 := cell_up hb q2; replace q3 := cell_up hb q3; replace q4 := cell_up hb q4; replace q5 := cell_up hb q5; replace HF := Cap.up _ _ hb HF; replace C5 := C5.below hb; replace N5 := N5.below hb; replace HB := Lib.hid (below_up HB.out hb); clear hb))
    refine wp_goto ?_
    refine And.intro rfl ?_
    show Code.wp _ _ _ _ _
    go_wp2
    try rw [jump_ret]
    go_ret
    exact ⟨rfl, HB.out⟩
  | false =>
    have h3 := of_decide_eq_false e3
    have hS : R = 0 := by rw [hR, if_neg h3]
    clear hR
    subst hS
    go_enter Try.func17, Try.ntmps17
    go_wp2
    refine wp_scope_fwd 0 rfl ?_
    go_wp2_with (at_builtin; go_loud (refine wpList_app rfl _ _ 64 rfl slT_ask w.heap.size rfl hown rfl hv3 (by intro u hu; simp at hu; rcases hu with h | h <;> (subst h; rfl)) (by decide) (by decide) (by simp; omega) ?_; intro v' w4 hown4 hgrow _; obtain ⟨g4, cap4, rfl⟩ := own_slice hown4))
    have hbut : But (fun j => j = w.heap.size + 2) _ w4 := But.grown hgrow (fun r hr => .inl (by have hr2 : some (w.heap.size + 1 + 1) = some r := hr; have := Option.some.inj hr2; omega))
    have HB4 : Below w.heap.size w w4 := hB3.trans (hbut.below (fun j hj => by omega) hB3.size)
    replace HF := Cap.up _ _ HB4 HF
    have C5 : RowAt w4 w.heap.size (ctC c).toArray 32 := (hbut.same _ C3.lt (by simp)).trans C3
    have N5 : RowAt w4 (w.heap.size + 1) #[.int .u64 n] 28 := (hbut.same _ N3.lt (by simp)).trans N3
    have hs4 := Sl.of_own hown4
    obtain ⟨b4, o4, rfl, _⟩ := hs4.cellAt (k := 0) (by decide) (by decide)
    have q0 := hs4.cells_lit (j := 0) (by decide) rfl
    have q1 := hs4.cells_lit (j := 1) (by decide) rfl
    have q2 := hs4.cells_lit (j := 2) (by decide) rfl
    have q3 := hs4.cells_lit (j := 3) (by decide) rfl
    have q4 := hs4.cells_lit (j := 4) (by decide) rfl
    have q5 := hs4.cells_lit (j := 5) (by decide) rfl
    simp only [Nat.add_zero] at q0
    have HB := Lib.hid HB4
    clear hown4 hgrow hbut hs4 HB4 hv hv3 HF3 hown C2 C3 N2 N3 hB2 hB3
    refine wp_loop_rounds 4 ?_
    rw [rounds_succ]
    go_wp2_with (first
      | (go_at_call 22; refine (vNone_c _ (HF.1.below (below_alloc _ _))).mono ?_; rintro en wn ⟨rfl, hb⟩; replace hb := below_up (below_alloc _ _) hb; replace q0 := cell_up hb q0; replace q1 := cell_up hb q1; replace q2 := cell_up hb q2; replace q3 := cell_up hb q3; replace q4 := cell_up hb q4; replace q5 := cell_up hb q5; replace HF := Cap.up _ _ hb HF; replace C5 := C5.below hb; replace N5 := N5.below hb; replace HB := Lib.hid (below_up HB.out hb); clear hb)
      | (go_at_call 32; refine (ask1_c c hc n hn0 _ _ _ (C5.below (below_alloc _ _)) (N5.below (below_alloc _ _))).mono ?_; rintro en wn ⟨rfl, hb⟩; replace hb := below_up (below_alloc _ _) hb; replace q0 := cell_up hb q0; replace q1 := cell_up hb q1; replace q2 := cell_up hb q2; replace q3 := cell_up hb q3; replace q4 := cell_up hb q4; replace q5 := cell_up hb q5; replace HF := Cap.up _ _ hb HF; replace C5 := C5.below hb; replace N5 := N5.below hb; replace HB := Lib.hid (below_up HB.out hb); clear hb)
      | (go_at_call 25; refine (free1_c c hc n _ _ _ _ (Cap.up _ _ (below_alloc _ _) HF)).mono ?_; rw [e3]; rintro en wn ⟨rfl, hb⟩; replace hb := below_up (below_alloc _ _) hb; replace q0 := cell_up hb q0; replace q1 := cell_up hb q1; replace q2 := cell_up hb q2; replace q3 := cell_up hb q3; replace q4 := cell_up hb q4; replace q5 := cell_up hb q5; replace HF := Cap.up _ _ hb HF; replace C5 := C5.below hb; replace N5 := N5.below hb; replace HB := Lib.hid (below_up HB.out hb); clear hb))
    rw [rounds_succ]
    go_wp2_with (first
      | (go_at_call 22; refine (vNone_c _ (HF.1.below (below_alloc _ _))).mono ?_; rintro en wn ⟨rfl, hb⟩; replace hb := below_up (below_alloc _ _) hb; replace q0 := cell_up hb q0; replace q1 := cell_up hb q1; replace q2 := cell_up hb q2; replace q3 := cell_up hb q3; replace q4 := cell_up hb q4; replace q5 := cell_up hb q5; replace HF := Cap.up _ _ hb HF; replace C5 := C5.below hb; replace N5 := N5.below hb; replace HB := Lib.hid (below_up HB.out hb); clear hb)
      | (go_at_call 32; refine (ask1_c c hc n hn0 _ _ _ (C5.below (below_alloc _ _)) (N5.below (below_alloc _ _))).mono ?_; rintro en wn ⟨rfl, hb⟩; replace hb := below_up (below_alloc _ _) hb; replace q0 := cell_up hb q0; replace q1 := cell_up hb q1; replace q2 := cell_up hb q2; replace q3 := cell_up hb q3; replace q4 := cell_up hb q4; replace q5 := cell_up hb q5; replace HF := Cap.up _ _ hb HF; replace C5 := C5.below hb; replace N5 := N5.below hb; replace HB := Lib.hid (below_up HB.out hb); clear hb)
      | (go_at_call 25; refine (free1_c c hc n _ _ _ _ (Cap.up _ _ (below_alloc _ _) HF)).mono ?_; rw [e3]; rintro en wn ⟨rfl, hb⟩; replace hb := below_up (below_alloc _ _) hb; replace q0 := cell_up hb q0; replace q1 := cell_up hb q1; replace q2 := cell_up hb q2; replace q3 := cell_up hb q3; replace q4 := cell_up hb q4; replace q5 := cell_up hb q5; replace HF := Cap.up _ _ hb HF; replace C5 := C5.below hb; replace N5 := N5.below hb; replace HB := Lib.hid (below_up HB.out hb); clear hb))
    rw [rounds_succ]
    go_wp2_with (first
      | (go_at_call 22; refine (vNone_c _ (HF.1.below (below_alloc _ _))).mono ?_; rintro en wn ⟨rfl, hb⟩; replace hb := below_up (below_alloc _ _) hb; replace q0 := cell_up hb q0; replace q1 := cell_up hb q1; replace q2 := cell_up hb q2; replace q3 := cell_up hb q3; replace q4 := cell_up hb q4; replace q5 := cell_up hb q5; replace HF := Cap.up _ _ hb HF; replace C5 := C5.below hb; replace N5 := N5.below hb; replace HB := Lib.hid (below_up HB.out hb); clear hb)
      | (go_at_call 32; refine (ask1_c c hc n hn0 _ _ _ (C5.below (below_alloc _ _)) (N5.below (below_alloc _ _))).mono ?_; rintro en wn ⟨rfl, hb⟩; replace hb := below_up (below_alloc _ _) hb; replace q0 := cell_up hb q0; replace q1 := cell_up hb q1; replace q2 := cell_up hb q2; replace q3 := cell_up hb q3; replace q4 := cell_up hb q4; replace q5 := cell_up hb q5; replace HF := Cap.up _ _ hb HF; replace C5 := C5.below hb; replace N5 := N5.below hb; replace HB := Lib.hid (below_up HB.out hb); clear hb)
      | (go_at_call 25; refine (free1_c c hc n _ _ _ _ (Cap.up _ _ (below_alloc _ _) HF)).mono ?_; rw [e3]; rintro en wn ⟨rfl, hb⟩; replace hb := below_up (below_alloc _ _) hb; replace q0 := cell_up hb q0; replace q1 := cell_up hb q1; replace q2 := cell_up hb q2; replace q3 := cell_up hb q3; replace q4 := cell_up hb q4; replace q5 := cell_up hb q5; replace HF := Cap.up _ _ hb HF; replace C5 := C5.below hb; replace N5 := N5.below hb; replace HB := Lib.hid (below_up HB.out hb); clear hb))
    rw [rounds_succ]
    go_wp2
    try rw [jump_ret]
    go_ret
    exact ⟨rfl, HB.out⟩

end Go.Proofs.Ytbeccnlcidokmaa
