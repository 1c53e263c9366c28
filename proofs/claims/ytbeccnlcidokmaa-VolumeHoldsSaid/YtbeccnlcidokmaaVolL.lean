/-
  asked at an amount of nothing.
-/
import Derived.Test.YtbeccnlcidokmaaVolF
import Derived.Laws.EntriesVeiled
namespace Go.Proofs.Ytbeccnlcidokmaa
open Go.RowKit Go.Maps Vol
set_option linter.unusedSimpArgs false
set_option linter.unusedVariables false

set_option maxRecDepth 100000 in
theorem ask1z_c (c : Ct) (hc : c.Ok) (n : Int) (hn : n = 0) (bb bd : Nat) (w : World) (hC : RowAt w bb (ctC c).toArray 32) (hN : RowAt w bd #[.int .u64 n] 28) :
    Calls Try.prog 32 #[.pointer (some ⟨bb, 0, none⟩), .pointer (some ⟨bd, 0, none⟩)] w (Ret (.bool true) w) := by
  have hn1 : (n == 0) = true := by rw [beq_iff_eq]; exact hn
  go_enter Try.func32, Try.ntmps32
  go_wp2_with (first
    | (refine wpList_load_mid rfl 32 (.tmp 0) rfl bb 0 rfl (ctC c) _ hC.range Try.underlying32 rfl (by kernel_rfl) ?_)
    | (go_at_call 27; refine (ctRight_c c hc _).mono ?_; rintro en w1 ⟨rfl, hb⟩; have hN1 := (hN.below hb).cell (i := 0) (v := .int .u64 n) rfl))
  go_ret
  exact ⟨rfl, hb⟩


set_option maxHeartbeats 4000000 in
set_option maxRecDepth 100000 in
theorem askedBz_c {L M : Nat} {E : List (Ct × Int)} (c : Ct) (hc : c.Ok) (n : Int) (hn : 0 ≤ (lk E c).2) (hn0 : n = 0) (ba bb bd : Nat) (v : Value) (w : World) (HF : Cap L M E c n ba bb bd w) (hv : Sl w 2 v 2 [.func (.func 18) #[] #[.pointer (some ⟨ba, 0, none⟩), .pointer (some ⟨bb, 0, none⟩), .pointer (some ⟨bd, 0, none⟩)], .int .i64 290, .func (.func 19) #[] #[.pointer (some ⟨ba, 0, none⟩), .pointer (some ⟨bb, 0, none⟩)], .int .i64 291]) :
    Calls Try.prog 17 #[.pointer (some ⟨L, 0, none⟩), ctV c, .int .u64 n, v] w (Ret (.int .i64 2) w) := by
  have Hn0 := Lib.hid hn0
  clear hn0
  have hmf : ∀ (fn : Fn) (first cap : Array Value) (w : World), (Instr.makeFunc fn first cap).run Try.prog w = .ok (.func fn first cap) w := fun _ _ _ _ => rfl
  have hB2 : Below w.heap.size w ((w.alloc (.cells (ctC c).toArray 32)).alloc (.cells #[.int .u64 n] 28)) := (below_alloc w _).alloc (by simp) _
  have C2 := (RowAt.new w (ctC c).toArray 32).alloc (.cells #[.int .u64 n] 28)
  have N2 := RowAt.new (w.alloc (.cells (ctC c).toArray 32)) #[.int .u64 n] 28
  rw [show (w.alloc (.cells (ctC c).toArray 32)).heap.size = w.heap.size + 1 by simp] at N2
  have hB3 : Below w.heap.size w (((w.alloc (.cells (ctC c).toArray 32)).alloc (.cells #[.int .u64 n] 28)).alloc (.cells [.func (.func 22) #[.pointer (some ⟨L, 0, none⟩)] #[], .int .i64 1, .func (.func 32) #[] #[.pointer (some ⟨w.heap.size, 0, none⟩), .pointer (some ⟨w.heap.size + 1, 0, none⟩)], .int .i64 2].toArray 50)) := hB2.alloc (by simp; omega) _
  have hown := World.ownsRow_lit ((w.alloc (.cells (ctC c).toArray 32)).alloc (.cells #[.int .u64 n] 28)) [.func (.func 22) #[.pointer (some ⟨L, 0, none⟩)] #[], .int .i64 1, .func (.func 32) #[] #[.pointer (some ⟨w.heap.size, 0, none⟩), .pointer (some ⟨w.heap.size + 1, 0, none⟩)], .int .i64 2].toArray 2 (size := 2) (e := 50) (base := w.heap.size) (by simp; omega) (by decide) rfl
  simp only [World.size_alloc] at hown
  have hv3 := hv.up hB3
  have HF3 := Cap.up _ _ hB3 HF
  have C3 := C2.alloc (.cells [.func (.func 22) #[.pointer (some ⟨L, 0, none⟩)] #[], .int .i64 1, .func (.func 32) #[] #[.pointer (some ⟨w.heap.size, 0, none⟩), .pointer (some ⟨w.heap.size + 1, 0, none⟩)], .int .i64 2].toArray 50)
  have N3 := N2.alloc (.cells [.func (.func 22) #[.pointer (some ⟨L, 0, none⟩)] #[], .int .i64 1, .func (.func 32) #[] #[.pointer (some ⟨w.heap.size, 0, none⟩), .pointer (some ⟨w.heap.size + 1, 0, none⟩)], .int .i64 2].toArray 50)
  obtain ⟨a, cap, rfl⟩ := hv.len
  go_enter Try.func17, Try.ntmps17
  go_wp2
  refine wp_scope_fwd 0 rfl ?_
  go_wp2_with (at_builtin; go_loud (refine wpList_app rfl _ _ 64 rfl slT_ask w.heap.size rfl hown rfl hv3 (by intro u hu; simp at hu; rcases hu with h | h | h | h <;> (subst h; rfl)) (by decide) (by decide) (by simp; omega) ?_; intro v' w4 hown4 hgrow _; obtain ⟨g4, cap4, rfl⟩ := own_slice hown4))
  have hbut : But (fun j => j = w.heap.size + 2) _ w4 := But.grown hgrow (fun r hr => .inl (by have hr2 : some (w.heap.size + 1 + 1) = some r := hr; have := Option.some.inj hr2; omega))
  have HB4 : Below w.heap.size w w4 := hB3.trans (hbut.below (fun j hj => by omega) hB3.size)
  replace HF := Cap.up _ _ HB4 HF
  have C5 : RowAt w4 w.heap.size (ctC c).toArray 32 := (hbut.same _ C3.lt (by simp)).trans C3
  have N5 : RowAt w4 (w.heap.size + 1) #[.int .u64 n] 28 := (hbut.same _ N3.lt (by simp)).trans N3
  have hs4 := Sl.of_own hown4
  obtain ⟨b4, o4, rfl, _⟩ := hs4.cellAt (k := 0) (by decide) (by decide)
  have q0 := hs4.cells_lit (j := 0) (by decide) rfl
  have q1 := hs4.cells_lit (j := 1) (by decide) rfl
  have q2 := hs4.cells_lit (j := 2) (by decide) rfl
  have q3 := hs4.cells_lit (j := 3) (by decide) rfl
  have q4 := hs4.cells_lit (j := 4) (by decide) rfl
  have q5 := hs4.cells_lit (j := 5) (by decide) rfl
  have q6 := hs4.cells_lit (j := 6) (by decide) rfl
  have q7 := hs4.cells_lit (j := 7) (by decide) rfl
  simp only [Nat.add_zero] at q0
  have HB := Lib.hid HB4
  clear hown4 hgrow hbut hs4 HB4 hv hv3 HF3 hown C2 C3 N2 N3 hB2 hB3
  refine wp_loop_rounds 5 ?_
  rw [rounds_succ]
  go_wp2_with (first
    | (go_at_call 22; refine (vNone_c _ (HF.1.below (below_alloc _ _))).mono ?_; rintro en wn ⟨rfl, hb⟩; replace hb := below_up (below_alloc _ _) hb; replace q0 := cell_up hb q0; replace q1 := cell_up hb q1; replace q2 := cell_up hb q2; replace q3 := cell_up hb q3; replace q4 := cell_up hb q4; replace q5 := cell_up hb q5; replace q6 := cell_up hb q6; replace q7 := cell_up hb q7; replace HF := Cap.up _ _ hb HF; replace C5 := C5.below hb; replace N5 := N5.below hb; replace HB := Lib.hid (below_up HB.out hb); clear hb)
    | (go_at_call 32; refine (ask1z_c c hc n Hn0.out _ _ _ (C5.below (below_alloc _ _)) (N5.below (below_alloc _ _))).mono ?_; rintro en wn ⟨rfl, hb⟩; replace hb := below_up (below_alloc _ _) hb; replace q0 := cell_up hb q0; replace q1 := cell_up hb q1; replace q2 := cell_up hb q2; replace q3 := cell_up hb q3; replace q4 := cell_up hb q4; replace q5 := cell_up hb q5; replace q6 := cell_up hb q6; replace q7 := cell_up hb q7; replace HF := Cap.up _ _ hb HF; replace C5 := C5.below hb; replace N5 := N5.below hb; replace HB := Lib.hid (below_up HB.out hb); clear hb))
  rw [rounds_succ]
  go_wp2_with (first
    | (go_at_call 22; refine (vNone_c _ (HF.1.below (below_alloc _ _))).mono ?_; rintro en wn ⟨rfl, hb⟩; replace hb := below_up (below_alloc _ _) hb; replace q0 := cell_up hb q0; replace q1 := cell_up hb q1; replace q2 := cell_up hb q2; replace q3 := cell_up hb q3; replace q4 := cell_up hb q4; replace q5 := cell_up hb q5; replace q6 := cell_up hb q6; replace q7 := cell_up hb q7; replace HF := Cap.up _ _ hb HF; replace C5 := C5.below hb; replace N5 := N5.below hb; replace HB := Lib.hid (below_up HB.out hb); clear hb)
    | (go_at_call 32; refine (ask1z_c c hc n Hn0.out _ _ _ (C5.below (below_alloc _ _)) (N5.below (below_alloc _ _))).mono ?_; rintro en wn ⟨rfl, hb⟩; replace hb := below_up (below_alloc _ _) hb; replace q0 := cell_up hb q0; replace q1 := cell_up hb q1; replace q2 := cell_up hb q2; replace q3 := cell_up hb q3; replace q4 := cell_up hb q4; replace q5 := cell_up hb q5; replace q6 := cell_up hb q6; replace q7 := cell_up hb q7; replace HF := Cap.up _ _ hb HF; replace C5 := C5.below hb; replace N5 := N5.below hb; replace HB := Lib.hid (below_up HB.out hb); clear hb))
  refine wp_goto ?_
  refine And.intro rfl ?_
  show Code.wp _ _ _ _ _
  go_wp2
  try rw [jump_ret]
  go_ret
  exact ⟨rfl, HB.out⟩

end Go.Proofs.Ytbeccnlcidokmaa
