/-
  No table.
-/
import Derived.Test.YtfoncaamhleckaaSeU
import Derived.Laws.IdiomRangeMap
namespace Go.Proofs.Ytfoncaamhleckaa
open Go.RowKit Go.Maps Trc Sn
set_option linter.unusedSimpArgs false
set_option linter.unusedVariables false

/-- No table: nil, or one that New has not made. -/
def NoT (w : World) (p : Value) : Prop := p = .pointer none ∨ ∃ T, p = .pointer (some ⟨T, 0, none⟩) ∧ RowAt w T #[.int .i64 0, .map none] 66
theorem NoT.up {w w' : World} {p : Value} (h : NoT w p) (hb : Below w.heap.size w w') : NoT w' p := h.imp id fun ⟨T, h1, h2⟩ => ⟨T, h1, h2.below hb⟩
theorem nNone_c {p : Value} (w : World) (h : NoT w p) : Calls Try.prog 23 #[p] w (Ret (.bool true) w) := by
  rcases h with rfl | ⟨T, rfl, h⟩
  · exact seNone_nil w
  · exact seNone_zero w h
set_option maxRecDepth 100000 in
theorem nHas_c {p : Value} (s : Sg) (w : World) (h : NoT w p) : Calls Try.prog 12 #[p, sgV s] w (Ret (.tuple #[.int .u64 0, .bool false]) w) := by
  have hb0 := below_alloc w (.cells (sgC s).toArray 38)
  go_enter Try.func12, Try.ntmps12
  go_wp2_with (go_at_call 23; refine (nNone_c _ (h.up hb0)).mono ?_; rintro en w1 ⟨rfl, hw1⟩)
  exact bodyPost_ret (v := .tuple #[.int .u64 0, .bool false]) (by simp [results, Try.results12, go_sem]) rfl ⟨rfl, below_up hb0 hw1⟩
set_option maxRecDepth 100000 in
theorem nPrune_c {p : Value} (at_ : Int) (w : World) (h : NoT w p) : Calls Try.prog 11 #[p, .int .u64 at_] w (Ret (.tuple #[.int .i64 0, .int .i64 1]) w) := by
  go_enter Try.func11, Try.ntmps11
  go_wp2_with (go_at_call 23; refine (nNone_c _ (h)).mono ?_; rintro en w1 ⟨rfl, hw1⟩)
  exact bodyPost_ret (v := .tuple #[.int .i64 0, .int .i64 1]) (by simp [results, Try.results11, go_sem]) rfl ⟨rfl, hw1⟩
set_option maxRecDepth 100000 in
theorem nLen_c {p : Value} (w : World) (h : NoT w p) : Calls Try.prog 21 #[p] w (Ret (.tuple #[.int .i64 0, .int .i64 0]) w) := by
  go_enter Try.func21, Try.ntmps21
  go_wp2_with (go_at_call 23; refine (nNone_c _ (h)).mono ?_; rintro en w1 ⟨rfl, hw1⟩)
  exact bodyPost_ret (v := .tuple #[.int .i64 0, .int .i64 0]) (by simp [results, Try.results21, go_sem]) rfl ⟨rfl, hw1⟩
set_option maxRecDepth 100000 in
theorem nCopy_c {p : Value} (w : World) (h : NoT w p) : Calls Try.prog 17 #[p] w (Ret (.pointer none) w) := by
  go_enter Try.func17, Try.ntmps17
  go_wp2_with (go_at_call 23; refine (nNone_c _ (h)).mono ?_; rintro en w1 ⟨rfl, hw1⟩)
  go_ret
  exact ⟨rfl, hw1⟩
set_option maxRecDepth 100000 in
theorem nSame_c {p : Value} (w : World) (h : NoT w p) : Calls Try.prog 10 #[p, .pointer none] w (Ret (.bool true) w) := by
  have T1 := Lib.hid True.intro
  go_enter Try.func10, Try.ntmps10
  go_wp2_with (first
    | (go_at_call 23; have Tz := T1; clear Tz T1; refine (nNone_c _ h).mono ?_; rintro en w1 ⟨rfl, hw1⟩; have h1 := h.up hw1)
    | (go_at_call 23; have Tz := h1; clear Tz; refine (nNone_c _ h1).mono ?_; rintro en w2 ⟨rfl, hw2⟩; have h2 := h1.up hw2; clear h1)
    | (go_at_call 23; refine (seNone_nil _).mono ?_; rintro en w3 ⟨rfl, hw3⟩))
  go_ret
  exact ⟨rfl, by first | exact below_up (below_up hw1 hw2) hw3 | exact below_up hw1 hw2 | exact below_up hw1 hw3⟩
set_option maxRecDepth 100000 in
theorem nNext_c {p : Value} (w : World) (h : NoT w p) : Calls Try.prog 20 #[p] w (Ret (.tuple #[.int .u64 0, .bool false]) w) := by
  have R2 := (RowAt.new w #[.int .u64 0] 23).alloc (.cells #[.bool false] 4)
  have R3 := RowAt.new (w.alloc (.cells #[.int .u64 0] 23)) #[.bool false] 4
  rw [World.size_alloc] at R3
  have hb0 : Below w.heap.size w ((w.alloc (.cells #[.int .u64 0] 23)).alloc (.cells #[.bool false] 4)) := (below_alloc w _).alloc (by simp) _
  go_enter Try.func20, Try.ntmps20
  go_wp2_with (go_at_call 23; refine (nNone_c _ (h.up hb0)).mono ?_; rintro en w1 ⟨rfl, hw1⟩; have S2 := R2.below hw1; have S3 := R3.below hw1; have r2 := S2.cell (i := 0) (v := .int .u64 0) rfl; have f2 := S2.fz 0; have r3 := S3.cell (i := 0) (v := .bool false) rfl; have f3 := S3.fz 0)
  have S4 := (S2.set 0 (.int .u64 0)).other (a := ⟨w.heap.size + 1, 0, none⟩) (by show w.heap.size ≠ w.heap.size + 1; omega) (.bool false)
  have S5 := (S3.other (a := ⟨w.heap.size, 0, none⟩) (by show w.heap.size + 1 ≠ w.heap.size; omega) (.int .u64 0)).set 0 (.bool false)
  have q4 := S4.cell (i := 0) (v := .int .u64 0) rfl
  have q5 := S5.cell (i := 0) (v := .bool false) rfl
  have hB := ((below_up hb0 hw1).setCell (p := ⟨w.heap.size, 0, none⟩) (Nat.le_refl _) (.int .u64 0)).setCell (p := ⟨w.heap.size + 1, 0, none⟩) (Nat.le_succ _) (.bool false)
  exact bodyPost_ret (v := .tuple #[.int .u64 0, .bool false]) (by simp [results, Try.results20, go_sem, q4, q5]) rfl ⟨rfl, hB⟩
set_option maxHeartbeats 1000000 in
set_option maxRecDepth 100000 in
theorem nSee_c {p : Value} (s : Sg) (u : Int) (w : World) (h : NoT w p) : Calls Try.prog 9 #[p, sgV s, .int .u64 u] w (Ret (.int .i64 1) w) := by
  obtain ⟨a, rfl⟩ : ∃ a, p = .pointer a := by rcases h with rfl | ⟨T, rfl, _⟩ <;> exact ⟨_, rfl⟩
  have hmf : ∀ (fn : Fn) (first cap : Array Value) (w : World), (Instr.makeFunc fn first cap).run Try.prog w = .ok (.func fn first cap) w := fun _ _ _ _ => rfl
  obtain ⟨W0, hW0⟩ : ∃ W0, ((w.alloc (.cells #[.pointer a] 25)).alloc (.cells (sgC s).toArray 38)).alloc (.cells #[.int .u64 u] 23) = W0 := ⟨_, rfl⟩
  have hb0 : Below w.heap.size w W0 := by rw [← hW0]; exact ((below_alloc w _).alloc (by simp) _).alloc (by simp; omega) _
  have C0 : RowAt W0 w.heap.size #[.pointer a] 25 := by rw [← hW0]; exact ((RowAt.new w _ _).alloc _).alloc _
  have h0 := h.up hb0
  have fC := C0.cell (i := 0) (v := .pointer a) rfl
  have hS := sl_lit W0 W0.heap.size rfl 2 4 [.func (.func 23) #[.pointer a] #[], .int .i64 1, .func (.func 24) #[] #[.pointer (some ⟨w.heap.size + 1, 0, none⟩), .pointer (some ⟨w.heap.size + 1 + 1, 0, none⟩)], .int .i64 2, .func (.func 26) #[] #[.pointer (some ⟨w.heap.size, 0, none⟩), .pointer (some ⟨w.heap.size + 1, 0, none⟩)], .int .i64 150, .func (.func 27) #[] #[.pointer (some ⟨w.heap.size, 0, none⟩)], .int .i64 230] 69 rfl (by decide)
  have hbA := below_alloc W0 (.cells [.func (.func 23) #[.pointer a] #[], .int .i64 1, .func (.func 24) #[] #[.pointer (some ⟨w.heap.size + 1, 0, none⟩), .pointer (some ⟨w.heap.size + 1 + 1, 0, none⟩)], .int .i64 2, .func (.func 26) #[] #[.pointer (some ⟨w.heap.size, 0, none⟩), .pointer (some ⟨w.heap.size + 1, 0, none⟩)], .int .i64 150, .func (.func 27) #[] #[.pointer (some ⟨w.heap.size, 0, none⟩)], .int .i64 230].toArray 69)
  have HA0 := seAskedF_c ⟨23, #[.pointer a], #[], 1, true⟩ [⟨24, #[], #[.pointer (some ⟨w.heap.size + 1, 0, none⟩), .pointer (some ⟨w.heap.size + 1 + 1, 0, none⟩)], 2, false⟩,
      ⟨26, #[], #[.pointer (some ⟨w.heap.size, 0, none⟩), .pointer (some ⟨w.heap.size + 1, 0, none⟩)], 150, false⟩, ⟨27, #[], #[.pointer (some ⟨w.heap.size, 0, none⟩)], 230, false⟩] _ 4 _ hS rfl seEnters_none
      (fun w1 hb1 => by have hq := nNone_c (p := .pointer a) w1 (h0.up (below_up hbA hb1)); simp only [Array.append_empty]; exact hq)
  dsimp only at HA0
  have HA := Lib.hid HA0
  clear HA0
  have HW := Lib.hid (below_up hb0 hbA)
  clear hS hbA hb0 h h0 C0
  go_enter Try.func9, Try.ntmps9
  go_wp2_with (go_at_call 22; refine HA.out.mono ?_; rintro en w1 ⟨rfl, hb1⟩)
  go_ret
  exact ⟨rfl, below_up HW.out hb1⟩
/-- What All leaves, of no table. -/
def Sn.AllNo (w : World) (en : Ending) (w' : World) : Prop :=
  ∃ C, en = .returned (.func (.func 39) #[] #[.pointer (some ⟨C, 0, none⟩)]) ∧ w'.cell? ⟨C, 0, none⟩ = some (.map none) ∧ w.heap.size ≤ C ∧ Below w.heap.size w w'
set_option maxRecDepth 100000 in
theorem nAll_c {p : Value} (w : World) (h : NoT w p) : Calls Try.prog 33 #[p] w (AllNo w) := by
  have hmf : ∀ (fn : Fn) (first cap : Array Value) (w : World), (Instr.makeFunc fn first cap).run Try.prog w = .ok (.func fn first cap) w := fun _ _ _ _ => rfl
  have hb0 := below_alloc w (.cells #[.map none] 30)
  have C0 := RowAt.new w #[.map none] 30
  go_enter Try.func33, Try.ntmps33
  go_wp2_with (go_at_call 23; refine (nNone_c _ (h.up hb0)).mono ?_; rintro en w1 ⟨rfl, hw1⟩)
  go_ret
  exact ⟨w.heap.size, rfl, (C0.below hw1).cell (i := 0) rfl, Nat.le_refl _, below_up hb0 hw1⟩
theorem nKeys_c (w : World) : Calls Try.prog 41 #[.map none] w fun en w' => en = .returned (.func (.func seKeys1) #[] #[.pointer (some ⟨w.heap.size, 0, none⟩)]) ∧ w.alloc (.cells #[.map none] 30) = w' := by
  have hmf : ∀ (fn : Fn) (first cap : Array Value) (w : World), (Instr.makeFunc fn first cap).run Try.prog w = .ok (.func fn first cap) w := fun _ _ _ _ => rfl
  go_enter Try.func41, Try.ntmps41
  go_wp2
  go_ret
  exact ⟨rfl, rfl⟩
set_option maxHeartbeats 2000000 in
set_option maxRecDepth 100000 in
theorem nKeys1_x (C : Nat) (S : Nat → Prop) (w : World) (hC : w.cell? ⟨C, 0, none⟩ = some (.map none)) :
    SeqP Try.prog 51 #[.pointer (some ⟨C, 0, none⟩)] (SgR 0) ([] : List Sg) (fun acc => acc = []) S w := by
  intro l' G J Jx W hW hS hG hJ hJx hY h0
  have hC0 := cell_up hW hC
  have hrg := run_range_nilMap (P := Try.prog) W 30 _ _ Try.underlying30
  have hnx : ∀ ty, (Instr.next (.pointer (some ⟨W.heap.size, 0, none⟩)) false ty).run Try.prog (W.alloc (.mapIter none 0 #[] 0)) = _ := fun ty => run_next_nilMap _ ty 0 0 #[]
  have J0 := (hJ []).alloc (.mapIter none 0 #[] 0) h0
  clear hC hW h0
  refine (callsIn_wide (n := 3)).1 ?_
  refine callsIn_of_wp Try.func51 rfl trivial ?_ rfl
  simp only [Try.ntmps51, List.size_toArray, List.length_cons, List.length_nil, Nat.reduceAdd, Nat.reduceSub, Array.replicate_succ, Array.replicate_zero, List.push_toArray, List.append_toArray, List.nil_append, List.cons_append]
  gi_wp2
  refine wpIn_loop_rounds 1 ?_
  rw [roundsIn_succ]
  gi_wp2
  go_end0
  exact ⟨⟨_, rfl⟩, G, .inl ⟨[], rfl, J0⟩⟩
set_option maxHeartbeats 1000000 in
set_option maxRecDepth 100000 in
theorem nSorted_c {C : Nat} (w : World) (hC : w.cell? ⟨C, 0, none⟩ = some (.map none)) :
    Calls Try.prog 40 #[.func (.func seKeys1) #[] #[.pointer (some ⟨C, 0, none⟩)], .func (.func 42) #[] #[]] w (SrtdE [] w) := by
  have HC := Lib.hid (collectS_c (gf := seKeys1) (lb := #[.pointer (some ⟨C, 0, none⟩)]) enters_seKeys1 (N := 0) (S := fun k => False) w (nKeys1_x C _ w hC) (fun k hk => hk.elim) (by omega))
  clear hC
  go_enter Try.func40, Try.ntmps40
  go_wp2_with (go_at_call 49; refine HC.out.mono ?_; rintro en w1 ⟨v, acc, rfl, rfl, hl, hown, hb1⟩)
  have HS := Lib.hid (seSortF_c 42 enters_seCmp (fun x y W => seCmp_c x.1 y.1 x.2 y.2 W) [] v w.heap.size w1 hown (by decide))
  obtain ⟨av, cv, rfl⟩ := own_slice hown
  have HOW := Lib.hid hown
  clear hown HC
  go_wp2_with (go_at_call 50; refine HS.out.mono ?_; rintro en w2 ⟨rfl, acc', hp1, hs1, hn1, hown1, hb2⟩)
  go_ret
  obtain rfl : acc' = [] := List.eq_nil_of_length_eq_zero hn1
  exact ⟨_, rfl, hown1, hb1.trans (hb2.below (fun j hj => (own_of_some HOW.out hj).1) hb1.size)⟩
set_option maxHeartbeats 4000000 in
set_option maxRecDepth 100000 in
theorem nAll1_x {C : Nat} (S : Nat → Prop) (w : World) (hC : w.cell? ⟨C, 0, none⟩ = some (.map none)) :
    SeqX Try.prog 39 #[.pointer (some ⟨C, 0, none⟩)] (seArgs []) 0 S w := by
  intro l' G J Jx W hW hS hG hJ hJx hY h0
  have hC0 := cell_up hW hC
  have b1 := below_alloc W (.cells #[.map none] 30)
  have K1 := cell_new W (.map none) 30
  have HSF := Lib.hid (nSorted_c (C := W.heap.size) (W.alloc (.cells #[.map none] 30)) K1)
  have HIf := Lib.hid (fun (W' : World) (hb : Below W.heap.size W W') => hJ 0 G W W' h0 (But.of_below hb))
  have HB1 := Lib.hid b1
  clear hC hW h0 K1 b1
  refine (callsIn_wide (n := 3)).1 ?_
  refine callsIn_of_wp Try.func39 rfl trivial ?_ rfl
  simp only [Try.ntmps39, List.size_toArray, List.length_cons, List.length_nil, Nat.reduceAdd, Nat.reduceSub, Array.replicate_succ, Array.replicate_zero, List.push_toArray, List.append_toArray, List.nil_append, List.cons_append]
  refine wpIn_wide.2 ?_
  go_wp2
  go_step3
  go_wp2
  go_step3
  go_wp2_with (first
    | (go_at_call 41; refine (nKeys_c _).mono ?_; rintro en w1 ⟨rfl, rfl⟩)
    | (go_at_call 40; refine HSF.out.mono ?_; rintro en w2 ⟨v2, rfl, ho2, hb2⟩; obtain ⟨a2, c2, rfl⟩ := own_slice ho2))
  have hJ0 := HIf.out w2 (below_up HB1.out hb2)
  refine (wpIn_wide (n := 3)).1 ?_
  refine wpIn_loop_rounds 1 ?_
  rw [roundsIn_succ]
  gi_wp2
  rw [Exit.noGoto_normal]
  go_end0
  exact ⟨⟨_, rfl⟩, _, .inl hJ0⟩
end Go.Proofs.Ytfoncaamhleckaa
