/-
  The contracts of num, sight, works.
-/
import Derived.Test.YtfoncaamhleckaaSeJ
import Derived.Test.YtfoncaamhleckaaSeF
namespace Go.Proofs.Ytfoncaamhleckaa
open Go.RowKit Go.Maps Trc Sn
set_option linter.unusedSimpArgs false
set_option linter.unusedVariables false

theorem num_c (e : Int) (w : World) : Calls Try.prog 8 #[.int .i64 e] w fun en w' => en = .returned (.int .i64 e) ∧ w = w' := by
  go_enter Try.func8, Try.ntmps8
  go_wp2
  go_ret
  exact ⟨rfl, rfl⟩
def Sn.sgN (n : Int) : Sg := ⟨⟨1, 0, 0, n⟩, false, 0⟩
def Sn.sgB (n : Int) : Sg := ⟨⟨1, 0, 0, n⟩, true, 0⟩
set_option maxRecDepth 100000 in
theorem sight_c (n : Int) (w : World) : Calls Try.prog 19 #[.int .u32 n] w (Ret (sgV (sgN n)) w) := by
  have R0 := RowAt.new w (sgC (sgN n)).toArray 38
  have r0 := R0.cell (i := 0) rfl
  have r1 := R0.cell (i := 1) rfl
  have r2 := R0.cell (i := 2) rfl
  have r3 := R0.cell (i := 3) rfl
  have r4 := R0.cell (i := 4) rfl
  have r5 := R0.cell (i := 5) rfl
  go_enter Try.func19, Try.ntmps19
  go_wp2
  refine bodyPost_ret (v := sgV (sgN n)) ?_ rfl ⟨rfl, below_alloc _ _⟩
  simp [results, Try.results19, go_sem, r0, r1, r2, r3, r4, r5, sgN]
theorem Sn.sgN_wf {n : Int} (h0 : 0 ≤ n) (h1 : n ≤ 4294967295) : (sgN n).wf := by
  refine ⟨⟨rfl, rfl, rfl, ?_⟩, rfl⟩
  simp [sgN, Lit.wf, IntKind.min, IntKind.max, IntKind.signed, IntKind.bits]
  omega
theorem Sn.sgB_wf {n : Int} (h0 : 0 ≤ n) (h1 : n ≤ 4294967295) : (sgB n).wf := by
  refine ⟨⟨rfl, rfl, rfl, ?_⟩, rfl⟩
  simp [sgB, Lit.wf, IntKind.min, IntKind.max, IntKind.signed, IntKind.bits]
  omega
/-- See's contract, the error and the list given. -/
theorem seeAs {T M : Nat} {most : Int} {E E' : List (Sg × Int)} {e : Int} (s : Sg) (hs : s.wf) (u : Int) (he : seeE most E s u = e) (hE : seeL most E s u = E') (w : World) (h : Tab w T M most E) :
    Calls Try.prog 9 #[.pointer (some ⟨T, 0, none⟩), sgV s, .int .u64 u] w fun en w' => en = .returned (.int .i64 e) ∧ Tab w' T M most E' ∧ But (· = M) w w' := by
  subst he
  subst hE
  exact see_c s hs u w h
theorem hasAs {T M : Nat} {most : Int} {E : List (Sg × Int)} {u : Int} {b : Bool} (s : Sg) (hs : s.wf) (h1 : lk E s = u) (h2 : hasB E s = b) (w : World) (h : Tab w T M most E) :
    Calls Try.prog 12 #[.pointer (some ⟨T, 0, none⟩), sgV s] w (Ret (.tuple #[.int .u64 u, .bool b]) w) := by
  subst h1
  subst h2
  exact seHas_c s hs w h
theorem pruneAs {T M : Nat} {most : Int} {E E' : List (Sg × Int)} {n : Int} (at_ : Int) (h1 : left E at_ = E') (h2 : (E.length : Int) - E'.length = n) (w : World) (h : Tab w T M most E) :
    Calls Try.prog 11 #[.pointer (some ⟨T, 0, none⟩), .int .u64 at_] w fun en w' => en = .returned (.tuple #[.int .i64 n, .int .i64 0]) ∧ Tab w' T M most E' ∧ But (· = M) w w' := by
  subst h1
  subst h2
  exact sePrune_c at_ w h
theorem nextAs {T M : Nat} {most : Int} {E L : List (Sg × Int)} {u : Int} {b : Bool} (hL : SrtE E L) (h1 : nxF L = (u, b)) (w : World) (h : Tab w T M most E) :
    Calls Try.prog 20 #[.pointer (some ⟨T, 0, none⟩)] w (Ret (.tuple #[.int .u64 u, .bool b]) w) := by
  have := seNext_c w h hL
  rw [h1] at this
  exact this

set_option maxHeartbeats 4000000 in
set_option maxRecDepth 100000 in
theorem seWorks_c (w : World) : Calls Try.prog 6 #[] w (Ret (.bool true) w) := by
  have w1 := sgN_wf (n := 1) (by decide) (by decide)
  have w2 := sgN_wf (n := 2) (by decide) (by decide)
  have wb := sgB_wf (n := 1) (by decide) (by decide)
  have HS1 := Lib.hid (fun (T M : Nat) (w : World) (h : Tab w T M 2 []) => seeAs (e := 0) (E' := [(sgN 1, 10)]) (sgN 1) w1 10 (by decide) (by decide) w h)
  have HS2 := Lib.hid (fun (T M : Nat) (w : World) (h : Tab w T M 2 [(sgN 1, 10)]) => seeAs (e := 150) (E' := [(sgN 1, 10)]) (sgN 1) w1 20 (by decide) (by decide) w h)
  have HS3 := Lib.hid (fun (T M : Nat) (w : World) (h : Tab w T M 2 [(sgN 1, 10)]) => seeAs (e := 0) (E' := [(sgN 1, 10), (sgB 1, 5)]) (sgB 1) wb 5 (by decide) (by decide) w h)
  have HS4 := Lib.hid (fun (T M : Nat) (w : World) (h : Tab w T M 2 [(sgN 1, 10), (sgB 1, 5)]) => seeAs (e := 230) (E' := [(sgN 1, 10), (sgB 1, 5)]) (sgN 2) w2 9 (by decide) (by decide) w h)
  have HH := Lib.hid (fun (T M : Nat) (w : World) (h : Tab w T M 2 [(sgN 1, 10), (sgB 1, 5)]) => hasAs (u := 10) (b := true) (sgN 1) w1 (by decide) (by decide) w h)
  have HX := Lib.hid (fun (T M : Nat) (w : World) (h : Tab w T M 2 [(sgN 1, 10), (sgB 1, 5)]) => nextAs (u := 5) (b := true) (L := [(sgN 1, 10), (sgB 1, 5)]) ⟨List.Perm.refl _, by simp [List.pairwise_cons, ltS, sgN, sgB, bI]⟩ (by decide) w h)
  have HP5 := Lib.hid (fun (T M : Nat) (w : World) (h : Tab w T M 2 [(sgN 1, 10), (sgB 1, 5)]) => pruneAs (n := 1) (E' := [(sgN 1, 10)]) 5 (by decide) (by decide) w h)
  have HP9 := Lib.hid (fun (T M : Nat) (w : World) (h : Tab w T M 2 [(sgN 1, 10)]) => pruneAs (n := 0) (E' := [(sgN 1, 10)]) 9 (by decide) (by decide) w h)
  have HS5 := Lib.hid (fun (T M : Nat) (w : World) (h : Tab w T M 2 [(sgN 1, 10)]) => seeAs (e := 0) (E' := [(sgN 1, 10), (sgN 2, 9)]) (sgN 2) w2 9 (by decide) (by decide) w h)
  have HLn := Lib.hid (fun (T M : Nat) (w : World) (h : Tab w T M 2 [(sgN 1, 10), (sgN 2, 9)]) => seLen_c w h)
  clear w1 w2 wb
  go_enter Try.func6, Try.ntmps6
  go_wp2_with (first
    | (go_at_call 7; refine (seNew_yes 2 (by decide) (by decide) _).mono ?_; rintro en w1 ⟨T, M, rfl, hT, hTg, hMg, hb⟩)
    | (go_at_call 19; refine (sight_c 1 _).mono ?_; rintro en w2 ⟨rfl, hb2⟩; have K1 := RowAt.new w2 (sgC (sgB 1)).toArray 38; have hbK := below_alloc w2 (.cells (sgC (sgB 1)).toArray 38)))
  have hbA := below_up (below_up hb hb2) hbK
  have hT2 := (hT.below hb2).below hbK
  have hM2 := hT2.map.lt
  have hMl := hT.map.lt
  have hb2s := hb2.size
  refine wp_region_ptL ((· = M)) (.q 0 (.q 3 (.q 6 (.q 7 (.q 9 (.c 1 (.c 2 (.c 4 (.c 5 (.c 8 (.c 10 (.c 11 (.q 12 (.q 13 (.q 14 (.q 15 .done)))))))))))))))) (by kernel_rfl) (by kernel_rfl) (by kernel_rfl) (by decide) (fun _ _ d _ _ h => by cases d <;> exact h) (fun OPS HOP Wd hBd => ?_)
  try simp only [Act.put, List.getElem_toArray, List.getElem_cons_zero, List.getElem_cons_succ, List.setIfInBounds_toArray, List.set_cons_zero, List.set_cons_succ]
  have HB := Lib.hid (below_up hbA hBd)
  have hT := hT2.below hBd
  have KD : RowAt Wd w2.heap.size (sgC (sgB 1)).toArray 38 := K1.below hBd
  have hbz := hb.size
  clear hT2 hBd K1 hbA hbK
  refine pt_q (v := ?_) (by rw [← HOP.out]; simp only [List.getElem?_toArray, List.getElem?_cons_zero, List.getElem?_cons_succ]; rfl) (by rw [← HOP.out]; kernel_rfl) ?_ ?_
  rotate_left
  · intro w' hBw'
    first | (go_simp; done) | (go_simp; with_reducible rfl)
  try simp only [Act.put, List.getElem_toArray, List.getElem_cons_zero, List.getElem_cons_succ, List.setIfInBounds_toArray, List.set_cons_zero, List.set_cons_succ]
  refine pt_q (v := ?_) (by rw [← HOP.out]; simp only [List.getElem?_toArray, List.getElem?_cons_zero, List.getElem?_cons_succ]; rfl) (by rw [← HOP.out]; kernel_rfl) ?_ ?_
  rotate_left
  · intro w' hBw'
    first | (go_simp; done) | (go_simp; with_reducible rfl)
  try simp only [Act.put, List.getElem_toArray, List.getElem_cons_zero, List.getElem_cons_succ, List.setIfInBounds_toArray, List.set_cons_zero, List.set_cons_succ]
  refine pt_q (v := ?_) (by rw [← HOP.out]; simp only [List.getElem?_toArray, List.getElem?_cons_zero, List.getElem?_cons_succ]; rfl) (by rw [← HOP.out]; kernel_rfl) ?_ ?_
  rotate_left
  · intro w' hBw'
    first | (go_simp; done) | (go_simp; with_reducible rfl)
  try simp only [Act.put, List.getElem_toArray, List.getElem_cons_zero, List.getElem_cons_succ, List.setIfInBounds_toArray, List.set_cons_zero, List.set_cons_succ]
  refine pt_load (by rw [← HOP.out]; simp only [List.getElem?_toArray, List.getElem?_cons_zero, List.getElem?_cons_succ]; rfl) (by rw [← HOP.out]; kernel_rfl) 38 (.tmp 3) rfl w2.heap.size 0 rfl (sgC (sgB 1)) _ KD.range (by omega) Try.underlying38 rfl (by kernel_rfl) ?_
  try simp only [Act.put, List.getElem_toArray, List.getElem_cons_zero, List.getElem_cons_succ, List.setIfInBounds_toArray, List.set_cons_zero, List.set_cons_succ]
  refine pt_q (v := ?_) (by rw [← HOP.out]; simp only [List.getElem?_toArray, List.getElem?_cons_zero, List.getElem?_cons_succ]; rfl) (by rw [← HOP.out]; kernel_rfl) ?_ ?_
  rotate_left
  · intro w' hBw'
    first | (go_simp; done) | (go_simp; with_reducible rfl)
  try simp only [Act.put, List.getElem_toArray, List.getElem_cons_zero, List.getElem_cons_succ, List.setIfInBounds_toArray, List.set_cons_zero, List.set_cons_succ]
  refine pt_c ?_
  refine pt_step (by rw [← HOP.out]; simp only [List.getElem?_toArray, List.getElem?_cons_zero, List.getElem?_cons_succ]; rfl) (by rw [← HOP.out]; kernel_rfl) (fun K hK => ?_)
  go_simp
  refine (sight_c 1 _).mono ?_
  rintro en ws1 ⟨rfl, hs1⟩
  replace hT := hT.below hs1
  replace HB := Lib.hid (below_up HB.out hs1)
  go_wp2_with fail
  refine hK.out _ _ (But.of_below hs1) ?_
  clear hK K
  try simp only [Act.put, List.getElem_toArray, List.getElem_cons_zero, List.getElem_cons_succ, List.setIfInBounds_toArray, List.set_cons_zero, List.set_cons_succ]
  refine pt_c ?_
  refine pt_step (by rw [← HOP.out]; simp only [List.getElem?_toArray, List.getElem?_cons_zero, List.getElem?_cons_succ]; rfl) (by rw [← HOP.out]; kernel_rfl) (fun K hK => ?_)
  go_simp
  refine (HS1.out _ _ _ hT).mono ?_
  rintro en wt1 ⟨rfl, hT', ht1⟩
  replace hT := hT'
  clear hT'
  replace HB := Lib.hid (HB.out.trans (ht1.below (fun j e => by omega) HB.out.size))
  go_wp2_with fail
  refine hK.out _ _ ht1 ?_
  clear hK K
  try simp only [Act.put, List.getElem_toArray, List.getElem_cons_zero, List.getElem_cons_succ, List.setIfInBounds_toArray, List.set_cons_zero, List.set_cons_succ]
  refine pt_c ?_
  refine pt_step (by rw [← HOP.out]; simp only [List.getElem?_toArray, List.getElem?_cons_zero, List.getElem?_cons_succ]; rfl) (by rw [← HOP.out]; kernel_rfl) (fun K hK => ?_)
  go_simp
  refine (sight_c 1 _).mono ?_
  rintro en ws2 ⟨rfl, hs2⟩
  replace hT := hT.below hs2
  replace HB := Lib.hid (below_up HB.out hs2)
  go_wp2_with fail
  refine hK.out _ _ (But.of_below hs2) ?_
  clear hK K
  try simp only [Act.put, List.getElem_toArray, List.getElem_cons_zero, List.getElem_cons_succ, List.setIfInBounds_toArray, List.set_cons_zero, List.set_cons_succ]
  refine pt_c ?_
  refine pt_step (by rw [← HOP.out]; simp only [List.getElem?_toArray, List.getElem?_cons_zero, List.getElem?_cons_succ]; rfl) (by rw [← HOP.out]; kernel_rfl) (fun K hK => ?_)
  go_simp
  refine (HS2.out _ _ _ hT).mono ?_
  rintro en wt2 ⟨rfl, hT', ht2⟩
  replace hT := hT'
  clear hT'
  replace HB := Lib.hid (HB.out.trans (ht2.below (fun j e => by omega) HB.out.size))
  go_wp2_with fail
  refine hK.out _ _ ht2 ?_
  clear hK K
  try simp only [Act.put, List.getElem_toArray, List.getElem_cons_zero, List.getElem_cons_succ, List.setIfInBounds_toArray, List.set_cons_zero, List.set_cons_succ]
  refine pt_c ?_
  refine pt_step (by rw [← HOP.out]; simp only [List.getElem?_toArray, List.getElem?_cons_zero, List.getElem?_cons_succ]; rfl) (by rw [← HOP.out]; kernel_rfl) (fun K hK => ?_)
  go_simp
  refine (HS3.out _ _ _ hT).mono ?_
  rintro en wt3 ⟨rfl, hT', ht3⟩
  replace hT := hT'
  clear hT'
  replace HB := Lib.hid (HB.out.trans (ht3.below (fun j e => by omega) HB.out.size))
  go_wp2_with fail
  refine hK.out _ _ ht3 ?_
  clear hK K
  try simp only [Act.put, List.getElem_toArray, List.getElem_cons_zero, List.getElem_cons_succ, List.setIfInBounds_toArray, List.set_cons_zero, List.set_cons_succ]
  refine pt_c ?_
  refine pt_step (by rw [← HOP.out]; simp only [List.getElem?_toArray, List.getElem?_cons_zero, List.getElem?_cons_succ]; rfl) (by rw [← HOP.out]; kernel_rfl) (fun K hK => ?_)
  go_simp
  refine (sight_c 2 _).mono ?_
  rintro en ws3 ⟨rfl, hs3⟩
  replace hT := hT.below hs3
  replace HB := Lib.hid (below_up HB.out hs3)
  go_wp2_with fail
  refine hK.out _ _ (But.of_below hs3) ?_
  clear hK K
  try simp only [Act.put, List.getElem_toArray, List.getElem_cons_zero, List.getElem_cons_succ, List.setIfInBounds_toArray, List.set_cons_zero, List.set_cons_succ]
  refine pt_c ?_
  refine pt_step (by rw [← HOP.out]; simp only [List.getElem?_toArray, List.getElem?_cons_zero, List.getElem?_cons_succ]; rfl) (by rw [← HOP.out]; kernel_rfl) (fun K hK => ?_)
  go_simp
  refine (HS4.out _ _ _ hT).mono ?_
  rintro en wt4 ⟨rfl, hT', ht4⟩
  replace hT := hT'
  clear hT'
  replace HB := Lib.hid (HB.out.trans (ht4.below (fun j e => by omega) HB.out.size))
  go_wp2_with fail
  refine hK.out _ _ ht4 ?_
  clear hK K
  try simp only [Act.put, List.getElem_toArray, List.getElem_cons_zero, List.getElem_cons_succ, List.setIfInBounds_toArray, List.set_cons_zero, List.set_cons_succ]
  refine pt_q (v := ?_) (by rw [← HOP.out]; simp only [List.getElem?_toArray, List.getElem?_cons_zero, List.getElem?_cons_succ]; rfl) (by rw [← HOP.out]; kernel_rfl) ?_ ?_
  rotate_left
  · intro w' hBw'
    first | (go_simp; done) | (go_simp; with_reducible rfl)
  try simp only [Act.put, List.getElem_toArray, List.getElem_cons_zero, List.getElem_cons_succ, List.setIfInBounds_toArray, List.set_cons_zero, List.set_cons_succ]
  refine pt_q (v := ?_) (by rw [← HOP.out]; simp only [List.getElem?_toArray, List.getElem?_cons_zero, List.getElem?_cons_succ]; rfl) (by rw [← HOP.out]; kernel_rfl) ?_ ?_
  rotate_left
  · intro w' hBw'
    first | (go_simp; done) | (go_simp; with_reducible rfl)
  try simp only [Act.put, List.getElem_toArray, List.getElem_cons_zero, List.getElem_cons_succ, List.setIfInBounds_toArray, List.set_cons_zero, List.set_cons_succ]
  refine pt_q (v := ?_) (by rw [← HOP.out]; simp only [List.getElem?_toArray, List.getElem?_cons_zero, List.getElem?_cons_succ]; rfl) (by rw [← HOP.out]; kernel_rfl) ?_ ?_
  rotate_left
  · intro w' hBw'
    first | (go_simp; done) | (go_simp; with_reducible rfl)
  try simp only [Act.put, List.getElem_toArray, List.getElem_cons_zero, List.getElem_cons_succ, List.setIfInBounds_toArray, List.set_cons_zero, List.set_cons_succ]
  refine pt_q (v := ?_) (by rw [← HOP.out]; simp only [List.getElem?_toArray, List.getElem?_cons_zero, List.getElem?_cons_succ]; rfl) (by rw [← HOP.out]; kernel_rfl) ?_ ?_
  rotate_left
  · intro w' hBw'
    first | (go_simp; done) | (go_simp; with_reducible rfl)
  try simp only [Act.put, List.getElem_toArray, List.getElem_cons_zero, List.getElem_cons_succ, List.setIfInBounds_toArray, List.set_cons_zero, List.set_cons_succ]
  refine pt_done ?_
  go_wp2_with (first
    | (go_at_call 19; first | ((with_reducible refine (sight_c 1 _).mono ?_); rintro en ws ⟨rfl, hs⟩; replace hT := hT.below hs; replace HB := Lib.hid (below_up HB.out hs); clear hs) | ((with_reducible refine (sight_c 2 _).mono ?_); rintro en ws ⟨rfl, hs⟩; replace hT := hT.below hs; replace HB := Lib.hid (below_up HB.out hs); clear hs))
    | (go_at_call 12; refine (HH.out _ _ _ hT).mono ?_; rintro en ws ⟨rfl, hs⟩; replace hT := hT.below hs; replace HB := Lib.hid (below_up HB.out hs); clear hs)
    | (go_at_call 20; refine (HX.out _ _ _ hT).mono ?_; rintro en ws ⟨rfl, hs⟩; replace hT := hT.below hs; replace HB := Lib.hid (below_up HB.out hs); clear hs)
    | (go_at_call 11; first | ((with_reducible refine (HP5.out _ _ _ hT).mono ?_); rintro en ws ⟨rfl, hT', hs⟩; replace hT := hT'; clear hT'; replace HB := Lib.hid (HB.out.trans (hs.below (fun j e => by omega) HB.out.size)); clear hs) | ((with_reducible refine (HP9.out _ _ _ hT).mono ?_); rintro en ws ⟨rfl, hT', hs⟩; replace hT := hT'; clear hT'; replace HB := Lib.hid (HB.out.trans (hs.below (fun j e => by omega) HB.out.size)); clear hs))
    | (go_at_call 9; refine (HS5.out _ _ _ hT).mono ?_; rintro en ws ⟨rfl, hT', hs⟩; replace hT := hT'; clear hT'; replace HB := Lib.hid (HB.out.trans (hs.below (fun j e => by omega) HB.out.size)); clear hs)
    | (go_at_call 21; refine (HLn.out _ _ _ hT).mono ?_; rintro en ws ⟨rfl, hs⟩; replace hT := hT.below hs; replace HB := Lib.hid (below_up HB.out hs); clear hs)
    | (go_at_call 8; refine (num_c _ _).mono ?_; rintro en ws ⟨rfl, rfl⟩))
  go_ret
  exact ⟨rfl, HB.out⟩

end Go.Proofs.Ytfoncaamhleckaa
