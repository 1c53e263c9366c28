/-
  The contract of act.
-/
import Derived.Test.YtgbpdchdcbnoaaaConS
namespace Go.Proofs.Ytgbpdchdcbnoaaa
open Go.RowKit Vol
set_option linter.unusedSimpArgs false
set_option linter.unusedVariables false

namespace Vol
/-- A call. -/
structure Ac where
  what : Int
  n : Int
  c : Ct
  at_ : Int
/-- The plan behind a call. -/
def stepA (L : List Ct) (a : Ac) : List Ct := if a.what = 0 ∨ a.what = 1 ∨ a.what = 2 ∨ a.what = 3 then (addF L a.c).2 else if a.what = 4 then dropF L a.c.from_ a.c.to a.at_ else if a.what = 5 then pruneF L a.at_ else L
theorem dropF_sub (L : List Ct) (f t at_ : Int) : (dropF L f t at_).Sublist L := by
  unfold dropF
  split
  · rename_i k _
    conv => rhs; rw [← List.take_append_drop k L]
    exact (List.Sublist.refl _).append (List.drop_sublist_drop_left L (Nat.le_succ k))
  · exact List.Sublist.refl _
theorem PInv.step {L : List Ct} (h : PInv L) (a : Ac) : PInv (stepA L a) := by
  unfold stepA
  split
  · exact h.add _
  · split
    · exact h.sub (dropF_sub _ _ _ _)
    · split
      · exact h.sub List.filter_sublist
      · exact h
theorem addF_len {L : List Ct} (c : Ct) (h : L.length ≤ 256) : (addF L c).2.length ≤ 256 := by
  unfold addF
  split
  · split
    · exact h
    · split
      · exact h
      · have := (insF_perm L c).length_eq
        simp only [List.length_cons] at this
        show (insF L c).length ≤ 256
        omega
  · exact h
theorem stepA_len {L : List Ct} (a : Ac) (h : L.length ≤ 256) : (stepA L a).length ≤ 256 := by
  unfold stepA
  split
  · exact addF_len _ h
  · split
    · exact Nat.le_trans (dropF_sub _ _ _ _).length_le h
    · split
      · exact Nat.le_trans (List.length_filter_le _ _) h
      · exact h
end Vol
abbrev acC (a : Ac) : List Value := [.int .i64 a.what, .int .i64 a.n, .int .u32 a.c.from_, .int .u32 a.c.to, .int .u64 a.c.a, .int .u64 a.c.b, .int .u64 a.c.r, .int .u64 a.at_]
abbrev acV (a : Ac) : Value := .agg (acC a).toArray
theorem acC_ct (a : Ac) : ∀ j, j < (ctC a.c).length → (ctC a.c)[j]? = (acC a)[2 + j]? := by
  intro j hj
  simp only [List.length_cons, List.length_nil] at hj
  match j, hj with
  | 0, _ => rfl
  | 1, _ => rfl
  | 2, _ => rfl
  | 3, _ => rfl
  | 4, _ => rfl

/-- A slice of contacts does not lie in a short row. -/
theorem Sl.apart {w : World} {v : Value} {n H : Nat} {cs : List Value} {rs : Array Value} {T : TypeId} (h : Sl w 5 v n cs) (hr : RowAt w H rs T) (hs : rs.size < 5) : n = 0 ∨ ∀ k, v.ownBlock = some k → k ≠ H := by
  obtain ⟨hl, ⟨a, c, rfl, rfl⟩ | ⟨b, off, cap, rfl, hn, hm, hc⟩⟩ := h
  · exact .inl rfl
  · rcases Nat.eq_zero_or_pos n with h0 | h0
    · exact .inl h0
    · refine .inr fun k hk e => ?_
      have hb : b = k := Option.some.inj hk
      subst hb
      subst e
      have := hc 4 cs[4] (List.getElem?_eq_getElem (by omega))
      simp only [World.cell?, show w.heap[b]? = _ from hr] at this
      rw [Array.getElem?_eq_none (by omega)] at this
      cases this
theorem Sl.past {w w' : World} {v : Value} {n H : Nat} {cs : List Value} {rs : Array Value} {T : TypeId} (h : Sl w 5 v n cs) (hr : RowAt w H rs T) (hs : rs.size < 5) (hb : But (· = H) w w') : Sl w' 5 v n cs :=
  h.but hb ((h.apart hr hs).imp id fun h k hk e => h k hk e)
theorem PlanAt.past {w w' : World} {B H : Nat} {v : Value} {L : List Ct} {rs : Array Value} {T : TypeId} (h : PlanAt w B v L) (hr : RowAt w H rs T) (hs : rs.size < 5) (hb : But (· = H) w w') (hne : B ≠ H) : PlanAt w' B v L :=
  ⟨h.var.but hb hne, h.sl.past hr hs hb, h.ne⟩
/-- What act has at hand. -/
structure AcW (w w1 : World) (B : Nat) (v u : Value) (L : List Ct) (a : Ac) : Prop where
  below : Below w.heap.size w w1
  p : RowAt w1 w.heap.size #[u] 47
  c : RowAt w1 (w.heap.size + 1) (acC a).toArray 51
  r : RowAt w1 (w.heap.size + 1 + 1) #[.slice none 0 0] 47
  plan : PlanAt w1 B v L
  want : Sl w1 5 u L.length (L.flatMap ctC)
theorem AcW.up {w w1 w2 : World} {B : Nat} {v u : Value} {L : List Ct} {a : Ac} (h : AcW w w1 B v u L a) (hb : Below w1.heap.size w1 w2) : AcW w w2 B v u L a :=
  ⟨below_up h.below hb, h.p.below hb, h.c.below hb, h.r.below hb, h.plan.below hb, h.want.up hb⟩
theorem AcW.start {w : World} {B : Nat} {v u : Value} {L : List Ct} (a : Ac) (h : PlanAt w B v L) (hu : Sl w 5 u L.length (L.flatMap ctC)) : AcW w (((w.alloc (.cells #[u] 47)).alloc (.cells (acC a).toArray 51)).alloc (.cells #[.slice none 0 0] 47)) B v u L a := by
  have hB3 : Below w.heap.size w (((w.alloc (.cells #[u] 47)).alloc (.cells (acC a).toArray 51)).alloc (.cells #[.slice none 0 0] 47)) := ((below_alloc w _).alloc (by simp) _).alloc (by simp; omega) _
  have h2 := RowAt.new (w.alloc (.cells #[u] 47)) (acC a).toArray 51
  rw [World.size_alloc] at h2
  have h3 := RowAt.new ((w.alloc (.cells #[u] 47)).alloc (.cells (acC a).toArray 51)) #[.slice none 0 0] 47
  rw [World.size_alloc, World.size_alloc] at h3
  exact ⟨hB3, ((RowAt.new w _ _).below (below_alloc _ _)).below (below_alloc _ _), h2.below (below_alloc _ _), h3, h.below hB3, hu.up hB3⟩
/-- What act leaves. -/
def ActPost (B : Nat) (L' : List Ct) (w : World) (en : Ending) (w' : World) : Prop := ∃ v' u', en = .returned (.tuple #[.agg #[u'], .bool true]) ∧ PlanAt w' B v' L' ∧ Sl w' 5 u' L'.length (L'.flatMap ctC) ∧ But (· = B) w w'
theorem ActPost.mk {B : Nat} {L' : List Ct} {w : World} {en : Ending} {w' : World} (v' u' : Value) (h1 : en = .returned (.tuple #[.agg #[u'], .bool true])) (h2 : PlanAt w' B v' L') (h3 : Sl w' 5 u' L'.length (L'.flatMap ctC)) (h4 : But (· = B) w w') : ActPost B L' w en w' := ⟨v', u', h1, h2, h3, h4⟩
theorem rAddK {L L' : List Ct} {v : Value} {n : Nat} {e : Int} (c : Ct) (w : World) (hv : Sl w 5 v n (L.flatMap ctC)) (hN : n ≤ 100000) (ha : addF L c = (e, L')) :
    Calls Try.prog 46 #[.agg #[v], ctV c] w fun en w' => ∃ v', en = .returned (.tuple #[.agg #[v'], .int .i64 e]) ∧
      Sl w' 5 v' L'.length (L'.flatMap ctC) ∧ Below w.heap.size w w' := by
  have := rAdd_c L v n c w hv hN
  rw [ha] at this
  exact this.mono fun en w' ⟨v', h1, h2, h3, _⟩ => ⟨v', h1, h2, h3⟩
/-- The last step of act: its result is laid. -/
theorem act_fin {w wd w6 wA : World} {B : Nat} {v' u' : Value} {L' : List Ct} {n' : Nat} {cs : Array Value} (hd : Below w.heap.size w wd) (hB : B < w.heap.size) (h6 : But (· = B) wd w6) (hp : PlanAt w6 B v' L') (hs : Sl w6 5 u' n' (L'.flatMap ctC))
    (hr : RowAt w6 (w.heap.size + 1 + 1) cs 47) (hcs : cs.size < 5) (hb : But (· = w.heap.size + 1 + 1) w6 wA) : PlanAt wA B v' L' ∧ Sl wA 5 u' n' (L'.flatMap ctC) ∧ But (· = B) w wA := by
  refine ⟨hp.past hr hcs hb (by omega), hs.past hr hcs hb, ?_⟩
  exact ((But.of_below hd).trans (h6.mono fun j _ e => e)).then hb (fun j hj e => by omega)

set_option maxHeartbeats 8000000 in
set_option maxRecDepth 100000 in
theorem actAdd_c {B : Nat} {v u : Value} {L : List Ct} (what an at_ : Int) (c : Ct) (hw : c.Wf) (hW : what = 0 ∨ what = 1 ∨ what = 2 ∨ what = 3) (w : World) (h : PlanAt w B v L) (hu : Sl w 5 u L.length (L.flatMap ctC)) (hi : PInv L) (hL : L.length ≤ 100000) :
    Calls Try.prog 19 #[.pointer (some ⟨B, 0, none⟩), .agg #[u], acV ⟨what, an, c, at_⟩] w (ActPost B (addF L c).2 w) := by
  obtain ⟨E, L', ha⟩ : ∃ E L', addF L c = (E, L') := ⟨_, _, rfl⟩
  rw [ha]
  have HA := Lib.hid ha
  have HI := Lib.hid hi
  clear ha hi
  have hBl := h.var.lt
  obtain ⟨au, cu, rfl⟩ := hu.len
  have V0 := AcW.start ⟨what, an, c, at_⟩ h hu
  have c0 := V0.c.cell (i := 0) rfl
  have p0 := V0.p.cell (i := 0) rfl
  rcases hW with rfl | rfl | rfl | rfl
  all_goals
    go_enter Try.func19, Try.ntmps19
    go_wp2_with (first
      | (refine wpList_load_mid rfl 27 (.tmp 33) rfl (w.heap.size + 1) 2 rfl (ctC c) _ (rangeAt_sub V0.c.range 2 2 rfl (acC_ct ⟨_, an, c, at_⟩)) Try.underlying27 rfl (by kernel_rfl) ?_)
      | (go_at_call 46; refine (rAddK c _ V0.want hL HA.out).mono ?_; rintro en w4 ⟨u', rfl, hs4, hb4⟩; have V4 := V0.up hb4; obtain ⟨a4, c4, rfl⟩ := hs4.len))
    refine wp_region_pt (fun i => i = B ∨ i = w.heap.size + 1 + 1) (.q 0 (.q 1 (.q 2 (.q 3 (.q 6 (.c 4 (.c 5 (.q 7 (.c 8 (.q 9 .done)))))))))) (by kernel_rfl) (by kernel_rfl) (by kernel_rfl) (by decide) (fun _ _ d _ _ h => by cases d <;> exact h) (fun Wd hBd => ?_)
    try simp only [Act.put, List.getElem_toArray, List.getElem_cons_zero, List.getElem_cons_succ, List.setIfInBounds_toArray, List.set_cons_zero, List.set_cons_succ]
    have V5 := (V4.up (below_alloc w4 (.cells #[.slice a4 L'.length c4] 47))).up hBd
    have u5 := (RowAt.new w4 #[.slice a4 L'.length c4] 47).below hBd
    have s5 := (hs4.up (below_alloc w4 (.cells #[.slice a4 L'.length c4] 47))).up hBd
    have hz4 := V4.r.lt
    have cu : ∀ w', But (fun i => i = B ∨ i = w.heap.size + 1 + 1) Wd w' → w'.cell? ⟨w4.heap.size, 0, none⟩ = some (.slice a4 L'.length c4) := fun w' hb => hb.cell (u5.cell (i := 0) rfl) (by omega)
    refine pt_q (v := ?_) rfl (by rfl) ?_ ?_
    rotate_left
    · intro w' hBw'
      first | (go_simp; done) | (go_simp; with_reducible rfl)
    try simp only [Act.put, List.getElem_toArray, List.getElem_cons_zero, List.getElem_cons_succ, List.setIfInBounds_toArray, List.set_cons_zero, List.set_cons_succ]
    refine pt_q (v := ?_) rfl (by rfl) ?_ ?_
    rotate_left
    · intro w' hBw'
      first | (go_simp; done) | (go_simp; with_reducible rfl)
    try simp only [Act.put, List.getElem_toArray, List.getElem_cons_zero, List.getElem_cons_succ, List.setIfInBounds_toArray, List.set_cons_zero, List.set_cons_succ]
    refine pt_q (v := ?_) rfl (by rfl) ?_ ?_
    rotate_left
    · intro w' hBw'
      first | (go_simp; done) | (go_simp; with_reducible rfl)
    try simp only [Act.put, List.getElem_toArray, List.getElem_cons_zero, List.getElem_cons_succ, List.setIfInBounds_toArray, List.set_cons_zero, List.set_cons_succ]
    refine pt_load rfl (by rfl) 27 (.tmp 40) rfl (w.heap.size + 1) 2 rfl (ctC c) _ (rangeAt_sub V5.c.range 2 2 rfl (acC_ct ⟨_, an, c, at_⟩)) (by omega) Try.underlying27 rfl (by kernel_rfl) ?_
    try simp only [Act.put, List.getElem_toArray, List.getElem_cons_zero, List.getElem_cons_succ, List.setIfInBounds_toArray, List.set_cons_zero, List.set_cons_succ]
    refine pt_q (v := ?_) rfl (by rfl) ?_ ?_
    rotate_left
    · intro w' hBw'
      first | (go_simp; done) | (go_simp; with_reducible rfl)
    try simp only [Act.put, List.getElem_toArray, List.getElem_cons_zero, List.getElem_cons_succ, List.setIfInBounds_toArray, List.set_cons_zero, List.set_cons_succ]
    refine pt_c ?_
    refine pt_step rfl (by rfl) (fun K hK => ?_)
    go_simp
    refine (addK c hw hL HI.out HA.out _ V5.plan).mono ?_
    rintro en w6 ⟨v', rfl, hp6, hb6, _⟩
    refine hK.out _ _ (hb6.mono fun _ _ e => .inl e) ?_
    clear hK K
    try simp only [Act.put, List.getElem_toArray, List.getElem_cons_zero, List.getElem_cons_succ, List.setIfInBounds_toArray, List.set_cons_zero, List.set_cons_succ]
    have hr6 := V5.r.but hb6 (by omega)
    have hs6 := s5.past V5.plan.var (by simp) hb6
    refine pt_c ?_
    refine pt_step rfl (by rfl) (fun K hK => ?_)
    go_simp
    refine (num_cc _ _).mono ?_
    rintro en w7 ⟨rfl, rfl⟩
    refine hK.out _ _ (But.refl _ _) ?_
    clear hK K
    try simp only [Act.put, List.getElem_toArray, List.getElem_cons_zero, List.getElem_cons_succ, List.setIfInBounds_toArray, List.set_cons_zero, List.set_cons_succ]
    refine pt_q (v := ?_) rfl (by rfl) ?_ ?_
    rotate_left
    · intro w' hBw'
      first | (go_simp; done) | (go_simp; with_reducible rfl)
    try simp only [Act.put, List.getElem_toArray, List.getElem_cons_zero, List.getElem_cons_succ, List.setIfInBounds_toArray, List.set_cons_zero, List.set_cons_succ]
    refine pt_c ?_
    refine pt_put_row rfl (by rfl) 47 _ _ rfl (w.heap.size + 1 + 1) [(.slice a4 L'.length c4)] rfl rfl hr6 rfl (by kernel_rfl) rfl (.inr rfl) (fun wA hRA hbA => ?_)
    try simp only [Act.put, List.getElem_toArray, List.getElem_cons_zero, List.getElem_cons_succ, List.setIfInBounds_toArray, List.set_cons_zero, List.set_cons_succ]
    refine pt_q (v := ?_) rfl (by rfl) ?_ ?_
    rotate_left
    · intro w' hBw'
      first | (go_simp; done) | (go_simp; with_reducible rfl)
    try simp only [Act.put, List.getElem_toArray, List.getElem_cons_zero, List.getElem_cons_succ, List.setIfInBounds_toArray, List.set_cons_zero, List.set_cons_succ]
    refine pt_done ?_
    have rA := hRA.cell (i := 0) rfl
    go_wp2
    obtain ⟨f1, f2, f3⟩ := act_fin V5.below hBl hb6 hp6 hs6 hr6 (by simp) hbA
    exact bodyPost_ret (v := .tuple #[.agg #[(.slice a4 L'.length c4)], .bool true]) (by simp [results, Try.results19, go_sem, rA]) rfl (ActPost.mk _ _ rfl f1 f2 f3)

theorem rDropK {L L' : List Ct} {v : Value} {n : Nat} {o : Option Ct} (f t at_ : Int) (w : World) (hv : Sl w 5 v n (L.flatMap ctC)) (hN : n ≤ 100000) (ha : atR L f t at_ = o) (hd : dropF L f t at_ = L') :
    Calls Try.prog 47 #[.agg #[v], .int .u32 f, .int .u32 t, .int .u64 at_] w fun en w' => ∃ v', en = .returned (.tuple #[.agg #[v'], ctV (o.getD zct0), .int .i64 (dropE o)]) ∧
      Sl w' 5 v' L'.length (L'.flatMap ctC) ∧ Below w.heap.size w w' := by
  have := rDrop_c L v n f t at_ w hv hN
  rw [ha, hd] at this
  exact this.mono fun en w' ⟨v', h1, h2, h3, _⟩ => ⟨v', h1, h2, h3⟩
set_option maxHeartbeats 8000000 in
set_option maxRecDepth 100000 in
theorem actDrop_c {B : Nat} {v u : Value} {L : List Ct} (an at_ : Int) (c : Ct) (w : World) (h : PlanAt w B v L) (hu : Sl w 5 u L.length (L.flatMap ctC)) (hL : L.length ≤ 100000) :
    Calls Try.prog 19 #[.pointer (some ⟨B, 0, none⟩), .agg #[u], acV ⟨4, an, c, at_⟩] w (ActPost B (dropF L c.from_ c.to at_) w) := by
  obtain ⟨o, ho⟩ : ∃ o, atR L c.from_ c.to at_ = o := ⟨_, rfl⟩
  obtain ⟨L', hd⟩ : ∃ L', dropF L c.from_ c.to at_ = L' := ⟨_, rfl⟩
  have HO := Lib.hid ho
  have HD := Lib.hid hd
  rw [hd]
  clear ho hd
  obtain ⟨x, hx⟩ : ∃ x, o.getD zct0 = x := ⟨_, rfl⟩
  obtain ⟨e, he⟩ : ∃ e, dropE o = e := ⟨_, rfl⟩
  have hrd := fun w hw => rDropK (v := u) (n := L.length) c.from_ c.to at_ w hw hL HO.out HD.out
  have hpd := fun w hw => dropK (B := B) (v := v) c.from_ c.to at_ hL HO.out HD.out w hw
  rw [hx, he] at hrd hpd
  have HR := Lib.hid hrd
  have HP := Lib.hid hpd
  clear hrd hpd hx he
  have hBl := h.var.lt
  obtain ⟨au, cu, rfl⟩ := hu.len
  have V0 := AcW.start ⟨4, an, c, at_⟩ h hu
  have c0 := V0.c.cell (i := 0) rfl
  have p0 := V0.p.cell (i := 0) rfl
  have d2 := V0.c.cell (i := 2) rfl
  have d3 := V0.c.cell (i := 3) rfl
  have d7 := V0.c.cell (i := 7) rfl
  go_enter Try.func19, Try.ntmps19
  go_wp2_with (first
    | (go_at_call 47; refine (HR.out _ V0.want).mono ?_; rintro en w4 ⟨u', rfl, hs4, hb4⟩; have V4 := V0.up hb4; obtain ⟨a4, c4, rfl⟩ := hs4.len; have e2 := V4.c.cell (i := 2) (v := .int .u32 c.from_) rfl; have e3 := V4.c.cell (i := 3) (v := .int .u32 c.to) rfl; have e7 := V4.c.cell (i := 7) (v := .int .u64 at_) rfl)
    | (go_at_call 17; refine (HP.out _ ((V4.up (below_alloc w4 (.cells #[.slice a4 L'.length c4] 47))).up (below_alloc _ (.cells (ctC x).toArray 27))).plan).mono ?_; rintro en w6 ⟨v', rfl, hp6, hb6, _⟩))
  refine wp_region_pt (fun i => i = w.heap.size + 1 + 1) (.q 0 (.q 1 (.q 2 (.q 3 (.q 4 (.q 5 (.q 7 (.c 6 (.q 8 (.q 9 (.c 10 (.q 11 .done)))))))))))) (by kernel_rfl) (by kernel_rfl) (by kernel_rfl) (by decide) (fun _ _ d _ _ h => by cases d <;> exact h) (fun Wd hBd => ?_)
  try simp only [Act.put, List.getElem_toArray, List.getElem_cons_zero, List.getElem_cons_succ, List.setIfInBounds_toArray, List.set_cons_zero, List.set_cons_succ]
  have V5 := (V4.up (below_alloc w4 (.cells #[.slice a4 L'.length c4] 47))).up (below_alloc _ (.cells (ctC x).toArray 27))
  have hz4 := V4.r.lt
  have hz5 : w4.heap.size + 2 ≤ w6.heap.size := by have := hb6.size; simp only [World.size_alloc] at this; omega
  have hn6 := below_up (below_alloc w6 (.cells (ctC x).toArray 27)) hBd
  have hbD := hb6.trans (But.of_below hn6)
  have u5 := (((RowAt.new w4 #[.slice a4 L'.length c4] 47).below (below_alloc _ (.cells (ctC x).toArray 27))).but hbD (by omega))
  have x5 := by have := RowAt.new (w4.alloc (.cells #[.slice a4 L'.length c4] 47)) (ctC x).toArray 27; rw [World.size_alloc] at this; exact this.but hbD (by omega)
  have x6 := (RowAt.new w6 (ctC x).toArray 27).below hBd
  have hrD := V5.r.but hbD (by omega)
  have hpD := hp6.below hn6
  have hsD := ((hs4.up (below_alloc w4 (.cells #[.slice a4 L'.length c4] 47))).up (below_alloc _ (.cells (ctC x).toArray 27))).past V5.plan.var (by simp) hbD
  have hq := fun w => (ct_eql x x w).trans (by rw [decide_eq_true rfl])
  have cu : ∀ w', But (fun i => i = w.heap.size + 1 + 1) Wd w' → w'.cell? ⟨w4.heap.size, 0, none⟩ = some (.slice a4 L'.length c4) := fun w' hb => hb.cell (u5.cell (i := 0) rfl) (by omega)
  refine pt_q (v := ?_) rfl (by rfl) ?_ ?_
  rotate_left
  · intro w' hBw'
    first | (go_simp; done) | (go_simp; with_reducible rfl)
  try simp only [Act.put, List.getElem_toArray, List.getElem_cons_zero, List.getElem_cons_succ, List.setIfInBounds_toArray, List.set_cons_zero, List.set_cons_succ]
  refine pt_load rfl (by rfl) 27 (.tmp 11) rfl (w4.heap.size + 1) 0 rfl (ctC x) _ x5.range (by omega) Try.underlying27 rfl (by kernel_rfl) ?_
  try simp only [Act.put, List.getElem_toArray, List.getElem_cons_zero, List.getElem_cons_succ, List.setIfInBounds_toArray, List.set_cons_zero, List.set_cons_succ]
  refine pt_load rfl (by rfl) 27 (.tmp 13) rfl w6.heap.size 0 rfl (ctC x) _ x6.range (by omega) Try.underlying27 rfl (by kernel_rfl) ?_
  try simp only [Act.put, List.getElem_toArray, List.getElem_cons_zero, List.getElem_cons_succ, List.setIfInBounds_toArray, List.set_cons_zero, List.set_cons_succ]
  refine pt_q (v := ?_) rfl (by rfl) ?_ ?_
  rotate_left
  · intro w' hBw'
    first | (go_simp; done) | (go_simp; with_reducible rfl)
  try simp only [Act.put, List.getElem_toArray, List.getElem_cons_zero, List.getElem_cons_succ, List.setIfInBounds_toArray, List.set_cons_zero, List.set_cons_succ]
  refine pt_q (v := ?_) rfl (by rfl) ?_ ?_
  rotate_left
  · intro w' hBw'
    first | (go_simp; done) | (go_simp; with_reducible rfl)
  try simp only [Act.put, List.getElem_toArray, List.getElem_cons_zero, List.getElem_cons_succ, List.setIfInBounds_toArray, List.set_cons_zero, List.set_cons_succ]
  refine pt_q (v := ?_) rfl (by rfl) ?_ ?_
  rotate_left
  · intro w' hBw'
    first | (go_simp; done) | (go_simp; with_reducible rfl)
  try simp only [Act.put, List.getElem_toArray, List.getElem_cons_zero, List.getElem_cons_succ, List.setIfInBounds_toArray, List.set_cons_zero, List.set_cons_succ]
  refine pt_q (v := ?_) rfl (by rfl) ?_ ?_
  rotate_left
  · intro w' hBw'
    first | (go_simp; done) | (go_simp; with_reducible rfl)
  try simp only [Act.put, List.getElem_toArray, List.getElem_cons_zero, List.getElem_cons_succ, List.setIfInBounds_toArray, List.set_cons_zero, List.set_cons_succ]
  refine pt_c ?_
  refine pt_step rfl (by rfl) (fun K hK => ?_)
  go_simp
  refine (num_cc _ _).mono ?_
  rintro en w7 ⟨rfl, rfl⟩
  refine hK.out _ _ (But.refl _ _) ?_
  clear hK K
  try simp only [Act.put, List.getElem_toArray, List.getElem_cons_zero, List.getElem_cons_succ, List.setIfInBounds_toArray, List.set_cons_zero, List.set_cons_succ]
  refine pt_q (v := ?_) rfl (by rfl) ?_ ?_
  rotate_left
  · intro w' hBw'
    first | (go_simp; done) | (go_simp; with_reducible rfl)
  try simp only [Act.put, List.getElem_toArray, List.getElem_cons_zero, List.getElem_cons_succ, List.setIfInBounds_toArray, List.set_cons_zero, List.set_cons_succ]
  refine pt_q (v := ?_) rfl (by rfl) ?_ ?_
  rotate_left
  · intro w' hBw'
    first | (go_simp; done) | (go_simp; with_reducible rfl)
  try simp only [Act.put, List.getElem_toArray, List.getElem_cons_zero, List.getElem_cons_succ, List.setIfInBounds_toArray, List.set_cons_zero, List.set_cons_succ]
  refine pt_c ?_
  refine pt_put_row rfl (by rfl) 47 _ _ rfl (w.heap.size + 1 + 1) [(.slice a4 L'.length c4)] rfl rfl hrD rfl (by kernel_rfl) rfl rfl (fun wA hRA hbA => ?_)
  try simp only [Act.put, List.getElem_toArray, List.getElem_cons_zero, List.getElem_cons_succ, List.setIfInBounds_toArray, List.set_cons_zero, List.set_cons_succ]
  refine pt_q (v := ?_) rfl (by rfl) ?_ ?_
  rotate_left
  · intro w' hBw'
    first | (go_simp; done) | (go_simp; with_reducible rfl)
  try simp only [Act.put, List.getElem_toArray, List.getElem_cons_zero, List.getElem_cons_succ, List.setIfInBounds_toArray, List.set_cons_zero, List.set_cons_succ]
  refine pt_done ?_
  have rA := hRA.cell (i := 0) rfl
  go_wp2
  obtain ⟨f1, f2, f3⟩ := act_fin V5.below hBl hbD hpD hsD hrD (by simp) hbA
  exact bodyPost_ret (v := .tuple #[.agg #[(.slice a4 L'.length c4)], .bool true]) (by simp [results, Try.results19, go_sem, rA]) rfl (ActPost.mk _ _ rfl f1 f2 f3)
end Go.Proofs.Ytgbpdchdcbnoaaa
