/-
  The contract of act.
-/
import Derived.Test.YtfoncaamhleckaaSeS
import Derived.Test.YtfoncaamhleckaaSeK
namespace Go.Proofs.Ytfoncaamhleckaa
open Go.RowKit Go.Maps Trc Sn
set_option linter.unusedSimpArgs false
set_option linter.unusedVariables false

abbrev acV (a : Sn.Ac) : Value := .agg (acC a).toArray
theorem Sl.offMap {w : World} {sz n M : Nat} {v : Value} {cs : List Value} {E : List (Sg × Int)} (h : Sl w sz v n cs) (hsz : 0 < sz) (hM : SMap w M E) : n = 0 ∨ ∀ k, v.ownBlock = some k → ¬ k = M := by
  rcases Nat.eq_zero_or_pos n with h0 | h0
  · exact .inl h0
  · refine .inr fun k hk e => ?_
    obtain ⟨es, clock, hmm, _⟩ := hM.ex
    have hl := h.1
    rcases h.2 with ⟨a, c, rfl, h1⟩ | ⟨b, off, cap, rfl, hn, hm, hc⟩
    · omega
    · simp only [Value.ownBlock, Option.some.injEq] at hk
      have hp : 0 < n * sz := Nat.mul_pos h0 hsz
      have hc0 := hc 0 cs[0] (List.getElem?_eq_getElem (by omega))
      rw [hk, e] at hc0
      simp [World.cell?, hmm] at hc0
theorem Sl.apart7 {w : World} {v : Value} {n H : Nat} {cs : List Value} {rs : Array Value} {T : TypeId} (h : Sl w 7 v n cs) (hr : RowAt w H rs T) (hs : rs.size < 7) : n = 0 ∨ ∀ k, v.ownBlock = some k → ¬ k = H := by
  obtain ⟨hl, ⟨a, c, rfl, rfl⟩ | ⟨b, off, cap, rfl, hn, hm, hc⟩⟩ := h
  · exact .inl rfl
  · rcases Nat.eq_zero_or_pos n with h0 | h0
    · exact .inl h0
    · refine .inr fun k hk e => ?_
      have hb : b = k := Option.some.inj hk
      subst hb
      subst e
      have := hc 6 cs[6] (List.getElem?_eq_getElem (by omega))
      simp only [World.cell?, show w.heap[b]? = _ from hr] at this
      rw [Array.getElem?_eq_none (by omega)] at this
      cases this
theorem RowAt.butS {w w' : World} {k : Nat} {cs : Array Value} {T : TypeId} (h : RowAt w k cs T) {O : Nat → Prop} (hb : But O w w') (hk : ¬ O k) : RowAt w' k cs T := (hb.same k h.lt hk).trans h
/-- What act has at hand. -/
structure AcW (w w1 : World) (T M : Nat) (most : Int) (E L : List (Sg × Int)) (u : Value) (a : Sn.Ac) : Prop where
  below : Below w.heap.size w w1
  p : RowAt w1 w.heap.size #[u, .int .i64 most] 49
  c : RowAt w1 (w.heap.size + 1) (acC a).toArray 40
  r : RowAt w1 (w.heap.size + 1 + 1) #[.slice none 0 0, .int .i64 0] 49
  tab : Tab w1 T M most E
  want : Sl w1 7 u L.length (L.flatMap rwC)
theorem AcW.up {w w1 w2 : World} {T M : Nat} {most : Int} {E L : List (Sg × Int)} {u : Value} {a : Sn.Ac} (h : AcW w w1 T M most E L u a) (hb : Below w1.heap.size w1 w2) : AcW w w2 T M most E L u a :=
  ⟨below_up h.below hb, h.p.below hb, h.c.below hb, h.r.below hb, h.tab.below hb, h.want.up hb⟩
theorem AcW.start {w : World} {T M : Nat} {most : Int} {E L : List (Sg × Int)} {u : Value} (a : Sn.Ac) (h : Tab w T M most E) (hu : Sl w 7 u L.length (L.flatMap rwC)) : AcW w (((w.alloc (.cells #[u, .int .i64 most] 49)).alloc (.cells (acC a).toArray 40)).alloc (.cells #[.slice none 0 0, .int .i64 0] 49)) T M most E L u a := by
  have hB3 : Below w.heap.size w (((w.alloc (.cells #[u, .int .i64 most] 49)).alloc (.cells (acC a).toArray 40)).alloc (.cells #[.slice none 0 0, .int .i64 0] 49)) := ((below_alloc w _).alloc (by simp) _).alloc (by simp; omega) _
  have h2 := RowAt.new (w.alloc (.cells #[u, .int .i64 most] 49)) (acC a).toArray 40
  rw [World.size_alloc] at h2
  have h3 := RowAt.new ((w.alloc (.cells #[u, .int .i64 most] 49)).alloc (.cells (acC a).toArray 40)) #[.slice none 0 0, .int .i64 0] 49
  rw [World.size_alloc, World.size_alloc] at h3
  exact ⟨hB3, ((RowAt.new w _ _).below (below_alloc _ _)).below (below_alloc _ _), h2.below (below_alloc _ _), h3, h.below hB3, hu.up hB3⟩
/-- What act leaves. -/
def ActPost (T M : Nat) (most : Int) (E' L' : List (Sg × Int)) (w : World) (en : Ending) (w' : World) : Prop := ∃ u', en = .returned (.tuple #[tbV u' most, .bool true]) ∧ Tab w' T M most E' ∧ Sl w' 7 u' L'.length (L'.flatMap rwC) ∧ But (· = M) w w'
/-- The last step of act: its result is laid. -/
theorem act_fin {w wd w6 wA : World} {T M : Nat} {most : Int} {E' L' : List (Sg × Int)} {u' : Value} {n' : Nat} {cs : Array Value} (hd : Below w.heap.size w wd) (hT : T < w.heap.size) (hM : M < w.heap.size) (h6 : But (· = M) wd w6) (hp : Tab w6 T M most E') (hs : Sl w6 7 u' n' (L'.flatMap rwC))
    (hr : RowAt w6 (w.heap.size + 1 + 1) cs 49) (hcs : cs.size < 7) (hb : But (· = w.heap.size + 1 + 1) w6 wA) : Tab wA T M most E' ∧ Sl wA 7 u' n' (L'.flatMap rwC) ∧ But (· = M) w wA := by
  refine ⟨hp.but hb (by omega) (by omega), hs.but hb (hs.apart7 hr hcs), ?_⟩
  exact ((But.of_below hd).trans (h6.mono fun j _ e => e)).then hb (fun j hj e => by omega)
theorem rSeeK {E L L' : List (Sg × Int)} {v : Value} {most e : Int} (s : Sg) (hs : s.wf) (u : Int) (hok : ∀ p ∈ E, p.1.wf) (hl : E.length ≤ 4096) (hE : SrtE E L) (he : seeE most E s u = e) (hL : seeT most L s u = L') (w : World) (hv : Sl w 7 v L.length (L.flatMap rwC)) :
    Calls Try.prog 30 #[tbV v most, sgV s, .int .u64 u] w fun en w' => ∃ v', en = .returned (.tuple #[tbV v' most, .int .i64 e]) ∧ Sl w' 7 v' L'.length (L'.flatMap rwC) ∧ Below w.heap.size w w' := by
  refine (rSee_c L v L.length most s hs u w hv (fun p hp => hok p (hE.perm.mem_iff.1 hp)) (by have := hE.len; omega)).mono ?_
  rintro en w' ⟨v', rfl, h1, h2, _⟩
  rw [hE.seeE, he]
  rw [hL] at h1
  exact ⟨v', rfl, h1, h2⟩
theorem rPruneK {E L L' : List (Sg × Int)} {v : Value} {most m : Int} (at_ : Int) (hl : E.length ≤ 4096) (hE : SrtE E L) (hm : (E.length : Int) - (left E at_).length = m) (hL : left L at_ = L') (w : World) (hv : Sl w 7 v L.length (L.flatMap rwC)) :
    Calls Try.prog 31 #[tbV v most, .int .u64 at_] w fun en w' => ∃ v', en = .returned (.tuple #[tbV v' most, .int .i64 m]) ∧ Sl w' 7 v' L'.length (L'.flatMap rwC) ∧ Below w.heap.size w w' := by
  refine (rPrune_c L v L.length most at_ w hv (by have := hE.len; omega)).mono ?_
  rintro en w' ⟨v', rfl, h1, h2, _⟩
  rw [hE.len, (hE.left at_).len, hm]
  rw [hL] at h1
  exact ⟨v', rfl, h1, h2⟩

set_option maxHeartbeats 8000000 in
set_option maxRecDepth 100000 in
theorem actSee_c {T M : Nat} {most : Int} {E L : List (Sg × Int)} {u : Value} (what : Int) (s : Sg) (hs : s.wf) (at_ : Int) (w : World) (h : Tab w T M most E) (hu : Sl w 7 u L.length (L.flatMap rwC)) (hE : SrtE E L) (hW : what = 0 ∨ what = 1 ∨ what = 2) :
    Calls Try.prog 14 #[.pointer (some ⟨T, 0, none⟩), tbV u most, acV ⟨what, s, at_⟩] w (ActPost T M most (seeL most E s at_) (seeT most L s at_) w) := by
  obtain ⟨e, he⟩ : ∃ e, seeE most E s at_ = e := ⟨_, rfl⟩
  obtain ⟨E', hE'⟩ : ∃ E', seeL most E s at_ = E' := ⟨_, rfl⟩
  obtain ⟨L', hL'⟩ : ∃ L', seeT most L s at_ = L' := ⟨_, rfl⟩
  have HR := Lib.hid (fun (v : Value) (w' : World) hv => rSeeK (v := v) s hs at_ h.ok h.len hE he hL' w' hv)
  have HP := Lib.hid (fun (w' : World) h' => seeAs (T := T) (M := M) s hs at_ he hE' w' h')
  rw [hE', hL']
  clear hE hE' hL' he
  have hTl := h.var.lt
  have hMl := h.map.lt
  obtain ⟨au, cu, rfl⟩ := hu.len
  have V0 := AcW.start ⟨what, s, at_⟩ h hu
  have c0 := V0.c.cell (i := 0) (v := .int .i64 what) rfl
  have p0 := V0.p.cell (i := 0) (v := .slice au L.length cu) rfl
  have p1 := V0.p.cell (i := 1) (v := .int .i64 most) rfl
  have d7 := V0.c.cell (i := 7) (v := .int .u64 at_) rfl
  rcases hW with rfl | rfl | rfl
  all_goals
    go_enter Try.func14, Try.ntmps14
    go_wp2_with (first
      | (refine wpList_load_mid rfl 38 (.tmp 25) rfl (w.heap.size + 1) 1 rfl (sgC s) _ (ac_sight V0.c.range) Try.underlying38 rfl (by kernel_rfl) ?_)
      | (go_at_call 30; refine (HR.out _ _ V0.want).mono ?_; rintro en w4 ⟨u', rfl, hs4, hb4⟩; have V4 := V0.up hb4; obtain ⟨a4, c4, rfl⟩ := hs4.len))
    refine wp_region_pt (fun i => i = w.heap.size + 1 + 1 ∨ i = M) (.q 0 (.q 1 (.q 2 (.q 3 (.q 4 (.q 5 (.q 8 (.c 6 (.c 7 (.q 9 (.c 10 (.q 11 .done)))))))))))) (by kernel_rfl) (by kernel_rfl) (by kernel_rfl) (by decide) (fun _ _ d _ _ h => by cases d <;> exact h) (fun Wd hBd => ?_)
    try simp only [Act.put, List.getElem_toArray, List.getElem_cons_zero, List.getElem_cons_succ, List.setIfInBounds_toArray, List.set_cons_zero, List.set_cons_succ]
    have V5 := (V4.up (below_alloc w4 (.cells #[.slice a4 L'.length c4, .int .i64 most] 49))).up hBd
    have hz4 := V4.r.lt
    have u5 := (RowAt.new w4 #[.slice a4 L'.length c4, .int .i64 most] 49).below hBd
    have s5 := (hs4.up (below_alloc w4 (.cells #[.slice a4 L'.length c4, .int .i64 most] 49))).up hBd
    refine pt_load rfl (by rfl) 49 (.tmp 8) rfl w4.heap.size 0 rfl [.slice a4 L'.length c4, .int .i64 most] _ u5.range (by omega) Try.underlying49 rfl (by kernel_rfl) ?_
    try simp only [Act.put, List.getElem_toArray, List.getElem_cons_zero, List.getElem_cons_succ, List.setIfInBounds_toArray, List.set_cons_zero, List.set_cons_succ]
    refine pt_q (v := ?_) rfl (by rfl) ?_ ?_
    rotate_left
    · intro w' hBw'
      first | (go_simp; done) | (go_simp; with_reducible rfl)
    try simp only [Act.put, List.getElem_toArray, List.getElem_cons_zero, List.getElem_cons_succ, List.setIfInBounds_toArray, List.set_cons_zero, List.set_cons_succ]
    refine pt_q (v := ?_) rfl (by rfl) ?_ ?_
    rotate_left
    · intro w' hBw'
      first | (go_simp; done) | (go_simp; with_reducible rfl)
    try simp only [Act.put, List.getElem_toArray, List.getElem_cons_zero, List.getElem_cons_succ, List.setIfInBounds_toArray, List.set_cons_zero, List.set_cons_succ]
    refine pt_load rfl (by rfl) 38 (.tmp 34) rfl (w.heap.size + 1) 1 rfl (sgC s) _ (ac_sight V5.c.range) (by omega) Try.underlying38 rfl (by kernel_rfl) ?_
    try simp only [Act.put, List.getElem_toArray, List.getElem_cons_zero, List.getElem_cons_succ, List.setIfInBounds_toArray, List.set_cons_zero, List.set_cons_succ]
    refine pt_q (v := ?_) rfl (by rfl) ?_ ?_
    rotate_left
    · intro w' hBw'
      first | (go_simp; done) | (go_simp; with_reducible rfl)
    try simp only [Act.put, List.getElem_toArray, List.getElem_cons_zero, List.getElem_cons_succ, List.setIfInBounds_toArray, List.set_cons_zero, List.set_cons_succ]
    refine pt_q (v := ?_) rfl (by rfl) ?_ ?_
    rotate_left
    · intro w' hBw'
      have qL0 := hBw'.cell (V5.c.cell (i := 7) (v := .int .u64 at_) rfl) (by omega)
      first | (go_simp; done) | (go_simp; with_reducible rfl)
    try simp only [Act.put, List.getElem_toArray, List.getElem_cons_zero, List.getElem_cons_succ, List.setIfInBounds_toArray, List.set_cons_zero, List.set_cons_succ]
    refine pt_q (v := ?_) rfl (by rfl) ?_ ?_
    rotate_left
    · intro w' hBw'
      first | (go_simp; done) | (go_simp; with_reducible rfl)
    try simp only [Act.put, List.getElem_toArray, List.getElem_cons_zero, List.getElem_cons_succ, List.setIfInBounds_toArray, List.set_cons_zero, List.set_cons_succ]
    refine pt_c ?_
    refine pt_step rfl (by rfl) (fun K hK => ?_)
    go_simp
    refine (HP.out _ V5.tab).mono ?_
    rintro en w6 ⟨rfl, ht6, hb6⟩
    refine hK.out _ _ (hb6.mono fun i _ e => .inr e) ?_
    clear hK K
    try simp only [Act.put, List.getElem_toArray, List.getElem_cons_zero, List.getElem_cons_succ, List.setIfInBounds_toArray, List.set_cons_zero, List.set_cons_succ]
    have r6 := V5.r.butS hb6 (by omega)
    have s6 := s5.but hb6 (s5.offMap (by decide) V5.tab.map)
    refine pt_c ?_
    refine pt_step rfl (by rfl) (fun K hK => ?_)
    go_simp
    refine (num_c _ _).mono ?_
    rintro en w7 ⟨rfl, rfl⟩
    refine hK.out _ _ (But.refl _ _) ?_
    clear hK K
    try simp only [Act.put, List.getElem_toArray, List.getElem_cons_zero, List.getElem_cons_succ, List.setIfInBounds_toArray, List.set_cons_zero, List.set_cons_succ]
    refine pt_q (v := ?_) rfl (by rfl) ?_ ?_
    rotate_left
    · intro w' hBw'
      first | (go_simp; done) | (go_simp; with_reducible rfl)
    try simp only [Act.put, List.getElem_toArray, List.getElem_cons_zero, List.getElem_cons_succ, List.setIfInBounds_toArray, List.set_cons_zero, List.set_cons_succ]
    refine pt_c ?_
    refine pt_put_row rfl (by rfl) 49 _ _ rfl (w.heap.size + 1 + 1) [(.slice a4 L'.length c4), .int .i64 most] rfl rfl r6 rfl (by kernel_rfl) rfl (.inl rfl) (fun wA hRA hbA => ?_)
    try simp only [Act.put, List.getElem_toArray, List.getElem_cons_zero, List.getElem_cons_succ, List.setIfInBounds_toArray, List.set_cons_zero, List.set_cons_succ]
    refine pt_q (v := ?_) rfl (by rfl) ?_ ?_
    rotate_left
    · intro w' hBw'
      first | (go_simp; done) | (go_simp; with_reducible rfl)
    try simp only [Act.put, List.getElem_toArray, List.getElem_cons_zero, List.getElem_cons_succ, List.setIfInBounds_toArray, List.set_cons_zero, List.set_cons_succ]
    refine pt_done ?_
    have rA := hRA.cell (i := 0) rfl
    have rA1 := hRA.cell (i := 1) rfl
    go_wp2
    obtain ⟨f1, f2, f3⟩ := act_fin V5.below hTl hMl hb6 ht6 s6 r6 (by simp) hbA
    exact bodyPost_ret (v := .tuple #[tbV (.slice a4 L'.length c4) most, .bool true]) (by simp [results, Try.results14, go_sem, rA, rA1]) rfl ⟨_, rfl, f1, f2, f3⟩

set_option maxHeartbeats 8000000 in
set_option maxRecDepth 100000 in
theorem actPrune_c {T M : Nat} {most : Int} {E L : List (Sg × Int)} {u : Value} (s : Sg) (hs : s.wf) (at_ : Int) (w : World) (h : Tab w T M most E) (hu : Sl w 7 u L.length (L.flatMap rwC)) (hE : SrtE E L)  :
    Calls Try.prog 14 #[.pointer (some ⟨T, 0, none⟩), tbV u most, acV ⟨3, s, at_⟩] w (ActPost T M most (left E at_) (left L at_) w) := by
  obtain ⟨E', hE'⟩ : ∃ E', left E at_ = E' := ⟨_, rfl⟩
  obtain ⟨L', hL'⟩ : ∃ L', left L at_ = L' := ⟨_, rfl⟩
  obtain ⟨m, hm⟩ : ∃ m : Int, (E.length : Int) - (left E at_).length = m := ⟨_, rfl⟩
  have HR := Lib.hid (fun (v : Value) (w' : World) hv => rPruneK (v := v) (most := most) at_ h.len hE hm hL' w' hv)
  have HP := Lib.hid (fun (w' : World) h' => pruneAs (T := T) (M := M) (most := most) at_ hE' (show (E.length : Int) - E'.length = m by rw [← hE', hm]) w' h')
  rw [hE', hL']
  clear hE hE' hL' hm
  have hTl := h.var.lt
  have hMl := h.map.lt
  obtain ⟨au, cu, rfl⟩ := hu.len
  have V0 := AcW.start ⟨3, s, at_⟩ h hu
  have c0 := V0.c.cell (i := 0) (v := .int .i64 3) rfl
  have p0 := V0.p.cell (i := 0) (v := .slice au L.length cu) rfl
  have p1 := V0.p.cell (i := 1) (v := .int .i64 most) rfl
  have d7 := V0.c.cell (i := 7) (v := .int .u64 at_) rfl
  go_enter Try.func14, Try.ntmps14
  go_wp2_with (first
    | (go_at_call 31; refine (HR.out _ _ V0.want).mono ?_; rintro en w4 ⟨u', rfl, hs4, hb4⟩; have V4 := V0.up hb4; obtain ⟨a4, c4, rfl⟩ := hs4.len; have e7 := V4.c.cell (i := 7) (v := .int .u64 at_) rfl)
    | (go_at_call 11; refine (HP.out _ (V4.up (below_alloc w4 (.cells #[.slice a4 L'.length c4, .int .i64 most] 49))).tab).mono ?_; rintro en w6 ⟨rfl, ht6, hb6⟩))
  refine wp_region_pt (fun i => i = w.heap.size + 1 + 1) (.q 0 (.q 1 (.q 2 (.q 3 (.q 4 (.q 5 (.c 6 (.q 7 (.q 8 (.c 9 (.q 10 .done))))))))))) (by kernel_rfl) (by kernel_rfl) (by kernel_rfl) (by decide) (fun _ _ d _ _ h => by cases d <;> exact h) (fun Wd hBd => ?_)
  try simp only [Act.put, List.getElem_toArray, List.getElem_cons_zero, List.getElem_cons_succ, List.setIfInBounds_toArray, List.set_cons_zero, List.set_cons_succ]
  have V5 := V4.up (below_alloc w4 (.cells #[.slice a4 L'.length c4, .int .i64 most] 49))
  have hz4 := V4.r.lt
  have hbD := hb6.trans (But.of_below hBd)
  have u5 := (RowAt.new w4 #[.slice a4 L'.length c4, .int .i64 most] 49).butS hbD (by omega)
  have hrD := V5.r.butS hbD (by omega)
  have hpD := ht6.below hBd
  have s5 := hs4.up (below_alloc w4 (.cells #[.slice a4 L'.length c4, .int .i64 most] 49))
  have hsD := s5.but hbD (s5.offMap (by decide) V5.tab.map)
  refine pt_load rfl (by rfl) 49 (.tmp 10) rfl w4.heap.size 0 rfl [.slice a4 L'.length c4, .int .i64 most] _ u5.range (by omega) Try.underlying49 rfl (by kernel_rfl) ?_
  try simp only [Act.put, List.getElem_toArray, List.getElem_cons_zero, List.getElem_cons_succ, List.setIfInBounds_toArray, List.set_cons_zero, List.set_cons_succ]
  refine pt_q (v := ?_) rfl (by rfl) ?_ ?_
  rotate_left
  · intro w' hBw'
    first | (go_simp; done) | (go_simp; with_reducible rfl)
  try simp only [Act.put, List.getElem_toArray, List.getElem_cons_zero, List.getElem_cons_succ, List.setIfInBounds_toArray, List.set_cons_zero, List.set_cons_succ]
  refine pt_q (v := ?_) rfl (by rfl) ?_ ?_
  rotate_left
  · intro w' hBw'
    first | (go_simp; done) | (go_simp; with_reducible rfl)
  try simp only [Act.put, List.getElem_toArray, List.getElem_cons_zero, List.getElem_cons_succ, List.setIfInBounds_toArray, List.set_cons_zero, List.set_cons_succ]
  refine pt_q (v := ?_) rfl (by rfl) ?_ ?_
  rotate_left
  · intro w' hBw'
    first | (go_simp; done) | (go_simp; with_reducible rfl)
  try simp only [Act.put, List.getElem_toArray, List.getElem_cons_zero, List.getElem_cons_succ, List.setIfInBounds_toArray, List.set_cons_zero, List.set_cons_succ]
  refine pt_q (v := ?_) rfl (by rfl) ?_ ?_
  rotate_left
  · intro w' hBw'
    first | (go_simp; done) | (go_simp; with_reducible rfl)
  try simp only [Act.put, List.getElem_toArray, List.getElem_cons_zero, List.getElem_cons_succ, List.setIfInBounds_toArray, List.set_cons_zero, List.set_cons_succ]
  refine pt_q (v := ?_) rfl (by rfl) ?_ ?_
  rotate_left
  · intro w' hBw'
    first | (go_simp; done) | (go_simp; with_reducible rfl)
  try simp only [Act.put, List.getElem_toArray, List.getElem_cons_zero, List.getElem_cons_succ, List.setIfInBounds_toArray, List.set_cons_zero, List.set_cons_succ]
  refine pt_c ?_
  refine pt_step rfl (by rfl) (fun K hK => ?_)
  go_simp
  refine (num_c _ _).mono ?_
  rintro en w7 ⟨rfl, rfl⟩
  refine hK.out _ _ (But.refl _ _) ?_
  clear hK K
  try simp only [Act.put, List.getElem_toArray, List.getElem_cons_zero, List.getElem_cons_succ, List.setIfInBounds_toArray, List.set_cons_zero, List.set_cons_succ]
  refine pt_q (v := ?_) rfl (by rfl) ?_ ?_
  rotate_left
  · intro w' hBw'
    first | (go_simp; done) | (go_simp; with_reducible rfl)
  try simp only [Act.put, List.getElem_toArray, List.getElem_cons_zero, List.getElem_cons_succ, List.setIfInBounds_toArray, List.set_cons_zero, List.set_cons_succ]
  refine pt_q (v := ?_) rfl (by rfl) ?_ ?_
  rotate_left
  · intro w' hBw'
    first | (go_simp; done) | (go_simp; with_reducible rfl)
  try simp only [Act.put, List.getElem_toArray, List.getElem_cons_zero, List.getElem_cons_succ, List.setIfInBounds_toArray, List.set_cons_zero, List.set_cons_succ]
  refine pt_c ?_
  refine pt_put_row rfl (by rfl) 49 _ _ rfl (w.heap.size + 1 + 1) [(.slice a4 L'.length c4), .int .i64 most] rfl rfl hrD rfl (by kernel_rfl) rfl rfl (fun wA hRA hbA => ?_)
  try simp only [Act.put, List.getElem_toArray, List.getElem_cons_zero, List.getElem_cons_succ, List.setIfInBounds_toArray, List.set_cons_zero, List.set_cons_succ]
  refine pt_q (v := ?_) rfl (by rfl) ?_ ?_
  rotate_left
  · intro w' hBw'
    first | (go_simp; done) | (go_simp; with_reducible rfl)
  try simp only [Act.put, List.getElem_toArray, List.getElem_cons_zero, List.getElem_cons_succ, List.setIfInBounds_toArray, List.set_cons_zero, List.set_cons_succ]
  refine pt_done ?_
  have rA := hRA.cell (i := 0) rfl
  have rA1 := hRA.cell (i := 1) rfl
  go_wp2
  obtain ⟨f1, f2, f3⟩ := act_fin V5.below hTl hMl hbD hpD hsD hrD (by simp) hbA
  exact bodyPost_ret (v := .tuple #[tbV (.slice a4 L'.length c4) most, .bool true]) (by simp [results, Try.results14, go_sem, rA, rA1]) rfl ⟨_, rfl, f1, f2, f3⟩

set_option maxHeartbeats 8000000 in
set_option maxRecDepth 100000 in
theorem actHasN_c {T M : Nat} {most : Int} {E L : List (Sg × Int)} {u : Value} (what : Int) (s : Sg) (hs : s.wf) (at_ : Int) (w : World) (h : Tab w T M most E) (hu : Sl w 7 u L.length (L.flatMap rwC)) (hE : SrtE E L) (hW : ∀ i : Int, 0 ≤ i → i ≤ 3 → (what == i) = false) (hb : hasB E s = false) :
    Calls Try.prog 14 #[.pointer (some ⟨T, 0, none⟩), tbV u most, acV ⟨what, s, at_⟩] w (ActPost T M most E L w) := by
  have w0 := hW 0 (by omega) (by omega)
  have w1 := hW 1 (by omega) (by omega)
  have w2 := hW 2 (by omega) (by omega)
  have w3 := hW 3 (by omega) (by omega)
  clear hW
  have hlk := lk_no hb
  have hz : atF L s = -1 := by unfold atF; rw [hE.has, hb]; rfl
  have HA := Lib.hid (fun (v : Value) (w' : World) hv => hz ▸ rAt_c L v L.length most s w' hv)
  clear hz hE
  have HP := Lib.hid (fun (w' : World) h' => hasAs (T := T) (M := M) (most := most) s hs hlk hb w' h')
  clear hlk hb
  have hTl := h.var.lt
  have hMl := h.map.lt
  obtain ⟨au, cu, rfl⟩ := hu.len
  have V0 := AcW.start ⟨what, s, at_⟩ h hu
  have c0 := V0.c.cell (i := 0) (v := .int .i64 what) rfl
  have p0 := V0.p.cell (i := 0) (v := .slice au L.length cu) rfl
  have p1 := V0.p.cell (i := 1) (v := .int .i64 most) rfl
  have d7 := V0.c.cell (i := 7) (v := .int .u64 at_) rfl
  go_enter Try.func14, Try.ntmps14
  go_wp2_with (first
    | (refine wpList_load_mid rfl 38 (.tmp 69) rfl (w.heap.size + 1) 1 rfl (sgC s) _ (ac_sight V0.c.range) Try.underlying38 rfl (by kernel_rfl) ?_)
    | (refine wpList_load_mid rfl 38 (.tmp 75) rfl (w.heap.size + 1) 1 rfl (sgC s) _ (ac_sight V4.c.range) Try.underlying38 rfl (by kernel_rfl) ?_)
    | (go_at_call 12; refine (HP.out _ V0.tab).mono ?_; rintro en w4 ⟨rfl, hb4⟩; have V4 := V0.up hb4; have q0 := V4.p.cell (i := 0) (v := .slice au L.length cu) rfl; have q1 := V4.p.cell (i := 1) (v := .int .i64 most) rfl)
    | (go_at_call 32; refine (HA.out _ _ V4.want).mono ?_; rintro en w5 ⟨rfl, hb5⟩; have V5 := V4.up hb5; have s0 := V5.p.cell (i := 0) (v := .slice au L.length cu) rfl; have s1 := V5.p.cell (i := 1) (v := .int .i64 most) rfl)
    | (refine wpList_put_row rfl 49 (.tmp 6) (.tmp 80) rfl (w.heap.size + 1 + 1) [.slice au L.length cu, .int .i64 most] rfl rfl V5.r rfl (by kernel_rfl) rfl ?_; intro wA hRA hbA; have rA := hRA.cell (i := 0) rfl; have rA1 := hRA.cell (i := 1) rfl))
  obtain ⟨f1, f2, f3⟩ := act_fin V5.below hTl hMl (But.refl _ _) V5.tab V5.want V5.r (by simp) hbA
  exact bodyPost_ret (v := .tuple #[tbV (.slice au L.length cu) most, .bool true]) (by simp [results, Try.results14, go_sem, rA, rA1]) rfl ⟨_, rfl, f1, f2, f3⟩

set_option maxHeartbeats 8000000 in
set_option maxRecDepth 100000 in
theorem actHasS_c {T M : Nat} {most : Int} {E L : List (Sg × Int)} {u : Value} (what : Int) (s : Sg) (hs : s.wf) (at_ : Int) (w : World) (h : Tab w T M most E) (hu : Sl w 7 u L.length (L.flatMap rwC)) (hE : SrtE E L) (hW : ∀ i : Int, 0 ≤ i → i ≤ 3 → (what == i) = false) (hb : hasB E s = true) :
    Calls Try.prog 14 #[.pointer (some ⟨T, 0, none⟩), tbV u most, acV ⟨what, s, at_⟩] w (ActPost T M most E L w) := by
  have w0 := hW 0 (by omega) (by omega)
  have w1 := hW 1 (by omega) (by omega)
  have w2 := hW 2 (by omega) (by omega)
  have w3 := hW 3 (by omega) (by omega)
  clear hW
  obtain ⟨hk, hlk0⟩ := hE.lk h.map.nodup (by rw [hE.has, hb])
  have hz : atF L s = ((atN L s : Nat) : Int) := by unfold atF; rw [hE.has, hb]; rfl
  generalize atN L s = k at *
  obtain ⟨x, hx⟩ : ∃ x, L[k] = x := ⟨_, rfl⟩
  have HX := Lib.hid hx
  rw [hx] at hlk0
  have hlk := hlk0.symm
  have HA := Lib.hid (fun (v : Value) (w' : World) hv => hz ▸ rAt_c L v L.length most s w' hv)
  have hk0 : ¬ (k : Int) < 0 := by omega
  have hkI : (k : Int) < (L.length : Int) := by omega
  clear hz hE hx hlk0
  have HP := Lib.hid (fun (w' : World) h' => hasAs (T := T) (M := M) (most := most) s hs hlk hb w' h')
  clear hlk hb
  have hTl := h.var.lt
  have hMl := h.map.lt
  obtain ⟨au, cu, rfl⟩ := hu.len
  obtain ⟨bu, ou, rfl, hr⟩ := hu.rec_at (cells := rwC) (sz := 7) (fun _ => rfl) hk hk
  have hbu : bu < w.heap.size := World.block_lt_of_cell? w ⟨bu, ou + k * 7 + 0, none⟩ (hr 0 _ rfl)
  rw [HX.out] at hr
  have V0 := AcW.start ⟨what, s, at_⟩ h hu
  have c0 := V0.c.cell (i := 0) (v := .int .i64 what) rfl
  have p0 := V0.p.cell (i := 0) (v := .slice (some ⟨bu, ou, none⟩) L.length cu) rfl
  have p1 := V0.p.cell (i := 1) (v := .int .i64 most) rfl
  have d7 := V0.c.cell (i := 7) (v := .int .u64 at_) rfl
  go_enter Try.func14, Try.ntmps14
  go_wp2_with (first
    | (refine wpList_load_mid rfl 38 (.tmp 69) rfl (w.heap.size + 1) 1 rfl (sgC s) _ (ac_sight V0.c.range) Try.underlying38 rfl (by kernel_rfl) ?_)
    | (refine wpList_load_mid rfl 38 (.tmp 75) rfl (w.heap.size + 1) 1 rfl (sgC s) _ (ac_sight V4.c.range) Try.underlying38 rfl (by kernel_rfl) ?_)
    | (go_at_call 12; refine (HP.out _ V0.tab).mono ?_; rintro en w4 ⟨rfl, hb4⟩; have V4 := V0.up hb4; have q0 := V4.p.cell (i := 0) (v := .slice (some ⟨bu, ou, none⟩) L.length cu) rfl; have q1 := V4.p.cell (i := 1) (v := .int .i64 most) rfl)
    | (go_at_call 32; refine (HA.out _ _ V4.want).mono ?_; rintro en w5 ⟨rfl, hb5⟩; have V5 := V4.up hb5; have s0 := V5.p.cell (i := 0) (v := .slice (some ⟨bu, ou, none⟩) L.length cu) rfl; have s1 := V5.p.cell (i := 1) (v := .int .i64 most) rfl))
  refine wp_region_pt (fun i => i = w.heap.size + 1 + 1) (.q 0 (.q 1 (.q 2 (.q 3 (.q 4 (.q 5 (.q 6 (.q 7 (.q 8 (.q 9 (.q 10 (.q 11 (.c 12 (.q 13 .done)))))))))))))) (by kernel_rfl) (by kernel_rfl) (by kernel_rfl) (by decide) (fun _ _ d _ _ h => by cases d <;> exact h) (fun Wd hBd => ?_)
  try simp only [Act.put, List.getElem_toArray, List.getElem_cons_zero, List.getElem_cons_succ, List.setIfInBounds_toArray, List.set_cons_zero, List.set_cons_succ]
  have V6 := V5.up hBd
  have hrD := rangeAt_up V6.below hr
  have cp : ∀ w', But (fun i => i = w.heap.size + 1 + 1) Wd w' → w'.cell? ⟨w.heap.size, 0, none⟩ = some (.slice (some ⟨bu, ou, none⟩) L.length cu) := fun w' hb => hb.cell (V6.p.cell (i := 0) rfl) (by omega)
  have cr : ∀ w', But (fun i => i = w.heap.size + 1 + 1) Wd w' → w'.cell? ⟨bu, ou + k * 7 + 6, none⟩ = some (.int .u64 x.2) := fun w' hb => hb.cell (hrD 6 _ rfl) (by omega)
  refine pt_load rfl (by rfl) 49 (.tmp 4) rfl w.heap.size 0 rfl [.slice (some ⟨bu, ou, none⟩) L.length cu, .int .i64 most] _ V6.p.range (by omega) Try.underlying49 rfl (by kernel_rfl) ?_
  try simp only [Act.put, List.getElem_toArray, List.getElem_cons_zero, List.getElem_cons_succ, List.setIfInBounds_toArray, List.set_cons_zero, List.set_cons_succ]
  refine pt_q (v := ?_) rfl (by rfl) ?_ ?_
  rotate_left
  · intro w' hBw'
    first | (go_simp; done) | (go_simp; with_reducible rfl)
  try simp only [Act.put, List.getElem_toArray, List.getElem_cons_zero, List.getElem_cons_succ, List.setIfInBounds_toArray, List.set_cons_zero, List.set_cons_succ]
  refine pt_q (v := ?_) rfl (by rfl) ?_ ?_
  rotate_left
  · intro w' hBw'
    first | (go_simp; done) | (go_simp; with_reducible rfl)
  try simp only [Act.put, List.getElem_toArray, List.getElem_cons_zero, List.getElem_cons_succ, List.setIfInBounds_toArray, List.set_cons_zero, List.set_cons_succ]
  refine pt_q (v := ?_) rfl (by rfl) ?_ ?_
  rotate_left
  · intro w' hBw'
    first | (go_simp; done) | (go_simp; with_reducible rfl)
  try simp only [Act.put, List.getElem_toArray, List.getElem_cons_zero, List.getElem_cons_succ, List.setIfInBounds_toArray, List.set_cons_zero, List.set_cons_succ]
  refine pt_q (v := ?_) rfl (by rfl) ?_ ?_
  rotate_left
  · intro w' hBw'
    first | (go_simp; done) | (go_simp; with_reducible rfl)
  try simp only [Act.put, List.getElem_toArray, List.getElem_cons_zero, List.getElem_cons_succ, List.setIfInBounds_toArray, List.set_cons_zero, List.set_cons_succ]
  refine pt_q (v := ?_) rfl (by rfl) ?_ ?_
  rotate_left
  · intro w' hBw'
    first | (go_simp; done) | (go_simp; with_reducible rfl)
  try simp only [Act.put, List.getElem_toArray, List.getElem_cons_zero, List.getElem_cons_succ, List.setIfInBounds_toArray, List.set_cons_zero, List.set_cons_succ]
  refine pt_q (v := ?_) rfl (by rfl) ?_ ?_
  rotate_left
  · intro w' hBw'
    first | (go_simp; done) | (go_simp; with_reducible rfl)
  try simp only [Act.put, List.getElem_toArray, List.getElem_cons_zero, List.getElem_cons_succ, List.setIfInBounds_toArray, List.set_cons_zero, List.set_cons_succ]
  refine pt_q (v := ?_) rfl (by rfl) ?_ ?_
  rotate_left
  · intro w' hBw'
    first | (go_simp; done) | (go_simp; with_reducible rfl)
  try simp only [Act.put, List.getElem_toArray, List.getElem_cons_zero, List.getElem_cons_succ, List.setIfInBounds_toArray, List.set_cons_zero, List.set_cons_succ]
  refine pt_q (v := ?_) rfl (by rfl) ?_ ?_
  rotate_left
  · intro w' hBw'
    first | (go_simp; done) | (go_simp; with_reducible rfl)
  try simp only [Act.put, List.getElem_toArray, List.getElem_cons_zero, List.getElem_cons_succ, List.setIfInBounds_toArray, List.set_cons_zero, List.set_cons_succ]
  refine pt_q (v := ?_) rfl (by rfl) ?_ ?_
  rotate_left
  · intro w' hBw'
    first | (go_simp; done) | (go_simp; with_reducible rfl)
  try simp only [Act.put, List.getElem_toArray, List.getElem_cons_zero, List.getElem_cons_succ, List.setIfInBounds_toArray, List.set_cons_zero, List.set_cons_succ]
  refine pt_q (v := ?_) rfl (by rfl) ?_ ?_
  rotate_left
  · intro w' hBw'
    first | (go_simp; done) | (go_simp; with_reducible rfl)
  try simp only [Act.put, List.getElem_toArray, List.getElem_cons_zero, List.getElem_cons_succ, List.setIfInBounds_toArray, List.set_cons_zero, List.set_cons_succ]
  refine pt_q (v := ?_) rfl (by rfl) ?_ ?_
  rotate_left
  · intro w' hBw'
    first | (go_simp; done) | (go_simp; with_reducible rfl)
  try simp only [Act.put, List.getElem_toArray, List.getElem_cons_zero, List.getElem_cons_succ, List.setIfInBounds_toArray, List.set_cons_zero, List.set_cons_succ]
  refine pt_c ?_
  refine pt_put_row rfl (by rfl) 49 _ _ rfl (w.heap.size + 1 + 1) [.slice (some ⟨bu, ou, none⟩) L.length cu, .int .i64 most] rfl rfl V6.r rfl (by kernel_rfl) rfl rfl (fun wA hRA hbA => ?_)
  try simp only [Act.put, List.getElem_toArray, List.getElem_cons_zero, List.getElem_cons_succ, List.setIfInBounds_toArray, List.set_cons_zero, List.set_cons_succ]
  refine pt_q (v := ?_) rfl (by rfl) ?_ ?_
  rotate_left
  · intro w' hBw'
    first | (go_simp; done) | (go_simp; with_reducible rfl)
  try simp only [Act.put, List.getElem_toArray, List.getElem_cons_zero, List.getElem_cons_succ, List.setIfInBounds_toArray, List.set_cons_zero, List.set_cons_succ]
  refine pt_done ?_
  have rA := hRA.cell (i := 0) rfl
  have rA1 := hRA.cell (i := 1) rfl
  go_wp2
  obtain ⟨f1, f2, f3⟩ := act_fin V6.below hTl hMl (But.refl _ _) V6.tab V6.want V6.r (by simp) hbA
  exact bodyPost_ret (v := .tuple #[tbV (.slice (some ⟨bu, ou, none⟩) L.length cu) most, .bool true]) (by simp [results, Try.results14, go_sem, rA, rA1]) rfl ⟨_, rfl, f1, f2, f3⟩

/-- What an act leaves, of both. -/
def Sn.actE (most : Int) (E : List (Sg × Int)) (a : Sn.Ac) : List (Sg × Int) := if a.what = 0 ∨ a.what = 1 ∨ a.what = 2 then seeL most E a.s a.at_ else if a.what = 3 then left E a.at_ else E
def Sn.actL (most : Int) (L : List (Sg × Int)) (a : Sn.Ac) : List (Sg × Int) := if a.what = 0 ∨ a.what = 1 ∨ a.what = 2 then seeT most L a.s a.at_ else if a.what = 3 then left L a.at_ else L
theorem Sn.SrtE.act {E L : List (Sg × Int)} (h : SrtE E L) (most : Int) (a : Sn.Ac) : SrtE (actE most E a) (actL most L a) := by
  unfold actE actL
  split
  · exact h.see most a.s a.at_
  · split
    · exact h.left a.at_
    · exact h
/-- act: both tell the same, and stand the same. -/
theorem act_c {T M : Nat} {most : Int} {E L : List (Sg × Int)} {u : Value} (a : Sn.Ac) (hs : a.s.wf) (w : World) (h : Tab w T M most E) (hu : Sl w 7 u L.length (L.flatMap rwC)) (hE : SrtE E L) :
    Calls Try.prog 14 #[.pointer (some ⟨T, 0, none⟩), tbV u most, acV a] w (ActPost T M most (actE most E a) (actL most L a) w) := by
  obtain ⟨what, s, at_⟩ := a
  unfold actE actL
  by_cases h1 : what = 0 ∨ what = 1 ∨ what = 2
  · rw [if_pos h1, if_pos h1]
    exact actSee_c what s hs at_ w h hu hE h1
  · rw [if_neg h1, if_neg h1]
    by_cases h3 : what = 3
    · subst h3
      exact actPrune_c s hs at_ w h hu hE
    · rw [if_neg h3, if_neg h3]
      have hW : ∀ i : Int, 0 ≤ i → i ≤ 3 → (what == i) = false := fun i h0 h6' => by rw [beq_eq_false_iff_ne]; omega
      cases hb : hasB E s with
      | false => exact actHasN_c what s hs at_ w h hu hE hW hb
      | true => exact actHasS_c what s hs at_ w h hu hE hW hb
end Go.Proofs.Ytfoncaamhleckaa
