/-
  No roll: none, a zero one.
-/
import Derived.Test.YteakpppabgbpeaaMemQ
namespace Go.Proofs.Yteakpppabgbpeaa
open Go.RowKit Go.Maps Mem
set_option linter.unusedSimpArgs false
set_option linter.unusedVariables false
attribute [local go_sem] Oper.semAt_some

/-- No roll. -/
def NoR (w : World) (p : Value) : Prop := p = .pointer none ∨ ∃ B, p = .pointer (some ⟨B, 0, none⟩) ∧ RowAt w B #[.map none] 55
theorem NoR.up {w w' : World} {p : Value} (h : NoR w p) (hb : Below w.heap.size w w') : NoR w' p := by
  rcases h with h | ⟨B, h1, h2⟩
  · exact .inl h
  · exact .inr ⟨B, h1, h2.below hb⟩
theorem NoR.ptr {w : World} {p : Value} (h : NoR w p) : ∃ q, p = .pointer q := by
  rcases h with h | ⟨B, h, _⟩ <;> exact ⟨_, h⟩
set_option maxRecDepth 100000 in
theorem nNone_c (p : Value) (w : World) (h : NoR w p) : Calls Try.prog 26 #[p] w fun en w' => en = .returned (.bool true) ∧ w = w' := by
  rcases h with rfl | ⟨B, rfl, hB⟩
  · go_enter Try.func26, Try.ntmps26
    go_wp2
    go_ret
    exact ⟨rfl, rfl⟩
  · have hc := hB.cell (i := 0) (v := .map none) rfl
    have hm := fun w => run_eql_map_nil (P := Try.prog) w 53 _ _ none Try.underlying53
    go_enter Try.func26, Try.ntmps26
    go_wp2
    go_ret
    exact ⟨rfl, rfl⟩
/-- What all tells. -/
def AllOf (E : List Mb) (w : World) (en : Ending) (w' : World) : Prop := ∃ (v : Value) (acc : List Mb), en = .returned v ∧ acc.Perm E ∧ w'.ownsRow w.heap.size 24 4 v acc.length (acc.flatMap mbC) ∧ Below w.heap.size w w'
theorem nAll_c (p : Value) (w : World) (h : NoR w p) : Calls Try.prog 31 #[p] w (AllOf [] w) := by
  go_enter Try.func31, Try.ntmps31
  go_wp2_with (go_at_call 26; refine (nNone_c _ _ h).mono ?_; rintro en w1 ⟨rfl, rfl⟩)
  go_ret
  exact ⟨_, [], rfl, List.Perm.nil, World.ownsRow_nil _ _ _ _, Below.refl _ _⟩
theorem srt_nil : SrtOf [] [] := ⟨List.Perm.nil, List.Pairwise.nil⟩

set_option maxHeartbeats 2000000 in
set_option maxRecDepth 100000 in
theorem gRegions_c {E L : List Mb} (p : Value) (x : Int) (w : World) (hall : ∀ w1, Below w.heap.size w w1 → Calls Try.prog 31 #[p] w1 (AllOf E w1)) (hs : SrtOf E L) (hE : E.length ≤ 100000) :
    Calls Try.prog 41 #[p, .int .u32 x] w (GivesU (regsF L x) w) := by
  have hmf : ∀ (fn : Fn) (first cap : Array Value) (w : World), (Instr.makeFunc fn first cap).run Try.prog w = .ok (.func fn first cap) w := fun _ _ _ _ => rfl
  have hb0 := below_alloc w (.cells #[.int .u32 x] 22)
  have HALL := Lib.hid (hall _ hb0)
  clear hall
  have hx := cell_new w (.int .u32 x) 22
  have HS := Lib.hid hs
  have HB0 := Lib.hid hb0
  clear hs hb0
  go_enter Try.func41, Try.ntmps41
  go_wp2_with (first
    | (go_at_call 31; refine HALL.out.mono ?_; rintro en w1 ⟨v, acc, rfl, hp, hown, hb1⟩; have hx1 := cell_up hb1 hx)
    | (go_at_call 45; refine (srtU_c E L acc (fun m => m.region) (fun m => m.in_ && decide (m.node = x)) 53 #[.pointer (some ⟨w.heap.size, 0, none⟩)] v _ _ HS.out hp hown (by rw [hp.length_eq]; exact hE) enters_regs1 (fun m hm w2 hb => regs1_c w.heap.size x m w2 (hb.cell hx1 (fun e => by have := (own_of_some hown e).1; simp at this; omega)))).mono ?_; rintro en w2 ⟨v2, rfl, hown2, hb2⟩)
    | (go_at_call 44; refine (overU_c v2 _ (regsF L x) _ (Sl.of_own hown2)).mono ?_; rintro en w3 ⟨rfl, hov, hb3, hz3⟩))
  go_ret
  have hB2 : Below w.heap.size w w2 := (below_up HB0.out hb1).trans (hb2.below (fun k e => by have := (own_of_some hown e).1; simp at this; omega) (below_up HB0.out hb1).size)
  have hz1 := hb1.size
  have hz2 := hB2.size
  have hz2' := hb2.size
  simp only [World.size_alloc] at hz1
  refine ⟨w2.heap.size, v2, rfl, ?_, hz2, by omega, fun k hk => ?_, below_up hB2 hb3⟩
  · rw [show (regsF L x).length = (L.filter fun m => m.in_ && decide (m.node = x)).length by unfold regsF; simp]; exact hov
  · have := own_of_some hown2 hk; omega

set_option maxHeartbeats 2000000 in
set_option maxRecDepth 100000 in
theorem gNodes_c {E L : List Mb} (p : Value) (x : Int) (w : World) (hall : ∀ w1, Below w.heap.size w w1 → Calls Try.prog 31 #[p] w1 (AllOf E w1)) (hs : SrtOf E L) (hE : E.length ≤ 100000) :
    Calls Try.prog 24 #[p, .int .u32 x] w (GivesU (nodsF L x) w) := by
  have hmf : ∀ (fn : Fn) (first cap : Array Value) (w : World), (Instr.makeFunc fn first cap).run Try.prog w = .ok (.func fn first cap) w := fun _ _ _ _ => rfl
  have hb0 := below_alloc w (.cells #[.int .u32 x] 22)
  have HALL := Lib.hid (hall _ hb0)
  clear hall
  have hx := cell_new w (.int .u32 x) 22
  have HS := Lib.hid hs
  have HB0 := Lib.hid hb0
  clear hs hb0
  go_enter Try.func24, Try.ntmps24
  go_wp2_with (first
    | (go_at_call 31; refine HALL.out.mono ?_; rintro en w1 ⟨v, acc, rfl, hp, hown, hb1⟩; have hx1 := cell_up hb1 hx)
    | (go_at_call 45; refine (srtU_c E L acc (fun m => m.node) (fun m => m.in_ && decide (m.region = x)) 46 #[.pointer (some ⟨w.heap.size, 0, none⟩)] v _ _ HS.out hp hown (by rw [hp.length_eq]; exact hE) enters_nods1 (fun m hm w2 hb => nods1_c w.heap.size x m w2 (hb.cell hx1 (fun e => by have := (own_of_some hown e).1; simp at this; omega)))).mono ?_; rintro en w2 ⟨v2, rfl, hown2, hb2⟩)
    | (go_at_call 44; refine (overU_c v2 _ (nodsF L x) _ (Sl.of_own hown2)).mono ?_; rintro en w3 ⟨rfl, hov, hb3, hz3⟩))
  go_ret
  have hB2 : Below w.heap.size w w2 := (below_up HB0.out hb1).trans (hb2.below (fun k e => by have := (own_of_some hown e).1; simp at this; omega) (below_up HB0.out hb1).size)
  have hz1 := hb1.size
  have hz2 := hB2.size
  have hz2' := hb2.size
  simp only [World.size_alloc] at hz1
  refine ⟨w2.heap.size, v2, rfl, ?_, hz2, by omega, fun k hk => ?_, below_up hB2 hb3⟩
  · rw [show (nodsF L x).length = (L.filter fun m => m.in_ && decide (m.region = x)).length by unfold nodsF; simp]; exact hov
  · have := own_of_some hown2 hk; omega
set_option maxHeartbeats 2000000 in
set_option maxRecDepth 100000 in
theorem gAllIt_c {E L : List Mb} (p : Value) (w : World) (hall : ∀ w1, Below w.heap.size w w1 → Calls Try.prog 31 #[p] w1 (AllOf E w1)) (hs : SrtOf E L) (hE : E.length ≤ 100000) :
    Calls Try.prog 34 #[p] w (GivesM L w) := by
  have HS := Lib.hid hs
  clear hs
  have hall : (L.filter fun _ => true) = L := List.filter_eq_self.2 (fun _ _ => rfl)
  have HA := Lib.hid hall
  clear hall
  go_enter Try.func34, Try.ntmps34
  go_wp2_with (first
    | (go_at_call 31; refine (hall _ (Below.refl _ _)).mono ?_; rintro en w1 ⟨v, acc, rfl, hp, hown, hb1⟩)
    | (go_at_call 51; refine (srtM_c E L acc (fun _ => true) 52 #[] v _ _ HS.out hp hown (by rw [hp.length_eq]; exact hE) enters_all1 (fun m hm w2 hb => all1_c m w2)).mono ?_; rintro en w2 ⟨v2, rfl, hown2, hb2⟩; rw [HA.out] at hown2)
    | (go_at_call 50; refine (overM_c v2 _ L _ (Sl.of_own hown2)).mono ?_; rintro en w3 ⟨rfl, hov, hb3, hz3⟩))
  go_ret
  have hB2 : Below w.heap.size w w2 := hb1.trans (hb2.below (fun k e => (own_of_some hown e).1) hb1.size)
  have hz1 := hb1.size
  have hz2 := hB2.size
  have hz2' := hb2.size
  refine ⟨w2.heap.size, v2, rfl, hov, hz2, by omega, fun k hk => ?_, below_up hB2 hb3⟩
  have := own_of_some hown2 hk; omega
set_option maxHeartbeats 4000000 in
set_option maxRecDepth 100000 in
theorem gHome_c (p : Value) (U : List Int) (x : Int) (w : World) (hreg : ∀ w1, Below w.heap.size w w1 → Calls Try.prog 41 #[p, .int .u32 x] w1 (GivesU U w1)) :
    Calls Try.prog 23 #[p, .int .u32 x] w (Ret (.int .u32 (U.headD 0)) w) := by
  have hb0 := below_alloc w (.cells #[.int .u32 0] 22)
  have X0 := RowAt.new w #[.int .u32 0] 22
  refine (callsIn_wide (n := 3)).1 ?_
  refine callsIn_of_wp_marks Try.func23 rfl trivial ?_ rfl
  simp only [Try.ntmps23, List.size_toArray, List.length_cons, List.length_nil, Nat.reduceAdd, Nat.reduceSub, Array.replicate_succ, Array.replicate_zero, List.push_toArray, List.append_toArray, List.nil_append, List.cons_append]
  refine wpIn_wide.2 ?_
  go_wp2_with (go_at_call 41; refine (hreg _ hb0).mono ?_; rintro en w1 ⟨C, v, rfl, hov, hC0, hC1, hvk, hb1⟩)
  have X1 := X0.below hb1
  have hB1 := below_new hb1
  have hz := hb1.size
  simp only [World.size_alloc] at hz hC0
  refine wpIn_wide.1 (wp_range (n := 3) (S := fun q => q = C ∨ v.ownBlock = some q) (gf := 54) (lb := #[.pointer (some ⟨C, 0, none⟩)]) rfl enters_overU
    (overU_x U C U.length v _ w1 hov ⟨.inl rfl, .inr fun k hk => .inr hk⟩) (Below.refl _ _) (fun _ => rfl)
    (fun q => q = w.heap.size) (fun k h => by omega) ?hS
    (fun k G W => k = 0 ∧ Below w.heap.size w W ∧ RowAt W w.heap.size #[.int .u32 0] 22 ∧ G w.heap.size)
    (fun k a' G W => (∃ g, a' = { tmps := #[p, .int .u32 x, undef, undef, .pointer (some ⟨w.heap.size, 0, none⟩), .int .u32 (uAt U k), p, .int .u32 x, g, .int .u32 (uAt U k), undef], defers := [] }) ∧ k = 0 ∧ Below w.heap.size w W ∧ RowAt W w.heap.size #[.int .u32 0] 22 ∧ G w.heap.size)
    (fun c k G W => c = .ret ∧ k = 1 ∧ Below w.heap.size w W ∧ RowAt W w.heap.size #[.int .u32 (uAt U 0)] 22 ∧ G w.heap.size)
    ?abI ?abM ?abX ⟨rfl, hB1, X1, rfl⟩ ?assign ?body ?done ?stop)
  case hS =>
    rintro q (rfl | hq)
    · exact ⟨hC1, by omega⟩
    · have := hvk q hq; simp only [World.size_alloc] at this; exact ⟨this.2, by omega⟩
  case abI =>
    rintro k G A B ⟨h1, h2, h3, h4⟩ hb
    exact ⟨h1, h2.trans (hb.below (fun k e => by omega) h2.size), (hb.same _ h3.lt (fun e => e.2 h4)).trans h3, h4⟩
  case abM =>
    rintro k a' G A B ⟨h0, h1, h2, h3, h4⟩ hb
    exact ⟨h0, h1, h2.trans (hb.below (fun k e => by omega) h2.size), (hb.same _ h3.lt (fun e => e.2 h4)).trans h3, h4⟩
  case abX =>
    rintro c k G A B ⟨h0, h1, h2, h3, h4⟩ hb
    exact ⟨h0, h1, h2.trans (hb.below (fun k e => by omega) h2.size), (hb.same _ h3.lt (fun e => e.2 h4)).trans h3, h4⟩
  case assign =>
    rintro l2 k G W K hk ⟨rfl, h2, h3, h4⟩ hK
    gi_wp2
    refine hK _ _ (But.refl _ _) ⟨⟨_, rfl⟩, by simp, h2, h3, newG_old h4⟩
  case body =>
    rintro l2 k a' G W hk hl2 _ hGl ⟨⟨g, rfl⟩, rfl, h2, h3, h4⟩
    have c0 := h3.cell (i := 0) (v := .int .u32 0) rfl
    have f0 := h3.fz 0
    gi_wp2
    exact ⟨But.setCell _ _ _ (.inl h4), rfl, rfl, h2.setCell (p := ⟨w.heap.size, 0, none⟩) (Nat.le_refl _) _, h3.set 0 _, newG_old h4⟩
  case done =>
    rintro D G W hD hGD ⟨h1, h2, h3, h4⟩ hK
    have c0 := h3.cell (i := 0) (v := .int .u32 0) rfl
    have f0 := h3.fz 0
    have HK := Lib.hid hK
    have HN := Lib.hid h1
    clear h1 hK
    go_wp2
    refine ⟨by simp, .inl ⟨_, _, rfl, run_takeDeferred ((Below.heap_setCell W ⟨w.heap.size, 0, none⟩ (.int .u32 0) D (by simp; omega)).trans HK.out), ?_⟩⟩
    have hp : But (· = D) (W.setCell ⟨w.heap.size, 0, none⟩ (.int .u32 0)) ((W.setCell ⟨w.heap.size, 0, none⟩ (.int .u32 0)).putObj D (.deferred none)) := But.putObj _ _ _ (.inl rfl)
    have R1 := (hp.same _ (h3.set 0 (.int .u32 0)).lt (by omega)).trans (h3.set 0 (.int .u32 0))
    have r0 := RowAt.cell R1 (i := 0) (v := .int .u32 0) rfl
    have hB3 := h2.setCell (p := ⟨w.heap.size, 0, none⟩) (Nat.le_refl _) (.int .u32 0)
    refine ⟨.int .u32 0, by simp [results, Try.results23, go_sem, r0], ?_, hB3.trans (hp.below (fun j e => by omega) hB3.size)⟩
    rw [List.eq_nil_of_length_eq_zero HN.out]
    rfl
  case stop =>
    rintro D c k G W hD hGD hk ⟨rfl, hk1, h2, h3, h4⟩ hK
    obtain rfl : k = 0 := by omega
    refine wpIn_wide.2 ?_
    have HK := Lib.hid hK
    go_wp2
    refine ⟨by simp, .inl ⟨_, _, rfl, run_takeDeferred HK.out, ?_⟩⟩
    have hp : But (· = D) W (W.putObj D (.deferred none)) := But.putObj _ _ _ (.inl rfl)
    have R1 := (hp.same _ h3.lt (by omega)).trans h3
    have r0 := RowAt.cell R1 (i := 0) (v := .int .u32 (uAt U 0)) rfl
    refine ⟨.int .u32 (uAt U 0), by simp [results, Try.results23, go_sem, r0], ?_, h2.trans (hp.below (fun j e => by omega) h2.size)⟩
    cases U with
    | nil => simp at hk
    | cons y r => rfl

theorem nRegions_c (p : Value) (x : Int) (w : World) (h : NoR w p) : Calls Try.prog 41 #[p, .int .u32 x] w (GivesU [] w) :=
  gRegions_c (E := []) (L := []) p x w (fun w1 hb => nAll_c p w1 (h.up hb)) srt_nil (by decide)
theorem nNodes_c (p : Value) (x : Int) (w : World) (h : NoR w p) : Calls Try.prog 24 #[p, .int .u32 x] w (GivesU [] w) :=
  gNodes_c (E := []) (L := []) p x w (fun w1 hb => nAll_c p w1 (h.up hb)) srt_nil (by decide)
theorem nAllIt_c (p : Value) (w : World) (h : NoR w p) : Calls Try.prog 34 #[p] w (GivesM [] w) :=
  gAllIt_c (E := []) (L := []) p w (fun w1 hb => nAll_c p w1 (h.up hb)) srt_nil (by decide)
theorem nHome_c (p : Value) (x : Int) (w : World) (h : NoR w p) : Calls Try.prog 23 #[p, .int .u32 x] w (Ret (.int .u32 0) w) :=
  gHome_c p [] x w (fun w1 hb => nRegions_c p x w1 (h.up hb))
set_option maxRecDepth 100000 in
theorem nLen_c (p : Value) (w : World) (h : NoR w p) : Calls Try.prog 14 #[p] w (Ret (.int .i64 0) w) := by
  go_enter Try.func14, Try.ntmps14
  go_wp2_with (go_at_call 31; refine (nAll_c _ _ h).mono ?_; rintro en w1 ⟨v, acc, rfl, hp, hown, hb⟩; obtain rfl : acc = [] := hp.eq_nil; obtain ⟨a, c, rfl⟩ := own_slice hown)
  go_ret
  exact ⟨rfl, hb⟩
theorem nCopy_c (p : Value) (w : World) (h : NoR w p) : Calls Try.prog 16 #[p] w (Ret (.pointer none) w) := by
  go_enter Try.func16, Try.ntmps16
  go_wp2_with (go_at_call 26; refine (nNone_c _ _ h).mono ?_; rintro en w1 ⟨rfl, rfl⟩)
  go_ret
  exact ⟨rfl, Below.refl _ _⟩
set_option maxRecDepth 100000 in
theorem nGet_c (p : Value) (n r : Int) (w : World) (h : NoR w p) : Calls Try.prog 36 #[p, .int .u32 n, .int .u32 r] w (Ret (.tuple #[mbV zmb, .bool false]) w) := by
  have hB0 := below_alloc w (.cells (mbC zmb).toArray 24)
  have h1 := h.up hB0
  go_enter Try.func36, Try.ntmps36
  go_wp2_with (go_at_call 26; refine (nNone_c _ _ h1).mono ?_; rintro en w1 ⟨rfl, rfl⟩)
  have Z1 := RowAt.new w (mbC zmb).toArray 24
  have z0 := Z1.cell (i := 0) (v := .int .u32 0) rfl
  have z1 := Z1.cell (i := 1) (v := .int .u32 0) rfl
  have z2 := Z1.cell (i := 2) (v := .int .u32 0) rfl
  have z3 := Z1.cell (i := 3) (v := .bool false) rfl
  exact bodyPost_ret (v := .tuple #[mbV zmb, .bool false]) (by simp [results, Try.results36, go_sem, z0, z1, z2, z3, zmb]) rfl ⟨rfl, hB0⟩
set_option maxRecDepth 100000 in
theorem nHas_c (p : Value) (n r : Int) (w : World) (h : NoR w p) : Calls Try.prog 37 #[p, .int .u32 n, .int .u32 r] w (Ret (.bool false) w) := by
  have hg := nGet_c p n r w h
  have hz : mbV zmb = .agg #[.int .u32 0, .int .u32 0, .int .u32 0, .bool false] := rfl
  rw [hz] at hg
  go_enter Try.func37, Try.ntmps37
  go_wp2_with (go_at_call 36; refine hg.mono ?_; rintro en w1 ⟨rfl, hb1⟩)
  go_ret
  exact ⟨rfl, hb1.alloc hb1.size _⟩
set_option maxRecDepth 100000 in
theorem nSame_c (p : Value) (w : World) (h : NoR w p) : Calls Try.prog 15 #[p, .pointer none] w (Ret (.bool true) w) := by
  have hn := fun w => nNone_c (.pointer none) w (.inl rfl)
  rcases h with rfl | ⟨B, rfl, hB⟩
  · go_enter Try.func15, Try.ntmps15
    go_wp2_with (go_at_call 26; refine (hn _).mono ?_; rintro en w1 ⟨rfl, rfl⟩)
    go_ret
    exact ⟨rfl, Below.refl _ _⟩
  · have hp := nNone_c (.pointer (some ⟨B, 0, none⟩)) w (.inr ⟨B, rfl, hB⟩)
    go_enter Try.func15, Try.ntmps15
    go_wp2_with (first
      | (go_at_call 26; (with_reducible refine (hn _).mono ?_); rintro en w1 ⟨rfl, rfl⟩)
      | (go_at_call 26; (with_reducible refine hp.mono ?_); rintro en w1 ⟨rfl, rfl⟩))
    go_ret
    exact ⟨rfl, Below.refl _ _⟩
set_option maxHeartbeats 1000000 in
set_option maxRecDepth 100000 in
theorem nTell_c (p : Value) (m : Mb) (w : World) (h : NoR w p) : Calls Try.prog 12 #[p, mbV m] w (Ret (.int .i64 1) w) := by
  obtain ⟨q0, rfl⟩ := h.ptr
  have hmf : ∀ (fn : Fn) (first cap : Array Value) (w : World), (Instr.makeFunc fn first cap).run Try.prog w = .ok (.func fn first cap) w := fun _ _ _ _ => rfl
  have hB2 : Below w.heap.size w ((w.alloc (.cells #[.pointer q0] 27)).alloc (.cells (mbC m).toArray 24)) := (below_alloc w _).alloc (by simp) _
  have P0 := cell_up (below_alloc (w.alloc (.cells #[.pointer q0] 27)) (.cells (mbC m).toArray 24)) (cell_new w (.pointer q0) 27)
  have hsl := Sl.of_own (World.ownsRow_lit ((w.alloc (.cells #[.pointer q0] 27)).alloc (.cells (mbC m).toArray 24)) [.func (.func 26) #[.pointer q0] #[], .int .i64 1, .func (.func 27) #[] #[.pointer (some ⟨w.heap.size + 1, 0, none⟩)], .int .i64 2, .func (.func 28) #[] #[.pointer (some ⟨w.heap.size, 0, none⟩), .pointer (some ⟨w.heap.size + 1, 0, none⟩)], .int .i64 300, .func (.func 30) #[] #[.pointer (some ⟨w.heap.size, 0, none⟩), .pointer (some ⟨w.heap.size + 1, 0, none⟩)], .int .i64 301].toArray 4 (size := 2) (e := 58) (Nat.le_refl _) (by decide) rfl)
  simp only [World.size_alloc] at hsl
  have hB3 := hB2.alloc hB2.size (.cells [.func (.func 26) #[.pointer q0] #[], .int .i64 1, .func (.func 27) #[] #[.pointer (some ⟨w.heap.size + 1, 0, none⟩)], .int .i64 2, .func (.func 28) #[] #[.pointer (some ⟨w.heap.size, 0, none⟩), .pointer (some ⟨w.heap.size + 1, 0, none⟩)], .int .i64 300, .func (.func 30) #[] #[.pointer (some ⟨w.heap.size, 0, none⟩), .pointer (some ⟨w.heap.size + 1, 0, none⟩)], .int .i64 301].toArray 58)
  have hask := cAskedF_c ⟨26, #[.pointer q0], #[], 1, true⟩ [⟨27, #[], #[.pointer (some ⟨w.heap.size + 1, 0, none⟩)], 2, true⟩, ⟨28, #[], #[.pointer (some ⟨w.heap.size, 0, none⟩), .pointer (some ⟨w.heap.size + 1, 0, none⟩)], 300, true⟩, ⟨30, #[], #[.pointer (some ⟨w.heap.size, 0, none⟩), .pointer (some ⟨w.heap.size + 1, 0, none⟩)], 301, true⟩] _ 4 _ hsl rfl enters_none
    (fun w1 hb => (Calls.cast rfl (nNone_c (.pointer q0) w1 ((h.up hB3).up hb))).mono fun en w' ⟨he, hw'⟩ => ⟨he, hw' ▸ Below.refl _ _⟩)
  have HB3 := Lib.hid hB3
  clear hsl hB3
  go_enter Try.func12, Try.ntmps12
  go_wp2_with (go_at_call 25; refine hask.mono ?_; rintro en w4 ⟨rfl, hb4⟩)
  go_ret
  exact ⟨rfl, below_up HB3.out hb4⟩
set_option maxRecDepth 100000 in
theorem nJoin_c (p q : Value) (w : World) (h : NoR w p) : Calls Try.prog 17 #[p, q] w (Ret (.tuple #[.int .i64 0, .int .i64 1]) w) := by
  obtain ⟨q0, rfl⟩ := h.ptr
  have hB2 : Below w.heap.size w ((w.alloc (.cells #[.pointer q0] 27)).alloc (.cells #[.int .i64 0] 3)) := (below_alloc w _).alloc (by simp) _
  have P0 := cell_up (below_alloc (w.alloc (.cells #[.pointer q0] 27)) (.cells #[.int .i64 0] 3)) (cell_new w (.pointer q0) 27)
  have h1 := h.up hB2
  have N0 := RowAt.new (w.alloc (.cells #[.pointer q0] 27)) #[.int .i64 0] 3
  rw [World.size_alloc] at N0
  have n0 := N0.cell (i := 0) (v := .int .i64 0) rfl
  go_enter Try.func17, Try.ntmps17
  go_wp2_with (go_at_call 26; refine (nNone_c _ _ h1).mono ?_; rintro en w1 ⟨rfl, rfl⟩)
  exact bodyPost_ret (v := .tuple #[.int .i64 0, .int .i64 1]) (by simp [results, Try.results17, go_sem, n0]) rfl ⟨rfl, hB2⟩
set_option maxRecDepth 100000 in
theorem nJoinR_c {B M : Nat} {E : List Mb} (q : Value) (w : World) (hr : RollAt w B M E) (h : NoR w q) : Calls Try.prog 17 #[.pointer (some ⟨B, 0, none⟩), q] w (Ret (.tuple #[.int .i64 0, .int .i64 1]) w) := by
  have hB2 : Below w.heap.size w ((w.alloc (.cells #[.pointer (some ⟨B, 0, none⟩)] 27)).alloc (.cells #[.int .i64 0] 3)) := (below_alloc w _).alloc (by simp) _
  have P0 := cell_up (below_alloc (w.alloc (.cells #[.pointer (some ⟨B, 0, none⟩)] 27)) (.cells #[.int .i64 0] 3)) (cell_new w (.pointer (some ⟨B, 0, none⟩)) 27)
  have h1 := h.up hB2
  have hr1 := rNone_c _ (hr.below hB2)
  have N0 := RowAt.new (w.alloc (.cells #[.pointer (some ⟨B, 0, none⟩)] 27)) #[.int .i64 0] 3
  rw [World.size_alloc] at N0
  have n0 := N0.cell (i := 0) (v := .int .i64 0) rfl
  have hn := nNone_c q _ h1
  have T1 := Lib.hid True.intro
  go_enter Try.func17, Try.ntmps17
  go_wp2_with (first
    | (go_at_call 26; have T2 := T1; clear T2 T1; refine hr1.mono ?_; rintro en w1 ⟨rfl, rfl⟩)
    | (go_at_call 26; refine hn.mono ?_; rintro en w1 ⟨rfl, rfl⟩))
  exact bodyPost_ret (v := .tuple #[.int .i64 0, .int .i64 1]) (by simp [results, Try.results17, go_sem, n0]) rfl ⟨rfl, hB2⟩
end Go.Proofs.Yteakpppabgbpeaa
