/-
  Regions, Nodes, All, Len, Home.
-/
import Derived.Test.YteakpppabgbpeaaMemH
import Derived.Test.YteakpppabgbpeaaMemI
namespace Go.Proofs.Yteakpppabgbpeaa
open Go.RowKit Go.Maps Mem
set_option linter.unusedSimpArgs false
set_option linter.unusedVariables false
attribute [local go_sem] Oper.semAt_some

namespace Mem
def regsF (L : List Mb) (x : Int) : List Int := (L.filter fun m => m.in_ && decide (m.node = x)).map (·.region)
def nodsF (L : List Mb) (x : Int) : List Int := (L.filter fun m => m.in_ && decide (m.region = x)).map (·.node)
def homeF (L : List Mb) (x : Int) : Int := (regsF L x).headD 0
end Mem
/-- An iterator over a slice of one's own. -/
def GivesU (l : List Int) (w : World) (en : Ending) (w' : World) : Prop :=
  ∃ (C : Nat) (v : Value), en = .returned (.func (.func 54) #[] #[.pointer (some ⟨C, 0, none⟩)]) ∧ OvAt w' C v l.length 1 (l.map (Value.int .u32)) ∧ w.heap.size ≤ C ∧ C < w'.heap.size ∧ (∀ k, v.ownBlock = some k → w.heap.size ≤ k ∧ k < w'.heap.size) ∧ Below w.heap.size w w'
def GivesM (l : List Mb) (w : World) (en : Ending) (w' : World) : Prop :=
  ∃ (C : Nat) (v : Value), en = .returned (.func (.func 61) #[] #[.pointer (some ⟨C, 0, none⟩)]) ∧ OvAt w' C v l.length 4 (l.flatMap mbC) ∧ w.heap.size ≤ C ∧ C < w'.heap.size ∧ (∀ k, v.ownBlock = some k → w.heap.size ≤ k ∧ k < w'.heap.size) ∧ Below w.heap.size w w'

set_option maxHeartbeats 2000000 in
set_option maxRecDepth 100000 in
theorem rRegions_c {B M : Nat} {E L : List Mb} (x : Int) (w : World) (h : RollAt w B M E) (hs : SrtOf E L) (hE : E.length ≤ 100000) :
    Calls Try.prog 41 #[.pointer (some ⟨B, 0, none⟩), .int .u32 x] w (GivesU (regsF L x) w) := by
  have hmf : ∀ (fn : Fn) (first cap : Array Value) (w : World), (Instr.makeFunc fn first cap).run Try.prog w = .ok (.func fn first cap) w := fun _ _ _ _ => rfl
  have hb0 := below_alloc w (.cells #[.int .u32 x] 22)
  have h1 := h.below hb0
  have hx := cell_new w (.int .u32 x) 22
  have HS := Lib.hid hs
  have HB0 := Lib.hid hb0
  clear hs hb0
  go_enter Try.func41, Try.ntmps41
  go_wp2_with (first
    | (go_at_call 31; refine (rAll_c _ h1 hE).mono ?_; rintro en w1 ⟨v, acc, rfl, hp, hown, hb1⟩; have hx1 := cell_up hb1 hx)
    | (go_at_call 45; refine (srtU_c E L acc (fun m => m.region) (fun m => m.in_ && decide (m.node = x)) 53 #[.pointer (some ⟨w.heap.size, 0, none⟩)] v _ _ HS.out hp hown (by rw [hp.length_eq]; exact hE) enters_regs1 (fun m hm w2 hb => regs1_c w.heap.size x m w2 (hb.cell hx1 (fun e => by have := (own_of_some hown e).1; simp at this; omega)))).mono ?_; rintro en w2 ⟨v2, rfl, hown2, hb2⟩)
    | (go_at_call 44; refine (overU_c v2 _ (regsF L x) _ (Sl.of_own hown2)).mono ?_; rintro en w3 ⟨rfl, hov, hb3, hz3⟩))
  go_ret
  have hB2 : Below w.heap.size w w2 := (below_up HB0.out hb1).trans (hb2.below (fun k e => by have := (own_of_some hown e).1; simp at this; omega) (below_up HB0.out hb1).size)
  have hz1 := hb1.size
  have hz2 := hB2.size
  have hz2' := hb2.size
  simp only [World.size_alloc] at hz1
  refine ⟨w2.heap.size, v2, rfl, ?_, hz2, by omega, fun k hk => ?_, below_up hB2 hb3⟩
  · rw [show (regsF L x).length = (L.filter fun m => m.in_ && decide (m.node = x)).length by unfold regsF; simp]; exact hov
  · have := own_of_some hown2 hk; omega

set_option maxHeartbeats 2000000 in
set_option maxRecDepth 100000 in
theorem rNodes_c {B M : Nat} {E L : List Mb} (x : Int) (w : World) (h : RollAt w B M E) (hs : SrtOf E L) (hE : E.length ≤ 100000) :
    Calls Try.prog 24 #[.pointer (some ⟨B, 0, none⟩), .int .u32 x] w (GivesU (nodsF L x) w) := by
  have hmf : ∀ (fn : Fn) (first cap : Array Value) (w : World), (Instr.makeFunc fn first cap).run Try.prog w = .ok (.func fn first cap) w := fun _ _ _ _ => rfl
  have hb0 := below_alloc w (.cells #[.int .u32 x] 22)
  have h1 := h.below hb0
  have hx := cell_new w (.int .u32 x) 22
  have HS := Lib.hid hs
  have HB0 := Lib.hid hb0
  clear hs hb0
  go_enter Try.func24, Try.ntmps24
  go_wp2_with (first
    | (go_at_call 31; refine (rAll_c _ h1 hE).mono ?_; rintro en w1 ⟨v, acc, rfl, hp, hown, hb1⟩; have hx1 := cell_up hb1 hx)
    | (go_at_call 45; refine (srtU_c E L acc (fun m => m.node) (fun m => m.in_ && decide (m.region = x)) 46 #[.pointer (some ⟨w.heap.size, 0, none⟩)] v _ _ HS.out hp hown (by rw [hp.length_eq]; exact hE) enters_nods1 (fun m hm w2 hb => nods1_c w.heap.size x m w2 (hb.cell hx1 (fun e => by have := (own_of_some hown e).1; simp at this; omega)))).mono ?_; rintro en w2 ⟨v2, rfl, hown2, hb2⟩)
    | (go_at_call 44; refine (overU_c v2 _ (nodsF L x) _ (Sl.of_own hown2)).mono ?_; rintro en w3 ⟨rfl, hov, hb3, hz3⟩))
  go_ret
  have hB2 : Below w.heap.size w w2 := (below_up HB0.out hb1).trans (hb2.below (fun k e => by have := (own_of_some hown e).1; simp at this; omega) (below_up HB0.out hb1).size)
  have hz1 := hb1.size
  have hz2 := hB2.size
  have hz2' := hb2.size
  simp only [World.size_alloc] at hz1
  refine ⟨w2.heap.size, v2, rfl, ?_, hz2, by omega, fun k hk => ?_, below_up hB2 hb3⟩
  · rw [show (nodsF L x).length = (L.filter fun m => m.in_ && decide (m.region = x)).length by unfold nodsF; simp]; exact hov
  · have := own_of_some hown2 hk; omega

set_option maxHeartbeats 2000000 in
set_option maxRecDepth 100000 in
theorem rAllIt_c {B M : Nat} {E L : List Mb} (w : World) (h : RollAt w B M E) (hs : SrtOf E L) (hE : E.length ≤ 100000) :
    Calls Try.prog 34 #[.pointer (some ⟨B, 0, none⟩)] w (GivesM L w) := by
  have HS := Lib.hid hs
  clear hs
  have hall : (L.filter fun _ => true) = L := List.filter_eq_self.2 (fun _ _ => rfl)
  have HA := Lib.hid hall
  clear hall
  go_enter Try.func34, Try.ntmps34
  go_wp2_with (first
    | (go_at_call 31; refine (rAll_c _ h hE).mono ?_; rintro en w1 ⟨v, acc, rfl, hp, hown, hb1⟩)
    | (go_at_call 51; refine (srtM_c E L acc (fun _ => true) 52 #[] v _ _ HS.out hp hown (by rw [hp.length_eq]; exact hE) enters_all1 (fun m hm w2 hb => all1_c m w2)).mono ?_; rintro en w2 ⟨v2, rfl, hown2, hb2⟩; rw [HA.out] at hown2)
    | (go_at_call 50; refine (overM_c v2 _ L _ (Sl.of_own hown2)).mono ?_; rintro en w3 ⟨rfl, hov, hb3, hz3⟩))
  go_ret
  have hB2 : Below w.heap.size w w2 := hb1.trans (hb2.below (fun k e => (own_of_some hown e).1) hb1.size)
  have hz1 := hb1.size
  have hz2 := hB2.size
  have hz2' := hb2.size
  refine ⟨w2.heap.size, v2, rfl, hov, hz2, by omega, fun k hk => ?_, below_up hB2 hb3⟩
  have := own_of_some hown2 hk; omega
theorem rLen_c {B M : Nat} {E : List Mb} (w : World) (h : RollAt w B M E) (hE : E.length ≤ 100000) :
    Calls Try.prog 14 #[.pointer (some ⟨B, 0, none⟩)] w (Ret (.int .i64 (E.length : Nat)) w) := by
  go_enter Try.func14, Try.ntmps14
  go_wp2_with (first
    | (go_at_call 31; refine (rAll_c _ h hE).mono ?_; rintro en w1 ⟨v, acc, rfl, hp, hown, hb1⟩; obtain ⟨a, c, rfl⟩ := own_slice hown; have hl := hp.length_eq))
  go_ret
  exact ⟨rfl, hb1⟩

set_option maxHeartbeats 4000000 in
set_option maxRecDepth 100000 in
theorem rHome_c {B M : Nat} {E L : List Mb} (x : Int) (w : World) (h : RollAt w B M E) (hs : SrtOf E L) (hE : E.length ≤ 100000) :
    Calls Try.prog 23 #[.pointer (some ⟨B, 0, none⟩), .int .u32 x] w (Ret (.int .u32 (homeF L x)) w) := by
  have hb0 := below_alloc w (.cells #[.int .u32 0] 22)
  have h1 := h.below hb0
  have X0 := RowAt.new w #[.int .u32 0] 22
  refine (callsIn_wide (n := 3)).1 ?_
  refine callsIn_of_wp_marks Try.func23 rfl trivial ?_ rfl
  simp only [Try.ntmps23, List.size_toArray, List.length_cons, List.length_nil, Nat.reduceAdd, Nat.reduceSub, Array.replicate_succ, Array.replicate_zero, List.push_toArray, List.append_toArray, List.nil_append, List.cons_append]
  refine wpIn_wide.2 ?_
  go_wp2_with (go_at_call 41; refine (rRegions_c x _ h1 hs hE).mono ?_; rintro en w1 ⟨C, v, rfl, hov, hC0, hC1, hvk, hb1⟩)
  have X1 := X0.below hb1
  have hB1 := below_new hb1
  have hz := hb1.size
  simp only [World.size_alloc] at hz hC0
  have HM := Lib.hid (show homeF L x = (regsF L x).headD 0 from rfl)
  obtain ⟨U, hU⟩ : ∃ U, regsF L x = U := ⟨_, rfl⟩
  rw [hU] at hov HM
  refine wpIn_wide.1 (wp_range (n := 3) (S := fun q => q = C ∨ v.ownBlock = some q) (gf := 54) (lb := #[.pointer (some ⟨C, 0, none⟩)]) rfl enters_overU
    (overU_x U C U.length v _ w1 hov ⟨.inl rfl, .inr fun k hk => .inr hk⟩) (Below.refl _ _) (fun _ => rfl)
    (fun q => q = w.heap.size) (fun k h => by omega) ?hS
    (fun k G W => k = 0 ∧ Below w.heap.size w W ∧ RowAt W w.heap.size #[.int .u32 0] 22 ∧ G w.heap.size)
    (fun k a' G W => (∃ g, a' = { tmps := #[.pointer (some ⟨B, 0, none⟩), .int .u32 x, undef, undef, .pointer (some ⟨w.heap.size, 0, none⟩), .int .u32 (uAt U k), .pointer (some ⟨B, 0, none⟩), .int .u32 x, g, .int .u32 (uAt U k), undef], defers := [] }) ∧ k = 0 ∧ Below w.heap.size w W ∧ RowAt W w.heap.size #[.int .u32 0] 22 ∧ G w.heap.size)
    (fun c k G W => c = .ret ∧ k = 1 ∧ Below w.heap.size w W ∧ RowAt W w.heap.size #[.int .u32 (uAt U 0)] 22 ∧ G w.heap.size)
    ?abI ?abM ?abX ⟨rfl, hB1, X1, rfl⟩ ?assign ?body ?done ?stop)
  case hS =>
    rintro q (rfl | hq)
    · exact ⟨hC1, by omega⟩
    · have := hvk q hq; simp only [World.size_alloc] at this; exact ⟨this.2, by omega⟩
  case abI =>
    rintro k G A B ⟨h1, h2, h3, h4⟩ hb
    exact ⟨h1, h2.trans (hb.below (fun k e => by omega) h2.size), (hb.same _ h3.lt (fun e => e.2 h4)).trans h3, h4⟩
  case abM =>
    rintro k a' G A B ⟨h0, h1, h2, h3, h4⟩ hb
    exact ⟨h0, h1, h2.trans (hb.below (fun k e => by omega) h2.size), (hb.same _ h3.lt (fun e => e.2 h4)).trans h3, h4⟩
  case abX =>
    rintro c k G A B ⟨h0, h1, h2, h3, h4⟩ hb
    exact ⟨h0, h1, h2.trans (hb.below (fun k e => by omega) h2.size), (hb.same _ h3.lt (fun e => e.2 h4)).trans h3, h4⟩
  case assign =>
    rintro l2 k G W K hk ⟨rfl, h2, h3, h4⟩ hK
    gi_wp2
    refine hK _ _ (But.refl _ _) ⟨⟨_, rfl⟩, by simp, h2, h3, newG_old h4⟩
  case body =>
    rintro l2 k a' G W hk hl2 _ hGl ⟨⟨g, rfl⟩, rfl, h2, h3, h4⟩
    have c0 := h3.cell (i := 0) (v := .int .u32 0) rfl
    have f0 := h3.fz 0
    gi_wp2
    exact ⟨But.setCell _ _ _ (.inl h4), rfl, rfl, h2.setCell (p := ⟨w.heap.size, 0, none⟩) (Nat.le_refl _) _, h3.set 0 _, newG_old h4⟩
  case done =>
    rintro D G W hD hGD ⟨h1, h2, h3, h4⟩ hK
    have c0 := h3.cell (i := 0) (v := .int .u32 0) rfl
    have f0 := h3.fz 0
    have HK := Lib.hid hK
    have HN := Lib.hid h1
    clear h1 hK
    go_wp2
    refine ⟨by simp, .inl ⟨_, _, rfl, run_takeDeferred ((Below.heap_setCell W ⟨w.heap.size, 0, none⟩ (.int .u32 0) D (by simp; omega)).trans HK.out), ?_⟩⟩
    have hp : But (· = D) (W.setCell ⟨w.heap.size, 0, none⟩ (.int .u32 0)) ((W.setCell ⟨w.heap.size, 0, none⟩ (.int .u32 0)).putObj D (.deferred none)) := But.putObj _ _ _ (.inl rfl)
    have R1 := (hp.same _ (h3.set 0 (.int .u32 0)).lt (by omega)).trans (h3.set 0 (.int .u32 0))
    have r0 := RowAt.cell R1 (i := 0) (v := .int .u32 0) rfl
    have hB3 := h2.setCell (p := ⟨w.heap.size, 0, none⟩) (Nat.le_refl _) (.int .u32 0)
    refine ⟨.int .u32 0, by simp [results, Try.results23, go_sem, r0], ?_, hB3.trans (hp.below (fun j e => by omega) hB3.size)⟩
    rw [HM.out, List.eq_nil_of_length_eq_zero HN.out]
    rfl
  case stop =>
    rintro D c k G W hD hGD hk ⟨rfl, hk1, h2, h3, h4⟩ hK
    obtain rfl : k = 0 := by omega
    refine wpIn_wide.2 ?_
    have HK := Lib.hid hK
    go_wp2
    refine ⟨by simp, .inl ⟨_, _, rfl, run_takeDeferred HK.out, ?_⟩⟩
    have hp : But (· = D) W (W.putObj D (.deferred none)) := But.putObj _ _ _ (.inl rfl)
    have R1 := (hp.same _ h3.lt (by omega)).trans h3
    have r0 := RowAt.cell R1 (i := 0) (v := .int .u32 (uAt U 0)) rfl
    refine ⟨.int .u32 (uAt U 0), by simp [results, Try.results23, go_sem, r0], ?_, h2.trans (hp.below (fun j e => by omega) h2.size)⟩
    rw [HM.out]
    cases U with
    | nil => simp at hk
    | cons y r => rfl
end Go.Proofs.Yteakpppabgbpeaa
