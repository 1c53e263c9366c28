/-
  The chapter's rows: works.
-/
import Derived.Test.YtgbpdchdcbnoaaaConJ
namespace Go.Proofs.Ytgbpdchdcbnoaaa
open Go.RowKit Vol
set_option linter.unusedSimpArgs false
set_option linter.unusedVariables false

namespace Vol
def k1 : Ct := ⟨1, 2, 5, 10, 3⟩
def kx : Ct := ⟨1, 2, 9, 12, 3⟩
def k2 : Ct := ⟨1, 2, 10, 12, 4⟩
def k3 : Ct := ⟨2, 1, 5, 10, 3⟩
def k4 : Ct := ⟨1, 1, 5, 10, 3⟩
theorem wa1 : addF [] k1 = (0, [k1]) := by decide
theorem wa2 : addF [k1] kx = (270, [k1]) := by decide
theorem wa3 : addF [k1] k2 = (0, [k1, k2]) := by decide
theorem wa4 : addF [k1, k2] k3 = (0, [k1, k2, k3]) := by decide
theorem wa5 : addF [] k4 = (2, []) := by decide
theorem wat : atR [k1, k2, k3] 1 2 10 = some k2 := by decide
theorem wnx : nextF [k1, k2, k3] 5 = (10, true) := by decide
theorem wpr : pruneF [k1, k2, k3] 10 = [k2] := by decide
theorem wd1 : atR [k2] 1 2 10 = some k2 := by decide
theorem wd2 : dropF [k2] 1 2 10 = [] := by decide
theorem wd3 : atR [] 1 2 10 = none := by decide
theorem wd4 : dropF [] 1 2 10 = [] := by decide
theorem wp0 : PInv [] := PInv.nil
theorem wp1 : PInv [k1] := by have := wp0.add k1; rwa [wa1] at this
theorem wp2 : PInv [k1, k2] := by have := wp1.add k2; rwa [wa3] at this
theorem ww1 : k1.Wf := ⟨by decide, by decide, by decide, by decide, by decide, by decide, by decide⟩
theorem wwx : kx.Wf := ⟨by decide, by decide, by decide, by decide, by decide, by decide, by decide⟩
theorem ww2 : k2.Wf := ⟨by decide, by decide, by decide, by decide, by decide, by decide, by decide⟩
theorem ww3 : k3.Wf := ⟨by decide, by decide, by decide, by decide, by decide, by decide, by decide⟩
theorem ww4 : k4.Wf := ⟨by decide, by decide, by decide, by decide, by decide, by decide, by decide⟩
end Vol
theorem RowAt.but {w w' : World} {H : Nat} {cs : Array Value} {T : TypeId} (h : RowAt w H cs T) {O : Nat → Prop} (hb : But O w w') (hO : ¬ O H) : RowAt w' H cs T := (hb.same H h.lt hO).trans h
theorem addK {B : Nat} {v : Value} {L L' : List Ct} {e : Int} (c : Ct) (hw : c.Wf) (hL : L.length ≤ 100000) (hi : PInv L) (ha : Vol.addF L c = (e, L')) (w : World) (h : PlanAt w B v L) :
    Calls Try.prog 13 #[.pointer (some ⟨B, 0, none⟩), ctV c] w fun en w' => ∃ v', en = .returned (.int .i64 e) ∧ PlanAt w' B v' L' ∧ But (· = B) w w' ∧ (v' = v ∨ ∀ k, v'.ownBlock = some k → w.heap.size ≤ k ∧ k < w'.heap.size) := by
  have := pAdd_c c hw hL (fun _ _ => hi.mono c) w h
  rwa [ha] at this
theorem dropK {B : Nat} {v : Value} {L L' : List Ct} {o : Option Ct} (f t at_ : Int) (hL : L.length ≤ 100000) (ha : atR L f t at_ = o) (hd : dropF L f t at_ = L') (w : World) (h : PlanAt w B v L) :
    Calls Try.prog 17 #[.pointer (some ⟨B, 0, none⟩), .int .u32 f, .int .u32 t, .int .u64 at_] w fun en w' => ∃ v', en = .returned (.tuple #[ctV (o.getD zct0), .int .i64 (dropE o)]) ∧ PlanAt w' B v' L' ∧ But (· = B) w w' ∧ (v' = v ∨ ∀ k, v'.ownBlock = some k → w.heap.size ≤ k ∧ k < w'.heap.size) := by
  have := pDrop_c f t at_ w h hL
  rwa [ha, hd] at this

set_option maxHeartbeats 8000000 in
set_option maxRecDepth 100000 in
theorem cWorks_c (w : World) : Calls Try.prog 11 #[] w (Ret (.bool true) w) := by
  have hq2 := ct_eql k2 k2
  simp only [decide_true] at hq2
  have T1 := Lib.hid True.intro
  have T2 := Lib.hid True.intro
  have T3 := Lib.hid True.intro
  have T4 := Lib.hid True.intro
  have D1 := Lib.hid True.intro
  go_enter Try.func11, Try.ntmps11
  go_wp2_with (first
    | (go_at_call 12; refine (pNew_c _).mono ?_; rintro en w1 ⟨rfl, HP, hb⟩; have HB := Lib.hid hb; clear hb)
    | (go_at_call 14; have Z8 := Z9; refine (met_c _ _ _ _ _ _).mono ?_; rintro en w1 ⟨rfl, hb⟩; replace HP := HP.below hb; replace X6 := X6.below hb; replace Y6 := Y6.below hb; replace HB := Lib.hid (below_up HB.out hb); clear hb)
    | (go_at_call 14; refine (met_c _ _ _ _ _ _).mono ?_; rintro en w1 ⟨rfl, hb⟩; replace HP := HP.below hb; replace HB := Lib.hid (below_up HB.out hb); clear hb)
    | (go_at_call 13; have T0 := T1; clear T0 T1; refine (addK k1 ww1 (by decide) wp0 wa1 _ HP).mono ?_; rintro en w1 ⟨v1, rfl, HP1, hb, _⟩; replace HP := HP1; clear HP1; replace HB := Lib.hid (HB.out.trans (hb.below (fun k hk => by omega) HB.out.size)); clear hb)
    | (go_at_call 13; have T0 := T2; clear T0 T2; refine (addK kx wwx (by decide) wp1 wa2 _ HP).mono ?_; rintro en w1 ⟨v1, rfl, HP1, hb, _⟩; replace HP := HP1; clear HP1; replace HB := Lib.hid (HB.out.trans (hb.below (fun k hk => by omega) HB.out.size)); clear hb)
    | (go_at_call 13; have T0 := T3; clear T0 T3; refine (addK k2 ww2 (by decide) wp1 wa3 _ HP).mono ?_; rintro en w1 ⟨v1, rfl, HP1, hb, _⟩; replace HP := HP1; clear HP1; replace HB := Lib.hid (HB.out.trans (hb.below (fun k hk => by omega) HB.out.size)); clear hb)
    | (go_at_call 13; have T0 := T4; clear T0 T4; refine (addK k3 ww3 (by decide) wp2 wa4 _ HP).mono ?_; rintro en w1 ⟨v1, rfl, HP1, hb, _⟩; replace HP := HP1; clear HP1; replace HB := Lib.hid (HB.out.trans (hb.below (fun k hk => by omega) HB.out.size)); clear hb)
    | (go_at_call 18; refine (pAt_c 1 2 10 _ HP).mono ?_; rw [wat]; rintro en w1 ⟨rfl, hb⟩; have HP0 := HP.below hb; replace HP := HP0.below (below_alloc w1 (.cells (ctC k2).toArray 27)); replace HB := Lib.hid (below_up (below_up HB.out hb) (below_alloc w1 (.cells (ctC k2).toArray 27))); have X6 := RowAt.new w1 (ctC k2).toArray 27; have hX6 : ¬ w1.heap.size = w.heap.size := by have := HP0.var.lt; omega)
    | (go_at_call 27; refine (pNext_c 5 _ HP).mono ?_; rw [wnx]; rintro en w2 ⟨rfl, hb⟩; replace HP := HP.below hb; replace X6 := X6.below hb; replace HB := Lib.hid (below_up HB.out hb); clear hb)
    | (go_at_call 28; refine (pPrune_c 10 _ HP (by decide)).mono ?_; rw [wpr]; rintro en w3 ⟨v3, rfl, HP1, hb, _⟩; replace HP := HP1; clear HP1; replace X6 := X6.but hb hX6; replace HB := Lib.hid (HB.out.trans (hb.below (fun k hk => by omega) HB.out.size)); clear hb)
    | (go_at_call 15; refine (pLen_c _ HP).mono ?_; rintro en w2 ⟨rfl, rfl⟩)
    | (go_at_call 17; have T0 := D1; clear T0 D1; refine (dropK 1 2 10 (by decide) wd1 wd2 _ HP).mono ?_; simp only [Option.getD_some, dropE]; rintro en w4 ⟨v4, rfl, HP1, hb, _⟩; have HPd := HP1; replace HP := HP1.below (below_alloc w4 (.cells (ctC k2).toArray 27)); clear HP1; replace X6 := (X6.but hb hX6).below (below_alloc w4 (.cells (ctC k2).toArray 27)); replace HB := Lib.hid (below_up (HB.out.trans (hb.below (fun k hk => by omega) HB.out.size)) (below_alloc w4 (.cells (ctC k2).toArray 27))); have Y6 := RowAt.new w4 (ctC k2).toArray 27; have hY6 : ¬ w4.heap.size = w.heap.size := (by have := HPd.var.lt; omega); clear hb)
    | (go_at_call 17; refine (dropK 1 2 10 (by decide) wd3 wd4 _ HP).mono ?_; simp only [Option.getD_none, dropE]; rintro en w5 ⟨v5, rfl, HP1, hb, _⟩; replace HP := HP1.below (below_alloc w5 (.cells (ctC zct0).toArray 27)); clear HP1; replace X6 := (X6.but hb hX6).below (below_alloc w5 (.cells (ctC zct0).toArray 27)); replace Y6 := (Y6.but hb hY6).below (below_alloc w5 (.cells (ctC zct0).toArray 27)); replace HB := Lib.hid (below_up (HB.out.trans (hb.below (fun k hk => by omega) HB.out.size)) (below_alloc w5 (.cells (ctC zct0).toArray 27))); clear hb; have Z9 := Lib.hid True.intro)
    | (go_at_call 13; have Z8 := Z9; clear Z8 Z9; refine (addK k4 ww4 (by decide) wp0 wa5 _ HP).mono ?_; rintro en w6 ⟨v6, rfl, HP1, hb, _⟩; replace HP := HP1; clear HP1; replace X6 := X6.but hb hX6; replace Y6 := Y6.but hb hY6; replace HB := Lib.hid (HB.out.trans (hb.below (fun k hk => by omega) HB.out.size)); clear hb; have x0 := X6.cell (i := 0) (v := .int .u32 1) rfl; have x1 := X6.cell (i := 1) (v := .int .u32 2) rfl; have x2 := X6.cell (i := 2) (v := .int .u64 10) rfl; have x3 := X6.cell (i := 3) (v := .int .u64 12) rfl; have x4 := X6.cell (i := 4) (v := .int .u64 4) rfl; have y0 := Y6.cell (i := 0) (v := .int .u32 1) rfl; have y1 := Y6.cell (i := 1) (v := .int .u32 2) rfl; have y2 := Y6.cell (i := 2) (v := .int .u64 10) rfl; have y3 := Y6.cell (i := 3) (v := .int .u64 12) rfl; have y4 := Y6.cell (i := 4) (v := .int .u64 4) rfl)
    | (go_at_call 9; refine (num_cc _ _).mono ?_; rintro en ww ⟨rfl, rfl⟩))
  go_ret
  exact ⟨rfl, HB.out⟩
end Go.Proofs.Ytgbpdchdcbnoaaa
