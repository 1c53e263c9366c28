/-
  works.
-/
import Derived.Test.YteakpppabgbpeaaMemK
namespace Go.Proofs.Yteakpppabgbpeaa
open Go.RowKit Go.Maps Mem
set_option linter.unusedSimpArgs false
set_option linter.unusedVariables false
attribute [local go_sem] Oper.semAt_some

theorem tell_to {B M : Nat} {E E' : List Mb} {m : Mb} {e : Int} (hw : m.Wf) (he : tellE E m = e) (hE : tellF E m = E') (w : World) (h : RollAt w B M E) :
    Calls Try.prog 12 #[.pointer (some ⟨B, 0, none⟩), mbV m] w fun en w' => en = .returned (.int .i64 e) ∧ RollAt w' B M E' ∧ But (· = M) w w' := by
  subst he; subst hE; exact mTell_c m hw w h
theorem wT1 {B M : Nat} (w : World) (h : RollAt w B M []) : Calls Try.prog 12 #[.pointer (some ⟨B, 0, none⟩), mbV ⟨5, 2, 1, true⟩] w fun en w' => en = .returned (.int .i64 0) ∧ RollAt w' B M [⟨5, 2, 1, true⟩] ∧ But (· = M) w w' :=
  tell_to ⟨by decide, by decide, by decide, by decide⟩ (by decide) (by decide) w h
theorem wT2 {B M : Nat} (w : World) (h : RollAt w B M [⟨5, 2, 1, true⟩]) : Calls Try.prog 12 #[.pointer (some ⟨B, 0, none⟩), mbV ⟨5, 1, 1, true⟩] w fun en w' => en = .returned (.int .i64 0) ∧ RollAt w' B M [⟨5, 2, 1, true⟩, ⟨5, 1, 1, true⟩] ∧ But (· = M) w w' :=
  tell_to ⟨by decide, by decide, by decide, by decide⟩ (by decide) (by decide) w h
theorem wT3 {B M : Nat} (w : World) (h : RollAt w B M [⟨5, 2, 1, true⟩, ⟨5, 1, 1, true⟩]) : Calls Try.prog 12 #[.pointer (some ⟨B, 0, none⟩), mbV ⟨5, 1, 1, false⟩] w fun en w' => en = .returned (.int .i64 0) ∧ RollAt w' B M [⟨5, 2, 1, true⟩, ⟨5, 1, 1, false⟩] ∧ But (· = M) w w' :=
  tell_to ⟨by decide, by decide, by decide, by decide⟩ (by decide) (by decide) w h
theorem wT4 {B M : Nat} (w : World) (h : RollAt w B M [⟨5, 2, 1, true⟩, ⟨5, 1, 1, false⟩]) : Calls Try.prog 12 #[.pointer (some ⟨B, 0, none⟩), mbV ⟨5, 1, 1, true⟩] w fun en w' => en = .returned (.int .i64 300) ∧ RollAt w' B M [⟨5, 2, 1, true⟩, ⟨5, 1, 1, false⟩] ∧ But (· = M) w w' :=
  tell_to ⟨by decide, by decide, by decide, by decide⟩ (by decide) (by decide) w h
theorem wT5 {B M : Nat} (w : World) (h : RollAt w B M [⟨5, 2, 1, true⟩, ⟨5, 1, 1, false⟩]) : Calls Try.prog 12 #[.pointer (some ⟨B, 0, none⟩), mbV ⟨5, 1, 2, true⟩] w fun en w' => en = .returned (.int .i64 0) ∧ RollAt w' B M [⟨5, 2, 1, true⟩, ⟨5, 1, 2, true⟩] ∧ But (· = M) w w' :=
  tell_to ⟨by decide, by decide, by decide, by decide⟩ (by decide) (by decide) w h
theorem wT6 {B M : Nat} (w : World) (h : RollAt w B M [⟨5, 2, 1, true⟩, ⟨5, 1, 2, true⟩]) : Calls Try.prog 12 #[.pointer (some ⟨B, 0, none⟩), mbV ⟨0, 1, 0, true⟩] w fun en w' => en = .returned (.int .i64 2) ∧ RollAt w' B M [⟨5, 2, 1, true⟩, ⟨5, 1, 2, true⟩] ∧ But (· = M) w w' :=
  tell_to ⟨by decide, by decide, by decide, by decide⟩ (by decide) (by decide) w h
/-- What the range in works has at hand. -/
structure WkI (w : World) (X : Nat) (n : Int) (G : Nat → Prop) (W : World) : Prop where
  below : Below w.heap.size w W
  x : RowAt W X #[.int .i64 n] 3
  roll : RollAt W (w.heap.size + 1) w.heap.size [⟨5, 2, 1, true⟩, ⟨5, 1, 2, true⟩]
  gx : G X
  low : ∀ j, G j → w.heap.size + 1 < j
theorem WkI.abide {w : World} {X B : Nat} {n : Int} (hB : w.heap.size + 1 < B) : Abide B (WkI w X n) := by
  intro G P Q h hb
  exact ⟨h.below.trans (hb.below (fun k e => by omega) h.below.size), (hb.same _ h.x.lt (fun e => e.2 h.gx)).trans h.x, h.roll.but hb (fun e => by omega) (fun e => by omega), h.gx, h.low⟩
theorem WkI.step {w : World} {X : Nat} {n : Int} {G : Nat → Prop} {W : World} (h : WkI w X n G W) (n' : Int) :
    But G W (W.setCell ⟨X, 0, none⟩ (.int .i64 n')) ∧ WkI w X n' (newG G W (W.setCell ⟨X, 0, none⟩ (.int .i64 n'))) (W.setCell ⟨X, 0, none⟩ (.int .i64 n')) := by
  have hX := h.low X h.gx
  have hs : But (· = X) W (W.setCell ⟨X, 0, none⟩ (.int .i64 n')) := But.setCell _ _ _ (.inl rfl)
  exact ⟨But.setCell _ _ _ (.inl h.gx), h.below.trans (hs.below (fun k e => by omega) h.below.size), h.x.set 0 _, h.roll.but hs (by omega) (by omega), newG_old h.gx, fun j hj => by
    rcases hj with e | e
    · exact h.low j e
    · have := h.roll.var.lt; omega⟩
theorem srt3 : SrtOf [⟨5, 2, 1, true⟩, ⟨5, 1, 1, false⟩] [⟨5, 1, 1, false⟩, ⟨5, 2, 1, true⟩] := ⟨by decide, by simp [ltM]⟩
theorem srt4 : SrtOf [⟨5, 2, 1, true⟩, ⟨5, 1, 2, true⟩] [⟨5, 1, 2, true⟩, ⟨5, 2, 1, true⟩] := ⟨by decide, by simp [ltM]⟩
set_option maxHeartbeats 4000000 in
set_option maxRecDepth 100000 in
theorem works_c (w : World) : Calls Try.prog 10 #[] w (Ret (.bool true) w) := by
  have he : ∀ (f : FuncId) (caps : Array Value) (w : World), (binOp BinOp.eql 50 (.func (.func f) #[] caps) .nilFunc).run Try.prog w = .ok (.bool false) w := fun _ _ _ => by kernel_rfl
  refine (callsIn_wide (n := 3)).1 ?_
  refine callsIn_of_wp_marks Try.func10 rfl trivial ?_ rfl
  simp only [Try.ntmps10, List.size_toArray, List.length_cons, List.length_nil, Nat.reduceAdd, Nat.reduceSub, Array.replicate_succ, Array.replicate_zero, List.push_toArray, List.append_toArray, List.nil_append, List.cons_append]
  refine wpIn_wide.2 ?_
  go_wp2_with (first
    | (go_at_call 11; refine (rNew_c _).mono ?_; rintro en w0 ⟨rfl, h0, hb⟩; have HB0 := Lib.hid hb; clear hb)
    | (go_at_call 12; refine (wT1 _ h0).mono ?_; rintro en w1 ⟨rfl, h1, hb⟩; have HB1 := Lib.hid (HB0.out.trans (hb.below (fun k e => by rw [e]; exact Nat.le_refl _) HB0.out.size)); clear hb h0)
    | (go_at_call 12; refine (wT2 _ h1).mono ?_; rintro en w2 ⟨rfl, h2, hb⟩; have HB2 := Lib.hid (HB1.out.trans (hb.below (fun k e => by rw [e]; exact Nat.le_refl _) HB1.out.size)); clear hb h1)
    | (go_at_call 12; refine (wT3 _ h2).mono ?_; rintro en w3 ⟨rfl, h3, hb⟩; have HB3 := Lib.hid (HB2.out.trans (hb.below (fun k e => by rw [e]; exact Nat.le_refl _) HB2.out.size)); clear hb h2)
    | (go_at_call 23; refine (rHome_c 5 _ h3 srt3 (by decide)).mono ?_; rw [show homeF [⟨5, 1, 1, false⟩, ⟨5, 2, 1, true⟩] 5 = 2 by decide]; rintro en wh ⟨rfl, hb⟩; have hh := h3.below hb; have HBh := Lib.hid (below_up HB3.out hb); clear hb h3)
    | (go_at_call 12; refine (wT4 _ hh).mono ?_; rintro en w4 ⟨rfl, h4, hb⟩; have HB4 := Lib.hid (HBh.out.trans (hb.below (fun k e => by rw [e]; exact Nat.le_refl _) HBh.out.size)); clear hb hh)
    | (go_at_call 12; refine (wT5 _ h4).mono ?_; rintro en w5 ⟨rfl, h5, hb⟩; have HB5 := Lib.hid (HB4.out.trans (hb.below (fun k e => by rw [e]; exact Nat.le_refl _) HB4.out.size)); clear hb h4)
    | (go_at_call 23; refine (rHome_c 5 _ h5 srt4 (by decide)).mono ?_; rw [show homeF [⟨5, 1, 2, true⟩, ⟨5, 2, 1, true⟩] 5 = 1 by decide]; rintro en wi ⟨rfl, hb⟩; have hi := h5.below hb; have HBi := Lib.hid (below_up HB5.out hb); have hj := hi.below (below_alloc wi (.cells #[.int .i64 0] 3)); have X0 := RowAt.new wi #[.int .i64 0] 3; clear hb h5)
    | (go_at_call 24; refine (rNodes_c 2 _ hj srt4 (by decide)).mono ?_; rw [show nodsF [⟨5, 1, 2, true⟩, ⟨5, 2, 1, true⟩] 2 = [5] by decide]; rintro en wk ⟨C0, v0, rfl, hov0, hC0, hC1, hvk, hb1⟩; have hk := hj.below hb1; have X1 := X0.below hb1; have HBk := Lib.hid (below_up HBi.out (below_new hb1)); have hzk := hb1.size; clear hov0 hC0 hC1 hvk hb1 hj)
    | (go_at_call 24; refine (rNodes_c 2 _ hk srt4 (by decide)).mono ?_; rw [show nodsF [⟨5, 1, 2, true⟩, ⟨5, 2, 1, true⟩] 2 = [5] by decide]; rintro en wl ⟨C, v, rfl, hov, hC0, hC1, hvk, hb1⟩; have hl := hk.below hb1; have X2 := X1.below hb1; have HBl := Lib.hid (below_up HBk.out hb1); have hzl := hb1.size; clear hb1 hk))
  have hzi := HBi.out.size
  have hri := hi.var.lt
  simp only [World.size_alloc] at hzk
  clear hi X0 X1
  refine wpIn_wide.1 (wp_range (n := 3) (S := fun q => q = C ∨ v.ownBlock = some q) (gf := 54) (lb := #[.pointer (some ⟨C, 0, none⟩)]) rfl enters_overU
    (overU_x [5] C [5].length v _ wl hov ⟨.inl rfl, .inr fun k hk => .inr hk⟩) (Below.refl _ _) (fun _ => rfl)
    (fun q => q = wi.heap.size) (fun k h => by omega) ?hS
    (fun k G W => WkI w wi.heap.size (if k = 0 then 0 else 5) G W)
    (fun k a' G W => a' = { tmps := #[.bool false, .pointer (some ⟨w.heap.size + 1, 0, none⟩), .int .i64 0, .int .i64 0, .int .i64 0, .int .u32 2, .int .i64 300, .int .i64 0, .int .u32 1, .pointer (some ⟨wi.heap.size, 0, none⟩), .int .u32 (uAt [5] k), undef, .pointer (some ⟨w.heap.size + 1, 0, none⟩), .pointer (some ⟨w.heap.size + 1, 0, none⟩), .agg #[.int .u32 5, .int .u32 2, .int .u32 1, .bool true], .int .i64 0, .pointer (some ⟨w.heap.size + 1, 0, none⟩), .agg #[.int .u32 5, .int .u32 1, .int .u32 1, .bool true], .int .i64 0, .pointer (some ⟨w.heap.size + 1, 0, none⟩), .agg #[.int .u32 5, .int .u32 1, .int .u32 1, .bool false], .int .i64 0, .pointer (some ⟨w.heap.size + 1, 0, none⟩), .int .u32 2, .pointer (some ⟨w.heap.size + 1, 0, none⟩), .agg #[.int .u32 5, .int .u32 1, .int .u32 1, .bool true], .int .i64 300, .pointer (some ⟨w.heap.size + 1, 0, none⟩), .agg #[.int .u32 5, .int .u32 1, .int .u32 2, .bool true], .int .i64 0, .pointer (some ⟨w.heap.size + 1, 0, none⟩), .int .u32 1, .pointer (some ⟨w.heap.size + 1, 0, none⟩), .func (.func 54) #[] #[.pointer (some ⟨C0, 0, none⟩)], .bool false, .pointer (some ⟨w.heap.size + 1, 0, none⟩), .func (.func 54) #[] #[.pointer (some ⟨C, 0, none⟩)], .int .u32 (uAt [5] k), undef, undef, undef, undef, undef, undef, undef, undef, undef, undef, undef, undef, undef, undef, undef, undef, undef, undef, undef, undef, undef, undef, undef, undef, undef, undef, undef, undef, undef, undef, undef, undef, undef, undef, undef, undef, undef, undef, undef, undef, undef, undef], defers := [] } ∧ WkI w wi.heap.size (if k = 0 then 0 else 5) G W)
    (fun c k G W => False)
    (fun k => WkI.abide (by omega)) (fun k a' G A B h hb => ⟨h.1, WkI.abide (by omega) G A B h.2 hb⟩) (fun c k G A B h _ => h.elim) ⟨HBl.out, X2, hl, rfl, fun j h => by omega⟩ ?assign ?body ?done ?stop)
  case hS =>
    rintro q (rfl | hq)
    · exact ⟨hC1, by omega⟩
    · have := hvk q hq; exact ⟨this.2, by omega⟩
  case assign =>
    intro l2 k G W K hk hi hK
    gi_wp2
    exact hK _ _ (But.refl _ _) (by rw [newG_same rfl]; exact ⟨rfl, hi⟩)
  case body =>
    rintro l2 k a' G W hk hl2 _ hGl ⟨rfl, hi⟩
    obtain rfl : k = 0 := by simpa using hk
    have x0 := hi.x.cell (i := 0) (v := .int .i64 0) rfl
    have f0 := hi.x.fz 0
    have hst := hi.step 5
    have HST := Lib.hid hst
    clear hi hst
    rw [show uAt [5] 0 = 5 from rfl]
    gi_wp2
    exact HST.out
  case done =>
    rintro D G W hD hGD hi hK
    have x0 := hi.x.cell (i := 0) (v := .int .i64 5) rfl
    have hroll := hi.roll
    have HI := Lib.hid hi
    have HK := Lib.hid hK
    clear hi hK
    go_wp2_with (first
      | (go_at_call 12; refine (wT6 _ hroll).mono ?_; rintro en w9 ⟨rfl, h9, hb9⟩; have x9 := hb9.cell x0 (by omega); have HB9 := Lib.hid hb9; clear hb9 h9 hroll)
      | (go_at_call 13; refine (num_cc _ _).mono ?_; rintro en w4 ⟨rfl, rfl⟩))
    have hD2 := (HB9.out.same D (Array.getElem?_eq_some_iff.1 HK.out).1 (by omega)).trans HK.out
    refine ⟨by simp, .inl ⟨_, _, rfl, run_takeDeferred hD2, ?_⟩⟩
    have hB9 := HI.out.below.trans (HB9.out.below (fun k e => by rw [e]; exact Nat.le_refl _) HI.out.below.size)
    have hp : But (· = D) w9 (w9.putObj D (.deferred none)) := But.putObj _ _ _ (.inl rfl)
    exact ⟨.bool true, by simp [results, Try.results10, go_sem], rfl, hB9.trans (hp.below (fun j e => by omega) hB9.size)⟩
  case stop =>
    intro D c k G W hD hGD hk hi hK
    exact hi.elim
end Go.Proofs.Yteakpppabgbpeaa
