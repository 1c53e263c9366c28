/-
  NmPr: several texts in one (bundle.py).
-/
import Derived.Test.YtpfgepgjpnekdaaDoorNmH11
namespace Go.Proofs.YtpfgepgjpnekdaaDoor
open Go.RowKit
set_option linter.unusedSimpArgs false
set_option linter.unusedVariables false
namespace Dig
def parseP (l : List UInt8) : (Nat × Nat) × Int := if 100 < l.length then ((0, 0), 3) else match endP l with | some p => (p, 0) | none => ((0, 0), 130)
end Dig
theorem enters_nmCaught : Enters Tryd.prog 37 := enters_of Tryd.func37 (by kernel_rfl) rfl
theorem enters_parse1 : Enters Tryd.prog 38 := enters_of Tryd.func38 (by kernel_rfl) rfl
set_option maxRecDepth 100000 in
theorem parse1_c (X : Nat) (k0 n0 : Value) (w : World) (hX : RowAt w X #[k0, n0] 25) :
    Calls Tryd.prog 38 #[.pointer (some ⟨X, 0, none⟩)] w fun en w' => en = .returned (.tuple #[]) ∧ But (fun k => k = X) w w' ∧ RowAt w' X #[.int .u32 0, .int .u32 0] 25 := by
  have a0 := hX.cell (i := 0) (v := k0) rfl
  have a1 := hX.cell (i := 1) (v := n0) rfl
  have f0 := hX.fz 0
  have f1 := hX.fz 1
  go_enter Tryd.func38, Tryd.ntmps38
  go_wp2
  go_end0
  exact ⟨rfl, (But.setCell (O := fun k => k = X) w ⟨X, 0, none⟩ (.int .u32 0) (.inl rfl)).trans (But.setCell _ _ _ (.inl rfl)), (hX.set 0 (.int .u32 0)).set 1 (.int .u32 0)⟩
set_option maxHeartbeats 1000000 in
set_option maxRecDepth 100000 in
/-- The door, where something was given up. -/
theorem parse_door {R : Ending → World → Prop} (X E : Nat) (e : Int) (k0 n0 : Value) (W : World) (hX : RowAt W X #[k0, n0] 25) (hE : RowAt W E #[.int .i64 0] 26) (hXE : X ≠ E) (u0 u1 u4 u5 u6 u7 u8 u9 u10 : Value)
    (hR : ∀ W', But (fun k => k = X ∨ k = E) W W' → R (.returned (.tuple #[.agg #[.int .u32 0, .int .u32 0], .int .i64 e])) W') :
    Leaves Tryd.prog Tryd.f10 #[u0, u1, .pointer (some ⟨X, 0, none⟩), .pointer (some ⟨E, 0, none⟩), u4, u5, u6, u7, u8, u9, u10] R [{ target := .fn (.func 37) #[], args := #[.pointer (some ⟨E, 0, none⟩), .func (.func 38) #[] #[.pointer (some ⟨X, 0, none⟩)]] }] (.panicking (gup e)) W := by
  have c0 := hE.cell (i := 0) rfl
  have f0 := hE.fz 0
  have b1 : But (fun k => k = E) W (W.setCell ⟨E, 0, none⟩ (.int .i64 e)) := But.setCell _ _ _ (.inl rfl)
  have hX1 := (b1.same _ hX.lt hXE).trans hX
  have hE1 := hE.set 0 (.int .i64 e)
  have hfc := parse1_c X k0 n0 _ hX1
  refine leaves_cons (f := 37) (args := #[.pointer (some ⟨E, 0, none⟩), .func (.func 38) #[] #[.pointer (some ⟨X, 0, none⟩)]]) (by simp) (by have := enters_nmCaught; unfold Enters at this; simp [go_sem, invoke, this]) ?_
  refine (nmCaught_gup E e 0 38 #[.pointer (some ⟨X, 0, none⟩)] enters_parse1 W c0 f0 hfc).mono ?_
  rintro en u' w'' ⟨rfl, rfl, b2, hX2⟩
  have hE2 := (b2.same _ hE1.lt (fun h => hXE h.symm)).trans hE1
  have hfin := hR _ ((b1.mono fun _ _ h => .inr h).trans (b2.mono fun _ _ h => .inl h))
  have r0 := hX2.cell (i := 0) (v := .int .u32 0) rfl
  have r1 := hX2.cell (i := 1) (v := .int .u32 0) rfl
  have q2 : w''.cell? ⟨E, 0, none⟩ = some (.int .i64 e) := RowAt.cell hE2 (i := 0) rfl
  simpa [Leaves, settle, results, Tryd.results10, go_sem, r0, r1, q2] using hfin
/-- What Parse tells. -/
def ParE (l : List UInt8) (w : World) (en : Ending) (w' : World) : Prop := Below w.heap.size w w' ∧ en = .returned (.tuple #[.agg #[.int .u32 (Dig.parseP l).1.1, .int .u32 (Dig.parseP l).1.2], .int .i64 (Dig.parseP l).2])
set_option maxHeartbeats 1000000 in
set_option maxRecDepth 100000 in
theorem parse_c (l : List UInt8) (hl : l.length ≤ 281474976710656) (w : World) (hT : NmT w) : Calls Tryd.prog 10 #[strV l] w (ParE l w) := by
  have hlz : (⟨l.toArray⟩ : ByteArray).size = l.length := by show l.toArray.size = _; simp
  have X0 := RowAt.new w #[.int .u32 0, .int .u32 0] 25
  have E0 := RowAt.new (w.alloc (.cells #[.int .u32 0, .int .u32 0] 25)) #[.int .i64 0] 26
  have X1 := X0.alloc (.cells #[.int .i64 0] 26)
  have hB0 : Below w.heap.size w ((w.alloc (.cells #[.int .u32 0, .int .u32 0] 25)).alloc (.cells #[.int .i64 0] 26)) := (below_alloc w _).alloc (by simp) _
  simp only [World.size_alloc] at E0
  obtain ⟨W0, hW0⟩ : ∃ W0, (w.alloc (.cells #[.int .u32 0, .int .u32 0] 25)).alloc (.cells #[.int .i64 0] 26) = W0 := ⟨_, rfl⟩
  rw [hW0] at E0 X1 hB0
  have HB := Lib.hid hB0
  have HX := Lib.hid X1
  have HE := Lib.hid E0
  have HT := Lib.hid (hT.up hB0)
  clear X0 E0 X1 hT hB0
  by_cases h1 : 100 < l.length
  · have HP := Lib.hid (show Dig.parseP l = ((0, 0), 3) by unfold Dig.parseP; rw [if_pos h1])
    have hd : decide ((l.length : Int) ≤ 100) = false := decide_eq_false (by omega)
    go_enter_defers Tryd.func10, Tryd.ntmps10
    go_wp2_with (go_at_call 39; (with_reducible refine (nmMust_no _ _).mono ?_); rintro en w6 ⟨rfl, rfl⟩)
    refine parse_door _ _ 3 _ _ _ HX.out HE.out (by omega) _ _ _ _ _ _ _ _ _ (fun W' hb => ⟨?_, by rw [HP.out]; rfl⟩)
    exact HB.out.trans (hb.below (fun k e => by omega) HB.out.size)
  · have hd : decide ((l.length : Int) ≤ 100) = true := decide_eq_true (by omega)
    cases hp : Dig.endP l with
    | none =>
      have HP := Lib.hid (show Dig.parseP l = ((0, 0), 130) by unfold Dig.parseP; rw [if_neg h1, hp])
      have HQ := Lib.hid hp
      clear hp
      go_enter_defers Tryd.func10, Tryd.ntmps10
      go_wp2_with (first
        | (go_at_call 39; (with_reducible refine (nmMust_yes _ _).mono ?_); rintro en w6 ⟨rfl, rfl⟩)
        | (go_at_call 40; refine (endpoint_c l hl _ HT.out).mono ?_; rintro en w2 hU; unfold EndE at hU; rw [HQ.out] at hU; obtain ⟨hb2, rfl⟩ := hU))
      refine parse_door _ _ 130 _ _ _ (HX.out.below hb2) (HE.out.below hb2) (by omega) _ _ _ _ _ _ _ _ _ (fun W' hb => ⟨?_, by rw [HP.out]; rfl⟩)
      have hbw := below_up HB.out hb2
      exact hbw.trans (hb.below (fun k e => by omega) hbw.size)
    | some p =>
      have HP := Lib.hid (show Dig.parseP l = (p, 0) by unfold Dig.parseP; rw [if_neg h1, hp])
      have HQ := Lib.hid hp
      clear hp
      obtain ⟨p1, p2⟩ := p
      go_enter_defers Tryd.func10, Tryd.ntmps10
      go_wp2_with (first
        | (go_at_call 39; (with_reducible refine (nmMust_yes _ _).mono ?_); rintro en w6 ⟨rfl, rfl⟩)
        | (go_at_call 40; refine (endpoint_c l hl _ HT.out).mono ?_; rintro en w2 hU; unfold EndE at hU; rw [HQ.out] at hU; obtain ⟨hb2, rfl⟩ := hU; have z2 := HX.out.below hb2; have z3 := HE.out.below hb2; have y0 := z2.cell (i := 0) rfl; have y1 := z2.cell (i := 1) rfl; have y3 := z3.cell (i := 0) rfl; have f0 := z2.fz 0; have f1 := z2.fz 1; have f3 := z3.fz 0))
      refine leaves_cons (f := 37) (args := #[.pointer (some ⟨w.heap.size + 1, 0, none⟩), .func (.func 38) #[] #[.pointer (some ⟨w.heap.size, 0, none⟩)]]) (by simp) (by have := enters_nmCaught; unfold Enters at this; simp [go_sem, invoke, this]) ?_
      refine (nmCaught_idle ⟨w.heap.size + 1, 0, none⟩ 38 #[.pointer (some ⟨w.heap.size, 0, none⟩)] _).mono ?_
      rintro en u' w'' ⟨rfl, rfl, rfl⟩
      have hX5 := (z2.set 0 (.int .u32 p1)).set 1 (.int .u32 p2)
      have sX : But (fun k => k = w.heap.size) w2 ((w2.setCell ⟨w.heap.size, 0, none⟩ (.int .u32 p1)).setCell ⟨w.heap.size, 1, none⟩ (.int .u32 p2)) := (But.setCell (O := fun k => k = w.heap.size) w2 ⟨w.heap.size, 0, none⟩ (.int .u32 p1) (.inl rfl)).trans (But.setCell _ _ _ (.inl rfl))
      have hE5 := (sX.same _ z3.lt (by omega)).trans z3
      obtain ⟨W5, hW5⟩ : ∃ x, (w2.setCell ⟨w.heap.size, 0, none⟩ (.int .u32 p1)).setCell ⟨w.heap.size, 1, none⟩ (.int .u32 p2) = x := ⟨_, rfl⟩
      rw [hW5] at hX5 sX hE5 ⊢
      have sE : But (fun k => k = w.heap.size + 1) W5 (W5.setCell ⟨w.heap.size + 1, 0, none⟩ (.int .i64 0)) := But.setCell _ _ _ (.inl rfl)
      have hX6 := (sE.same _ (RowAt.lt hX5) (by omega)).trans hX5
      have hE6 := RowAt.set hE5 0 (.int .i64 0)
      have r0 := RowAt.cell hX6 (i := 0) (v := .int .u32 p1) rfl
      have r1 := RowAt.cell hX6 (i := 1) (v := .int .u32 p2) rfl
      have r2 := hE6.cell (i := 0) (v := .int .i64 0) rfl
      have hbw := below_up HB.out hb2
      have hfin : ParE l w (.returned (.tuple #[.agg #[.int .u32 p1, .int .u32 p2], .int .i64 0])) (W5.setCell ⟨w.heap.size + 1, 0, none⟩ (.int .i64 0)) :=
        ⟨hbw.trans (((sX.mono (O' := fun k => w.heap.size ≤ k) (fun _ _ e => by omega)).trans (sE.mono fun _ _ e => by omega)).below (fun k e => e) hbw.size), by rw [HP.out]⟩
      simpa [Leaves, settle, results, Tryd.results10, go_sem, r0, r1, r2] using hfin
end Go.Proofs.YtpfgepgjpnekdaaDoor
