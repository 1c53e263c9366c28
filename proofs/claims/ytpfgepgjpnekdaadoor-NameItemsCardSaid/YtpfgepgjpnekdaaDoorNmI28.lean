/-
  NmPn: several texts in one (bundle.py).
-/
import Derived.Test.YtpfgepgjpnekdaaDoorNmI27
import Derived.Test.YtpfgepgjpnekdaaDoorNmI21
namespace Go.Proofs.YtpfgepgjpnekdaaDoor
open Go.RowKit Trc
set_option linter.unusedSimpArgs false
set_option linter.unusedVariables false
namespace Dig
/-- Four numbers of a name. -/
structure N4 where
  n : Nat
  m : Nat
  t : Nat
  s : Nat
def nameQ (l : List UInt8) : Option N4 := match cut 32 l with
  | none => none
  | some (a, r) => match endP a with
    | none => none
    | some p => match cut 32 r with
      | none => none
      | some (b, c) => match toNum b 4611686018427387903 with
        | none => none
        | some t => match toNum c 4294967295 with
          | none => none
          | some s => if p.1 = 0 then none else some ⟨p.1, p.2, t, s⟩
def nameP (l : List UInt8) : N4 × Int := if 100 < l.length then (⟨0, 0, 0, 0⟩, 3) else match nameQ l with | some p => (p, 0) | none => (⟨0, 0, 0, 0⟩, 130)
end Dig
theorem enters_pn1 : Enters Tryd.prog 41 := enters_of Tryd.func41 (by kernel_rfl) rfl
set_option maxRecDepth 100000 in
theorem pn1_c (X : Nat) (k0 k1 k2 k3 : Value) (w : World) (hX : RowAt w X #[k0, k1, k2, k3] 31) :
    Calls Tryd.prog 41 #[.pointer (some ⟨X, 0, none⟩)] w fun en w' => en = .returned (.tuple #[]) ∧ But (fun k => k = X) w w' ∧ RowAt w' X #[.int .u32 0, .int .u32 0, .int .u64 0, .int .u32 0] 31 := by
  have a0 := hX.cell (i := 0) (v := k0) rfl
  have a1 := hX.cell (i := 1) (v := k1) rfl
  have a2 := hX.cell (i := 2) (v := k2) rfl
  have a3 := hX.cell (i := 3) (v := k3) rfl
  have f0 := hX.fz 0
  have f1 := hX.fz 1
  have f2 := hX.fz 2
  have f3 := hX.fz 3
  go_enter Tryd.func41, Tryd.ntmps41
  go_wp2
  go_end0
  exact ⟨rfl, (((But.setCell (O := fun k => k = X) w ⟨X, 0, none⟩ (.int .u32 0) (.inl rfl)).trans (But.setCell _ _ _ (.inl rfl))).trans (But.setCell _ _ _ (.inl rfl))).trans (But.setCell _ _ _ (.inl rfl)), (((hX.set 0 (.int .u32 0)).set 1 (.int .u32 0)).set 2 (.int .u64 0)).set 3 (.int .u32 0)⟩
set_option maxHeartbeats 1000000 in
set_option maxRecDepth 100000 in
/-- The door, where something was given up. -/
theorem pn_door {R : Ending → World → Prop} (X E : Nat) (e : Int) (k0 k1 k2 k3 : Value) (W : World) (hX : RowAt W X #[k0, k1, k2, k3] 31) (hE : RowAt W E #[.int .i64 0] 26) (hXE : X ≠ E) (u0 u1 u4 u5 u6 u7 u8 u9 u10 u11 u12 u13 u14 u15 u16 u17 u18 u19 u20 u21 u22 u23 u24 u25 u26 u27 u28 u29 u30 u31 u32 u33 u34 u35 u36 : Value)
    (hR : ∀ W', But (fun k => k = X ∨ k = E) W W' → R (.returned (.tuple #[.agg #[.int .u32 0, .int .u32 0, .int .u64 0, .int .u32 0], .int .i64 e])) W') :
    Leaves Tryd.prog Tryd.f11 #[u0, u1, .pointer (some ⟨X, 0, none⟩), .pointer (some ⟨E, 0, none⟩), u4, u5, u6, u7, u8, u9, u10, u11, u12, u13, u14, u15, u16, u17, u18, u19, u20, u21, u22, u23, u24, u25, u26, u27, u28, u29, u30, u31, u32, u33, u34, u35, u36] R [{ target := .fn (.func 37) #[], args := #[.pointer (some ⟨E, 0, none⟩), .func (.func 41) #[] #[.pointer (some ⟨X, 0, none⟩)]] }] (.panicking (gup e)) W := by
  have c0 := hE.cell (i := 0) rfl
  have f0 := hE.fz 0
  have b1 : But (fun k => k = E) W (W.setCell ⟨E, 0, none⟩ (.int .i64 e)) := But.setCell _ _ _ (.inl rfl)
  have hX1 := (b1.same _ hX.lt hXE).trans hX
  have hE1 := hE.set 0 (.int .i64 e)
  have hfc := pn1_c X k0 k1 k2 k3 _ hX1
  refine leaves_cons (f := 37) (args := #[.pointer (some ⟨E, 0, none⟩), .func (.func 41) #[] #[.pointer (some ⟨X, 0, none⟩)]]) (by simp) (by have := enters_nmCaught; unfold Enters at this; simp [go_sem, invoke, this]) ?_
  refine (nmCaught_gup E e 0 41 #[.pointer (some ⟨X, 0, none⟩)] enters_pn1 W c0 f0 hfc).mono ?_
  rintro en u' w'' ⟨rfl, rfl, b2, hX2⟩
  have hE2 := (b2.same _ hE1.lt (fun h => hXE h.symm)).trans hE1
  have hfin := hR _ ((b1.mono fun _ _ h => .inr h).trans (b2.mono fun _ _ h => .inl h))
  have r0 := hX2.cell (i := 0) (v := .int .u32 0) rfl
  have r1 := hX2.cell (i := 1) (v := .int .u32 0) rfl
  have r2 := hX2.cell (i := 2) (v := .int .u64 0) rfl
  have r3 := hX2.cell (i := 3) (v := .int .u32 0) rfl
  have q2 : w''.cell? ⟨E, 0, none⟩ = some (.int .i64 e) := RowAt.cell hE2 (i := 0) rfl
  simpa [Leaves, settle, results, Tryd.results11, go_sem, r0, r1, r2, r3, q2] using hfin
/-- What ParseName tells. -/
def PnE (l : List UInt8) (w : World) (en : Ending) (w' : World) : Prop := Below w.heap.size w w' ∧ en = .returned (.tuple #[nmW (Dig.nameP l).1.n (Dig.nameP l).1.m (Dig.nameP l).1.t (Dig.nameP l).1.s, .int .i64 (Dig.nameP l).2])
theorem PnE.no {l : List UInt8} {w w' : World} {e : Int} (h : Dig.nameP l = (⟨0, 0, 0, 0⟩, e)) (hw : Below w.heap.size w w') : PnE l w (.returned (.tuple #[.agg #[.int .u32 0, .int .u32 0, .int .u64 0, .int .u32 0], .int .i64 e])) w' := ⟨hw, by rw [h]; try rfl⟩
theorem PnE.yes {l : List UInt8} {w w' : World} {n m t s : Nat} (h : Dig.nameP l = (⟨n, m, t, s⟩, 0)) (hw : Below w.heap.size w w') : PnE l w (.returned (.tuple #[nmW n m t s, .int .i64 0])) w' := ⟨hw, by rw [h]⟩
set_option maxRecDepth 100000 in
theorem pname_long (l : List UInt8) (hl : l.length ≤ 281474976710656) (w : World) (hT : NmT w) (h1 : 100 < l.length) : Calls Tryd.prog 11 #[strV l] w (PnE l w) := by
  have hlz : (⟨l.toArray⟩ : ByteArray).size = l.length := by show l.toArray.size = _; simp
  have HP := Lib.hid (show Dig.nameP l = (⟨0, 0, 0, 0⟩, 3) by unfold Dig.nameP; rw [if_pos h1])
  have X0 := RowAt.new w #[.int .u32 0, .int .u32 0, .int .u64 0, .int .u32 0] 31
  have E0 := RowAt.new (w.alloc (.cells #[.int .u32 0, .int .u32 0, .int .u64 0, .int .u32 0] 31)) #[.int .i64 0] 26
  have X1 := X0.alloc (.cells #[.int .i64 0] 26)
  have hB0 : Below w.heap.size w ((w.alloc (.cells #[.int .u32 0, .int .u32 0, .int .u64 0, .int .u32 0] 31)).alloc (.cells #[.int .i64 0] 26)) := (below_alloc w _).alloc (by simp) _
  simp only [World.size_alloc] at E0
  have hd : decide ((l.length : Int) ≤ 100) = false := decide_eq_false (by omega)
  go_enter_defers Tryd.func11, Tryd.ntmps11
  go_wp2_with (go_at_call 39; (with_reducible refine (nmMust_no _ _).mono ?_); rintro en w6 ⟨rfl, rfl⟩)
  refine pn_door _ _ 3 _ _ _ _ _ X1 E0 (by omega) _ _ _ _ _ _ _ _ _ _ _ _ _ _ _ _ _ _ _ _ _ _ _ _ _ _ _ _ _ _ _ _ _ _ _ (fun W' hb => PnE.no HP.out ?_)
  exact hB0.trans (hb.below (fun k e => by omega) hB0.size)
set_option maxHeartbeats 2000000 in
set_option maxRecDepth 100000 in
theorem pname_0 (l : List UInt8) (w : World) (hT : NmT w) (h1 : l.length ≤ 100) (c1 : Dig.cut 32 l = none) : Calls Tryd.prog 11 #[strV l] w (PnE l w) := by
  have hlz : (⟨l.toArray⟩ : ByteArray).size = l.length := by show l.toArray.size = _; simp
  have HQ : Dig.nameQ l = none := by unfold Dig.nameQ; simp only [c1]
  have HP := Lib.hid (show Dig.nameP l = (⟨0, 0, 0, 0⟩, 130) by unfold Dig.nameP; rw [if_neg (by omega), HQ])
  clear HQ
  have Hc1 := Lib.hid c1
  clear c1
  have X0 := RowAt.new w #[.int .u32 0, .int .u32 0, .int .u64 0, .int .u32 0] 31
  have E0 := RowAt.new (w.alloc (.cells #[.int .u32 0, .int .u32 0, .int .u64 0, .int .u32 0] 31)) #[.int .i64 0] 26
  have X1 := X0.alloc (.cells #[.int .i64 0] 26)
  have hB0 : Below w.heap.size w ((w.alloc (.cells #[.int .u32 0, .int .u32 0, .int .u64 0, .int .u32 0] 31)).alloc (.cells #[.int .i64 0] 26)) := (below_alloc w _).alloc (by simp) _
  simp only [World.size_alloc] at E0
  obtain ⟨W0, hW0⟩ : ∃ W0, (w.alloc (.cells #[.int .u32 0, .int .u32 0, .int .u64 0, .int .u32 0] 31)).alloc (.cells #[.int .i64 0] 26) = W0 := ⟨_, rfl⟩
  have hz0 : W0.heap.size = w.heap.size + 2 := by rw [← hW0]; simp
  rw [hW0] at E0 X1 hB0
  have R0 := RowAt.new W0 #[strV l] 84
  have hb0 := below_alloc W0 (.cells #[strV l] 84)
  have HX := Lib.hid (X1.below hb0)
  have HE := Lib.hid (E0.below hb0)
  have HB := Lib.hid (below_up hB0 hb0)
  have HT := Lib.hid hT
  obtain ⟨W1, hW1⟩ : ∃ W1, W0.alloc (.cells #[strV l] 84) = W1 := ⟨_, rfl⟩
  rw [hW1] at R0 HX HE HB
  have HR := Lib.hid R0
  have HZ := Lib.hid hz0
  rw [hz0] at R0
  have hR1 := Lib.hid R0
  clear X0 E0 X1 hT hB0 R0 hb0 HR
  have hd : decide ((l.length : Int) ≤ 100) = true := decide_eq_true (by omega)
  go_enter_defers Tryd.func11, Tryd.ntmps11
  go_wp2_with (go_at_call 39; (with_reducible refine (nmMust_yes _ _).mono ?_); rintro en w6 ⟨rfl, rfl⟩)
  try rw [HZ.out]
  refine (upToBlank_c l (by omega) (w.heap.size + 2) 84 _ hR1.out).mono ?_
  rintro en w2 hU
  obtain ⟨rfl, hb2⟩ := hU.no Hc1.out
  refine pn_door _ _ 130 _ _ _ _ _ (HX.out.below hb2) (HE.out.below hb2) (by omega) _ _ _ _ _ _ _ _ _ _ _ _ _ _ _ _ _ _ _ _ _ _ _ _ _ _ _ _ _ _ _ _ _ _ _ (fun W' hb => PnE.no HP.out ?_)
  exact (below_up HB.out hb2).trans (hb.below (fun k e => by omega) (below_up HB.out hb2).size)
set_option maxHeartbeats 2000000 in
set_option maxRecDepth 100000 in
theorem pname_1 (l : List UInt8) (w : World) (hT : NmT w) (h1 : l.length ≤ 100) (la lr : List UInt8) (c1 : Dig.cut 32 l = some (la, lr)) (c2 : Dig.endP la = none) : Calls Tryd.prog 11 #[strV l] w (PnE l w) := by
  have hlz : (⟨l.toArray⟩ : ByteArray).size = l.length := by show l.toArray.size = _; simp
  have HQ : Dig.nameQ l = none := by unfold Dig.nameQ; simp only [c1, c2]
  have HP := Lib.hid (show Dig.nameP l = (⟨0, 0, 0, 0⟩, 130) by unfold Dig.nameP; rw [if_neg (by omega), HQ])
  clear HQ
  have hcs := Dig.cut_some c1
  have hll := congrArg List.length hcs.1
  simp only [List.length_append, List.length_cons] at hll
  clear hcs
  have hla : la.length ≤ 281474976710656 := by omega
  have hlr : lr.length ≤ 281474976710656 := by omega
  clear hll
  have Hc1 := Lib.hid c1
  have Hc2 := Lib.hid c2
  clear c1 c2
  have X0 := RowAt.new w #[.int .u32 0, .int .u32 0, .int .u64 0, .int .u32 0] 31
  have E0 := RowAt.new (w.alloc (.cells #[.int .u32 0, .int .u32 0, .int .u64 0, .int .u32 0] 31)) #[.int .i64 0] 26
  have X1 := X0.alloc (.cells #[.int .i64 0] 26)
  have hB0 : Below w.heap.size w ((w.alloc (.cells #[.int .u32 0, .int .u32 0, .int .u64 0, .int .u32 0] 31)).alloc (.cells #[.int .i64 0] 26)) := (below_alloc w _).alloc (by simp) _
  simp only [World.size_alloc] at E0
  obtain ⟨W0, hW0⟩ : ∃ W0, (w.alloc (.cells #[.int .u32 0, .int .u32 0, .int .u64 0, .int .u32 0] 31)).alloc (.cells #[.int .i64 0] 26) = W0 := ⟨_, rfl⟩
  have hz0 : W0.heap.size = w.heap.size + 2 := by rw [← hW0]; simp
  rw [hW0] at E0 X1 hB0
  have R0 := RowAt.new W0 #[strV l] 84
  have hb0 := below_alloc W0 (.cells #[strV l] 84)
  have HX := Lib.hid (X1.below hb0)
  have HE := Lib.hid (E0.below hb0)
  have HB := Lib.hid (below_up hB0 hb0)
  have HT := Lib.hid hT
  obtain ⟨W1, hW1⟩ : ∃ W1, W0.alloc (.cells #[strV l] 84) = W1 := ⟨_, rfl⟩
  rw [hW1] at R0 HX HE HB
  have HR := Lib.hid R0
  have HZ := Lib.hid hz0
  rw [hz0] at R0
  have hR1 := Lib.hid R0
  clear X0 E0 X1 hT hB0 R0 hb0 HR
  have hd : decide ((l.length : Int) ≤ 100) = true := decide_eq_true (by omega)
  go_enter_defers Tryd.func11, Tryd.ntmps11
  go_wp2_with (go_at_call 39; (with_reducible refine (nmMust_yes _ _).mono ?_); rintro en w6 ⟨rfl, rfl⟩)
  try rw [HZ.out]
  refine (upToBlank_c l (by omega) (w.heap.size + 2) 84 _ hR1.out).mono ?_
  rintro en w2 hU
  obtain ⟨rfl, hb2, hR2⟩ := hU.yes Hc1.out
  clear hU
  have HXa := Lib.hid (show RowAt w2 w.heap.size #[(.int .u32 0), (.int .u32 0), (.int .u64 0), (.int .u32 0)] 31 from (hb2.same _ HX.out.lt (by omega)).trans HX.out)
  have HEa := Lib.hid (show RowAt w2 (w.heap.size + 1) #[.int .i64 0] 26 from (hb2.same _ HE.out.lt (by omega)).trans HE.out)
  have HBa := Lib.hid (but_below HB.out hb2 (fun k e => by omega) (Nat.le_refl _))
  clear HX HE HB
  have HX := HXa
  have HE := HEa
  have HB := HBa
  clear HXa HEa HBa
  have hR2 := Lib.hid hR2
  clear hR1 hb2
  go_wp2_with fail
  refine (endpoint_c la hla _ (HT.out.up HB.out)).mono ?_
  rintro en w3 hU
  unfold EndE at hU
  rw [Hc2.out] at hU
  obtain ⟨hb3, rfl⟩ := hU
  refine pn_door _ _ 130 _ _ _ _ _ (HX.out.below hb3) (HE.out.below hb3) (by omega) _ _ _ _ _ _ _ _ _ _ _ _ _ _ _ _ _ _ _ _ _ _ _ _ _ _ _ _ _ _ _ _ _ _ _ (fun W' hb => PnE.no HP.out ?_)
  exact (below_up HB.out hb3).trans (hb.below (fun k e => by omega) (below_up HB.out hb3).size)
set_option maxHeartbeats 2000000 in
set_option maxRecDepth 100000 in
theorem pname_2 (l : List UInt8) (w : World) (hT : NmT w) (h1 : l.length ≤ 100) (la lr : List UInt8) (c1 : Dig.cut 32 l = some (la, lr)) (n m : Nat) (c2 : Dig.endP la = some (n, m)) (c3 : Dig.cut 32 lr = none) : Calls Tryd.prog 11 #[strV l] w (PnE l w) := by
  have hlz : (⟨l.toArray⟩ : ByteArray).size = l.length := by show l.toArray.size = _; simp
  have HQ : Dig.nameQ l = none := by unfold Dig.nameQ; simp only [c1, c2, c3]
  have HP := Lib.hid (show Dig.nameP l = (⟨0, 0, 0, 0⟩, 130) by unfold Dig.nameP; rw [if_neg (by omega), HQ])
  clear HQ
  have hcs := Dig.cut_some c1
  have hll := congrArg List.length hcs.1
  simp only [List.length_append, List.length_cons] at hll
  clear hcs
  have hla : la.length ≤ 281474976710656 := by omega
  have hlr : lr.length ≤ 281474976710656 := by omega
  clear hll
  have hle := Dig.endP_le c2
  have Hc1 := Lib.hid c1
  have Hc2 := Lib.hid c2
  have Hc3 := Lib.hid c3
  clear c1 c2 c3
  have X0 := RowAt.new w #[.int .u32 0, .int .u32 0, .int .u64 0, .int .u32 0] 31
  have E0 := RowAt.new (w.alloc (.cells #[.int .u32 0, .int .u32 0, .int .u64 0, .int .u32 0] 31)) #[.int .i64 0] 26
  have X1 := X0.alloc (.cells #[.int .i64 0] 26)
  have hB0 : Below w.heap.size w ((w.alloc (.cells #[.int .u32 0, .int .u32 0, .int .u64 0, .int .u32 0] 31)).alloc (.cells #[.int .i64 0] 26)) := (below_alloc w _).alloc (by simp) _
  simp only [World.size_alloc] at E0
  obtain ⟨W0, hW0⟩ : ∃ W0, (w.alloc (.cells #[.int .u32 0, .int .u32 0, .int .u64 0, .int .u32 0] 31)).alloc (.cells #[.int .i64 0] 26) = W0 := ⟨_, rfl⟩
  have hz0 : W0.heap.size = w.heap.size + 2 := by rw [← hW0]; simp
  rw [hW0] at E0 X1 hB0
  have R0 := RowAt.new W0 #[strV l] 84
  have hb0 := below_alloc W0 (.cells #[strV l] 84)
  have HX := Lib.hid (X1.below hb0)
  have HE := Lib.hid (E0.below hb0)
  have HB := Lib.hid (below_up hB0 hb0)
  have HT := Lib.hid hT
  obtain ⟨W1, hW1⟩ : ∃ W1, W0.alloc (.cells #[strV l] 84) = W1 := ⟨_, rfl⟩
  rw [hW1] at R0 HX HE HB
  have HR := Lib.hid R0
  have HZ := Lib.hid hz0
  rw [hz0] at R0
  have hR1 := Lib.hid R0
  clear X0 E0 X1 hT hB0 R0 hb0 HR
  have hd : decide ((l.length : Int) ≤ 100) = true := decide_eq_true (by omega)
  go_enter_defers Tryd.func11, Tryd.ntmps11
  go_wp2_with (go_at_call 39; (with_reducible refine (nmMust_yes _ _).mono ?_); rintro en w6 ⟨rfl, rfl⟩)
  try rw [HZ.out]
  refine (upToBlank_c l (by omega) (w.heap.size + 2) 84 _ hR1.out).mono ?_
  rintro en w2 hU
  obtain ⟨rfl, hb2, hR2⟩ := hU.yes Hc1.out
  clear hU
  have HXa := Lib.hid (show RowAt w2 w.heap.size #[(.int .u32 0), (.int .u32 0), (.int .u64 0), (.int .u32 0)] 31 from (hb2.same _ HX.out.lt (by omega)).trans HX.out)
  have HEa := Lib.hid (show RowAt w2 (w.heap.size + 1) #[.int .i64 0] 26 from (hb2.same _ HE.out.lt (by omega)).trans HE.out)
  have HBa := Lib.hid (but_below HB.out hb2 (fun k e => by omega) (Nat.le_refl _))
  clear HX HE HB
  have HX := HXa
  have HE := HEa
  have HB := HBa
  clear HXa HEa HBa
  have hR2 := Lib.hid hR2
  clear hR1 hb2
  go_wp2_with fail
  refine (endpoint_c la hla _ (HT.out.up HB.out)).mono ?_
  rintro en w3 hU
  unfold EndE at hU
  rw [Hc2.out] at hU
  obtain ⟨hb3, rfl⟩ := hU
  have HXa := Lib.hid (HX.out.below hb3)
  have HEa := Lib.hid (HE.out.below hb3)
  have HBa := Lib.hid (below_up HB.out hb3)
  clear HX HE HB
  have HX := HXa
  have HE := HEa
  have HB := HBa
  clear HXa HEa HBa
  have hR3 := Lib.hid (hR2.out.below hb3)
  clear hb3 hR2
  have a0 := HX.out.cell (i := 0) rfl
  have a1 := HX.out.cell (i := 1) rfl
  have f0 := HX.out.fz 0
  have f1 := HX.out.fz 1
  go_wp2_with fail
  clear a0 a1 f0 f1
  have HX4 := (HX.out.set 0 (.int .u32 n)).set 1 (.int .u32 m)
  have s4 : But (fun k => k = w.heap.size) w3 ((w3.setCell ⟨w.heap.size, 0, none⟩ (.int .u32 n)).setCell ⟨w.heap.size, 1, none⟩ (.int .u32 m)) := (But.setCell (O := fun k => k = w.heap.size) w3 ⟨w.heap.size, 0, none⟩ (.int .u32 n) (.inl rfl)).trans (But.setCell _ _ _ (.inl rfl))
  obtain ⟨W4, hW4⟩ : ∃ x, (w3.setCell ⟨w.heap.size, 0, none⟩ (.int .u32 n)).setCell ⟨w.heap.size, 1, none⟩ (.int .u32 m) = x := ⟨_, rfl⟩
  rw [hW4] at HX4 s4 ⊢
  have HX4 := Lib.hid (show RowAt W4 w.heap.size #[(.int .u32 n), (.int .u32 m), (.int .u64 0), (.int .u32 0)] 31 from HX4)
  have HE4 := Lib.hid (show RowAt W4 (w.heap.size + 1) #[.int .i64 0] 26 from (s4.same _ HE.out.lt (by omega)).trans HE.out)
  have hR4 := Lib.hid (show RowAt W4 (w.heap.size + 2) #[strV lr] 84 from (s4.same _ hR3.out.lt (by omega)).trans hR3.out)
  have HB4 := Lib.hid (but_below HB.out s4 (fun k e => by omega) (Nat.le_refl _))
  clear HX HE HB hR3 s4 hW4
  have HX := HX4
  have HE := HE4
  have HB := HB4
  clear HX4 HE4 HB4
  refine (upToBlank_c lr hlr (w.heap.size + 2) 84 _ hR4.out).mono ?_
  rintro en w5 hU
  obtain ⟨rfl, hb5⟩ := hU.no Hc3.out
  refine pn_door _ _ 130 _ _ _ _ _ (HX.out.below hb5) (HE.out.below hb5) (by omega) _ _ _ _ _ _ _ _ _ _ _ _ _ _ _ _ _ _ _ _ _ _ _ _ _ _ _ _ _ _ _ _ _ _ _ (fun W' hb => PnE.no HP.out ?_)
  exact (below_up HB.out hb5).trans (hb.below (fun k e => by omega) (below_up HB.out hb5).size)
set_option maxHeartbeats 2000000 in
set_option maxRecDepth 100000 in
theorem pname_3 (l : List UInt8) (w : World) (hT : NmT w) (h1 : l.length ≤ 100) (la lr : List UInt8) (c1 : Dig.cut 32 l = some (la, lr)) (n m : Nat) (c2 : Dig.endP la = some (n, m)) (lb lc : List UInt8) (c3 : Dig.cut 32 lr = some (lb, lc)) (c4 : Dig.toNum lb 4611686018427387903 = none) : Calls Tryd.prog 11 #[strV l] w (PnE l w) := by
  have hlz : (⟨l.toArray⟩ : ByteArray).size = l.length := by show l.toArray.size = _; simp
  have HQ : Dig.nameQ l = none := by unfold Dig.nameQ; simp only [c1, c2, c3, c4]
  have HP := Lib.hid (show Dig.nameP l = (⟨0, 0, 0, 0⟩, 130) by unfold Dig.nameP; rw [if_neg (by omega), HQ])
  clear HQ
  have hcs := Dig.cut_some c1
  have hll := congrArg List.length hcs.1
  simp only [List.length_append, List.length_cons] at hll
  clear hcs
  have hla : la.length ≤ 281474976710656 := by omega
  have hlr : lr.length ≤ 281474976710656 := by omega
  have hcs2 := Dig.cut_some c3
  have hll2 := congrArg List.length hcs2.1
  simp only [List.length_append, List.length_cons] at hll2
  clear hcs2
  have hlb : lb.length ≤ 281474976710656 := by omega
  have hlc : lc.length ≤ 281474976710656 := by omega
  clear hll2
  clear hll
  have hle := Dig.endP_le c2
  have Hc1 := Lib.hid c1
  have Hc2 := Lib.hid c2
  have Hc3 := Lib.hid c3
  have Hc4 := Lib.hid c4
  clear c1 c2 c3 c4
  have X0 := RowAt.new w #[.int .u32 0, .int .u32 0, .int .u64 0, .int .u32 0] 31
  have E0 := RowAt.new (w.alloc (.cells #[.int .u32 0, .int .u32 0, .int .u64 0, .int .u32 0] 31)) #[.int .i64 0] 26
  have X1 := X0.alloc (.cells #[.int .i64 0] 26)
  have hB0 : Below w.heap.size w ((w.alloc (.cells #[.int .u32 0, .int .u32 0, .int .u64 0, .int .u32 0] 31)).alloc (.cells #[.int .i64 0] 26)) := (below_alloc w _).alloc (by simp) _
  simp only [World.size_alloc] at E0
  obtain ⟨W0, hW0⟩ : ∃ W0, (w.alloc (.cells #[.int .u32 0, .int .u32 0, .int .u64 0, .int .u32 0] 31)).alloc (.cells #[.int .i64 0] 26) = W0 := ⟨_, rfl⟩
  have hz0 : W0.heap.size = w.heap.size + 2 := by rw [← hW0]; simp
  rw [hW0] at E0 X1 hB0
  have R0 := RowAt.new W0 #[strV l] 84
  have hb0 := below_alloc W0 (.cells #[strV l] 84)
  have HX := Lib.hid (X1.below hb0)
  have HE := Lib.hid (E0.below hb0)
  have HB := Lib.hid (below_up hB0 hb0)
  have HT := Lib.hid hT
  obtain ⟨W1, hW1⟩ : ∃ W1, W0.alloc (.cells #[strV l] 84) = W1 := ⟨_, rfl⟩
  rw [hW1] at R0 HX HE HB
  have HR := Lib.hid R0
  have HZ := Lib.hid hz0
  rw [hz0] at R0
  have hR1 := Lib.hid R0
  clear X0 E0 X1 hT hB0 R0 hb0 HR
  have hd : decide ((l.length : Int) ≤ 100) = true := decide_eq_true (by omega)
  go_enter_defers Tryd.func11, Tryd.ntmps11
  go_wp2_with (go_at_call 39; (with_reducible refine (nmMust_yes _ _).mono ?_); rintro en w6 ⟨rfl, rfl⟩)
  try rw [HZ.out]
  refine (upToBlank_c l (by omega) (w.heap.size + 2) 84 _ hR1.out).mono ?_
  rintro en w2 hU
  obtain ⟨rfl, hb2, hR2⟩ := hU.yes Hc1.out
  clear hU
  have HXa := Lib.hid (show RowAt w2 w.heap.size #[(.int .u32 0), (.int .u32 0), (.int .u64 0), (.int .u32 0)] 31 from (hb2.same _ HX.out.lt (by omega)).trans HX.out)
  have HEa := Lib.hid (show RowAt w2 (w.heap.size + 1) #[.int .i64 0] 26 from (hb2.same _ HE.out.lt (by omega)).trans HE.out)
  have HBa := Lib.hid (but_below HB.out hb2 (fun k e => by omega) (Nat.le_refl _))
  clear HX HE HB
  have HX := HXa
  have HE := HEa
  have HB := HBa
  clear HXa HEa HBa
  have hR2 := Lib.hid hR2
  clear hR1 hb2
  go_wp2_with fail
  refine (endpoint_c la hla _ (HT.out.up HB.out)).mono ?_
  rintro en w3 hU
  unfold EndE at hU
  rw [Hc2.out] at hU
  obtain ⟨hb3, rfl⟩ := hU
  have HXa := Lib.hid (HX.out.below hb3)
  have HEa := Lib.hid (HE.out.below hb3)
  have HBa := Lib.hid (below_up HB.out hb3)
  clear HX HE HB
  have HX := HXa
  have HE := HEa
  have HB := HBa
  clear HXa HEa HBa
  have hR3 := Lib.hid (hR2.out.below hb3)
  clear hb3 hR2
  have a0 := HX.out.cell (i := 0) rfl
  have a1 := HX.out.cell (i := 1) rfl
  have f0 := HX.out.fz 0
  have f1 := HX.out.fz 1
  go_wp2_with fail
  clear a0 a1 f0 f1
  have HX4 := (HX.out.set 0 (.int .u32 n)).set 1 (.int .u32 m)
  have s4 : But (fun k => k = w.heap.size) w3 ((w3.setCell ⟨w.heap.size, 0, none⟩ (.int .u32 n)).setCell ⟨w.heap.size, 1, none⟩ (.int .u32 m)) := (But.setCell (O := fun k => k = w.heap.size) w3 ⟨w.heap.size, 0, none⟩ (.int .u32 n) (.inl rfl)).trans (But.setCell _ _ _ (.inl rfl))
  obtain ⟨W4, hW4⟩ : ∃ x, (w3.setCell ⟨w.heap.size, 0, none⟩ (.int .u32 n)).setCell ⟨w.heap.size, 1, none⟩ (.int .u32 m) = x := ⟨_, rfl⟩
  rw [hW4] at HX4 s4 ⊢
  have HX4 := Lib.hid (show RowAt W4 w.heap.size #[(.int .u32 n), (.int .u32 m), (.int .u64 0), (.int .u32 0)] 31 from HX4)
  have HE4 := Lib.hid (show RowAt W4 (w.heap.size + 1) #[.int .i64 0] 26 from (s4.same _ HE.out.lt (by omega)).trans HE.out)
  have hR4 := Lib.hid (show RowAt W4 (w.heap.size + 2) #[strV lr] 84 from (s4.same _ hR3.out.lt (by omega)).trans hR3.out)
  have HB4 := Lib.hid (but_below HB.out s4 (fun k e => by omega) (Nat.le_refl _))
  clear HX HE HB hR3 s4 hW4
  have HX := HX4
  have HE := HE4
  have HB := HB4
  clear HX4 HE4 HB4
  refine (upToBlank_c lr hlr (w.heap.size + 2) 84 _ hR4.out).mono ?_
  rintro en w5 hU
  obtain ⟨rfl, hb5, hR5⟩ := hU.yes Hc3.out
  clear hU
  have HXa := Lib.hid (show RowAt w5 w.heap.size #[(.int .u32 n), (.int .u32 m), (.int .u64 0), (.int .u32 0)] 31 from (hb5.same _ HX.out.lt (by omega)).trans HX.out)
  have HEa := Lib.hid (show RowAt w5 (w.heap.size + 1) #[.int .i64 0] 26 from (hb5.same _ HE.out.lt (by omega)).trans HE.out)
  have HBa := Lib.hid (but_below HB.out hb5 (fun k e => by omega) (Nat.le_refl _))
  clear HX HE HB
  have HX := HXa
  have HE := HEa
  have HB := HBa
  clear HXa HEa HBa
  have hR5 := Lib.hid hR5
  clear hR4 hb5
  go_wp2_with fail
  refine (bounded_c lb hlb 4611686018427387903 (by decide) _ (HT.out.up HB.out)).mono ?_
  rintro en w6 hU
  obtain ⟨rfl, hb6⟩ := hU.gives Hc4.out
  refine pn_door _ _ 130 _ _ _ _ _ (HX.out.below hb6) (HE.out.below hb6) (by omega) _ _ _ _ _ _ _ _ _ _ _ _ _ _ _ _ _ _ _ _ _ _ _ _ _ _ _ _ _ _ _ _ _ _ _ (fun W' hb => PnE.no HP.out ?_)
  exact (below_up HB.out hb6).trans (hb.below (fun k e => by omega) (below_up HB.out hb6).size)
set_option maxHeartbeats 2000000 in
set_option maxRecDepth 100000 in
theorem pname_4 (l : List UInt8) (w : World) (hT : NmT w) (h1 : l.length ≤ 100) (la lr : List UInt8) (c1 : Dig.cut 32 l = some (la, lr)) (n m : Nat) (c2 : Dig.endP la = some (n, m)) (lb lc : List UInt8) (c3 : Dig.cut 32 lr = some (lb, lc)) (t : Nat) (c4 : Dig.toNum lb 4611686018427387903 = some t) (c5 : Dig.toNum lc 4294967295 = none) : Calls Tryd.prog 11 #[strV l] w (PnE l w) := by
  have hlz : (⟨l.toArray⟩ : ByteArray).size = l.length := by show l.toArray.size = _; simp
  have HQ : Dig.nameQ l = none := by unfold Dig.nameQ; simp only [c1, c2, c3, c4, c5]
  have HP := Lib.hid (show Dig.nameP l = (⟨0, 0, 0, 0⟩, 130) by unfold Dig.nameP; rw [if_neg (by omega), HQ])
  clear HQ
  have hcs := Dig.cut_some c1
  have hll := congrArg List.length hcs.1
  simp only [List.length_append, List.length_cons] at hll
  clear hcs
  have hla : la.length ≤ 281474976710656 := by omega
  have hlr : lr.length ≤ 281474976710656 := by omega
  have hcs2 := Dig.cut_some c3
  have hll2 := congrArg List.length hcs2.1
  simp only [List.length_append, List.length_cons] at hll2
  clear hcs2
  have hlb : lb.length ≤ 281474976710656 := by omega
  have hlc : lc.length ≤ 281474976710656 := by omega
  clear hll2
  clear hll
  have hle := Dig.endP_le c2
  have Hc1 := Lib.hid c1
  have Hc2 := Lib.hid c2
  have Hc3 := Lib.hid c3
  have Hc4 := Lib.hid c4
  have Hc5 := Lib.hid c5
  clear c1 c2 c3 c4 c5
  have X0 := RowAt.new w #[.int .u32 0, .int .u32 0, .int .u64 0, .int .u32 0] 31
  have E0 := RowAt.new (w.alloc (.cells #[.int .u32 0, .int .u32 0, .int .u64 0, .int .u32 0] 31)) #[.int .i64 0] 26
  have X1 := X0.alloc (.cells #[.int .i64 0] 26)
  have hB0 : Below w.heap.size w ((w.alloc (.cells #[.int .u32 0, .int .u32 0, .int .u64 0, .int .u32 0] 31)).alloc (.cells #[.int .i64 0] 26)) := (below_alloc w _).alloc (by simp) _
  simp only [World.size_alloc] at E0
  obtain ⟨W0, hW0⟩ : ∃ W0, (w.alloc (.cells #[.int .u32 0, .int .u32 0, .int .u64 0, .int .u32 0] 31)).alloc (.cells #[.int .i64 0] 26) = W0 := ⟨_, rfl⟩
  have hz0 : W0.heap.size = w.heap.size + 2 := by rw [← hW0]; simp
  rw [hW0] at E0 X1 hB0
  have R0 := RowAt.new W0 #[strV l] 84
  have hb0 := below_alloc W0 (.cells #[strV l] 84)
  have HX := Lib.hid (X1.below hb0)
  have HE := Lib.hid (E0.below hb0)
  have HB := Lib.hid (below_up hB0 hb0)
  have HT := Lib.hid hT
  obtain ⟨W1, hW1⟩ : ∃ W1, W0.alloc (.cells #[strV l] 84) = W1 := ⟨_, rfl⟩
  rw [hW1] at R0 HX HE HB
  have HR := Lib.hid R0
  have HZ := Lib.hid hz0
  rw [hz0] at R0
  have hR1 := Lib.hid R0
  clear X0 E0 X1 hT hB0 R0 hb0 HR
  have hd : decide ((l.length : Int) ≤ 100) = true := decide_eq_true (by omega)
  go_enter_defers Tryd.func11, Tryd.ntmps11
  go_wp2_with (go_at_call 39; (with_reducible refine (nmMust_yes _ _).mono ?_); rintro en w6 ⟨rfl, rfl⟩)
  try rw [HZ.out]
  refine (upToBlank_c l (by omega) (w.heap.size + 2) 84 _ hR1.out).mono ?_
  rintro en w2 hU
  obtain ⟨rfl, hb2, hR2⟩ := hU.yes Hc1.out
  clear hU
  have HXa := Lib.hid (show RowAt w2 w.heap.size #[(.int .u32 0), (.int .u32 0), (.int .u64 0), (.int .u32 0)] 31 from (hb2.same _ HX.out.lt (by omega)).trans HX.out)
  have HEa := Lib.hid (show RowAt w2 (w.heap.size + 1) #[.int .i64 0] 26 from (hb2.same _ HE.out.lt (by omega)).trans HE.out)
  have HBa := Lib.hid (but_below HB.out hb2 (fun k e => by omega) (Nat.le_refl _))
  clear HX HE HB
  have HX := HXa
  have HE := HEa
  have HB := HBa
  clear HXa HEa HBa
  have hR2 := Lib.hid hR2
  clear hR1 hb2
  go_wp2_with fail
  refine (endpoint_c la hla _ (HT.out.up HB.out)).mono ?_
  rintro en w3 hU
  unfold EndE at hU
  rw [Hc2.out] at hU
  obtain ⟨hb3, rfl⟩ := hU
  have HXa := Lib.hid (HX.out.below hb3)
  have HEa := Lib.hid (HE.out.below hb3)
  have HBa := Lib.hid (below_up HB.out hb3)
  clear HX HE HB
  have HX := HXa
  have HE := HEa
  have HB := HBa
  clear HXa HEa HBa
  have hR3 := Lib.hid (hR2.out.below hb3)
  clear hb3 hR2
  have a0 := HX.out.cell (i := 0) rfl
  have a1 := HX.out.cell (i := 1) rfl
  have f0 := HX.out.fz 0
  have f1 := HX.out.fz 1
  go_wp2_with fail
  clear a0 a1 f0 f1
  have HX4 := (HX.out.set 0 (.int .u32 n)).set 1 (.int .u32 m)
  have s4 : But (fun k => k = w.heap.size) w3 ((w3.setCell ⟨w.heap.size, 0, none⟩ (.int .u32 n)).setCell ⟨w.heap.size, 1, none⟩ (.int .u32 m)) := (But.setCell (O := fun k => k = w.heap.size) w3 ⟨w.heap.size, 0, none⟩ (.int .u32 n) (.inl rfl)).trans (But.setCell _ _ _ (.inl rfl))
  obtain ⟨W4, hW4⟩ : ∃ x, (w3.setCell ⟨w.heap.size, 0, none⟩ (.int .u32 n)).setCell ⟨w.heap.size, 1, none⟩ (.int .u32 m) = x := ⟨_, rfl⟩
  rw [hW4] at HX4 s4 ⊢
  have HX4 := Lib.hid (show RowAt W4 w.heap.size #[(.int .u32 n), (.int .u32 m), (.int .u64 0), (.int .u32 0)] 31 from HX4)
  have HE4 := Lib.hid (show RowAt W4 (w.heap.size + 1) #[.int .i64 0] 26 from (s4.same _ HE.out.lt (by omega)).trans HE.out)
  have hR4 := Lib.hid (show RowAt W4 (w.heap.size + 2) #[strV lr] 84 from (s4.same _ hR3.out.lt (by omega)).trans hR3.out)
  have HB4 := Lib.hid (but_below HB.out s4 (fun k e => by omega) (Nat.le_refl _))
  clear HX HE HB hR3 s4 hW4
  have HX := HX4
  have HE := HE4
  have HB := HB4
  clear HX4 HE4 HB4
  refine (upToBlank_c lr hlr (w.heap.size + 2) 84 _ hR4.out).mono ?_
  rintro en w5 hU
  obtain ⟨rfl, hb5, hR5⟩ := hU.yes Hc3.out
  clear hU
  have HXa := Lib.hid (show RowAt w5 w.heap.size #[(.int .u32 n), (.int .u32 m), (.int .u64 0), (.int .u32 0)] 31 from (hb5.same _ HX.out.lt (by omega)).trans HX.out)
  have HEa := Lib.hid (show RowAt w5 (w.heap.size + 1) #[.int .i64 0] 26 from (hb5.same _ HE.out.lt (by omega)).trans HE.out)
  have HBa := Lib.hid (but_below HB.out hb5 (fun k e => by omega) (Nat.le_refl _))
  clear HX HE HB
  have HX := HXa
  have HE := HEa
  have HB := HBa
  clear HXa HEa HBa
  have hR5 := Lib.hid hR5
  clear hR4 hb5
  go_wp2_with fail
  refine (bounded_c lb hlb 4611686018427387903 (by decide) _ (HT.out.up HB.out)).mono ?_
  rintro en w6 hU
  obtain ⟨rfl, hb6⟩ := hU.yes Hc4.out
  have HXa := Lib.hid (HX.out.below hb6)
  have HEa := Lib.hid (HE.out.below hb6)
  have HBa := Lib.hid (below_up HB.out hb6)
  clear HX HE HB
  have HX := HXa
  have HE := HEa
  have HB := HBa
  clear HXa HEa HBa
  have hR6 := Lib.hid (hR5.out.below hb6)
  clear hb6 hR5
  have a2 := HX.out.cell (i := 2) rfl
  have f2 := HX.out.fz 2
  go_wp2_with fail
  clear a2 f2
  have HX7 := HX.out.set 2 (.int .u64 t)
  have s7 : But (fun k => k = w.heap.size) w6 (w6.setCell ⟨w.heap.size, 2, none⟩ (.int .u64 t)) := But.setCell _ _ _ (.inl rfl)
  obtain ⟨W7, hW7⟩ : ∃ x, w6.setCell ⟨w.heap.size, 2, none⟩ (.int .u64 t) = x := ⟨_, rfl⟩
  rw [hW7] at HX7 s7 ⊢
  have HX7 := Lib.hid (show RowAt W7 w.heap.size #[(.int .u32 n), (.int .u32 m), (.int .u64 t), (.int .u32 0)] 31 from HX7)
  have HE7 := Lib.hid (show RowAt W7 (w.heap.size + 1) #[.int .i64 0] 26 from (s7.same _ HE.out.lt (by omega)).trans HE.out)
  have hR7 := Lib.hid (show RowAt W7 (w.heap.size + 2) #[strV lc] 84 from (s7.same _ hR6.out.lt (by omega)).trans hR6.out)
  have HB7 := Lib.hid (but_below HB.out s7 (fun k e => by omega) (Nat.le_refl _))
  clear HX HE HB hR6 s7 hW7
  have HX := HX7
  have HE := HE7
  have HB := HB7
  clear HX7 HE7 HB7
  refine (rest_c lc (w.heap.size + 2) 84 _ hR7.out).mono ?_
  rintro en w8 ⟨rfl, hb8⟩
  have HXa := Lib.hid (show RowAt w8 w.heap.size #[(.int .u32 n), (.int .u32 m), (.int .u64 t), (.int .u32 0)] 31 from (hb8.same _ HX.out.lt (by omega)).trans HX.out)
  have HEa := Lib.hid (show RowAt w8 (w.heap.size + 1) #[.int .i64 0] 26 from (hb8.same _ HE.out.lt (by omega)).trans HE.out)
  have HBa := Lib.hid (but_below HB.out hb8 (fun k e => by omega) (Nat.le_refl _))
  clear HX HE HB
  have HX := HXa
  have HE := HEa
  have HB := HBa
  clear HXa HEa HBa
  clear hb8 hR7
  go_wp2_with fail
  refine (bounded_c lc hlc 4294967295 (by decide) _ (HT.out.up HB.out)).mono ?_
  rintro en w9 hU
  obtain ⟨rfl, hb9⟩ := hU.gives Hc5.out
  refine pn_door _ _ 130 _ _ _ _ _ (HX.out.below hb9) (HE.out.below hb9) (by omega) _ _ _ _ _ _ _ _ _ _ _ _ _ _ _ _ _ _ _ _ _ _ _ _ _ _ _ _ _ _ _ _ _ _ _ (fun W' hb => PnE.no HP.out ?_)
  exact (below_up HB.out hb9).trans (hb.below (fun k e => by omega) (below_up HB.out hb9).size)
set_option maxHeartbeats 2000000 in
set_option maxRecDepth 100000 in
theorem pname_5 (l : List UInt8) (w : World) (hT : NmT w) (h1 : l.length ≤ 100) (la lr : List UInt8) (c1 : Dig.cut 32 l = some (la, lr)) (n m : Nat) (c2 : Dig.endP la = some (n, m)) (lb lc : List UInt8) (c3 : Dig.cut 32 lr = some (lb, lc)) (t : Nat) (c4 : Dig.toNum lb 4611686018427387903 = some t) (s : Nat) (c5 : Dig.toNum lc 4294967295 = some s) (c6 : n = 0) : Calls Tryd.prog 11 #[strV l] w (PnE l w) := by
  have hlz : (⟨l.toArray⟩ : ByteArray).size = l.length := by show l.toArray.size = _; simp
  have HQ : Dig.nameQ l = none := by unfold Dig.nameQ; simp only [c1, c2, c3, c4, c5]; rw [if_pos c6]
  have HP := Lib.hid (show Dig.nameP l = (⟨0, 0, 0, 0⟩, 130) by unfold Dig.nameP; rw [if_neg (by omega), HQ])
  clear HQ
  have hcs := Dig.cut_some c1
  have hll := congrArg List.length hcs.1
  simp only [List.length_append, List.length_cons] at hll
  clear hcs
  have hla : la.length ≤ 281474976710656 := by omega
  have hlr : lr.length ≤ 281474976710656 := by omega
  have hcs2 := Dig.cut_some c3
  have hll2 := congrArg List.length hcs2.1
  simp only [List.length_append, List.length_cons] at hll2
  clear hcs2
  have hlb : lb.length ≤ 281474976710656 := by omega
  have hlc : lc.length ≤ 281474976710656 := by omega
  clear hll2
  clear hll
  have hle := Dig.endP_le c2
  have hts := Dig.toNum_le c4
  have hss := Dig.toNum_le c5
  have hws : IntKind.u32.wrap (s : Int) = (s : Int) := by rw [IntKind.wrap_u32]; omega
  have Hc1 := Lib.hid c1
  have Hc2 := Lib.hid c2
  have Hc3 := Lib.hid c3
  have Hc4 := Lib.hid c4
  have Hc5 := Lib.hid c5
  clear c1 c2 c3 c4 c5
  have Hc6 := Lib.hid c6
  clear c6 hle
  have X0 := RowAt.new w #[.int .u32 0, .int .u32 0, .int .u64 0, .int .u32 0] 31
  have E0 := RowAt.new (w.alloc (.cells #[.int .u32 0, .int .u32 0, .int .u64 0, .int .u32 0] 31)) #[.int .i64 0] 26
  have X1 := X0.alloc (.cells #[.int .i64 0] 26)
  have hB0 : Below w.heap.size w ((w.alloc (.cells #[.int .u32 0, .int .u32 0, .int .u64 0, .int .u32 0] 31)).alloc (.cells #[.int .i64 0] 26)) := (below_alloc w _).alloc (by simp) _
  simp only [World.size_alloc] at E0
  obtain ⟨W0, hW0⟩ : ∃ W0, (w.alloc (.cells #[.int .u32 0, .int .u32 0, .int .u64 0, .int .u32 0] 31)).alloc (.cells #[.int .i64 0] 26) = W0 := ⟨_, rfl⟩
  have hz0 : W0.heap.size = w.heap.size + 2 := by rw [← hW0]; simp
  rw [hW0] at E0 X1 hB0
  have R0 := RowAt.new W0 #[strV l] 84
  have hb0 := below_alloc W0 (.cells #[strV l] 84)
  have HX := Lib.hid (X1.below hb0)
  have HE := Lib.hid (E0.below hb0)
  have HB := Lib.hid (below_up hB0 hb0)
  have HT := Lib.hid hT
  obtain ⟨W1, hW1⟩ : ∃ W1, W0.alloc (.cells #[strV l] 84) = W1 := ⟨_, rfl⟩
  rw [hW1] at R0 HX HE HB
  have HR := Lib.hid R0
  have HZ := Lib.hid hz0
  rw [hz0] at R0
  have hR1 := Lib.hid R0
  clear X0 E0 X1 hT hB0 R0 hb0 HR
  have hd : decide ((l.length : Int) ≤ 100) = true := decide_eq_true (by omega)
  go_enter_defers Tryd.func11, Tryd.ntmps11
  go_wp2_with (go_at_call 39; (with_reducible refine (nmMust_yes _ _).mono ?_); rintro en w6 ⟨rfl, rfl⟩)
  try rw [HZ.out]
  refine (upToBlank_c l (by omega) (w.heap.size + 2) 84 _ hR1.out).mono ?_
  rintro en w2 hU
  obtain ⟨rfl, hb2, hR2⟩ := hU.yes Hc1.out
  clear hU
  have HXa := Lib.hid (show RowAt w2 w.heap.size #[(.int .u32 0), (.int .u32 0), (.int .u64 0), (.int .u32 0)] 31 from (hb2.same _ HX.out.lt (by omega)).trans HX.out)
  have HEa := Lib.hid (show RowAt w2 (w.heap.size + 1) #[.int .i64 0] 26 from (hb2.same _ HE.out.lt (by omega)).trans HE.out)
  have HBa := Lib.hid (but_below HB.out hb2 (fun k e => by omega) (Nat.le_refl _))
  clear HX HE HB
  have HX := HXa
  have HE := HEa
  have HB := HBa
  clear HXa HEa HBa
  have hR2 := Lib.hid hR2
  clear hR1 hb2
  go_wp2_with fail
  refine (endpoint_c la hla _ (HT.out.up HB.out)).mono ?_
  rintro en w3 hU
  unfold EndE at hU
  rw [Hc2.out] at hU
  obtain ⟨hb3, rfl⟩ := hU
  have HXa := Lib.hid (HX.out.below hb3)
  have HEa := Lib.hid (HE.out.below hb3)
  have HBa := Lib.hid (below_up HB.out hb3)
  clear HX HE HB
  have HX := HXa
  have HE := HEa
  have HB := HBa
  clear HXa HEa HBa
  have hR3 := Lib.hid (hR2.out.below hb3)
  clear hb3 hR2
  have a0 := HX.out.cell (i := 0) rfl
  have a1 := HX.out.cell (i := 1) rfl
  have f0 := HX.out.fz 0
  have f1 := HX.out.fz 1
  go_wp2_with fail
  clear a0 a1 f0 f1
  have HX4 := (HX.out.set 0 (.int .u32 n)).set 1 (.int .u32 m)
  have s4 : But (fun k => k = w.heap.size) w3 ((w3.setCell ⟨w.heap.size, 0, none⟩ (.int .u32 n)).setCell ⟨w.heap.size, 1, none⟩ (.int .u32 m)) := (But.setCell (O := fun k => k = w.heap.size) w3 ⟨w.heap.size, 0, none⟩ (.int .u32 n) (.inl rfl)).trans (But.setCell _ _ _ (.inl rfl))
  obtain ⟨W4, hW4⟩ : ∃ x, (w3.setCell ⟨w.heap.size, 0, none⟩ (.int .u32 n)).setCell ⟨w.heap.size, 1, none⟩ (.int .u32 m) = x := ⟨_, rfl⟩
  rw [hW4] at HX4 s4 ⊢
  have HX4 := Lib.hid (show RowAt W4 w.heap.size #[(.int .u32 n), (.int .u32 m), (.int .u64 0), (.int .u32 0)] 31 from HX4)
  have HE4 := Lib.hid (show RowAt W4 (w.heap.size + 1) #[.int .i64 0] 26 from (s4.same _ HE.out.lt (by omega)).trans HE.out)
  have hR4 := Lib.hid (show RowAt W4 (w.heap.size + 2) #[strV lr] 84 from (s4.same _ hR3.out.lt (by omega)).trans hR3.out)
  have HB4 := Lib.hid (but_below HB.out s4 (fun k e => by omega) (Nat.le_refl _))
  clear HX HE HB hR3 s4 hW4
  have HX := HX4
  have HE := HE4
  have HB := HB4
  clear HX4 HE4 HB4
  refine (upToBlank_c lr hlr (w.heap.size + 2) 84 _ hR4.out).mono ?_
  rintro en w5 hU
  obtain ⟨rfl, hb5, hR5⟩ := hU.yes Hc3.out
  clear hU
  have HXa := Lib.hid (show RowAt w5 w.heap.size #[(.int .u32 n), (.int .u32 m), (.int .u64 0), (.int .u32 0)] 31 from (hb5.same _ HX.out.lt (by omega)).trans HX.out)
  have HEa := Lib.hid (show RowAt w5 (w.heap.size + 1) #[.int .i64 0] 26 from (hb5.same _ HE.out.lt (by omega)).trans HE.out)
  have HBa := Lib.hid (but_below HB.out hb5 (fun k e => by omega) (Nat.le_refl _))
  clear HX HE HB
  have HX := HXa
  have HE := HEa
  have HB := HBa
  clear HXa HEa HBa
  have hR5 := Lib.hid hR5
  clear hR4 hb5
  go_wp2_with fail
  refine (bounded_c lb hlb 4611686018427387903 (by decide) _ (HT.out.up HB.out)).mono ?_
  rintro en w6 hU
  obtain ⟨rfl, hb6⟩ := hU.yes Hc4.out
  have HXa := Lib.hid (HX.out.below hb6)
  have HEa := Lib.hid (HE.out.below hb6)
  have HBa := Lib.hid (below_up HB.out hb6)
  clear HX HE HB
  have HX := HXa
  have HE := HEa
  have HB := HBa
  clear HXa HEa HBa
  have hR6 := Lib.hid (hR5.out.below hb6)
  clear hb6 hR5
  have a2 := HX.out.cell (i := 2) rfl
  have f2 := HX.out.fz 2
  go_wp2_with fail
  clear a2 f2
  have HX7 := HX.out.set 2 (.int .u64 t)
  have s7 : But (fun k => k = w.heap.size) w6 (w6.setCell ⟨w.heap.size, 2, none⟩ (.int .u64 t)) := But.setCell _ _ _ (.inl rfl)
  obtain ⟨W7, hW7⟩ : ∃ x, w6.setCell ⟨w.heap.size, 2, none⟩ (.int .u64 t) = x := ⟨_, rfl⟩
  rw [hW7] at HX7 s7 ⊢
  have HX7 := Lib.hid (show RowAt W7 w.heap.size #[(.int .u32 n), (.int .u32 m), (.int .u64 t), (.int .u32 0)] 31 from HX7)
  have HE7 := Lib.hid (show RowAt W7 (w.heap.size + 1) #[.int .i64 0] 26 from (s7.same _ HE.out.lt (by omega)).trans HE.out)
  have hR7 := Lib.hid (show RowAt W7 (w.heap.size + 2) #[strV lc] 84 from (s7.same _ hR6.out.lt (by omega)).trans hR6.out)
  have HB7 := Lib.hid (but_below HB.out s7 (fun k e => by omega) (Nat.le_refl _))
  clear HX HE HB hR6 s7 hW7
  have HX := HX7
  have HE := HE7
  have HB := HB7
  clear HX7 HE7 HB7
  refine (rest_c lc (w.heap.size + 2) 84 _ hR7.out).mono ?_
  rintro en w8 ⟨rfl, hb8⟩
  have HXa := Lib.hid (show RowAt w8 w.heap.size #[(.int .u32 n), (.int .u32 m), (.int .u64 t), (.int .u32 0)] 31 from (hb8.same _ HX.out.lt (by omega)).trans HX.out)
  have HEa := Lib.hid (show RowAt w8 (w.heap.size + 1) #[.int .i64 0] 26 from (hb8.same _ HE.out.lt (by omega)).trans HE.out)
  have HBa := Lib.hid (but_below HB.out hb8 (fun k e => by omega) (Nat.le_refl _))
  clear HX HE HB
  have HX := HXa
  have HE := HEa
  have HB := HBa
  clear HXa HEa HBa
  clear hb8 hR7
  go_wp2_with fail
  refine (bounded_c lc hlc 4294967295 (by decide) _ (HT.out.up HB.out)).mono ?_
  rintro en w9 hU
  obtain ⟨rfl, hb9⟩ := hU.yes Hc5.out
  have HXa := Lib.hid (HX.out.below hb9)
  have HEa := Lib.hid (HE.out.below hb9)
  have HBa := Lib.hid (below_up HB.out hb9)
  clear HX HE HB
  have HX := HXa
  have HE := HEa
  have HB := HBa
  clear HXa HEa HBa
  clear hb9
  have a0 := HX.out.cell (i := 0) rfl
  have f0 := HX.out.fz 0
  have a1 := HX.out.cell (i := 1) rfl
  have f1 := HX.out.fz 1
  have a2 := HX.out.cell (i := 2) rfl
  have f2 := HX.out.fz 2
  have a3 := HX.out.cell (i := 3) rfl
  have f3 := HX.out.fz 3
  go_wp2_with fail
  clear a0 a1 a2 a3 f0 f1 f2 f3
  have HXb := HX.out.set 3 (.int .u32 s)
  have sb : But (fun k => k = w.heap.size) w9 (w9.setCell ⟨w.heap.size, 3, none⟩ (.int .u32 s)) := But.setCell _ _ _ (.inl rfl)
  obtain ⟨Wb, hWb⟩ : ∃ x, w9.setCell ⟨w.heap.size, 3, none⟩ (.int .u32 s) = x := ⟨_, rfl⟩
  rw [hWb] at HXb sb ⊢
  have HXb := Lib.hid (show RowAt Wb w.heap.size #[(.int .u32 n), (.int .u32 m), (.int .u64 t), (.int .u32 s)] 31 from HXb)
  have HEb := Lib.hid (show RowAt Wb (w.heap.size + 1) #[.int .i64 0] 26 from (sb.same _ HE.out.lt (by omega)).trans HE.out)
  have HBb := Lib.hid (but_below HB.out sb (fun k e => by omega) (Nat.le_refl _))
  clear HX HE HB sb hWb
  have HX := HXb
  have HE := HEb
  have HB := HBb
  clear HXb HEb HBb
  have hck := checkName_cN n m t s Wb
  rw [(show Dig.chkN n t = 2 from if_pos (.inl Hc6.out))] at hck
  refine hck.mono ?_
  rintro en wc ⟨rfl, hbc⟩
  clear hck
  have HXa := Lib.hid (HX.out.below hbc)
  have HEa := Lib.hid (HE.out.below hbc)
  have HBa := Lib.hid (below_up HB.out hbc)
  clear HX HE HB
  have HX := HXa
  have HE := HEa
  have HB := HBa
  clear HXa HEa HBa
  clear hbc
  go_wp2_with (go_at_call 39; (with_reducible refine (nmMust_no _ _).mono ?_); rintro en w6 ⟨rfl, rfl⟩)
  refine pn_door _ _ 130 _ _ _ _ _ HX.out HE.out (by omega) _ _ _ _ _ _ _ _ _ _ _ _ _ _ _ _ _ _ _ _ _ _ _ _ _ _ _ _ _ _ _ _ _ _ _ (fun W' hb => PnE.no HP.out ?_)
  exact HB.out.trans (hb.below (fun k e => by omega) HB.out.size)
set_option maxHeartbeats 2000000 in
set_option maxRecDepth 100000 in
theorem pname_6 (l : List UInt8) (w : World) (hT : NmT w) (h1 : l.length ≤ 100) (la lr : List UInt8) (c1 : Dig.cut 32 l = some (la, lr)) (n m : Nat) (c2 : Dig.endP la = some (n, m)) (lb lc : List UInt8) (c3 : Dig.cut 32 lr = some (lb, lc)) (t : Nat) (c4 : Dig.toNum lb 4611686018427387903 = some t) (s : Nat) (c5 : Dig.toNum lc 4294967295 = some s) (c6 : n ≠ 0) : Calls Tryd.prog 11 #[strV l] w (PnE l w) := by
  have hlz : (⟨l.toArray⟩ : ByteArray).size = l.length := by show l.toArray.size = _; simp
  have HQ : Dig.nameQ l = some ⟨n, m, t, s⟩ := by unfold Dig.nameQ; simp only [c1, c2, c3, c4, c5]; rw [if_neg c6]
  have HP := Lib.hid (show Dig.nameP l = (⟨n, m, t, s⟩, 0) by unfold Dig.nameP; rw [if_neg (by omega), HQ])
  clear HQ
  have hcs := Dig.cut_some c1
  have hll := congrArg List.length hcs.1
  simp only [List.length_append, List.length_cons] at hll
  clear hcs
  have hla : la.length ≤ 281474976710656 := by omega
  have hlr : lr.length ≤ 281474976710656 := by omega
  have hcs2 := Dig.cut_some c3
  have hll2 := congrArg List.length hcs2.1
  simp only [List.length_append, List.length_cons] at hll2
  clear hcs2
  have hlb : lb.length ≤ 281474976710656 := by omega
  have hlc : lc.length ≤ 281474976710656 := by omega
  clear hll2
  clear hll
  have hle := Dig.endP_le c2
  have hts := Dig.toNum_le c4
  have hss := Dig.toNum_le c5
  have hws : IntKind.u32.wrap (s : Int) = (s : Int) := by rw [IntKind.wrap_u32]; omega
  have Hc1 := Lib.hid c1
  have Hc2 := Lib.hid c2
  have Hc3 := Lib.hid c3
  have Hc4 := Lib.hid c4
  have Hc5 := Lib.hid c5
  clear c1 c2 c3 c4 c5
  have X0 := RowAt.new w #[.int .u32 0, .int .u32 0, .int .u64 0, .int .u32 0] 31
  have E0 := RowAt.new (w.alloc (.cells #[.int .u32 0, .int .u32 0, .int .u64 0, .int .u32 0] 31)) #[.int .i64 0] 26
  have X1 := X0.alloc (.cells #[.int .i64 0] 26)
  have hB0 : Below w.heap.size w ((w.alloc (.cells #[.int .u32 0, .int .u32 0, .int .u64 0, .int .u32 0] 31)).alloc (.cells #[.int .i64 0] 26)) := (below_alloc w _).alloc (by simp) _
  simp only [World.size_alloc] at E0
  obtain ⟨W0, hW0⟩ : ∃ W0, (w.alloc (.cells #[.int .u32 0, .int .u32 0, .int .u64 0, .int .u32 0] 31)).alloc (.cells #[.int .i64 0] 26) = W0 := ⟨_, rfl⟩
  have hz0 : W0.heap.size = w.heap.size + 2 := by rw [← hW0]; simp
  rw [hW0] at E0 X1 hB0
  have R0 := RowAt.new W0 #[strV l] 84
  have hb0 := below_alloc W0 (.cells #[strV l] 84)
  have HX := Lib.hid (X1.below hb0)
  have HE := Lib.hid (E0.below hb0)
  have HB := Lib.hid (below_up hB0 hb0)
  have HT := Lib.hid hT
  obtain ⟨W1, hW1⟩ : ∃ W1, W0.alloc (.cells #[strV l] 84) = W1 := ⟨_, rfl⟩
  rw [hW1] at R0 HX HE HB
  have HR := Lib.hid R0
  have HZ := Lib.hid hz0
  rw [hz0] at R0
  have hR1 := Lib.hid R0
  clear X0 E0 X1 hT hB0 R0 hb0 HR
  have hd : decide ((l.length : Int) ≤ 100) = true := decide_eq_true (by omega)
  go_enter_defers Tryd.func11, Tryd.ntmps11
  go_wp2_with (go_at_call 39; (with_reducible refine (nmMust_yes _ _).mono ?_); rintro en w6 ⟨rfl, rfl⟩)
  try rw [HZ.out]
  refine (upToBlank_c l (by omega) (w.heap.size + 2) 84 _ hR1.out).mono ?_
  rintro en w2 hU
  obtain ⟨rfl, hb2, hR2⟩ := hU.yes Hc1.out
  clear hU
  have HXa := Lib.hid (show RowAt w2 w.heap.size #[(.int .u32 0), (.int .u32 0), (.int .u64 0), (.int .u32 0)] 31 from (hb2.same _ HX.out.lt (by omega)).trans HX.out)
  have HEa := Lib.hid (show RowAt w2 (w.heap.size + 1) #[.int .i64 0] 26 from (hb2.same _ HE.out.lt (by omega)).trans HE.out)
  have HBa := Lib.hid (but_below HB.out hb2 (fun k e => by omega) (Nat.le_refl _))
  clear HX HE HB
  have HX := HXa
  have HE := HEa
  have HB := HBa
  clear HXa HEa HBa
  have hR2 := Lib.hid hR2
  clear hR1 hb2
  go_wp2_with fail
  refine (endpoint_c la hla _ (HT.out.up HB.out)).mono ?_
  rintro en w3 hU
  unfold EndE at hU
  rw [Hc2.out] at hU
  obtain ⟨hb3, rfl⟩ := hU
  have HXa := Lib.hid (HX.out.below hb3)
  have HEa := Lib.hid (HE.out.below hb3)
  have HBa := Lib.hid (below_up HB.out hb3)
  clear HX HE HB
  have HX := HXa
  have HE := HEa
  have HB := HBa
  clear HXa HEa HBa
  have hR3 := Lib.hid (hR2.out.below hb3)
  clear hb3 hR2
  have a0 := HX.out.cell (i := 0) rfl
  have a1 := HX.out.cell (i := 1) rfl
  have f0 := HX.out.fz 0
  have f1 := HX.out.fz 1
  go_wp2_with fail
  clear a0 a1 f0 f1
  have HX4 := (HX.out.set 0 (.int .u32 n)).set 1 (.int .u32 m)
  have s4 : But (fun k => k = w.heap.size) w3 ((w3.setCell ⟨w.heap.size, 0, none⟩ (.int .u32 n)).setCell ⟨w.heap.size, 1, none⟩ (.int .u32 m)) := (But.setCell (O := fun k => k = w.heap.size) w3 ⟨w.heap.size, 0, none⟩ (.int .u32 n) (.inl rfl)).trans (But.setCell _ _ _ (.inl rfl))
  obtain ⟨W4, hW4⟩ : ∃ x, (w3.setCell ⟨w.heap.size, 0, none⟩ (.int .u32 n)).setCell ⟨w.heap.size, 1, none⟩ (.int .u32 m) = x := ⟨_, rfl⟩
  rw [hW4] at HX4 s4 ⊢
  have HX4 := Lib.hid (show RowAt W4 w.heap.size #[(.int .u32 n), (.int .u32 m), (.int .u64 0), (.int .u32 0)] 31 from HX4)
  have HE4 := Lib.hid (show RowAt W4 (w.heap.size + 1) #[.int .i64 0] 26 from (s4.same _ HE.out.lt (by omega)).trans HE.out)
  have hR4 := Lib.hid (show RowAt W4 (w.heap.size + 2) #[strV lr] 84 from (s4.same _ hR3.out.lt (by omega)).trans hR3.out)
  have HB4 := Lib.hid (but_below HB.out s4 (fun k e => by omega) (Nat.le_refl _))
  clear HX HE HB hR3 s4 hW4
  have HX := HX4
  have HE := HE4
  have HB := HB4
  clear HX4 HE4 HB4
  refine (upToBlank_c lr hlr (w.heap.size + 2) 84 _ hR4.out).mono ?_
  rintro en w5 hU
  obtain ⟨rfl, hb5, hR5⟩ := hU.yes Hc3.out
  clear hU
  have HXa := Lib.hid (show RowAt w5 w.heap.size #[(.int .u32 n), (.int .u32 m), (.int .u64 0), (.int .u32 0)] 31 from (hb5.same _ HX.out.lt (by omega)).trans HX.out)
  have HEa := Lib.hid (show RowAt w5 (w.heap.size + 1) #[.int .i64 0] 26 from (hb5.same _ HE.out.lt (by omega)).trans HE.out)
  have HBa := Lib.hid (but_below HB.out hb5 (fun k e => by omega) (Nat.le_refl _))
  clear HX HE HB
  have HX := HXa
  have HE := HEa
  have HB := HBa
  clear HXa HEa HBa
  have hR5 := Lib.hid hR5
  clear hR4 hb5
  go_wp2_with fail
  refine (bounded_c lb hlb 4611686018427387903 (by decide) _ (HT.out.up HB.out)).mono ?_
  rintro en w6 hU
  obtain ⟨rfl, hb6⟩ := hU.yes Hc4.out
  have HXa := Lib.hid (HX.out.below hb6)
  have HEa := Lib.hid (HE.out.below hb6)
  have HBa := Lib.hid (below_up HB.out hb6)
  clear HX HE HB
  have HX := HXa
  have HE := HEa
  have HB := HBa
  clear HXa HEa HBa
  have hR6 := Lib.hid (hR5.out.below hb6)
  clear hb6 hR5
  have a2 := HX.out.cell (i := 2) rfl
  have f2 := HX.out.fz 2
  go_wp2_with fail
  clear a2 f2
  have HX7 := HX.out.set 2 (.int .u64 t)
  have s7 : But (fun k => k = w.heap.size) w6 (w6.setCell ⟨w.heap.size, 2, none⟩ (.int .u64 t)) := But.setCell _ _ _ (.inl rfl)
  obtain ⟨W7, hW7⟩ : ∃ x, w6.setCell ⟨w.heap.size, 2, none⟩ (.int .u64 t) = x := ⟨_, rfl⟩
  rw [hW7] at HX7 s7 ⊢
  have HX7 := Lib.hid (show RowAt W7 w.heap.size #[(.int .u32 n), (.int .u32 m), (.int .u64 t), (.int .u32 0)] 31 from HX7)
  have HE7 := Lib.hid (show RowAt W7 (w.heap.size + 1) #[.int .i64 0] 26 from (s7.same _ HE.out.lt (by omega)).trans HE.out)
  have hR7 := Lib.hid (show RowAt W7 (w.heap.size + 2) #[strV lc] 84 from (s7.same _ hR6.out.lt (by omega)).trans hR6.out)
  have HB7 := Lib.hid (but_below HB.out s7 (fun k e => by omega) (Nat.le_refl _))
  clear HX HE HB hR6 s7 hW7
  have HX := HX7
  have HE := HE7
  have HB := HB7
  clear HX7 HE7 HB7
  refine (rest_c lc (w.heap.size + 2) 84 _ hR7.out).mono ?_
  rintro en w8 ⟨rfl, hb8⟩
  have HXa := Lib.hid (show RowAt w8 w.heap.size #[(.int .u32 n), (.int .u32 m), (.int .u64 t), (.int .u32 0)] 31 from (hb8.same _ HX.out.lt (by omega)).trans HX.out)
  have HEa := Lib.hid (show RowAt w8 (w.heap.size + 1) #[.int .i64 0] 26 from (hb8.same _ HE.out.lt (by omega)).trans HE.out)
  have HBa := Lib.hid (but_below HB.out hb8 (fun k e => by omega) (Nat.le_refl _))
  clear HX HE HB
  have HX := HXa
  have HE := HEa
  have HB := HBa
  clear HXa HEa HBa
  clear hb8 hR7
  go_wp2_with fail
  refine (bounded_c lc hlc 4294967295 (by decide) _ (HT.out.up HB.out)).mono ?_
  rintro en w9 hU
  obtain ⟨rfl, hb9⟩ := hU.yes Hc5.out
  have HXa := Lib.hid (HX.out.below hb9)
  have HEa := Lib.hid (HE.out.below hb9)
  have HBa := Lib.hid (below_up HB.out hb9)
  clear HX HE HB
  have HX := HXa
  have HE := HEa
  have HB := HBa
  clear HXa HEa HBa
  clear hb9
  have a0 := HX.out.cell (i := 0) rfl
  have f0 := HX.out.fz 0
  have a1 := HX.out.cell (i := 1) rfl
  have f1 := HX.out.fz 1
  have a2 := HX.out.cell (i := 2) rfl
  have f2 := HX.out.fz 2
  have a3 := HX.out.cell (i := 3) rfl
  have f3 := HX.out.fz 3
  go_wp2_with fail
  clear a0 a1 a2 a3 f0 f1 f2 f3
  have HXb := HX.out.set 3 (.int .u32 s)
  have sb : But (fun k => k = w.heap.size) w9 (w9.setCell ⟨w.heap.size, 3, none⟩ (.int .u32 s)) := But.setCell _ _ _ (.inl rfl)
  obtain ⟨Wb, hWb⟩ : ∃ x, w9.setCell ⟨w.heap.size, 3, none⟩ (.int .u32 s) = x := ⟨_, rfl⟩
  rw [hWb] at HXb sb ⊢
  have HXb := Lib.hid (show RowAt Wb w.heap.size #[(.int .u32 n), (.int .u32 m), (.int .u64 t), (.int .u32 s)] 31 from HXb)
  have HEb := Lib.hid (show RowAt Wb (w.heap.size + 1) #[.int .i64 0] 26 from (sb.same _ HE.out.lt (by omega)).trans HE.out)
  have HBb := Lib.hid (but_below HB.out sb (fun k e => by omega) (Nat.le_refl _))
  clear HX HE HB sb hWb
  have HX := HXb
  have HE := HEb
  have HB := HBb
  clear HXb HEb HBb
  have hck := checkName_cN n m t s Wb
  rw [(show Dig.chkN n t = 0 from if_neg (fun e => by omega))] at hck
  refine hck.mono ?_
  rintro en wc ⟨rfl, hbc⟩
  clear hck
  have HXa := Lib.hid (HX.out.below hbc)
  have HEa := Lib.hid (HE.out.below hbc)
  have HBa := Lib.hid (below_up HB.out hbc)
  clear HX HE HB
  have HX := HXa
  have HE := HEa
  have HB := HBa
  clear HXa HEa HBa
  clear hbc
  have a0 := HX.out.cell (i := 0) rfl
  have f0 := HX.out.fz 0
  have a1 := HX.out.cell (i := 1) rfl
  have f1 := HX.out.fz 1
  have a2 := HX.out.cell (i := 2) rfl
  have f2 := HX.out.fz 2
  have a3 := HX.out.cell (i := 3) rfl
  have f3 := HX.out.fz 3
  have e0 := HE.out.cell (i := 0) rfl
  have g0 := HE.out.fz 0
  go_wp2_with (go_at_call 39; (with_reducible refine (nmMust_yes _ _).mono ?_); rintro en w6 ⟨rfl, rfl⟩)
  refine leaves_cons (f := 37) (args := #[.pointer (some ⟨w.heap.size + 1, 0, none⟩), .func (.func 41) #[] #[.pointer (some ⟨w.heap.size, 0, none⟩)]]) (by simp) (by have := enters_nmCaught; unfold Enters at this; simp [go_sem, invoke, this]) ?_
  refine (nmCaught_idle ⟨w.heap.size + 1, 0, none⟩ 41 #[.pointer (some ⟨w.heap.size, 0, none⟩)] _).mono ?_
  rintro en u' w'' ⟨rfl, rfl, rfl⟩
  have hX5 := (((HX.out.set 0 (.int .u32 n)).set 1 (.int .u32 m)).set 2 (.int .u64 t)).set 3 (.int .u32 s)
  have sX : But (fun k => k = w.heap.size) wc ((((wc.setCell ⟨w.heap.size, 0, none⟩ (.int .u32 n)).setCell ⟨w.heap.size, 1, none⟩ (.int .u32 m)).setCell ⟨w.heap.size, 2, none⟩ (.int .u64 t)).setCell ⟨w.heap.size, 3, none⟩ (.int .u32 s)) := (((But.setCell (O := fun k => k = w.heap.size) wc ⟨w.heap.size, 0, none⟩ (.int .u32 n) (.inl rfl)).trans (But.setCell _ _ _ (.inl rfl))).trans (But.setCell _ _ _ (.inl rfl))).trans (But.setCell _ _ _ (.inl rfl))
  have hE5 := (sX.same _ HE.out.lt (by omega)).trans HE.out
  obtain ⟨W5, hW5⟩ : ∃ x, ((((wc.setCell ⟨w.heap.size, 0, none⟩ (.int .u32 n)).setCell ⟨w.heap.size, 1, none⟩ (.int .u32 m)).setCell ⟨w.heap.size, 2, none⟩ (.int .u64 t)).setCell ⟨w.heap.size, 3, none⟩ (.int .u32 s)) = x := ⟨_, rfl⟩
  rw [hW5] at hX5 sX hE5 ⊢
  have sE : But (fun k => k = w.heap.size + 1) W5 (W5.setCell ⟨w.heap.size + 1, 0, none⟩ (.int .i64 0)) := But.setCell _ _ _ (.inl rfl)
  have hX6 := (sE.same _ (RowAt.lt hX5) (by omega)).trans hX5
  have hE6 := RowAt.set hE5 0 (.int .i64 0)
  have r0 := RowAt.cell hX6 (i := 0) (v := .int .u32 n) rfl
  have r1 := RowAt.cell hX6 (i := 1) (v := .int .u32 m) rfl
  have r2 := RowAt.cell hX6 (i := 2) (v := .int .u64 t) rfl
  have r3 := RowAt.cell hX6 (i := 3) (v := .int .u32 s) rfl
  have r4 := hE6.cell (i := 0) (v := .int .i64 0) rfl
  have hfin := PnE.yes HP.out (HB.out.trans (((sX.mono (O' := fun k => w.heap.size ≤ k) (fun _ _ e => by omega)).trans (sE.mono fun _ _ e => by omega)).below (fun k e => e) HB.out.size))
  simpa [Leaves, settle, results, Tryd.results11, go_sem, r0, r1, r2, r3, r4] using hfin
theorem parseName_c (l : List UInt8) (hl : l.length ≤ 281474976710656) (w : World) (hT : NmT w) : Calls Tryd.prog 11 #[strV l] w (PnE l w) := by
  by_cases h1 : 100 < l.length
  · exact pname_long l hl w hT h1
  · cases c1 : Dig.cut 32 l with
    | none => exact pname_0 l w hT (by omega) c1
    | some p =>
      obtain ⟨la, lr⟩ := p
      cases c2 : Dig.endP la with
      | none => exact pname_1 l w hT (by omega) la lr c1 c2
      | some q =>
        obtain ⟨n, m⟩ := q
        cases c3 : Dig.cut 32 lr with
        | none => exact pname_2 l w hT (by omega) la lr c1 n m c2 c3
        | some r =>
          obtain ⟨lb, lc⟩ := r
          cases c4 : Dig.toNum lb 4611686018427387903 with
          | none => exact pname_3 l w hT (by omega) la lr c1 n m c2 lb lc c3 c4
          | some t =>
            cases c5 : Dig.toNum lc 4294967295 with
            | none => exact pname_4 l w hT (by omega) la lr c1 n m c2 lb lc c3 t c4 c5
            | some s =>
              by_cases c6 : n = 0
              · exact pname_5 l w hT (by omega) la lr c1 n m c2 lb lc c3 t c4 s c5 c6
              · exact pname_6 l w hT (by omega) la lr c1 n m c2 lb lc c3 t c4 s c5 c6
end Go.Proofs.YtpfgepgjpnekdaaDoor
