/-
  PrP, PrT, PrQ: several texts in one (bundle.py).
-/
import Derived.Test.YtpkonagjnfphkaaGreatDoorPmB35
import Derived.Test.YtpkonagjnfphkaaGreatDoorPmB37
import Derived.Test.YtpkonagjnfphkaaGreatDoorPmB34
import Derived.Test.YtpkonagjnfphkaaGreatDoorPmB16
import Derived.Test.YtpkonagjnfphkaaGreatDoorPmB04
import Derived.Test.YtpkonagjnfphkaaGreatDoorPmB26
namespace Go.Proofs.YtpkonagjnfphkaaGreatDoor
open Go.RowKit Trc Cb
set_option linter.unusedSimpArgs false
set_option linter.unusedVariables false
/-- No primary. -/
abbrev zPr : Value := .agg #[.int .u32 0, .int .i64 0, .int .u32 0, .int .u32 0, .int .u32 0, .int .u32 0, .int .u32 0, .int .u32 0, .int .u64 0, .int .u32 0, .int .u64 0]
theorem Prm.decP_error {b : List UInt8} {e : Int} (h : decP b = .error e) : e = 3 ∨ e = 120 ∨ e = 121 := by
  unfold decP at h
  split at h
  · rename_i e' he
    cases h
    exact firstP_error he
  · split at h
    · cases h
    · cases h; omega
theorem Prm.enc_len {p : Prm.Pr} (hp : p.Ok) (hk : Prm.okPr p = true) : (Prm.encPr p).length ≤ 360 := by
  have h2 := Prm.chk_sealPr hp (Prm.okPr_parts hk).2.1.1 p.sum.toNat
  have h3 := Prm.bytes_le (Prm.sealIt p.sum.toNat (Prm.prL p))
  unfold Prm.encPr
  omega
set_option maxRecDepth 100000 in
theorem prDec1_c (B : Nat) (a0 a1 a2 a3 a4 a5 a6 a7 a8 a9 a10 : Value) (w : World) (h : RowAt w B #[a0, a1, a2, a3, a4, a5, a6, a7, a8, a9, a10] 28) : Calls Tryz.prog 58 #[.pointer (some ⟨B, 0, none⟩)] w fun en w' => en = .returned (.tuple #[]) ∧ w' = (((((((((((w.setCell ⟨B, 0, none⟩ (.int .u32 0)).setCell ⟨B, 1, none⟩ (.int .i64 0)).setCell ⟨B, 2, none⟩ (.int .u32 0)).setCell ⟨B, 3, none⟩ (.int .u32 0)).setCell ⟨B, 4, none⟩ (.int .u32 0)).setCell ⟨B, 5, none⟩ (.int .u32 0)).setCell ⟨B, 6, none⟩ (.int .u32 0)).setCell ⟨B, 7, none⟩ (.int .u32 0)).setCell ⟨B, 8, none⟩ (.int .u64 0)).setCell ⟨B, 9, none⟩ (.int .u32 0)).setCell ⟨B, 10, none⟩ (.int .u64 0)) := by
  have f0 := h.fz 0
  have c0 := h.cell (i := 0) rfl
  have f1 := h.fz 1
  have c1 := h.cell (i := 1) rfl
  have f2 := h.fz 2
  have c2 := h.cell (i := 2) rfl
  have f3 := h.fz 3
  have c3 := h.cell (i := 3) rfl
  have f4 := h.fz 4
  have c4 := h.cell (i := 4) rfl
  have f5 := h.fz 5
  have c5 := h.cell (i := 5) rfl
  have f6 := h.fz 6
  have c6 := h.cell (i := 6) rfl
  have f7 := h.fz 7
  have c7 := h.cell (i := 7) rfl
  have f8 := h.fz 8
  have c8 := h.cell (i := 8) rfl
  have f9 := h.fz 9
  have c9 := h.cell (i := 9) rfl
  have f10 := h.fz 10
  have c10 := h.cell (i := 10) rfl
  go_enter Tryz.func58, Tryz.ntmps58
  go_wp2
  go_end0
  exact ⟨rfl, rfl⟩
theorem enters_prDec1 : Enters Tryz.prog 58 := enters_of Tryz.func58 (by kernel_rfl) rfl
set_option maxRecDepth 100000 in
/-- The door, where something was given up. -/
theorem prDec_door {R : Ending → World → Prop} (P E : Nat) (e e0 : Int) (W : World) (a0 a1 a2 a3 a4 a5 a6 a7 a8 a9 a10 : Value) (hP : RowAt W P #[a0, a1, a2, a3, a4, a5, a6, a7, a8, a9, a10] 28) (hE : RowAt W E #[.int .i64 e0] 33) (hne : P ≠ E) (u0 u1 u4 u5 u6 u7 u8 u9 u10 u11 u12 u13 u14 u15 u16 u17 u18 u19 u20 u21 u22 u23 u24 u25 u26 u27 u28 : Value)
    (hR : ∀ W', But (fun k => k = P ∨ k = E) W W' → R (.returned (.tuple #[zPr, .int .i64 e])) W') :
    Leaves Tryz.prog Tryz.f25 #[u0, u1, .pointer (some ⟨P, 0, none⟩), .pointer (some ⟨E, 0, none⟩), u4, u5, u6, u7, u8, u9, u10, u11, u12, u13, u14, u15, u16, u17, u18, u19, u20, u21, u22, u23, u24, u25, u26, u27, u28] R [{ target := .fn (.func 40) #[], args := #[.pointer (some ⟨E, 0, none⟩), .func (.func 58) #[] #[.pointer (some ⟨P, 0, none⟩)]] }] (.panicking (gup e)) W := by
  have c0 := hE.cell (i := 0) rfl
  have f0 := hE.fz 0
  have b1 : But (fun k => k = P ∨ k = E) W (W.setCell ⟨E, 0, none⟩ (.int .i64 e)) := But.setCell _ _ _ (.inl (.inr rfl))
  have hP1 : RowAt (W.setCell ⟨E, 0, none⟩ (.int .i64 e)) P #[a0, a1, a2, a3, a4, a5, a6, a7, a8, a9, a10] 28 := ((But.setCell (O := fun k => k = E) W ⟨E, 0, none⟩ (.int .i64 e) (.inl rfl)).same _ hP.lt hne).trans hP
  have hE1 := hE.set 0 (.int .i64 e)
  obtain ⟨hP2, b2⟩ := row11 hP1 (.int .u32 0) (.int .i64 0) (.int .u32 0) (.int .u32 0) (.int .u32 0) (.int .u32 0) (.int .u32 0) (.int .u32 0) (.int .u64 0) (.int .u32 0) (.int .u64 0)
  have hE2 : RowAt ((((((((((((W.setCell ⟨E, 0, none⟩ (.int .i64 e)).setCell ⟨P, 0, none⟩ (.int .u32 0)).setCell ⟨P, 1, none⟩ (.int .i64 0)).setCell ⟨P, 2, none⟩ (.int .u32 0)).setCell ⟨P, 3, none⟩ (.int .u32 0)).setCell ⟨P, 4, none⟩ (.int .u32 0)).setCell ⟨P, 5, none⟩ (.int .u32 0)).setCell ⟨P, 6, none⟩ (.int .u32 0)).setCell ⟨P, 7, none⟩ (.int .u32 0)).setCell ⟨P, 8, none⟩ (.int .u64 0)).setCell ⟨P, 9, none⟩ (.int .u32 0)).setCell ⟨P, 10, none⟩ (.int .u64 0)) E _ _ := (b2.same _ hE1.lt (fun h => hne h.symm)).trans hE1
  have r0 := hP2.cell (i := 0) rfl
  have r1 := hP2.cell (i := 1) rfl
  have r2 := hP2.cell (i := 2) rfl
  have r3 := hP2.cell (i := 3) rfl
  have r4 := hP2.cell (i := 4) rfl
  have r5 := hP2.cell (i := 5) rfl
  have r6 := hP2.cell (i := 6) rfl
  have r7 := hP2.cell (i := 7) rfl
  have r8 := hP2.cell (i := 8) rfl
  have r9 := hP2.cell (i := 9) rfl
  have r10 := hP2.cell (i := 10) rfl
  have r11 := hE2.cell (i := 0) rfl
  have hfin := hR _ (b1.trans (b2.mono fun k _ h => .inl h))
  have hc1 := prDec1_c P a0 a1 a2 a3 a4 a5 a6 a7 a8 a9 a10 _ hP1
  refine leaves_cons (f := 40) (args := #[.pointer (some ⟨E, 0, none⟩), .func (.func 58) #[] #[.pointer (some ⟨P, 0, none⟩)]]) (by simp) (by have := enters_prCaught; unfold Enters at this; simp [go_sem, invoke, this]) ?_
  refine (prCaught_gup E e e0 58 #[.pointer (some ⟨P, 0, none⟩)] enters_prDec1 W c0 f0 hc1).mono ?_
  rintro en u' w'' ⟨rfl, rfl, rfl⟩
  simpa [Leaves, settle, results, Tryz.results25, go_sem, r0, r1, r2, r3, r4, r5, r6, r7, r8, r9, r10, r11] using hfin
/-- What primary.Decode tells. -/
def PDecE (b : List UInt8) (w : World) (en : Ending) (w' : World) : Prop := Below w.heap.size w w' ∧ en = match Prm.decPr b with | .ok p => .returned (.tuple #[prV p, .int .i64 0]) | .error e => .returned (.tuple #[zPr, .int .i64 e])
set_option maxHeartbeats 4000000 in
set_option maxRecDepth 100000 in
theorem prDecode_c (b : List UInt8) (v : Value) (w : World) (hv : Sl w 1 v b.length (by8 b)) (hT : Tabs w) : Calls Tryz.prog 25 #[v] w (PDecE b w) := by
  obtain ⟨a, c, rfl⟩ := hv.len
  have hmf : ∀ (fn : Fn) (first cap : Array Value) (w : World), (Instr.makeFunc fn first cap).run Tryz.prog w = .ok (.func fn first cap) w := fun _ _ _ _ => rfl
  obtain ⟨W0, hW0⟩ : ∃ W0, (w.alloc (.cells #[.int .u32 0, .int .i64 0, .int .u32 0, .int .u32 0, .int .u32 0, .int .u32 0, .int .u32 0, .int .u32 0, .int .u64 0, .int .u32 0, .int .u64 0] 28)).alloc (.cells #[.int .i64 0] 33) = W0 := ⟨_, rfl⟩
  have X0 : RowAt W0 w.heap.size #[.int .u32 0, .int .i64 0, .int .u32 0, .int .u32 0, .int .u32 0, .int .u32 0, .int .u32 0, .int .u32 0, .int .u64 0, .int .u32 0, .int .u64 0] 28 := by rw [← hW0]; exact (RowAt.new w _ _).below (below_alloc _ _)
  have XE : RowAt W0 (w.heap.size + 1) #[.int .i64 0] 33 := by
    have h := RowAt.new (w.alloc (.cells #[.int .u32 0, .int .i64 0, .int .u32 0, .int .u32 0, .int .u32 0, .int .u32 0, .int .u32 0, .int .u32 0, .int .u64 0, .int .u32 0, .int .u64 0] 28)) #[.int .i64 0] 33
    rw [hW0, World.size_alloc] at h; exact h
  have hB0 : Below w.heap.size w W0 := by rw [← hW0]; exact (below_alloc w _).alloc (by simp) _
  have hde := decode_c W0 _ b (hv.up hB0) (hT.up hB0)
  unfold DecE at hde
  have HX0 := Lib.hid X0
  have HXE := Lib.hid XE
  have HB0 := Lib.hid hB0
  have HV := Lib.hid (hv.up hB0)
  have HT := Lib.hid (hT.up hB0)
  have HT0 := Lib.hid hT
  have HVB := Lib.hid (hv.blk (by decide))
  have hz0 : W0.heap.size = w.heap.size + 2 := by rw [← hW0]; simp
  have HZ0 := Lib.hid hz0
  clear X0 XE hB0 hv hT hz0
  cases hd : decP b with
  | error e =>
    rw [hd] at hde
    have HD := Lib.hid (show Prm.decPr b = .error e by unfold Prm.decPr; rw [hd])
    have he := Prm.decP_error hd
    have he1 : (e == 0) = false := by rw [beq_eq_false_iff_ne]; omega
    clear hd he
    go_enter_defers Tryz.func25, Tryz.ntmps25
    go_wp2_with (first
      | (go_at_call 59; refine hde.mono ?_; rintro en w1 ⟨hb1, rfl⟩; have E1 := (HXE.out.below hb1).alloc (.cells #[.int .i64 0, .int .u64 0, .slice none 0 0, .string ⟨#[]⟩, .slice none 0 0] 62); have c0 := E1.cell (i := 0) rfl; have f0 := E1.fz 0)
      | (go_at_call 42; with_reducible refine (prMust_no _ _).mono ?_; rintro en wn ⟨rfl, rfl⟩))
    have P1 := (HX0.out.below hb1).alloc (.cells #[.int .i64 0, .int .u64 0, .slice none 0 0, .string ⟨#[]⟩, .slice none 0 0] 62)
    have D1 := (below_up HB0.out hb1).alloc (below_up HB0.out hb1).size (.cells #[.int .i64 0, .int .u64 0, .slice none 0 0, .string ⟨#[]⟩, .slice none 0 0] 62)
    have P2 := ((But.setCell (O := fun k => k = w.heap.size + 1) (w1.alloc (.cells #[.int .i64 0, .int .u64 0, .slice none 0 0, .string ⟨#[]⟩, .slice none 0 0] 62)) ⟨w.heap.size + 1, 0, none⟩ (.int .i64 e) (.inl rfl)).same _ P1.lt (by omega)).trans P1
    have D2 := D1.setCell (show w.heap.size ≤ (⟨w.heap.size + 1, 0, none⟩ : Addr).block by simp) (.int .i64 e)
    refine prDec_door w.heap.size (w.heap.size + 1) e _ _ _ _ _ _ _ _ _ _ _ _ _ P2 (E1.set 0 (.int .i64 e)) (by omega) _ _ _ _ _ _ _ _ _ _ _ _ _ _ _ _ _ _ _ _ _ _ _ _ _ _ _ (fun W' hb => ⟨?_, by rw [HD.out]⟩)
    exact D2.trans (hb.below (fun k e => by omega) D2.size)
  | ok x =>
    rw [hd] at hde
    have HD := Lib.hid (show Prm.decPr b = (match Prm.readPr x with | none => .error 140 | some p => if Prm.encPr p = b then .ok p else .error 110) by unfold Prm.decPr; rw [hd]; rfl)
    obtain ⟨_, _, hcx, _, hnx⟩ := Cb.dec_got hd
    have HCX := Lib.hid (show Cb.cnt x ≤ 1000000 by omega)
    have HNX := Lib.hid hnx
    clear hd hcx hnx
    go_enter_defers Tryz.func25, Tryz.ntmps25
    go_wp2_with (first
      | (go_at_call 59; refine hde.mono ?_; rintro en w1 ⟨hb1, r, rfl, hr⟩; obtain ⟨k1, n1, ba1, bn1, bc1, s1, la1, ln1, lc1, rfl⟩ := hr.shape; have E1 := (HXE.out.below hb1).alloc (.cells #[.int .i64 k1, .int .u64 n1, .slice ba1 bn1 bc1, .string s1, .slice la1 ln1 lc1] 62); have c0 := E1.cell (i := 0) rfl; have f0 := E1.fz 0; have Y1 := RowAt.new w1 #[.int .i64 k1, .int .u64 n1, .slice ba1 bn1 bc1, .string s1, .slice la1 ln1 lc1] 62; have hlt : w1.heap.size ≠ w.heap.size + 1 := (by have h1 := HXE.out.lt; have h2 := hb1.size; omega); have Y2 := Y1.other (a := ⟨w.heap.size + 1, 0, none⟩) hlt (.int .i64 0); have y0 := Y2.cell (i := 0) rfl; have y1 := Y2.cell (i := 1) rfl; have y2 := Y2.cell (i := 2) rfl; have y3 := Y2.cell (i := 3) rfl; have y4 := Y2.cell (i := 4) rfl)
      | (go_at_call 42; with_reducible refine (prMust_yes _ _).mono ?_; rintro en wn ⟨rfl, rfl⟩))
    clear c0 f0 y0 y1 y2 y3 y4
    have P1 := (HX0.out.below hb1).alloc (.cells #[.int .i64 k1, .int .u64 n1, .slice ba1 bn1 bc1, .string s1, .slice la1 ln1 lc1] 62)
    have D1 := (below_up HB0.out hb1).alloc (below_up HB0.out hb1).size (.cells #[.int .i64 k1, .int .u64 n1, .slice ba1 bn1 bc1, .string s1, .slice la1 ln1 lc1] 62)
    have bE : But (fun k => k = w.heap.size + 1) (w1.alloc (.cells #[.int .i64 k1, .int .u64 n1, .slice ba1 bn1 bc1, .string s1, .slice la1 ln1 lc1] 62)) ((w1.alloc (.cells #[.int .i64 k1, .int .u64 n1, .slice ba1 bn1 bc1, .string s1, .slice la1 ln1 lc1] 62)).setCell ⟨w.heap.size + 1, 0, none⟩ (.int .i64 0)) := But.setCell _ _ _ (.inl rfl)
    have HP := Lib.hid (show RowAt ((w1.alloc (.cells #[.int .i64 k1, .int .u64 n1, .slice ba1 bn1 bc1, .string s1, .slice la1 ln1 lc1] 62)).setCell ⟨w.heap.size + 1, 0, none⟩ (.int .i64 0)) w.heap.size #[.int .u32 0, .int .i64 0, .int .u32 0, .int .u32 0, .int .u32 0, .int .u32 0, .int .u32 0, .int .u32 0, .int .u64 0, .int .u32 0, .int .u64 0] 28 from (bE.same _ P1.lt (by omega)).trans P1)
    have HE := Lib.hid (show RowAt ((w1.alloc (.cells #[.int .i64 k1, .int .u64 n1, .slice ba1 bn1 bc1, .string s1, .slice la1 ln1 lc1] 62)).setCell ⟨w.heap.size + 1, 0, none⟩ (.int .i64 0)) (w.heap.size + 1) #[.int .i64 0] 33 from E1.set 0 (.int .i64 0))
    have HD2 := Lib.hid (D1.setCell (show w.heap.size ≤ (⟨w.heap.size + 1, 0, none⟩ : Addr).block by simp) (.int .i64 0))
    have hV2 := ((HV.out.up hb1).up (below_alloc w1 (.cells #[.int .i64 k1, .int .u64 n1, .slice ba1 bn1 bc1, .string s1, .slice la1 ln1 lc1] 62)))
    have HI := Lib.hid (show ItR (fun j => j < ((w1.alloc (.cells #[.int .i64 k1, .int .u64 n1, .slice ba1 bn1 bc1, .string s1, .slice la1 ln1 lc1] 62)).setCell ⟨w.heap.size + 1, 0, none⟩ (.int .i64 0)).heap.size) ((w1.alloc (.cells #[.int .i64 k1, .int .u64 n1, .slice ba1 bn1 bc1, .string s1, .slice la1 ln1 lc1] 62)).setCell ⟨w.heap.size + 1, 0, none⟩ (.int .i64 0)) x ⟨k1, n1, .slice ba1 bn1 bc1, s1, .slice la1 ln1 lc1⟩ from ItR.turn (fun sz v n cs hs => ((hs.up (below_alloc _ _)).but bE (fun q hq e => by have := HZ0.out; omega)).mono (fun q hq => by have h := bE.size; rw [World.size_alloc] at h; omega)) x ⟨k1, n1, .slice ba1 bn1 bc1, s1, .slice la1 ln1 lc1⟩ hr)
    skip
    obtain ⟨W2, hW2⟩ : ∃ X, ((w1.alloc (.cells #[.int .i64 k1, .int .u64 n1, .slice ba1 bn1 bc1, .string s1, .slice la1 ln1 lc1] 62)).setCell ⟨w.heap.size + 1, 0, none⟩ (.int .i64 0)) = X := ⟨_, rfl⟩
    rw [hW2] at HP HE HD2 HI ⊢
    have HV2 := Lib.hid (show Sl W2 1 (.slice a b.length c) b.length (by8 b) by rw [← hW2]; exact hV2.but bE (HVB.out.imp id (fun h k hk e => by have := h k hk; omega)))
    have HTW := Lib.hid (show Tabs W2 from HT0.out.up HD2.out)
    clear hW2 bE P1 D1 E1 hV2 hr Y1 Y2 hb1 hlt
    refine (prRead_c x ⟨k1, n1, .slice ba1 bn1 bc1, s1, .slice la1 ln1 lc1⟩ W2 HI.out HCX.out).mono ?_
    rintro en w3 ⟨hb3, he⟩
    have HP3 := Lib.hid (HP.out.below hb3)
    have HE3 := Lib.hid (HE.out.below hb3)
    have HD3 := Lib.hid (below_up HD2.out hb3)
    have HV3 := Lib.hid (HV2.out.up hb3)
    clear HI HP HE HD2 HV2 HTW hb3
    cases hr : Prm.readPr x with
    | none =>
      rw [hr] at he
      subst he
      go_wp2
      refine prDec_door w.heap.size (w.heap.size + 1) 140 _ _ _ _ _ _ _ _ _ _ _ _ _ HP3.out HE3.out (by omega) _ _ _ _ _ _ _ _ _ _ _ _ _ _ _ _ _ _ _ _ _ _ _ _ _ _ _ (fun W' hb => ⟨?_, by rw [HD.out, hr]⟩)
      exact HD3.out.trans (hb.below (fun k e => by omega) HD3.out.size)
    | some p =>
      rw [hr] at he
      subst he
      obtain ⟨hk, hp⟩ := Prm.readPr_ok hr HNX.out
      have HK := Lib.hid hk
      have HPO := Lib.hid hp
      have HDD := Lib.hid (show Prm.decPr b = (if Prm.encPr p = b then .ok p else .error 110) by rw [HD.out, hr])
      clear hr hk hp
      obtain ⟨X3, b3⟩ := row11 HP3.out (.int .u32 p.flags) (.int .i64 p.sum) (.int .u32 p.toN) (.int .u32 p.toS) (.int .u32 p.srN) (.int .u32 p.srS) (.int .u32 p.rpN) (.int .u32 p.rpS) (.int .u64 p.time) (.int .u32 p.seq) (.int .u64 p.life)
      have z0 := HP3.out.cell (i := 0) rfl
      have z1 := HP3.out.cell (i := 1) rfl
      have z2 := HP3.out.cell (i := 2) rfl
      have z3 := HP3.out.cell (i := 3) rfl
      have z4 := HP3.out.cell (i := 4) rfl
      have z5 := HP3.out.cell (i := 5) rfl
      have z6 := HP3.out.cell (i := 6) rfl
      have z7 := HP3.out.cell (i := 7) rfl
      have z8 := HP3.out.cell (i := 8) rfl
      have z9 := HP3.out.cell (i := 9) rfl
      have z10 := HP3.out.cell (i := 10) rfl
      have f0 := HP3.out.fz 0
      have f1 := HP3.out.fz 1
      have f2 := HP3.out.fz 2
      have f3 := HP3.out.fz 3
      have f4 := HP3.out.fz 4
      have f5 := HP3.out.fz 5
      have f6 := HP3.out.fz 6
      have f7 := HP3.out.fz 7
      have f8 := HP3.out.fz 8
      have f9 := HP3.out.fz 9
      have f10 := HP3.out.fz 10
      have r0 := X3.cell (i := 0) rfl
      have r1 := X3.cell (i := 1) rfl
      have r2 := X3.cell (i := 2) rfl
      have r3 := X3.cell (i := 3) rfl
      have r4 := X3.cell (i := 4) rfl
      have r5 := X3.cell (i := 5) rfl
      have r6 := X3.cell (i := 6) rfl
      have r7 := X3.cell (i := 7) rfl
      have r8 := X3.cell (i := 8) rfl
      have r9 := X3.cell (i := 9) rfl
      have r10 := X3.cell (i := 10) rfl
      go_wp2_with fail
      clear z0 f0 r0 z1 f1 r1 z2 f2 r2 z3 f3 r3 z4 f4 r4 z5 f5 r5 z6 f6 r6 z7 f7 r7 z8 f8 r8 z9 f9 r9 z10 f10 r10
      obtain ⟨w4, hw4⟩ : ∃ X, (((((((((((w3.setCell ⟨w.heap.size, 0, none⟩ (.int .u32 p.flags)).setCell ⟨w.heap.size, 1, none⟩ (.int .i64 p.sum)).setCell ⟨w.heap.size, 2, none⟩ (.int .u32 p.toN)).setCell ⟨w.heap.size, 3, none⟩ (.int .u32 p.toS)).setCell ⟨w.heap.size, 4, none⟩ (.int .u32 p.srN)).setCell ⟨w.heap.size, 5, none⟩ (.int .u32 p.srS)).setCell ⟨w.heap.size, 6, none⟩ (.int .u32 p.rpN)).setCell ⟨w.heap.size, 7, none⟩ (.int .u32 p.rpS)).setCell ⟨w.heap.size, 8, none⟩ (.int .u64 p.time)).setCell ⟨w.heap.size, 9, none⟩ (.int .u32 p.seq)).setCell ⟨w.heap.size, 10, none⟩ (.int .u64 p.life)) = X := ⟨_, rfl⟩
      rw [hw4] at X3 b3 ⊢
      clear hw4
      have HD4 := Lib.hid (HD3.out.trans (b3.below (fun k e => by omega) HD3.out.size))
      have HE4 := Lib.hid (show RowAt w4 (w.heap.size + 1) #[.int .i64 0] 33 from (b3.same _ HE3.out.lt (by omega)).trans HE3.out)
      have HV4 := Lib.hid (HV3.out.but b3 (HVB.out.imp id (fun h k hk e => by have := h k hk; omega)))
      clear b3 HD3 HE3 HV3 HP3
      refine (prEncode_c p HPO.out w4 (HT0.out.up HD4.out)).mono ?_
      rintro en w5 ⟨hb5, hy, _⟩
      obtain ⟨v5, rfl, ho5⟩ := hy HK.out
      obtain ⟨q5, c5, rfl⟩ := own_slice ho5
      have S5 := Sl.of_own ho5
      have HX5 := Lib.hid (X3.below hb5)
      have HE5 := Lib.hid (HE4.out.below hb5)
      have HD5 := Lib.hid (below_up HD4.out hb5)
      have HV5 := Lib.hid (HV4.out.up hb5)
      have heq := equalB_c (Prm.encPr p) b _ _ _ _ w5 S5 HV5.out (by have := Prm.enc_len HPO.out HK.out; omega)
      clear X3 hb5 hy ho5 S5 HE4 HD4 HV4
      go_wp2_with fail
      by_cases hee : Prm.encPr p = b
      · rw [decide_eq_true hee] at heq
        have HDE := Lib.hid (show Prm.decPr b = .ok p by rw [HDD.out, if_pos hee])
        clear hee
        refine heq.mono ?_
        rintro en w6 ⟨rfl, hb6⟩
        have X6 := HX5.out.below hb6
        have E6 := HE5.out.below hb6
        have D6 := below_up HD5.out hb6
        clear heq hb6 HX5 HE5 HV5
        have r0 := X6.cell (i := 0) rfl
        have r1 := X6.cell (i := 1) rfl
        have r2 := X6.cell (i := 2) rfl
        have r3 := X6.cell (i := 3) rfl
        have r4 := X6.cell (i := 4) rfl
        have r5 := X6.cell (i := 5) rfl
        have r6 := X6.cell (i := 6) rfl
        have r7 := X6.cell (i := 7) rfl
        have r8 := X6.cell (i := 8) rfl
        have r9 := X6.cell (i := 9) rfl
        have r10 := X6.cell (i := 10) rfl
        have f0 := X6.fz 0
        have f1 := X6.fz 1
        have f2 := X6.fz 2
        have f3 := X6.fz 3
        have f4 := X6.fz 4
        have f5 := X6.fz 5
        have f6 := X6.fz 6
        have f7 := X6.fz 7
        have f8 := X6.fz 8
        have f9 := X6.fz 9
        have f10 := X6.fz 10
        have e0 := E6.cell (i := 0) rfl
        have fe := E6.fz 0
        have hsm := row11_same X6
        have E7 : RowAt (w6.setCell ⟨w.heap.size + 1, 0, none⟩ (.int .i64 0)) (w.heap.size + 1) #[.int .i64 0] 33 := E6.set 0 (.int .i64 0)
        have X7 : RowAt (w6.setCell ⟨w.heap.size + 1, 0, none⟩ (.int .i64 0)) w.heap.size #[.int .u32 p.flags, .int .i64 p.sum, .int .u32 p.toN, .int .u32 p.toS, .int .u32 p.srN, .int .u32 p.srS, .int .u32 p.rpN, .int .u32 p.rpS, .int .u64 p.time, .int .u32 p.seq, .int .u64 p.life] 28 := (But.setCell (O := fun k => k = w.heap.size + 1) w6 ⟨w.heap.size + 1, 0, none⟩ (.int .i64 0) (.inl rfl)).same _ X6.lt (by omega) |>.trans X6
        have D7 := D6.setCell (show w.heap.size ≤ (⟨w.heap.size + 1, 0, none⟩ : Addr).block by simp) (.int .i64 0)
        have HSM := Lib.hid hsm
        have HE7 := Lib.hid E7
        have HX7 := Lib.hid X7
        have HD7 := Lib.hid D7
        clear hsm E7 X7 D7
        go_wp2_with (first
          | (go_at_call 42; with_reducible refine (prMust_yes _ _).mono ?_; rintro en wn ⟨rfl, rfl⟩))
        rw [HSM.out]
        have t0 := HX7.out.cell (i := 0) rfl
        have t1 := HX7.out.cell (i := 1) rfl
        have t2 := HX7.out.cell (i := 2) rfl
        have t3 := HX7.out.cell (i := 3) rfl
        have t4 := HX7.out.cell (i := 4) rfl
        have t5 := HX7.out.cell (i := 5) rfl
        have t6 := HX7.out.cell (i := 6) rfl
        have t7 := HX7.out.cell (i := 7) rfl
        have t8 := HX7.out.cell (i := 8) rfl
        have t9 := HX7.out.cell (i := 9) rfl
        have t10 := HX7.out.cell (i := 10) rfl
        have t11 := HE7.out.cell (i := 0) rfl
        have hfin : PDecE b w (.returned (.tuple #[prV p, .int .i64 0])) (w6.setCell ⟨w.heap.size + 1, 0, none⟩ (.int .i64 0)) := ⟨HD7.out, by rw [HDE.out]⟩
        refine (show Leaves Tryz.prog Tryz.f25 _ (PDecE b w) _ .returning _ from ?_)
        refine leaves_cons (f := 40) (args := #[.pointer (some ⟨w.heap.size + 1, 0, none⟩), .func (.func 58) #[] #[.pointer (some ⟨w.heap.size, 0, none⟩)]]) (by simp) (by have := enters_prCaught; unfold Enters at this; simp [go_sem, invoke, this]) ?_
        refine (prCaught_idle ⟨w.heap.size + 1, 0, none⟩ 58 #[.pointer (some ⟨w.heap.size, 0, none⟩)] _).mono ?_
        rintro en u' w'' ⟨rfl, rfl, rfl⟩
        simpa [Leaves, settle, results, Tryz.results25, go_sem, t0, t1, t2, t3, t4, t5, t6, t7, t8, t9, t10, t11] using hfin
      · rw [decide_eq_false hee] at heq
        have HDE := Lib.hid (show Prm.decPr b = .error 110 by rw [HDD.out, if_neg hee])
        clear hee
        refine heq.mono ?_
        rintro en w6 ⟨rfl, hb6⟩
        have X6 := HX5.out.below hb6
        have E6 := HE5.out.below hb6
        have D6 := below_up HD5.out hb6
        clear heq hb6 HX5 HE5 HV5
        go_wp2_with (first
          | (go_at_call 42; with_reducible refine (prMust_no _ _).mono ?_; rintro en wn ⟨rfl, rfl⟩))
        refine prDec_door w.heap.size (w.heap.size + 1) 110 _ _ _ _ _ _ _ _ _ _ _ _ _ X6 E6 (by omega) _ _ _ _ _ _ _ _ _ _ _ _ _ _ _ _ _ _ _ _ _ _ _ _ _ _ _ (fun W' hb => ⟨?_, by rw [HDE.out]⟩)
        exact D6.trans (hb.below (fun k e => by omega) D6.size)
end Go.Proofs.YtpkonagjnfphkaaGreatDoor

namespace Go.Proofs.YtpkonagjnfphkaaGreatDoor
open Go.RowKit Trc
set_option linter.unusedSimpArgs false
set_option linter.unusedVariables false
namespace Prm
/-- Has a primary a flag? -/
def hasB (f q : Nat) : Bool := (q == 2 || q == 32) && decide (f / q % 2 = 1)
theorem bit_and (f i : Nat) : (f &&& 2 ^ i != 0) = decide (f / 2 ^ i % 2 = 1) := by
  rw [← Nat.testBit_eq_decide_div_mod_eq]
  cases h : f.testBit i with
  | true =>
    rw [bne_iff_ne]
    intro e
    have h2 := congrArg (fun x => x.testBit i) e
    simp [Nat.testBit_and, h, Nat.testBit_two_pow_self] at h2
  | false =>
    have : f &&& 2 ^ i = 0 := by
      apply Nat.eq_of_testBit_eq
      intro j
      rw [Nat.testBit_and, Nat.zero_testBit, Nat.testBit_two_pow]
      by_cases hj : i = j
      · subst hj; simp [h]
      · simp [hj]
    rw [this]; rfl
theorem and32 (f q : Nat) (hf : f < 4294967296) (hq : q < 4294967296) : bits .and .u32 (f : Int) (q : Int) = ((f &&& q : Nat) : Int) := by
  have e1 : BitVec.ofInt 32 (f : Int) = BitVec.ofNat 32 f := by simp
  have e2 : BitVec.ofInt 32 (q : Int) = BitVec.ofNat 32 q := by simp
  show IntKind.u32.wrap _ = _
  rw [IntKind.wrap_u32]
  rw [show (BitVec.ofInt IntKind.u32.bits (f : Int)) = BitVec.ofNat 32 f from e1, show (BitVec.ofInt IntKind.u32.bits (q : Int)) = BitVec.ofNat 32 q from e2]
  show ((BitVec.ofNat 32 f &&& BitVec.ofNat 32 q).toNat : Int) % 4294967296 = _
  have h := (BitVec.ofNat 32 f &&& BitVec.ofNat 32 q).isLt
  have h2 : (BitVec.ofNat 32 f &&& BitVec.ofNat 32 q).toNat = f &&& q := by
    rw [BitVec.toNat_and, BitVec.toNat_ofNat, BitVec.toNat_ofNat, Nat.mod_eq_of_lt hf, Nat.mod_eq_of_lt hq]
  omega
theorem or32 (f q : Nat) (hf : f < 4294967296) (hq : q < 4294967296) : bits .or .u32 (f : Int) (q : Int) = ((f ||| q : Nat) : Int) := by
  have e1 : BitVec.ofInt 32 (f : Int) = BitVec.ofNat 32 f := by simp
  have e2 : BitVec.ofInt 32 (q : Int) = BitVec.ofNat 32 q := by simp
  show IntKind.u32.wrap _ = _
  rw [IntKind.wrap_u32]
  rw [show (BitVec.ofInt IntKind.u32.bits (f : Int)) = BitVec.ofNat 32 f from e1, show (BitVec.ofInt IntKind.u32.bits (q : Int)) = BitVec.ofNat 32 q from e2]
  show ((BitVec.ofNat 32 f ||| BitVec.ofNat 32 q).toNat : Int) % 4294967296 = _
  have h := (BitVec.ofNat 32 f ||| BitVec.ofNat 32 q).isLt
  have h2 : (BitVec.ofNat 32 f ||| BitVec.ofNat 32 q).toNat = f ||| q := by
    rw [BitVec.toNat_or, BitVec.toNat_ofNat, BitVec.toNat_ofNat, Nat.mod_eq_of_lt hf, Nat.mod_eq_of_lt hq]
  omega
theorem has2 (f : Nat) : (f &&& 2 != 0) = decide (f / 2 % 2 = 1) := bit_and f 1
theorem has32 (f : Nat) : (f &&& 32 != 0) = decide (f / 32 % 2 = 1) := bit_and f 5
/-- A rank's base. -/
def baseN (r : Int) : Nat := if 0 ≤ r ∧ r ≤ 2 then 128 * r.toNat else 0
/-- Flags of a rank. -/
def flagsN (r : Int) (l : List Nat) : Nat := baseN r + (if 2 ∈ l then 2 else 0) + (if 32 ∈ l then 32 else 0)
theorem base_of (r : Int) : baseN r = 0 ∨ baseN r = 128 ∨ baseN r = 256 := by
  unfold baseN
  split
  · omega
  · exact .inl rfl
theorem flagsN_lt (r : Int) (l : List Nat) : flagsN r l ≤ 290 := by
  unfold flagsN
  have := base_of r
  split <;> split <;> omega
theorem flagsN_or (r : Int) (l : List Nat) (q : Nat) (hq : q = 2 ∨ q = 32) : flagsN r l ||| q = flagsN r (l ++ [q]) := by
  unfold flagsN
  rcases base_of r with h | h | h <;> rw [h] <;> rcases hq with rfl | rfl <;> by_cases h2 : 2 ∈ l <;> by_cases h3 : 32 ∈ l <;> simp [h2, h3]
theorem flagsN_no (r : Int) (l : List Nat) (q : Nat) (h2 : q ≠ 2) (h3 : q ≠ 32) : flagsN r (l ++ [q]) = flagsN r l := by
  unfold flagsN
  have e1 : (2 ∈ l ++ [q]) ↔ 2 ∈ l := by simp; omega
  have e2 : (32 ∈ l ++ [q]) ↔ 32 ∈ l := by simp; omega
  simp only [e1, e2]
/-- The flags that a primary has. -/
def wantsL (f : Nat) : List Nat := [2, 32].filter fun q => hasB f q
end Prm
end Go.Proofs.YtpkonagjnfphkaaGreatDoor

namespace Go.Proofs.YtpkonagjnfphkaaGreatDoor
open Go.RowKit Trc
set_option linter.unusedSimpArgs false
set_option linter.unusedVariables false
set_option maxHeartbeats 1000000 in
set_option maxRecDepth 100000 in
theorem prHas_c (p : Prm.Pr) (hf : p.flags < 4294967296) (q : Nat) (hq : q < 4294967296) (w : World) : Calls Tryz.prog 13 #[prV p, .int .u32 q] w (Ret (.bool (Prm.hasB p.flags q)) w) := by
  have X0 := RowAt.new w (prC p).toArray 28
  have hB := below_alloc w (.cells (prC p).toArray 28)
  have x0 := X0.cell (i := 0) rfl
  by_cases h2 : q = 2
  · subst h2
    rw [show Prm.hasB p.flags 2 = decide (p.flags / 2 % 2 = 1) from rfl]
    have ha := Prm.and32 p.flags 2 hf (by decide)
    have hh := Prm.has2 p.flags
    have hx : (((p.flags &&& 2 : Nat) : Int) != 0) = decide (p.flags / 2 % 2 = 1) := by rw [← hh, Bool.eq_iff_iff, bne_iff_ne, bne_iff_ne]; omega
    obtain ⟨z, hz⟩ : ∃ z : Nat, p.flags &&& 2 = z := ⟨_, rfl⟩
    obtain ⟨y, hy⟩ : ∃ y : Bool, decide (p.flags / 2 % 2 = 1) = y := ⟨_, rfl⟩
    rw [hz] at ha hx
    rw [hy] at hx ⊢
    have ha : bits .and .u32 (p.flags : Int) 2 = (z : Int) := ha
    clear hh hz hy
    go_enter Tryz.func13, Tryz.ntmps13
    go_wp2
    go_ret
    exact ⟨rfl, hB⟩
  · have e2 : ((q : Int) == 2) = false := by rw [beq_eq_false_iff_ne]; omega
    by_cases h3 : q = 32
    · subst h3
      rw [show Prm.hasB p.flags 32 = decide (p.flags / 32 % 2 = 1) from rfl]
      have ha := Prm.and32 p.flags 32 hf (by decide)
      have hh := Prm.has32 p.flags
      have hx : (((p.flags &&& 32 : Nat) : Int) != 0) = decide (p.flags / 32 % 2 = 1) := by rw [← hh, Bool.eq_iff_iff, bne_iff_ne, bne_iff_ne]; omega
      obtain ⟨z, hz⟩ : ∃ z : Nat, p.flags &&& 32 = z := ⟨_, rfl⟩
      obtain ⟨y, hy⟩ : ∃ y : Bool, decide (p.flags / 32 % 2 = 1) = y := ⟨_, rfl⟩
      rw [hz] at ha hx
      rw [hy] at hx ⊢
      have ha : bits .and .u32 (p.flags : Int) 32 = (z : Int) := ha
      clear hh hz hy
      go_enter Tryz.func13, Tryz.ntmps13
      go_wp2
      go_ret
      exact ⟨rfl, hB⟩
    · have e3 : ((q : Int) == 32) = false := by rw [beq_eq_false_iff_ne]; omega
      rw [show Prm.hasB p.flags q = false by unfold Prm.hasB; rw [show (q == 2) = false by simpa using h2, show (q == 32) = false by simpa using h3]; rfl]
      clear h2 h3
      go_enter Tryz.func13, Tryz.ntmps13
      go_wp2
      go_ret
      exact ⟨rfl, hB⟩
set_option maxHeartbeats 1000000 in
set_option maxRecDepth 100000 in
theorem rHas_c (p : Prm.Pr) (hf : p.flags < 4294967296) (q : Nat) (hq : q < 4294967296) (w : World) : Calls Tryz.prog 14 #[prV p, .int .u32 q] w (Ret (.bool (Prm.hasB p.flags q)) w) := by
  have X0 := RowAt.new w (prC p).toArray 28
  have hB := below_alloc w (.cells (prC p).toArray 28)
  have x0 := X0.cell (i := 0) rfl
  by_cases h2 : q = 2
  · subst h2
    rw [show Prm.hasB p.flags 2 = decide (p.flags / 2 % 2 = 1) from rfl]
    have hd : ((p.flags : Int).tdiv 2) = ((p.flags / 2 : Nat) : Int) := by rw [Int.tdiv_eq_ediv_of_nonneg (by omega)]; omega
    obtain ⟨y, hy⟩ : ∃ y : Bool, decide (p.flags / 2 % 2 = 1) = y := ⟨_, rfl⟩
    have hx : ((p.flags : Int) / 2 % 2 == 1) = y := by rw [← hy, Bool.eq_iff_iff, beq_iff_eq, decide_eq_true_eq]; omega
    rw [hy]
    clear hy
    go_enter Tryz.func14, Tryz.ntmps14
    go_wp2
    go_ret
    exact ⟨rfl, hB⟩
  · have e2 : ((q : Int) == 2) = false := by rw [beq_eq_false_iff_ne]; omega
    by_cases h3 : q = 32
    · subst h3
      rw [show Prm.hasB p.flags 32 = decide (p.flags / 32 % 2 = 1) from rfl]
      have hd : ((p.flags : Int).tdiv 32) = ((p.flags / 32 : Nat) : Int) := by rw [Int.tdiv_eq_ediv_of_nonneg (by omega)]; omega
      obtain ⟨y, hy⟩ : ∃ y : Bool, decide (p.flags / 32 % 2 = 1) = y := ⟨_, rfl⟩
      have hx : ((p.flags : Int) / 32 % 2 == 1) = y := by rw [← hy, Bool.eq_iff_iff, beq_iff_eq, decide_eq_true_eq]; omega
      rw [hy]
      clear hy
      go_enter Tryz.func14, Tryz.ntmps14
      go_wp2
      go_ret
      exact ⟨rfl, hB⟩
    · have e3 : ((q : Int) == 32) = false := by rw [beq_eq_false_iff_ne]; omega
      rw [show Prm.hasB p.flags q = false by unfold Prm.hasB; rw [show (q == 2) = false by simpa using h2, show (q == 32) = false by simpa using h3]; rfl]
      clear h2 h3
      go_enter Tryz.func14, Tryz.ntmps14
      go_wp2
      go_ret
      exact ⟨rfl, hB⟩
set_option maxHeartbeats 1000000 in
set_option maxRecDepth 100000 in
theorem rFlagsRight_c (f : Nat) (hf : f < 4294967296) (w : World) : Calls Tryz.prog 37 #[.int .u32 f] w (Ret (.bool (Prm.flagsB f)) w) := by
  unfold Prm.flagsB
  by_cases h1 : f ≤ 418
  · have d1 : decide ((f : Int) ≤ 418) = true := decide_eq_true (by omega)
    by_cases hk0 : f % 128 = 0
    · have d2 : decide ((f : Int) % 128 ≤ 34) = true := decide_eq_true (by omega)
      have e0 : ((f : Int) % 128 == 0) = true := by rw [beq_iff_eq]; omega
      have e2 : ((f : Int) % 128 == 2) = false := by rw [beq_eq_false_iff_ne]; omega
      have e32 : ((f : Int) % 128 == 32) = false := by rw [beq_eq_false_iff_ne]; omega
      have e34 : ((f : Int) % 128 == 34) = false := by rw [beq_eq_false_iff_ne]; omega
      by_cases h3 : f / 128 ≤ 2
      · have d3 : decide ((f : Int) / 128 ≤ 2) = true := decide_eq_true (by omega)
        rw [decide_eq_true (show f ≤ 418 ∧ (f % 128 = 0 ∨ f % 128 = 2 ∨ f % 128 = 32 ∨ f % 128 = 34) ∧ f / 128 ≤ 2 by omega)]
        clear h1 h3 hk0
        go_enter Tryz.func37, Tryz.ntmps37
        go_wp2
        go_ret
        exact ⟨rfl, Below.refl _ _⟩
      · have d3 : decide ((f : Int) / 128 ≤ 2) = false := decide_eq_false (by omega)
        rw [decide_eq_false (show ¬ (f ≤ 418 ∧ (f % 128 = 0 ∨ f % 128 = 2 ∨ f % 128 = 32 ∨ f % 128 = 34) ∧ f / 128 ≤ 2) by omega)]
        clear h1 h3 hk0
        go_enter Tryz.func37, Tryz.ntmps37
        go_wp2
        go_ret
        exact ⟨rfl, Below.refl _ _⟩
    by_cases hk2 : f % 128 = 2
    · have d2 : decide ((f : Int) % 128 ≤ 34) = true := decide_eq_true (by omega)
      have e0 : ((f : Int) % 128 == 0) = false := by rw [beq_eq_false_iff_ne]; omega
      have e2 : ((f : Int) % 128 == 2) = true := by rw [beq_iff_eq]; omega
      have e32 : ((f : Int) % 128 == 32) = false := by rw [beq_eq_false_iff_ne]; omega
      have e34 : ((f : Int) % 128 == 34) = false := by rw [beq_eq_false_iff_ne]; omega
      by_cases h3 : f / 128 ≤ 2
      · have d3 : decide ((f : Int) / 128 ≤ 2) = true := decide_eq_true (by omega)
        rw [decide_eq_true (show f ≤ 418 ∧ (f % 128 = 0 ∨ f % 128 = 2 ∨ f % 128 = 32 ∨ f % 128 = 34) ∧ f / 128 ≤ 2 by omega)]
        clear h1 h3 hk2
        go_enter Tryz.func37, Tryz.ntmps37
        go_wp2
        go_ret
        exact ⟨rfl, Below.refl _ _⟩
      · have d3 : decide ((f : Int) / 128 ≤ 2) = false := decide_eq_false (by omega)
        rw [decide_eq_false (show ¬ (f ≤ 418 ∧ (f % 128 = 0 ∨ f % 128 = 2 ∨ f % 128 = 32 ∨ f % 128 = 34) ∧ f / 128 ≤ 2) by omega)]
        clear h1 h3 hk2
        go_enter Tryz.func37, Tryz.ntmps37
        go_wp2
        go_ret
        exact ⟨rfl, Below.refl _ _⟩
    by_cases hk32 : f % 128 = 32
    · have d2 : decide ((f : Int) % 128 ≤ 34) = true := decide_eq_true (by omega)
      have e0 : ((f : Int) % 128 == 0) = false := by rw [beq_eq_false_iff_ne]; omega
      have e2 : ((f : Int) % 128 == 2) = false := by rw [beq_eq_false_iff_ne]; omega
      have e32 : ((f : Int) % 128 == 32) = true := by rw [beq_iff_eq]; omega
      have e34 : ((f : Int) % 128 == 34) = false := by rw [beq_eq_false_iff_ne]; omega
      by_cases h3 : f / 128 ≤ 2
      · have d3 : decide ((f : Int) / 128 ≤ 2) = true := decide_eq_true (by omega)
        rw [decide_eq_true (show f ≤ 418 ∧ (f % 128 = 0 ∨ f % 128 = 2 ∨ f % 128 = 32 ∨ f % 128 = 34) ∧ f / 128 ≤ 2 by omega)]
        clear h1 h3 hk32
        go_enter Tryz.func37, Tryz.ntmps37
        go_wp2
        go_ret
        exact ⟨rfl, Below.refl _ _⟩
      · have d3 : decide ((f : Int) / 128 ≤ 2) = false := decide_eq_false (by omega)
        rw [decide_eq_false (show ¬ (f ≤ 418 ∧ (f % 128 = 0 ∨ f % 128 = 2 ∨ f % 128 = 32 ∨ f % 128 = 34) ∧ f / 128 ≤ 2) by omega)]
        clear h1 h3 hk32
        go_enter Tryz.func37, Tryz.ntmps37
        go_wp2
        go_ret
        exact ⟨rfl, Below.refl _ _⟩
    by_cases hk34 : f % 128 = 34
    · have d2 : decide ((f : Int) % 128 ≤ 34) = true := decide_eq_true (by omega)
      have e0 : ((f : Int) % 128 == 0) = false := by rw [beq_eq_false_iff_ne]; omega
      have e2 : ((f : Int) % 128 == 2) = false := by rw [beq_eq_false_iff_ne]; omega
      have e32 : ((f : Int) % 128 == 32) = false := by rw [beq_eq_false_iff_ne]; omega
      have e34 : ((f : Int) % 128 == 34) = true := by rw [beq_iff_eq]; omega
      by_cases h3 : f / 128 ≤ 2
      · have d3 : decide ((f : Int) / 128 ≤ 2) = true := decide_eq_true (by omega)
        rw [decide_eq_true (show f ≤ 418 ∧ (f % 128 = 0 ∨ f % 128 = 2 ∨ f % 128 = 32 ∨ f % 128 = 34) ∧ f / 128 ≤ 2 by omega)]
        clear h1 h3 hk34
        go_enter Tryz.func37, Tryz.ntmps37
        go_wp2
        go_ret
        exact ⟨rfl, Below.refl _ _⟩
      · have d3 : decide ((f : Int) / 128 ≤ 2) = false := decide_eq_false (by omega)
        rw [decide_eq_false (show ¬ (f ≤ 418 ∧ (f % 128 = 0 ∨ f % 128 = 2 ∨ f % 128 = 32 ∨ f % 128 = 34) ∧ f / 128 ≤ 2) by omega)]
        clear h1 h3 hk34
        go_enter Tryz.func37, Tryz.ntmps37
        go_wp2
        go_ret
        exact ⟨rfl, Below.refl _ _⟩
    have hno : ¬ (f ≤ 418 ∧ (f % 128 = 0 ∨ f % 128 = 2 ∨ f % 128 = 32 ∨ f % 128 = 34) ∧ f / 128 ≤ 2) := by omega
    rw [decide_eq_false hno]
    have e0 : ((f : Int) % 128 == 0) = false := by rw [beq_eq_false_iff_ne]; omega
    have e2 : ((f : Int) % 128 == 2) = false := by rw [beq_eq_false_iff_ne]; omega
    have e32 : ((f : Int) % 128 == 32) = false := by rw [beq_eq_false_iff_ne]; omega
    have e34 : ((f : Int) % 128 == 34) = false := by rw [beq_eq_false_iff_ne]; omega
    by_cases h2 : f % 128 ≤ 34
    · have d2 : decide ((f : Int) % 128 ≤ 34) = true := decide_eq_true (by omega)
      clear h1 h2 hno hk0 hk2 hk32 hk34
      go_enter Tryz.func37, Tryz.ntmps37
      go_wp2
      go_ret
      exact ⟨rfl, Below.refl _ _⟩
    · have d2 : decide ((f : Int) % 128 ≤ 34) = false := decide_eq_false (by omega)
      clear h1 h2 hno hk0 hk2 hk32 hk34
      go_enter Tryz.func37, Tryz.ntmps37
      go_wp2
      go_ret
      exact ⟨rfl, Below.refl _ _⟩
  · have d1 : decide ((f : Int) ≤ 418) = false := decide_eq_false (by omega)
    rw [decide_eq_false (fun h => h1 h.1)]
    clear h1
    go_enter Tryz.func37, Tryz.ntmps37
    go_wp2
    go_ret
    exact ⟨rfl, Below.refl _ _⟩
/-- The rank of flags. -/
def Prm.rankN (f : Nat) : Nat := if Prm.flagsB f = true then f / 128 else 0
set_option maxHeartbeats 1000000 in
set_option maxRecDepth 100000 in
theorem prRank_c (p : Prm.Pr) (hf : p.flags < 4294967296) (w : World) : Calls Tryz.prog 18 #[prV p] w (Ret (.int .i64 (Prm.rankN p.flags : Nat)) w) := by
  have X0 := RowAt.new w (prC p).toArray 28
  have hB := below_alloc w (.cells (prC p).toArray 28)
  have x0 := X0.cell (i := 0) rfl
  have x1 := X0.cell (i := 1) rfl
  have x2 := X0.cell (i := 2) rfl
  have x3 := X0.cell (i := 3) rfl
  have x4 := X0.cell (i := 4) rfl
  have x5 := X0.cell (i := 5) rfl
  have x6 := X0.cell (i := 6) rfl
  have x7 := X0.cell (i := 7) rfl
  have x8 := X0.cell (i := 8) rfl
  have x9 := X0.cell (i := 9) rfl
  have x10 := X0.cell (i := 10) rfl
  have hc := prFlags_c p hf (w.alloc (.cells (prC p).toArray 28))
  have hd : ((p.flags : Int).tdiv 128) = ((p.flags / 128 : Nat) : Int) := by rw [Int.tdiv_eq_ediv_of_nonneg (by omega)]; omega
  have hw : IntKind.i64.wrap ((p.flags : Int) / 128) = ((p.flags / 128 : Nat) : Int) := by rw [IntKind.wrap_i64]; omega
  unfold Prm.rankN
  cases hh : Prm.flagsB p.flags with
  | true =>
    rw [hh] at hc
    clear hh
    go_enter Tryz.func18, Tryz.ntmps18
    go_wp2_with (go_at_call 36; refine hc.mono ?_; rintro en w1 ⟨rfl, hb1⟩; have y0 := (X0.below hb1).cell (i := 0) rfl)
    go_ret
    exact ⟨retI (by first | omega | (rw [if_pos rfl]; omega)), below_up hB hb1⟩
  | false =>
    rw [hh] at hc
    clear hh
    go_enter Tryz.func18, Tryz.ntmps18
    go_wp2_with (go_at_call 36; refine hc.mono ?_; rintro en w1 ⟨rfl, hb1⟩; have y0 := (X0.below hb1).cell (i := 0) rfl)
    go_ret
    exact ⟨rfl, below_up hB hb1⟩
set_option maxHeartbeats 1000000 in
set_option maxRecDepth 100000 in
theorem rRank_c (p : Prm.Pr) (hf : p.flags < 4294967296) (w : World) : Calls Tryz.prog 19 #[prV p] w (Ret (.int .i64 (Prm.rankN p.flags : Nat)) w) := by
  have X0 := RowAt.new w (prC p).toArray 28
  have hB := below_alloc w (.cells (prC p).toArray 28)
  have x0 := X0.cell (i := 0) rfl
  have x1 := X0.cell (i := 1) rfl
  have x2 := X0.cell (i := 2) rfl
  have x3 := X0.cell (i := 3) rfl
  have x4 := X0.cell (i := 4) rfl
  have x5 := X0.cell (i := 5) rfl
  have x6 := X0.cell (i := 6) rfl
  have x7 := X0.cell (i := 7) rfl
  have x8 := X0.cell (i := 8) rfl
  have x9 := X0.cell (i := 9) rfl
  have x10 := X0.cell (i := 10) rfl
  have hc := rFlagsRight_c p.flags hf (w.alloc (.cells (prC p).toArray 28))
  have hd : ((p.flags : Int).tdiv 128) = ((p.flags / 128 : Nat) : Int) := by rw [Int.tdiv_eq_ediv_of_nonneg (by omega)]; omega
  have hw : IntKind.i64.wrap ((p.flags : Int) / 128) = ((p.flags / 128 : Nat) : Int) := by rw [IntKind.wrap_i64]; omega
  unfold Prm.rankN
  cases hh : Prm.flagsB p.flags with
  | true =>
    rw [hh] at hc
    clear hh
    go_enter Tryz.func19, Tryz.ntmps19
    go_wp2_with (go_at_call 37; refine hc.mono ?_; rintro en w1 ⟨rfl, hb1⟩; have y0 := (X0.below hb1).cell (i := 0) rfl)
    go_ret
    exact ⟨retI (by first | omega | (rw [if_pos rfl]; omega)), below_up hB hb1⟩
  | false =>
    rw [hh] at hc
    clear hh
    go_enter Tryz.func19, Tryz.ntmps19
    go_wp2_with (go_at_call 37; refine hc.mono ?_; rintro en w1 ⟨rfl, hb1⟩; have y0 := (X0.below hb1).cell (i := 0) rfl)
    go_ret
    exact ⟨rfl, below_up hB hb1⟩
set_option maxHeartbeats 1000000 in
set_option maxRecDepth 100000 in
theorem prExpires_c (p : Prm.Pr) (w : World) : Calls Tryz.prog 20 #[prV p] w (Ret (.int .u64 (Clk.addF p.time p.life)) w) := by
  have X0 := RowAt.new w (prC p).toArray 28
  have hB := below_alloc w (.cells (prC p).toArray 28)
  have x8 := X0.cell (i := 8) rfl
  have x10 := X0.cell (i := 10) rfl
  have hc := ckadd_c (p.time : Int) (p.life : Int) (w.alloc (.cells (prC p).toArray 28)) (by omega) (by omega)
  go_enter Tryz.func20, Tryz.ntmps20
  go_wp2_with (go_at_call 38; refine hc.mono ?_; rintro en w1 ⟨rfl, hb1⟩)
  go_ret
  exact ⟨rfl, below_up hB hb1⟩
set_option maxHeartbeats 1000000 in
set_option maxRecDepth 100000 in
theorem rExpires_c (p : Prm.Pr) (w : World) : Calls Tryz.prog 21 #[prV p] w (Ret (.int .u64 (Clk.addF p.time p.life)) w) := by
  have X0 := RowAt.new w (prC p).toArray 28
  have hB := below_alloc w (.cells (prC p).toArray 28)
  have x8 := X0.cell (i := 8) rfl
  have x10 := X0.cell (i := 10) rfl
  have hc := ckaddR_c (p.time : Int) (p.life : Int) (w.alloc (.cells (prC p).toArray 28)) (by omega) (by omega)
  go_enter Tryz.func21, Tryz.ntmps21
  go_wp2_with (go_at_call 39; refine hc.mono ?_; rintro en w1 ⟨rfl, rfl⟩)
  go_ret
  exact ⟨rfl, hB⟩
set_option maxHeartbeats 1000000 in
set_option maxRecDepth 100000 in
theorem rName_c (p : Prm.Pr) (w : World) : Calls Tryz.prog 10 #[prV p] w (Ret (nmW p.srN p.srS p.time p.seq) w) := by
  have X0 := RowAt.new w (prC p).toArray 28
  have hB := below_alloc w (.cells (prC p).toArray 28)
  have x4 := X0.cell (i := 4) rfl
  have x5 := X0.cell (i := 5) rfl
  have x8 := X0.cell (i := 8) rfl
  have x9 := X0.cell (i := 9) rfl
  have X1 := RowAt.new (w.alloc (.cells (prC p).toArray 28)) #[.int .u32 0, .int .u32 0, .int .u64 0, .int .u32 0] 32
  rw [World.size_alloc] at X1
  have f0 := X1.fz 0
  have f1 := X1.fz 1
  have f2 := X1.fz 2
  have f3 := X1.fz 3
  go_enter Tryz.func10, Tryz.ntmps10
  go_wp2
  have hZ := RowAt.new (w.alloc (.cells (prC p).toArray 28)) #[.int .u32 p.srN, .int .u32 p.srS, .int .u64 p.time, .int .u32 p.seq] 32
  rw [World.size_alloc] at hZ
  have g0 := RowAt.cell hZ (i := 0) (v := .int .u32 p.srN) rfl
  have g1 := RowAt.cell hZ (i := 1) (v := .int .u32 p.srS) rfl
  have g2 := RowAt.cell hZ (i := 2) (v := .int .u64 p.time) rfl
  have g3 := RowAt.cell hZ (i := 3) (v := .int .u32 p.seq) rfl
  refine bodyPost_ret (v := (nmW p.srN p.srS p.time p.seq)) (by simp [results, Tryz.results10, go_sem, g0, g1, g2, g3]) rfl ?_
  exact ⟨rfl, hB.alloc hB.size _⟩
theorem u32_at {w : World} {a : Option Addr} {c : Nat} {l : List Nat} (h : Sl w 1 (.slice a l.length c) l.length (l.map fun q : Nat => Value.int .u32 q)) {k : Nat} (hk : k < l.length) : ∃ b off, a = some ⟨b, off, none⟩ ∧ w.cell? ⟨b, off + k, none⟩ = some (.int .u32 l[k]) := by
  obtain ⟨b, off, e, h1⟩ := h.cellAt (k := k) (by omega) (by omega)
  exact ⟨b, off, e, by rw [h1, List.getElem?_map, List.getElem?_eq_getElem hk]; rfl⟩
theorem Prm.take_at {l : List Nat} {k : Nat} (hk : k < l.length) : l.take (k + 1) = l.take k ++ [l[k]] := List.take_succ_eq_append_getElem hk
set_option maxHeartbeats 2000000 in
set_option maxRecDepth 100000 in
theorem prFlagsOf_c (r : Int) (hr : -9223372036854775808 ≤ r ∧ r ≤ 9223372036854775807) (l : List Nat) (v : Value) (w : World) (hv : Sl w 1 v l.length (l.map fun q : Nat => Value.int .u32 q)) (hl : ∀ q ∈ l, q < 4294967296) : Calls Tryz.prog 16 #[.int .i64 r, v] w (Ret (.int .u32 (Prm.flagsN r l : Nat)) w) := by
  obtain ⟨a, c, rfl⟩ := hv.len
  have HV := Lib.hid hv
  have HL := Lib.hid hl
  have hw0 : ∀ k : Nat, k < 4294967296 → IntKind.u32.wrap (k : Int) = (k : Int) := fun k hk => by rw [IntKind.wrap_u32]; omega
  have hmx := hv.n_max
  obtain ⟨n, hn⟩ : ∃ n, l.length = n := ⟨_, rfl⟩
  have HN := Lib.hid hn
  rw [hn] at HV hmx ⊢
  clear hv hl hn
  have hst : ∃ B : Nat, Prm.baseN r = B := ⟨_, rfl⟩
  by_cases h0 : 0 ≤ r
  · have d0 : decide (0 ≤ r) = true := decide_eq_true h0
    have d01 : decide (r ≥ 0) = true := d0
    by_cases h2 : r ≤ 2
    · have d2 : decide (r ≤ 2) = true := decide_eq_true h2
      have hw : IntKind.u32.wrap r = r := by rw [IntKind.wrap_u32]; omega
      have hw2 : IntKind.u32.wrap (r * 128) = r * 128 := by rw [IntKind.wrap_u32]; omega
      have hw3 : IntKind.i64.wrap (128 * r) = 128 * r := by rw [IntKind.wrap_i64]; omega
      have hw4 : IntKind.u32.wrap (128 * r) = 128 * r := by rw [IntKind.wrap_u32]; omega
      have HBS := Lib.hid (show ((Prm.baseN r : Nat) : Int) = r * 128 by unfold Prm.baseN; rw [if_pos ⟨h0, h2⟩]; omega)
      clear h0 h2
      go_enter Tryz.func16, Tryz.ntmps16
      go_wp2
      go_loopw [4, 18] (fun vn vi wr => ∃ k : Nat, vi = .int .i64 k ∧ k ≤ n ∧ vn = .int .u32 (Prm.flagsN r (l.take k) : Nat) ∧ Below w.heap.size w wr) (fun _ vi _ => n - (intOf vi).toNat)
      case atStart => exact ⟨0, rfl, Nat.zero_le _, by have h := HBS.out; unfold Prm.flagsN; simp only [List.take_zero, List.not_mem_nil, if_false, Nat.add_zero]; rw [h], Below.refl _ _⟩
      case round =>
        obtain ⟨k, rfl, hk, rfl, hB⟩ := hrel
        by_cases hlt : k < n
        · have hkl : k < l.length := by rw [HN.out]; exact hlt
          have hv := HV.out.up hB
          rw [← HN.out] at hv
          obtain ⟨b, off, hab, hc⟩ := u32_at hv hkl
          subst hab
          rw [HN.out] at hv
          have hT := Lib.hid (Prm.take_at hkl)
          have hq := HL.out _ (List.getElem_mem hkl)
          have hfl := Prm.flagsN_lt r (l.take k)
          have hor := Prm.or32 (Prm.flagsN r (l.take k)) l[k] (by omega) hq
          have HQ2 := Lib.hid (Prm.flagsN_or r (l.take k) l[k])
          have HQ3 := Lib.hid (Prm.flagsN_no r (l.take k) l[k])
          generalize l[k] = q at *
          obtain ⟨G, hG⟩ : ∃ G, Prm.flagsN r (l.take k) = G := ⟨_, rfl⟩
          rw [hG] at hor hfl HQ2 HQ3 ⊢
          have hkn : (k : Int) < (n : Int) := by omega
          by_cases h2 : q = 2
          · subst h2
            have HO := Lib.hid (HQ2.out (.inl rfl))
            have hor : bits .or .u32 (G : Int) 2 = ((G ||| 2 : Nat) : Int) := hor
            clear hG hv
            go_wp2
            go_roundw
            case rel => exact ⟨k + 1, by go_num, by omega, by rw [hT.out, ← HO.out], hB⟩
            case measure => simp [intOf]; omega
          · have e2 : ((q : Int) == 2) = false := by rw [beq_eq_false_iff_ne]; omega
            by_cases h3 : q = 32
            · subst h3
              have HO := Lib.hid (HQ2.out (.inr rfl))
              have hor : bits .or .u32 (G : Int) 32 = ((G ||| 32 : Nat) : Int) := hor
              clear hG hv h2
              go_wp2
              go_roundw
              case rel => exact ⟨k + 1, by go_num, by omega, by rw [hT.out, ← HO.out], hB⟩
              case measure => simp [intOf]; omega
            · have e3 : ((q : Int) == 32) = false := by rw [beq_eq_false_iff_ne]; omega
              have HO := Lib.hid (HQ3.out h2 h3)
              clear hG hv h2 h3 hor
              go_wp2
              go_roundw
              case rel => exact ⟨k + 1, by go_num, by omega, by rw [hT.out, HO.out], hB⟩
              case measure => simp [intOf]; omega
        · obtain rfl : k = n := by omega
          have HA := Lib.hid (show l.take k = l from List.take_of_length_le (by rw [HN.out]; exact Nat.le_refl _))
          go_wp2
          go_ret
          exact ⟨by rw [HA.out]; rfl, hB⟩
    · have d2 : decide (r ≤ 2) = false := decide_eq_false h2
      have HBS := Lib.hid (show ((Prm.baseN r : Nat) : Int) = 0 by unfold Prm.baseN; rw [if_neg (fun h => h2 h.2)]; rfl)
      clear h0 h2
      go_enter Tryz.func16, Tryz.ntmps16
      go_wp2
      go_loopw [4, 18] (fun vn vi wr => ∃ k : Nat, vi = .int .i64 k ∧ k ≤ n ∧ vn = .int .u32 (Prm.flagsN r (l.take k) : Nat) ∧ Below w.heap.size w wr) (fun _ vi _ => n - (intOf vi).toNat)
      case atStart => exact ⟨0, rfl, Nat.zero_le _, by have h := HBS.out; unfold Prm.flagsN; simp only [List.take_zero, List.not_mem_nil, if_false, Nat.add_zero]; rw [h], Below.refl _ _⟩
      case round =>
        obtain ⟨k, rfl, hk, rfl, hB⟩ := hrel
        by_cases hlt : k < n
        · have hkl : k < l.length := by rw [HN.out]; exact hlt
          have hv := HV.out.up hB
          rw [← HN.out] at hv
          obtain ⟨b, off, hab, hc⟩ := u32_at hv hkl
          subst hab
          rw [HN.out] at hv
          have hT := Lib.hid (Prm.take_at hkl)
          have hq := HL.out _ (List.getElem_mem hkl)
          have hfl := Prm.flagsN_lt r (l.take k)
          have hor := Prm.or32 (Prm.flagsN r (l.take k)) l[k] (by omega) hq
          have HQ2 := Lib.hid (Prm.flagsN_or r (l.take k) l[k])
          have HQ3 := Lib.hid (Prm.flagsN_no r (l.take k) l[k])
          generalize l[k] = q at *
          obtain ⟨G, hG⟩ : ∃ G, Prm.flagsN r (l.take k) = G := ⟨_, rfl⟩
          rw [hG] at hor hfl HQ2 HQ3 ⊢
          have hkn : (k : Int) < (n : Int) := by omega
          by_cases h2 : q = 2
          · subst h2
            have HO := Lib.hid (HQ2.out (.inl rfl))
            have hor : bits .or .u32 (G : Int) 2 = ((G ||| 2 : Nat) : Int) := hor
            clear hG hv
            go_wp2
            go_roundw
            case rel => exact ⟨k + 1, by go_num, by omega, by rw [hT.out, ← HO.out], hB⟩
            case measure => simp [intOf]; omega
          · have e2 : ((q : Int) == 2) = false := by rw [beq_eq_false_iff_ne]; omega
            by_cases h3 : q = 32
            · subst h3
              have HO := Lib.hid (HQ2.out (.inr rfl))
              have hor : bits .or .u32 (G : Int) 32 = ((G ||| 32 : Nat) : Int) := hor
              clear hG hv h2
              go_wp2
              go_roundw
              case rel => exact ⟨k + 1, by go_num, by omega, by rw [hT.out, ← HO.out], hB⟩
              case measure => simp [intOf]; omega
            · have e3 : ((q : Int) == 32) = false := by rw [beq_eq_false_iff_ne]; omega
              have HO := Lib.hid (HQ3.out h2 h3)
              clear hG hv h2 h3 hor
              go_wp2
              go_roundw
              case rel => exact ⟨k + 1, by go_num, by omega, by rw [hT.out, HO.out], hB⟩
              case measure => simp [intOf]; omega
        · obtain rfl : k = n := by omega
          have HA := Lib.hid (show l.take k = l from List.take_of_length_le (by rw [HN.out]; exact Nat.le_refl _))
          go_wp2
          go_ret
          exact ⟨by rw [HA.out]; rfl, hB⟩
  · have d0 : decide (0 ≤ r) = false := decide_eq_false h0
    have d01 : decide (r ≥ 0) = false := d0
    have HBS := Lib.hid (show ((Prm.baseN r : Nat) : Int) = 0 by unfold Prm.baseN; rw [if_neg (fun h => h0 h.1)]; rfl)
    clear h0
    go_enter Tryz.func16, Tryz.ntmps16
    go_wp2
    go_loopw [4, 18] (fun vn vi wr => ∃ k : Nat, vi = .int .i64 k ∧ k ≤ n ∧ vn = .int .u32 (Prm.flagsN r (l.take k) : Nat) ∧ Below w.heap.size w wr) (fun _ vi _ => n - (intOf vi).toNat)
    case atStart => exact ⟨0, rfl, Nat.zero_le _, by have h := HBS.out; unfold Prm.flagsN; simp only [List.take_zero, List.not_mem_nil, if_false, Nat.add_zero]; rw [h], Below.refl _ _⟩
    case round =>
      obtain ⟨k, rfl, hk, rfl, hB⟩ := hrel
      by_cases hlt : k < n
      · have hkl : k < l.length := by rw [HN.out]; exact hlt
        have hv := HV.out.up hB
        rw [← HN.out] at hv
        obtain ⟨b, off, hab, hc⟩ := u32_at hv hkl
        subst hab
        rw [HN.out] at hv
        have hT := Lib.hid (Prm.take_at hkl)
        have hq := HL.out _ (List.getElem_mem hkl)
        have hfl := Prm.flagsN_lt r (l.take k)
        have hor := Prm.or32 (Prm.flagsN r (l.take k)) l[k] (by omega) hq
        have HQ2 := Lib.hid (Prm.flagsN_or r (l.take k) l[k])
        have HQ3 := Lib.hid (Prm.flagsN_no r (l.take k) l[k])
        generalize l[k] = q at *
        obtain ⟨G, hG⟩ : ∃ G, Prm.flagsN r (l.take k) = G := ⟨_, rfl⟩
        rw [hG] at hor hfl HQ2 HQ3 ⊢
        have hkn : (k : Int) < (n : Int) := by omega
        by_cases h2 : q = 2
        · subst h2
          have HO := Lib.hid (HQ2.out (.inl rfl))
          have hor : bits .or .u32 (G : Int) 2 = ((G ||| 2 : Nat) : Int) := hor
          clear hG hv
          go_wp2
          go_roundw
          case rel => exact ⟨k + 1, by go_num, by omega, by rw [hT.out, ← HO.out], hB⟩
          case measure => simp [intOf]; omega
        · have e2 : ((q : Int) == 2) = false := by rw [beq_eq_false_iff_ne]; omega
          by_cases h3 : q = 32
          · subst h3
            have HO := Lib.hid (HQ2.out (.inr rfl))
            have hor : bits .or .u32 (G : Int) 32 = ((G ||| 32 : Nat) : Int) := hor
            clear hG hv h2
            go_wp2
            go_roundw
            case rel => exact ⟨k + 1, by go_num, by omega, by rw [hT.out, ← HO.out], hB⟩
            case measure => simp [intOf]; omega
          · have e3 : ((q : Int) == 32) = false := by rw [beq_eq_false_iff_ne]; omega
            have HO := Lib.hid (HQ3.out h2 h3)
            clear hG hv h2 h3 hor
            go_wp2
            go_roundw
            case rel => exact ⟨k + 1, by go_num, by omega, by rw [hT.out, HO.out], hB⟩
            case measure => simp [intOf]; omega
      · obtain rfl : k = n := by omega
        have HA := Lib.hid (show l.take k = l from List.take_of_length_le (by rw [HN.out]; exact Nat.le_refl _))
        go_wp2
        go_ret
        exact ⟨by rw [HA.out]; rfl, hB⟩
end Go.Proofs.YtpkonagjnfphkaaGreatDoor
