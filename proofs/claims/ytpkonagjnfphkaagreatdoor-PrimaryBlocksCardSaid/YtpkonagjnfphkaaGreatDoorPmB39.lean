/-
  PrI, PrV, PrW: several texts in one (bundle.py).
-/
import Derived.Test.YtpkonagjnfphkaaGreatDoorPmB38
import Derived.Test.YtpkonagjnfphkaaGreatDoorPmB17
import Derived.Test.YtpkonagjnfphkaaGreatDoorPmB34
import Derived.Test.YtpkonagjnfphkaaGreatDoorPmB37
import Derived.Test.YtpkonagjnfphkaaGreatDoorPmB29
import Derived.Test.YtpkonagjnfphkaaGreatDoorPmB26
import Derived.Test.YtpkonagjnfphkaaGreatDoorPmB33
import Derived.Test.YtpkonagjnfphkaaGreatDoorPmB07
namespace Go.Proofs.YtpkonagjnfphkaaGreatDoor
open Go.RowKit Trc Cb
set_option linter.unusedSimpArgs false
set_option linter.unusedVariables false
attribute [local go_sem] Oper.semAt_some
set_option maxRecDepth 100000 in
theorem prWants_c (p : Prm.Pr) (w : World) : Calls Tryz.prog 15 #[prV p] w fun en w' => en = .returned (.func (.func 35) #[] #[.pointer (some ⟨w.heap.size, 0, none⟩)]) ∧ w' = w.alloc (.cells (prC p).toArray 28) := by
  have hmf : ∀ (fn : Fn) (first cap : Array Value) (w : World), (Instr.makeFunc fn first cap).run Tryz.prog w = .ok (.func fn first cap) w := fun _ _ _ _ => rfl
  go_enter Tryz.func15, Tryz.ntmps15
  go_wp2
  go_ret
  exact ⟨rfl, rfl⟩
theorem enters_prWn1 : Enters Tryz.prog 35 := enters_of Tryz.func35 (by kernel_rfl) rfl
def pwAt (f : Nat) (k : Nat) : Nat := (Prm.wantsL f).getD k 0
def pwArgs (f : Nat) (k : Nat) : Array Value := #[.int .u32 (pwAt f k : Nat)]
/-- How many flags a primary has among the first few. -/
def pwC (f j : Nat) : Nat := (if Prm.hasB f 2 = true ∧ 1 ≤ j then 1 else 0) + (if Prm.hasB f 32 = true ∧ 2 ≤ j then 1 else 0)
theorem pw_two {f : Nat} (h : Prm.hasB f 2 = true) : 0 < (Prm.wantsL f).length ∧ pwAt f 0 = 2 := by
  unfold pwAt Prm.wantsL
  cases h2 : Prm.hasB f 32 <;> simp [h, h2]
theorem pw_three {f : Nat} (h : Prm.hasB f 32 = true) : pwC f 1 < (Prm.wantsL f).length ∧ pwAt f (pwC f 1) = 32 := by
  unfold pwAt Prm.wantsL pwC
  cases h2 : Prm.hasB f 2 <;> simp [h, h2]
theorem pw_len (f : Nat) : pwC f 2 = (Prm.wantsL f).length := by
  unfold Prm.wantsL pwC
  cases h2 : Prm.hasB f 2 <;> cases h3 : Prm.hasB f 32 <;> simp [h2, h3]
set_option maxHeartbeats 2000000 in
set_option maxRecDepth 100000 in
theorem pwn1_x (p : Prm.Pr) (hp : p.flags < 4294967296) (C : Nat) (S : Nat → Prop) (w : World) (hr : RowAt w C (prC p).toArray 28) (hSS : S C) :
    SeqX Tryz.prog 35 #[.pointer (some ⟨C, 0, none⟩)] (pwArgs p.flags) (Prm.wantsL p.flags).length S w := by
  intro l' G J Jx W hW hS hG hJ hJx hY h0
  have hR := hr.below hW
  have Hr := Lib.hid hR
  have hCl := hR.lt
  have hix0 : ∀ w : World, (Instr.index 74 (.agg #[.int .u32 2, .int .u32 32]) (.int .i64 0)).run Tryz.prog w = .ok (.int .u32 2) w := fun _ => by kernel_rfl
  have hix1 : ∀ w : World, (Instr.index 74 (.agg #[.int .u32 2, .int .u32 32]) (.int .i64 1)).run Tryz.prog w = .ok (.int .u32 32) w := fun _ => by kernel_rfl
  clear hr hR
  refine (callsIn_wide (n := 3)).1 ?_
  refine callsIn_of_wp Tryz.func35 rfl trivial ?_ rfl
  simp only [Tryz.ntmps35, List.size_toArray, List.length_cons, List.length_nil, Nat.reduceAdd, Nat.reduceSub, Array.replicate_succ, Array.replicate_zero, List.push_toArray, List.append_toArray, List.nil_append, List.cons_append]
  refine wpIn_scopeS ?_
  gi_wp2
  refine wpIn_label ?_
  gi_wp2
  gi_loopw [6] (fun i wr => ∃ (j : Nat) (G : Nat → Prop), j ≤ 2 ∧ i = .int .i64 j ∧ J (pwC p.flags j) G wr ∧ RowAt wr C (prC p).toArray 28 ∧ (∀ k, S k → ¬ G k) ∧ W.heap.size ≤ wr.heap.size) (fun i _ => 2 - (intOf i).toNat)
  case atStart => exact ⟨0, G, Nat.zero_le _, rfl, by simpa [pwC] using h0, Hr.out, fun k hk => (hS k hk).2, Nat.le_refl _⟩
  case round =>
    obtain ⟨j, G1, hk, rfl, hj, hE1, hG1, hsz⟩ := hrel
    have x0 := hE1.cell (i := 0) rfl
    have x1 := hE1.cell (i := 1) rfl
    have x2 := hE1.cell (i := 2) rfl
    have x3 := hE1.cell (i := 3) rfl
    have x4 := hE1.cell (i := 4) rfl
    have x5 := hE1.cell (i := 5) rfl
    have x6 := hE1.cell (i := 6) rfl
    have x7 := hE1.cell (i := 7) rfl
    have x8 := hE1.cell (i := 8) rfl
    have x9 := hE1.cell (i := 9) rfl
    have x10 := hE1.cell (i := 10) rfl
    rcases (show j = 0 ∨ j = 1 ∨ j = 2 by omega) with rfl | rfl | rfl
    · have hc := prHas_c p hp 2 (by decide) wr
      cases hh : Prm.hasB p.flags 2 with
      | true =>
        rw [hh] at hc
        have hln := pw_two hh
        have HC := Lib.hid (show pwC p.flags 1 = pwC p.flags 0 + 1 by simp [pwC, hh])
        have h00 : pwC p.flags 0 = 0 := by simp [pwC]
        rw [h00] at hj HC
        have hpa : pwArgs p.flags 0 = #[.int .u32 2] := by unfold pwArgs; rw [hln.2]; rfl
        have HLT := Lib.hid hln.1
        have HPA := Lib.hid hpa
        clear hln hh hpa
        gi_wp2_with (first | ((try refine ⟨trivial, ?_⟩); gi_at_call 13; refine (callsIn_wide.2 hc).mono ?_; rintro en w1 ⟨rfl, hb1⟩))
        have hJa := hJ _ _ _ _ hj (But.of_below hb1)
        have hE2 := hE1.below hb1
        obtain ⟨fn, tmps, assign, body, hy, hRR⟩ := yieldAt_wide (m' := 2) (hY _ _ _ HLT.out hJa)
        rw [HPA.out] at hy
        gi_wp2
        rw [hy]
        refine ⟨fun _ => by decide, hRR.mono ?_⟩
        rintro en W3 ⟨g, rfl, hw⟩
        have hE3 : RowAt W3 C (prC p).toArray 28 := (hw.but.same _ hE2.lt (hG1 C hSS)).trans hE2
        have hs3 := hw.but.size
        have hs1 := hb1.size
        cases g with
        | true =>
          gi_wp2
          go_roundw
          case rel => exact ⟨1, _, by omega, by go_num, by rw [HC.out]; exact hw.on rfl, hE3, fun k hk => newG_not (hG1 k hk) (by have := (hS k hk).1; omega), by omega⟩
          case measure => simp [intOf]
        | false =>
          gi_wp2
          rw [Exit.noGoto_normal]
          go_end0
          exact ⟨⟨_, rfl⟩, _, .inr ⟨_, HLT.out, hw.off rfl⟩⟩
      | false =>
        rw [hh] at hc
        have HC := Lib.hid (show pwC p.flags 1 = pwC p.flags 0 by simp [pwC, hh])
        clear hh
        gi_wp2_with (first | ((try refine ⟨trivial, ?_⟩); gi_at_call 13; refine (callsIn_wide.2 hc).mono ?_; rintro en w1 ⟨rfl, hb1⟩))
        have hJa := hJ _ _ _ _ hj (But.of_below hb1)
        have hE2 := hE1.below hb1
        have hs1 := hb1.size
        repeat (refine ⟨fun f hf => (by cases hf), ?_⟩; gi_wp2)
        go_roundw
        case rel => exact ⟨1, G1, by omega, by go_num, by rw [HC.out]; exact hJa, hE2, hG1, by omega⟩
        case measure => simp [intOf]
    · have hc := prHas_c p hp 32 (by decide) wr
      cases hh : Prm.hasB p.flags 32 with
      | true =>
        rw [hh] at hc
        have hln := pw_three hh
        have HC := Lib.hid (show pwC p.flags 2 = pwC p.flags 1 + 1 by simp [pwC, hh])
        have hpa : pwArgs p.flags (pwC p.flags 1) = #[.int .u32 32] := by unfold pwArgs; rw [hln.2]; rfl
        have HLT := Lib.hid hln.1
        have HPA := Lib.hid hpa
        clear hln hh hpa
        gi_wp2_with (first | ((try refine ⟨trivial, ?_⟩); gi_at_call 13; refine (callsIn_wide.2 hc).mono ?_; rintro en w1 ⟨rfl, hb1⟩))
        have hJa := hJ _ _ _ _ hj (But.of_below hb1)
        have hE2 := hE1.below hb1
        obtain ⟨fn, tmps, assign, body, hy, hRR⟩ := yieldAt_wide (m' := 2) (hY _ _ _ HLT.out hJa)
        rw [HPA.out] at hy
        gi_wp2
        rw [hy]
        refine ⟨fun _ => by decide, hRR.mono ?_⟩
        rintro en W3 ⟨g, rfl, hw⟩
        have hE3 : RowAt W3 C (prC p).toArray 28 := (hw.but.same _ hE2.lt (hG1 C hSS)).trans hE2
        have hs3 := hw.but.size
        have hs1 := hb1.size
        cases g with
        | true =>
          gi_wp2
          go_roundw
          case rel => exact ⟨2, _, by omega, by go_num, by rw [HC.out]; exact hw.on rfl, hE3, fun k hk => newG_not (hG1 k hk) (by have := (hS k hk).1; omega), by omega⟩
          case measure => simp [intOf]
        | false =>
          gi_wp2
          rw [Exit.noGoto_normal]
          go_end0
          exact ⟨⟨_, rfl⟩, _, .inr ⟨_, HLT.out, hw.off rfl⟩⟩
      | false =>
        rw [hh] at hc
        have HC := Lib.hid (show pwC p.flags 2 = pwC p.flags 1 by simp [pwC, hh])
        clear hh
        gi_wp2_with (first | ((try refine ⟨trivial, ?_⟩); gi_at_call 13; refine (callsIn_wide.2 hc).mono ?_; rintro en w1 ⟨rfl, hb1⟩))
        have hJa := hJ _ _ _ _ hj (But.of_below hb1)
        have hE2 := hE1.below hb1
        have hs1 := hb1.size
        repeat (refine ⟨fun f hf => (by cases hf), ?_⟩; gi_wp2)
        go_roundw
        case rel => exact ⟨2, G1, by omega, by go_num, by rw [HC.out]; exact hJa, hE2, hG1, by omega⟩
        case measure => simp [intOf]
    · have hln := pw_len p.flags
      rw [hln] at hj
      clear hln
      gi_wp2
      rw [Exit.noGoto_normal]
      go_end0
      exact ⟨⟨_, rfl⟩, G1, .inl hj⟩
theorem prNum_c (e : Int) (w : World) : Calls Tryz.prog 12 #[.int .i64 e] w (fun en w' => en = .returned (.int .i64 e) ∧ w = w') := by
  go_enter Tryz.func12, Tryz.ntmps12
  go_wp2
  go_ret
  exact ⟨rfl, rfl⟩
/-- The chapter's first primary. -/
def Prm.p1 : Prm.Pr := ⟨0, 0, 2, 0, 1, 0, 0, 0, 5, 6, 7⟩
set_option maxHeartbeats 1000000 in
set_option maxRecDepth 100000 in
theorem prFirst_c (w : World) : Calls Tryz.prog 33 #[] w (Ret (prV Prm.p1) w) := by
  have hZ := RowAt.new w (prC Prm.p1).toArray 28
  go_enter Tryz.func33, Tryz.ntmps33
  go_wp2
  have g0 := RowAt.cell hZ (i := 0) (v := .int .u32 0) rfl
  have g1 := RowAt.cell hZ (i := 1) (v := .int .i64 0) rfl
  have g2 := RowAt.cell hZ (i := 2) (v := .int .u32 2) rfl
  have g3 := RowAt.cell hZ (i := 3) (v := .int .u32 0) rfl
  have g4 := RowAt.cell hZ (i := 4) (v := .int .u32 1) rfl
  have g5 := RowAt.cell hZ (i := 5) (v := .int .u32 0) rfl
  have g6 := RowAt.cell hZ (i := 6) (v := .int .u32 0) rfl
  have g7 := RowAt.cell hZ (i := 7) (v := .int .u32 0) rfl
  have g8 := RowAt.cell hZ (i := 8) (v := .int .u64 5) rfl
  have g9 := RowAt.cell hZ (i := 9) (v := .int .u32 6) rfl
  have g10 := RowAt.cell hZ (i := 10) (v := .int .u64 7) rfl
  refine bodyPost_ret (v := prV Prm.p1) ?_ rfl ?_
  · simp [results, Tryz.results33, go_sem, Prm.p1, g0, g1, g2, g3, g4, g5, g6, g7, g8, g9, g10]
  exact ⟨rfl, below_alloc _ _⟩
end Go.Proofs.YtpkonagjnfphkaaGreatDoor

namespace Go.Proofs.YtpkonagjnfphkaaGreatDoor
open Go.RowKit Trc Cb
set_option linter.unusedSimpArgs false
set_option linter.unusedVariables false
def Prm.p2 : Prm.Pr := ⟨0, 0, 0, 0, 1, 0, 0, 0, 5, 6, 7⟩
def Prm.p3 : Prm.Pr := ⟨384, 0, 2, 0, 1, 0, 0, 0, 5, 6, 7⟩
def Prm.p4 : Prm.Pr := ⟨256, 0, 0, 0, 0, 0, 0, 0, 0, 0, 0⟩
theorem Prm.p1_ok : Prm.p1.Ok := by constructor <;> decide
theorem Prm.p2_ok : Prm.p2.Ok := by constructor <;> decide
theorem Prm.p3_ok : Prm.p3.Ok := by constructor <;> decide
theorem Prm.p1_okPr : Prm.okPr Prm.p1 = true := by decide
theorem Prm.p2_okPr : Prm.okPr Prm.p2 = false := by decide
theorem Prm.p3_okPr : Prm.okPr Prm.p3 = false := by decide
set_option maxRecDepth 100000 in
theorem Prm.p1_enc : Prm.encPr Prm.p1 = [136, 7, 0, 0, 130, 2, 130, 2, 0, 130, 2, 130, 1, 0, 130, 1, 0, 130, 5, 6, 7] := by decide
theorem Prm.wk_flags : Prm.flagsN 1 [2, 2] = 130 := by decide
theorem Prm.wk_rank : Prm.rankN 256 = 2 := by decide
theorem Prm.wk_exp : Clk.addF (5 : Nat) (7 : Nat) = 12 := by decide
set_option maxHeartbeats 4000000 in
set_option maxRecDepth 100000 in
theorem prWorks_c (w : World) (hT : Tabs w) : Calls Tryz.prog 8 #[] w (Ret (.bool true) w) := by
  have HT := Lib.hid hT
  clear hT
  go_enter Tryz.func8, Tryz.ntmps8
  go_wp2_with fail
  refine (prFirst_c _).mono ?_
  rintro en w1 ⟨rfl, hb1⟩
  have B1 : Below w.heap.size w w1 := hb1
  have X1 : RowAt (w1.alloc (.cells (prC Prm.p1).toArray 28)) w1.heap.size #[.int .u32 0, .int .i64 0, .int .u32 2, .int .u32 0, .int .u32 1, .int .u32 0, .int .u32 0, .int .u32 0, .int .u64 5, .int .u32 6, .int .u64 7] 28 := RowAt.new w1 (prC Prm.p1).toArray 28
  have B1b := B1.alloc B1.size (.cells (prC Prm.p1).toArray 28)
  have HS := Lib.hid B1.size
  go_wp2_with fail
  have hen := prEncode_c Prm.p1 Prm.p1_ok _ (HT.out.up B1b)
  refine hen.mono ?_
  clear hen
  rintro en w2 ⟨hb2, hy2, _⟩
  obtain ⟨v2, rfl, ho2⟩ := hy2 Prm.p1_okPr
  clear hy2
  rw [Prm.p1_enc] at ho2
  obtain ⟨q2, c2, rfl⟩ := own_slice ho2
  have S2 := Lib.hid (Sl.of_own ho2)
  have HOB := Lib.hid (fun (k : Nat) (hk : (Value.slice q2 21 c2).ownBlock = some k) => (show w1.heap.size < k from by have h := (own_of_some ho2 hk).1; rw [World.size_alloc] at h; omega))
  have B2 := below_up B1b hb2
  have X2 := X1.below hb2
  clear X1 B1b hb1 hb2 ho2
  have x0 := X2.cell (i := 0) rfl
  have x1 := X2.cell (i := 1) rfl
  have x2 := X2.cell (i := 2) rfl
  have x3 := X2.cell (i := 3) rfl
  have x4 := X2.cell (i := 4) rfl
  have x5 := X2.cell (i := 5) rfl
  have x6 := X2.cell (i := 6) rfl
  have x7 := X2.cell (i := 7) rfl
  have x8 := X2.cell (i := 8) rfl
  have x9 := X2.cell (i := 9) rfl
  have x10 := X2.cell (i := 10) rfl
  have f2 := X2.fz 2
  have f3 := X2.fz 3
  go_wp2_with fail
  clear x0 x1 x2 x3 x4 x5 x6 x7 x8 x9 x10 f2 f3
  have h1 := X2.set 2 (.int .u32 0)
  have h2 : RowAt ((w2.setCell ⟨w1.heap.size, 2, none⟩ (.int .u32 0)).setCell ⟨w1.heap.size, 3, none⟩ (.int .u32 0)) w1.heap.size #[.int .u32 0, .int .i64 0, .int .u32 0, .int .u32 0, .int .u32 1, .int .u32 0, .int .u32 0, .int .u32 0, .int .u64 5, .int .u32 6, .int .u64 7] 28 := h1.set 3 (.int .u32 0)
  have b2 : But (fun j => j = w1.heap.size) w2 ((w2.setCell ⟨w1.heap.size, 2, none⟩ (.int .u32 0)).setCell ⟨w1.heap.size, 3, none⟩ (.int .u32 0)) := (But.setCell (O := fun j => j = w1.heap.size) _ ⟨w1.heap.size, 2, none⟩ _ (.inl rfl)).trans (But.setCell _ _ _ (.inl rfl))
  have B3 := B2.trans (b2.below (fun j e => by have := HS.out; omega) B2.size)
  replace S2 := Lib.hid (S2.out.but b2 (.inr fun k hk e => by have h := HOB.out k hk; omega))
  obtain ⟨w3, hw3⟩ : ∃ X, (w2.setCell ⟨w1.heap.size, 2, none⟩ (.int .u32 0)).setCell ⟨w1.heap.size, 3, none⟩ (.int .u32 0) = X := ⟨_, rfl⟩
  rw [hw3] at h2 B3 S2 ⊢
  clear h1 b2 hw3 X2 B2
  refine ((show Calls Tryz.prog 23 #[prV Prm.p2] w3 (Ret (.int .i64 2) w3) from by have h := prCheck_c Prm.p2 Prm.p2_ok w3; rw [Prm.p2_okPr] at h; exact h)).mono ?_
  rintro en w4 ⟨rfl, hb4⟩
  have X4 := h2.below hb4
  have B4 := below_up B3 hb4
  replace S2 := Lib.hid (S2.out.up hb4)
  clear h2 B3 hb4
  go_wp2_with fail
  refine (prFirst_c _).mono ?_
  rintro en w5 ⟨rfl, hb5⟩
  have X5 := X4.below hb5
  have B5 := below_up B4 hb5
  replace S2 := Lib.hid (S2.out.up hb5)
  clear X4 B4 hb5
  have x0 := X5.cell (i := 0) rfl
  have x1 := X5.cell (i := 1) rfl
  have x2 := X5.cell (i := 2) rfl
  have x3 := X5.cell (i := 3) rfl
  have x4 := X5.cell (i := 4) rfl
  have x5 := X5.cell (i := 5) rfl
  have x6 := X5.cell (i := 6) rfl
  have x7 := X5.cell (i := 7) rfl
  have x8 := X5.cell (i := 8) rfl
  have x9 := X5.cell (i := 9) rfl
  have x10 := X5.cell (i := 10) rfl
  have f0 := X5.fz 0
  have f1 := X5.fz 1
  have f2 := X5.fz 2
  have f3 := X5.fz 3
  have f4 := X5.fz 4
  have f5 := X5.fz 5
  have f6 := X5.fz 6
  have f7 := X5.fz 7
  have f8 := X5.fz 8
  have f9 := X5.fz 9
  have f10 := X5.fz 10
  go_wp2_with fail
  clear x0 x1 x2 x3 x4 x5 x6 x7 x8 x9 x10 f0 f1 f2 f3 f4 f5 f6 f7 f8 f9 f10
  obtain ⟨h1, b1⟩ := row11 X5 (.int .u32 (Prm.p1.flags : Nat)) (.int .i64 (Prm.p1.sum)) (.int .u32 (Prm.p1.toN : Nat)) (.int .u32 (Prm.p1.toS : Nat)) (.int .u32 (Prm.p1.srN : Nat)) (.int .u32 (Prm.p1.srS : Nat)) (.int .u32 (Prm.p1.rpN : Nat)) (.int .u32 (Prm.p1.rpS : Nat)) (.int .u64 (Prm.p1.time : Nat)) (.int .u32 (Prm.p1.seq : Nat)) (.int .u64 (Prm.p1.life : Nat))
  have h2 : RowAt ((((((((((((w5.setCell ⟨w1.heap.size, 0, none⟩ (.int .u32 (Prm.p1.flags : Nat))).setCell ⟨w1.heap.size, 1, none⟩ (.int .i64 (Prm.p1.sum))).setCell ⟨w1.heap.size, 2, none⟩ (.int .u32 (Prm.p1.toN : Nat))).setCell ⟨w1.heap.size, 3, none⟩ (.int .u32 (Prm.p1.toS : Nat))).setCell ⟨w1.heap.size, 4, none⟩ (.int .u32 (Prm.p1.srN : Nat))).setCell ⟨w1.heap.size, 5, none⟩ (.int .u32 (Prm.p1.srS : Nat))).setCell ⟨w1.heap.size, 6, none⟩ (.int .u32 (Prm.p1.rpN : Nat))).setCell ⟨w1.heap.size, 7, none⟩ (.int .u32 (Prm.p1.rpS : Nat))).setCell ⟨w1.heap.size, 8, none⟩ (.int .u64 (Prm.p1.time : Nat))).setCell ⟨w1.heap.size, 9, none⟩ (.int .u32 (Prm.p1.seq : Nat))).setCell ⟨w1.heap.size, 10, none⟩ (.int .u64 (Prm.p1.life : Nat))).setCell ⟨w1.heap.size, 0, none⟩ (.int .u32 384)) w1.heap.size #[.int .u32 384, .int .i64 0, .int .u32 2, .int .u32 0, .int .u32 1, .int .u32 0, .int .u32 0, .int .u32 0, .int .u64 5, .int .u32 6, .int .u64 7] 28 := h1.set 0 (.int .u32 384)
  have b2 : But (fun j => j = w1.heap.size) w5 ((((((((((((w5.setCell ⟨w1.heap.size, 0, none⟩ (.int .u32 (Prm.p1.flags : Nat))).setCell ⟨w1.heap.size, 1, none⟩ (.int .i64 (Prm.p1.sum))).setCell ⟨w1.heap.size, 2, none⟩ (.int .u32 (Prm.p1.toN : Nat))).setCell ⟨w1.heap.size, 3, none⟩ (.int .u32 (Prm.p1.toS : Nat))).setCell ⟨w1.heap.size, 4, none⟩ (.int .u32 (Prm.p1.srN : Nat))).setCell ⟨w1.heap.size, 5, none⟩ (.int .u32 (Prm.p1.srS : Nat))).setCell ⟨w1.heap.size, 6, none⟩ (.int .u32 (Prm.p1.rpN : Nat))).setCell ⟨w1.heap.size, 7, none⟩ (.int .u32 (Prm.p1.rpS : Nat))).setCell ⟨w1.heap.size, 8, none⟩ (.int .u64 (Prm.p1.time : Nat))).setCell ⟨w1.heap.size, 9, none⟩ (.int .u32 (Prm.p1.seq : Nat))).setCell ⟨w1.heap.size, 10, none⟩ (.int .u64 (Prm.p1.life : Nat))).setCell ⟨w1.heap.size, 0, none⟩ (.int .u32 384)) := b1.trans (But.setCell _ _ _ (.inl rfl))
  have B6 := B5.trans (b2.below (fun j e => by have := HS.out; omega) B5.size)
  replace S2 := Lib.hid (S2.out.but b2 (.inr fun k hk e => by have h := HOB.out k hk; omega))
  obtain ⟨w6, hw6⟩ : ∃ X, ((((((((((((w5.setCell ⟨w1.heap.size, 0, none⟩ (.int .u32 (Prm.p1.flags : Nat))).setCell ⟨w1.heap.size, 1, none⟩ (.int .i64 (Prm.p1.sum))).setCell ⟨w1.heap.size, 2, none⟩ (.int .u32 (Prm.p1.toN : Nat))).setCell ⟨w1.heap.size, 3, none⟩ (.int .u32 (Prm.p1.toS : Nat))).setCell ⟨w1.heap.size, 4, none⟩ (.int .u32 (Prm.p1.srN : Nat))).setCell ⟨w1.heap.size, 5, none⟩ (.int .u32 (Prm.p1.srS : Nat))).setCell ⟨w1.heap.size, 6, none⟩ (.int .u32 (Prm.p1.rpN : Nat))).setCell ⟨w1.heap.size, 7, none⟩ (.int .u32 (Prm.p1.rpS : Nat))).setCell ⟨w1.heap.size, 8, none⟩ (.int .u64 (Prm.p1.time : Nat))).setCell ⟨w1.heap.size, 9, none⟩ (.int .u32 (Prm.p1.seq : Nat))).setCell ⟨w1.heap.size, 10, none⟩ (.int .u64 (Prm.p1.life : Nat))).setCell ⟨w1.heap.size, 0, none⟩ (.int .u32 384)) = X := ⟨_, rfl⟩
  rw [hw6] at h2 B6 S2 ⊢
  clear h1 b1 b2 hw6 X5 B5
  refine (prNum_c _ _).mono ?_
  rintro en wn ⟨rfl, rfl⟩
  have hcv : (convert 48 9 (.slice q2 21 c2)).run Tryz.prog w6 = .ok (.string ⟨#[136, 7, 0, 0, 130, 2, 130, 2, 0, 130, 2, 130, 1, 0, 130, 1, 0, 130, 5, 6, 7]⟩) w6 := run_str Tryz.underlying48 Tryz.underlying5 Tryz.underlying9 S2.out
  have HX := Lib.hid h2
  have HB := Lib.hid B6
  clear h2 B6
  go_wp2_with fail
  have hq := below_alloc w6 (.cells #[.int .u32 2, .int .u32 2] 22)
  have X7 := RowAt.new w6 #[.int .u32 2, .int .u32 2] 22
  have hsl : Sl (w6.alloc (.cells #[.int .u32 2, .int .u32 2] 22)) 1 (.slice (some ⟨w6.heap.size, 0, none⟩) 2 2) 2 ([2, 2].map fun q : Nat => Value.int .u32 q) := ⟨rfl, .inr ⟨w6.heap.size, 0, 2, rfl, Nat.le_refl _, by decide, fun j u hj => by rw [Nat.zero_add]; exact X7.cell (by simpa using hj)⟩⟩
  have hfl := prFlagsOf_c 1 (by decide) [2, 2] _ _ hsl (by decide)
  rw [Prm.wk_flags] at hfl
  refine hfl.mono ?_
  rintro en w7 ⟨rfl, hb7⟩
  replace HX := Lib.hid (HX.out.below (below_up hq hb7))
  replace HB := Lib.hid (below_up HB.out (below_up hq hb7))
  clear hfl hsl X7 hq hb7 hcv
  go_wp2_with fail
  refine ((show Calls Tryz.prog 18 #[prV Prm.p4] w7 (Ret (.int .i64 2) w7) from prRank_c Prm.p4 (by decide) w7)).mono ?_
  rintro en w8 ⟨rfl, hb8⟩
  replace HX := Lib.hid (HX.out.below hb8)
  replace HB := Lib.hid (below_up HB.out hb8)
  clear hb8
  go_wp2_with fail
  refine (prFirst_c _).mono ?_
  rintro en w9 ⟨rfl, hb9⟩
  replace HX := Lib.hid (HX.out.below hb9)
  replace HB := Lib.hid (below_up HB.out hb9)
  clear hb9
  go_wp2_with fail
  refine ((show Calls Tryz.prog 20 #[prV Prm.p1] w9 (Ret (.int .u64 12) w9) from by have h := prExpires_c Prm.p1 w9; rw [show Clk.addF Prm.p1.time Prm.p1.life = 12 from Prm.wk_exp] at h; exact h)).mono ?_
  rintro en wa ⟨rfl, hba⟩
  replace HX := Lib.hid (HX.out.below hba)
  replace HB := Lib.hid (below_up HB.out hba)
  clear hba
  go_wp2_with fail
  refine (prNum_c _ _).mono ?_
  rintro en wn ⟨rfl, rfl⟩
  have x0 := HX.out.cell (i := 0) rfl
  have x1 := HX.out.cell (i := 1) rfl
  have x2 := HX.out.cell (i := 2) rfl
  have x3 := HX.out.cell (i := 3) rfl
  have x4 := HX.out.cell (i := 4) rfl
  have x5 := HX.out.cell (i := 5) rfl
  have x6 := HX.out.cell (i := 6) rfl
  have x7 := HX.out.cell (i := 7) rfl
  have x8 := HX.out.cell (i := 8) rfl
  have x9 := HX.out.cell (i := 9) rfl
  have x10 := HX.out.cell (i := 10) rfl
  go_wp2_with fail
  clear x0 x1 x2 x3 x4 x5 x6 x7 x8 x9 x10
  refine ((show Calls Tryz.prog 23 #[prV Prm.p3] wa (Ret (.int .i64 2) wa) from by have h := prCheck_c Prm.p3 Prm.p3_ok wa; rw [Prm.p3_okPr] at h; exact h)).mono ?_
  rintro en wb ⟨rfl, hbb⟩
  replace HB := Lib.hid (below_up HB.out hbb)
  clear hbb
  go_wp2_with fail
  refine (prNum_c _ _).mono ?_
  rintro en wn ⟨rfl, rfl⟩
  go_wp2
  go_ret
  exact ⟨rfl, HB.out⟩
end Go.Proofs.YtpkonagjnfphkaaGreatDoor

namespace Go.Proofs.YtpkonagjnfphkaaGreatDoor
open Go.RowKit Trc Cb
set_option linter.unusedSimpArgs false
set_option linter.unusedVariables false
theorem filled8 (a b c d e f g h : Rw) : Instr.fill (fun i => some (i * 5, 5)) ((Array.range (8 * 5)).map (zIt.cells[· % zIt.cells.size]!)) [(0, rwV a), (1, rwV b), (2, rwV c), (3, rwV d), (4, rwV e), (5, rwV f), (6, rwV g), (7, rwV h)] = some ([a, b, c, d, e, f, g, h].flatMap rwC).toArray := by kernel_rfl
/-- Items made: a list of one's own. -/
def ItsE (L : List It) (w : World) (en : Ending) (w' : World) : Prop := ∃ v rows, en = .returned v ∧ w'.ownsRow w.heap.size 62 5 v L.length (rows.flatMap rwC) ∧ ItsR (fun k => w.heap.size ≤ k ∧ k < w'.heap.size) w' L rows ∧ Below w.heap.size w w'
set_option maxHeartbeats 2000000 in
set_option maxRecDepth 100000 in
theorem rItems_c (p : Prm.Pr) (hp : p.Ok) (hk : Prm.okPr p = true) (w : World) : Calls Tryz.prog 63 #[prV p] w (ItsE (Prm.prL p) w) := by
  obtain ⟨iI, hiI, hzI, hsI, _⟩ := infoIt
  obtain ⟨_, hks, hkt, hkr, _, _⟩ := Prm.okPr_parts hk
  obtain ⟨k, hkS⟩ : ∃ k : Nat, p.sum = (k : Int) := ⟨p.sum.toNat, by omega⟩
  have HKS := Lib.hid (show p.sum.toNat = k by omega)
  have X0 : RowAt (w.alloc (.cells (prC p).toArray 28)) w.heap.size #[.int .u32 p.flags, .int .i64 k, .int .u32 p.toN, .int .u32 p.toS, .int .u32 p.srN, .int .u32 p.srS, .int .u32 p.rpN, .int .u32 p.rpS, .int .u64 p.time, .int .u32 p.seq, .int .u64 p.life] 28 := by
    have h := RowAt.new w (prC p).toArray 28
    rw [← hkS]; exact h
  have HD0 := Lib.hid (below_alloc w (.cells (prC p).toArray 28))
  have hf := hp.f
  have hq := hp.q
  have hw0 : IntKind.u64.wrap (p.flags : Int) = (p.flags : Int) := by rw [IntKind.wrap_u64]; omega
  have hw1 : IntKind.u64.wrap (k : Int) = (k : Int) := by rw [IntKind.wrap_u64]; omega
  have hw9 : IntKind.u64.wrap (p.seq : Int) = (p.seq : Int) := by rw [IntKind.wrap_u64]; omega
  have HE := Lib.hid (show (p.toN = 0 → p.toS = 0) ∧ (p.srN = 0 → p.srS = 0) ∧ (p.rpN = 0 → p.rpS = 0) from ⟨fun h => absurd h hkt.1, fun h => absurd h hkt.2, fun h => by
    unfold Dig.chkP at hkr
    split at hkr
    · cases hkr
    · rename_i h2; exact Classical.byContradiction fun h3 => h2 ⟨h, h3⟩⟩)
  have HKB := Lib.hid (show k < 18446744073709551616 by omega)
  clear hks hkt hkr hkS hf hq
  go_enter Tryz.func63, Tryz.ntmps63
  go_wp2
  refine wp_region_ptL (fun _ => False) (.q 1 (.q 2 (.q 3 (.q 5 (.q 6 (.q 7 (.q 9 (.q 10 (.q 12 (.q 13 (.q 15 (.q 16 (.q 18 (.q 19 (.q 21 (.q 22 (.q 23 (.q 27 (.q 28 (.c 0 (.c 4 (.c 8 (.c 11 (.c 14 (.c 17 (.c 20 (.c 24 (.c 25 (.c 26 (.c 29 (.c 30 (.q 31 .done)))))))))))))))))))))))))))))))) (by kernel_rfl) (by kernel_rfl) (by kernel_rfl) (by decide) (fun _ _ d _ _ h => by cases d <;> exact h) (fun OPS HOP Wd hBd => ?_)
  try simp only [Act.put, List.getElem_toArray, List.getElem_cons_zero, List.getElem_cons_succ, List.setIfInBounds_toArray, List.set_cons_zero, List.set_cons_succ]
  have K0 := X0.below hBd
  have k0 := RowAt.cell K0 (i := 0) rfl
  have k1 := RowAt.cell K0 (i := 1) rfl
  have k2 := RowAt.cell K0 (i := 2) rfl
  have k3 := RowAt.cell K0 (i := 3) rfl
  have k4 := RowAt.cell K0 (i := 4) rfl
  have k5 := RowAt.cell K0 (i := 5) rfl
  have k6 := RowAt.cell K0 (i := 6) rfl
  have k7 := RowAt.cell K0 (i := 7) rfl
  have k8 := RowAt.cell K0 (i := 8) rfl
  have k9 := RowAt.cell K0 (i := 9) rfl
  have k10 := RowAt.cell K0 (i := 10) rfl
  refine pt_q (v := ?_) (by rw [← HOP.out]; simp only [List.getElem?_toArray, List.getElem?_cons_zero, List.getElem?_cons_succ]; rfl) (by rw [← HOP.out]; kernel_rfl) ?_ ?_
  rotate_left
  · intro w' hBw'
    first | (go_simp; done) | (go_simp; with_reducible rfl)
  try simp only [Act.put, List.getElem_toArray, List.getElem_cons_zero, List.getElem_cons_succ, List.setIfInBounds_toArray, List.set_cons_zero, List.set_cons_succ]
  refine pt_q (v := ?_) (by rw [← HOP.out]; simp only [List.getElem?_toArray, List.getElem?_cons_zero, List.getElem?_cons_succ]; rfl) (by rw [← HOP.out]; kernel_rfl) ?_ ?_
  rotate_left
  · intro w' hBw'
    have qL := hBw'.cell k0 (fun e => e)
    first | (go_simp; done) | (go_simp; with_reducible rfl)
  iterate 2
    try simp only [Act.put, List.getElem_toArray, List.getElem_cons_zero, List.getElem_cons_succ, List.setIfInBounds_toArray, List.set_cons_zero, List.set_cons_succ]
    refine pt_q (v := ?_) (by rw [← HOP.out]; simp only [List.getElem?_toArray, List.getElem?_cons_zero, List.getElem?_cons_succ]; rfl) (by rw [← HOP.out]; kernel_rfl) ?_ ?_
    rotate_left
    · intro w' hBw'
      first | (go_simp; done) | (go_simp; with_reducible rfl)
  try simp only [Act.put, List.getElem_toArray, List.getElem_cons_zero, List.getElem_cons_succ, List.setIfInBounds_toArray, List.set_cons_zero, List.set_cons_succ]
  refine pt_q (v := ?_) (by rw [← HOP.out]; simp only [List.getElem?_toArray, List.getElem?_cons_zero, List.getElem?_cons_succ]; rfl) (by rw [← HOP.out]; kernel_rfl) ?_ ?_
  rotate_left
  · intro w' hBw'
    have qL := hBw'.cell k1 (fun e => e)
    first | (go_simp; done) | (go_simp; with_reducible rfl)
  iterate 2
    try simp only [Act.put, List.getElem_toArray, List.getElem_cons_zero, List.getElem_cons_succ, List.setIfInBounds_toArray, List.set_cons_zero, List.set_cons_succ]
    refine pt_q (v := ?_) (by rw [← HOP.out]; simp only [List.getElem?_toArray, List.getElem?_cons_zero, List.getElem?_cons_succ]; rfl) (by rw [← HOP.out]; kernel_rfl) ?_ ?_
    rotate_left
    · intro w' hBw'
      first | (go_simp; done) | (go_simp; with_reducible rfl)
  try simp only [Act.put, List.getElem_toArray, List.getElem_cons_zero, List.getElem_cons_succ, List.setIfInBounds_toArray, List.set_cons_zero, List.set_cons_succ]
  refine pt_q (v := ?_) (by rw [← HOP.out]; simp only [List.getElem?_toArray, List.getElem?_cons_zero, List.getElem?_cons_succ]; rfl) (by rw [← HOP.out]; kernel_rfl) ?_ ?_
  rotate_left
  · intro w' hBw'
    have qL0 := hBw'.cell k2 (fun e => e)
    have qL1 := hBw'.cell k3 (fun e => e)
    first | (go_simp; done) | (go_simp; with_reducible rfl)
  try simp only [Act.put, List.getElem_toArray, List.getElem_cons_zero, List.getElem_cons_succ, List.setIfInBounds_toArray, List.set_cons_zero, List.set_cons_succ]
  refine pt_q (v := ?_) (by rw [← HOP.out]; simp only [List.getElem?_toArray, List.getElem?_cons_zero, List.getElem?_cons_succ]; rfl) (by rw [← HOP.out]; kernel_rfl) ?_ ?_
  rotate_left
  · intro w' hBw'
    first | (go_simp; done) | (go_simp; with_reducible rfl)
  try simp only [Act.put, List.getElem_toArray, List.getElem_cons_zero, List.getElem_cons_succ, List.setIfInBounds_toArray, List.set_cons_zero, List.set_cons_succ]
  refine pt_q (v := ?_) (by rw [← HOP.out]; simp only [List.getElem?_toArray, List.getElem?_cons_zero, List.getElem?_cons_succ]; rfl) (by rw [← HOP.out]; kernel_rfl) ?_ ?_
  rotate_left
  · intro w' hBw'
    have qL0 := hBw'.cell k4 (fun e => e)
    have qL1 := hBw'.cell k5 (fun e => e)
    first | (go_simp; done) | (go_simp; with_reducible rfl)
  try simp only [Act.put, List.getElem_toArray, List.getElem_cons_zero, List.getElem_cons_succ, List.setIfInBounds_toArray, List.set_cons_zero, List.set_cons_succ]
  refine pt_q (v := ?_) (by rw [← HOP.out]; simp only [List.getElem?_toArray, List.getElem?_cons_zero, List.getElem?_cons_succ]; rfl) (by rw [← HOP.out]; kernel_rfl) ?_ ?_
  rotate_left
  · intro w' hBw'
    first | (go_simp; done) | (go_simp; with_reducible rfl)
  try simp only [Act.put, List.getElem_toArray, List.getElem_cons_zero, List.getElem_cons_succ, List.setIfInBounds_toArray, List.set_cons_zero, List.set_cons_succ]
  refine pt_q (v := ?_) (by rw [← HOP.out]; simp only [List.getElem?_toArray, List.getElem?_cons_zero, List.getElem?_cons_succ]; rfl) (by rw [← HOP.out]; kernel_rfl) ?_ ?_
  rotate_left
  · intro w' hBw'
    have qL0 := hBw'.cell k6 (fun e => e)
    have qL1 := hBw'.cell k7 (fun e => e)
    first | (go_simp; done) | (go_simp; with_reducible rfl)
  try simp only [Act.put, List.getElem_toArray, List.getElem_cons_zero, List.getElem_cons_succ, List.setIfInBounds_toArray, List.set_cons_zero, List.set_cons_succ]
  refine pt_q (v := ?_) (by rw [← HOP.out]; simp only [List.getElem?_toArray, List.getElem?_cons_zero, List.getElem?_cons_succ]; rfl) (by rw [← HOP.out]; kernel_rfl) ?_ ?_
  rotate_left
  · intro w' hBw'
    first | (go_simp; done) | (go_simp; with_reducible rfl)
  try simp only [Act.put, List.getElem_toArray, List.getElem_cons_zero, List.getElem_cons_succ, List.setIfInBounds_toArray, List.set_cons_zero, List.set_cons_succ]
  refine pt_q (v := ?_) (by rw [← HOP.out]; simp only [List.getElem?_toArray, List.getElem?_cons_zero, List.getElem?_cons_succ]; rfl) (by rw [← HOP.out]; kernel_rfl) ?_ ?_
  rotate_left
  · intro w' hBw'
    have qL := hBw'.cell k8 (fun e => e)
    first | (go_simp; done) | (go_simp; with_reducible rfl)
  try simp only [Act.put, List.getElem_toArray, List.getElem_cons_zero, List.getElem_cons_succ, List.setIfInBounds_toArray, List.set_cons_zero, List.set_cons_succ]
  refine pt_q (v := ?_) (by rw [← HOP.out]; simp only [List.getElem?_toArray, List.getElem?_cons_zero, List.getElem?_cons_succ]; rfl) (by rw [← HOP.out]; kernel_rfl) ?_ ?_
  rotate_left
  · intro w' hBw'
    first | (go_simp; done) | (go_simp; with_reducible rfl)
  try simp only [Act.put, List.getElem_toArray, List.getElem_cons_zero, List.getElem_cons_succ, List.setIfInBounds_toArray, List.set_cons_zero, List.set_cons_succ]
  refine pt_q (v := ?_) (by rw [← HOP.out]; simp only [List.getElem?_toArray, List.getElem?_cons_zero, List.getElem?_cons_succ]; rfl) (by rw [← HOP.out]; kernel_rfl) ?_ ?_
  rotate_left
  · intro w' hBw'
    have qL := hBw'.cell k9 (fun e => e)
    first | (go_simp; done) | (go_simp; with_reducible rfl)
  iterate 2
    try simp only [Act.put, List.getElem_toArray, List.getElem_cons_zero, List.getElem_cons_succ, List.setIfInBounds_toArray, List.set_cons_zero, List.set_cons_succ]
    refine pt_q (v := ?_) (by rw [← HOP.out]; simp only [List.getElem?_toArray, List.getElem?_cons_zero, List.getElem?_cons_succ]; rfl) (by rw [← HOP.out]; kernel_rfl) ?_ ?_
    rotate_left
    · intro w' hBw'
      first | (go_simp; done) | (go_simp; with_reducible rfl)
  try simp only [Act.put, List.getElem_toArray, List.getElem_cons_zero, List.getElem_cons_succ, List.setIfInBounds_toArray, List.set_cons_zero, List.set_cons_succ]
  refine pt_q (v := ?_) (by rw [← HOP.out]; simp only [List.getElem?_toArray, List.getElem?_cons_zero, List.getElem?_cons_succ]; rfl) (by rw [← HOP.out]; kernel_rfl) ?_ ?_
  rotate_left
  · intro w' hBw'
    have qL := hBw'.cell k10 (fun e => e)
    first | (go_simp; done) | (go_simp; with_reducible rfl)
  try simp only [Act.put, List.getElem_toArray, List.getElem_cons_zero, List.getElem_cons_succ, List.setIfInBounds_toArray, List.set_cons_zero, List.set_cons_succ]
  refine pt_c ?_
  refine pt_step (by rw [← HOP.out]; simp only [List.getElem?_toArray, List.getElem?_cons_zero, List.getElem?_cons_succ]; rfl) (by rw [← HOP.out]; kernel_rfl) (fun K hK => ?_)
  go_simp
  refine (rUint_c 7 _).mono ?_
  rintro en w1 ⟨rfl, hb1⟩
  refine hK.out _ _ (But.of_below hb1) ?_
  clear hK K
  try simp only [Act.put, List.getElem_toArray, List.getElem_cons_zero, List.getElem_cons_succ, List.setIfInBounds_toArray, List.set_cons_zero, List.set_cons_succ]
  refine pt_c ?_
  refine pt_step (by rw [← HOP.out]; simp only [List.getElem?_toArray, List.getElem?_cons_zero, List.getElem?_cons_succ]; rfl) (by rw [← HOP.out]; kernel_rfl) (fun K hK => ?_)
  go_simp
  refine (rUint_c p.flags _).mono ?_
  rintro en w2 ⟨rfl, hb2⟩
  refine hK.out _ _ (But.of_below hb2) ?_
  clear hK K
  try simp only [Act.put, List.getElem_toArray, List.getElem_cons_zero, List.getElem_cons_succ, List.setIfInBounds_toArray, List.set_cons_zero, List.set_cons_succ]
  refine pt_c ?_
  refine pt_step (by rw [← HOP.out]; simp only [List.getElem?_toArray, List.getElem?_cons_zero, List.getElem?_cons_succ]; rfl) (by rw [← HOP.out]; kernel_rfl) (fun K hK => ?_)
  go_simp
  refine (rUint_c k _).mono ?_
  rintro en w3 ⟨rfl, hb3⟩
  refine hK.out _ _ (But.of_below hb3) ?_
  clear hK K
  try simp only [Act.put, List.getElem_toArray, List.getElem_cons_zero, List.getElem_cons_succ, List.setIfInBounds_toArray, List.set_cons_zero, List.set_cons_succ]
  refine pt_c ?_
  refine pt_step (by rw [← HOP.out]; simp only [List.getElem?_toArray, List.getElem?_cons_zero, List.getElem?_cons_succ]; rfl) (by rw [← HOP.out]; kernel_rfl) (fun K hK => ?_)
  go_simp
  refine (rItem_c p.toN p.toS hp.tn hp.ts HE.out.1 _).mono ?_
  rintro en w4 ⟨hb4, r4, rfl, hi4⟩
  refine hK.out _ _ (But.of_below hb4) ?_
  clear hK K
  try simp only [Act.put, List.getElem_toArray, List.getElem_cons_zero, List.getElem_cons_succ, List.setIfInBounds_toArray, List.set_cons_zero, List.set_cons_succ]
  refine pt_c ?_
  refine pt_step (by rw [← HOP.out]; simp only [List.getElem?_toArray, List.getElem?_cons_zero, List.getElem?_cons_succ]; rfl) (by rw [← HOP.out]; kernel_rfl) (fun K hK => ?_)
  go_simp
  refine (rItem_c p.srN p.srS hp.sn hp.ss HE.out.2.1 _).mono ?_
  rintro en w5 ⟨hb5, r5, rfl, hi5⟩
  refine hK.out _ _ (But.of_below hb5) ?_
  clear hK K
  try simp only [Act.put, List.getElem_toArray, List.getElem_cons_zero, List.getElem_cons_succ, List.setIfInBounds_toArray, List.set_cons_zero, List.set_cons_succ]
  refine pt_c ?_
  refine pt_step (by rw [← HOP.out]; simp only [List.getElem?_toArray, List.getElem?_cons_zero, List.getElem?_cons_succ]; rfl) (by rw [← HOP.out]; kernel_rfl) (fun K hK => ?_)
  go_simp
  refine (rItem_c p.rpN p.rpS hp.rn hp.rs HE.out.2.2 _).mono ?_
  rintro en w6 ⟨hb6, r6, rfl, hi6⟩
  refine hK.out _ _ (But.of_below hb6) ?_
  clear hK K
  try simp only [Act.put, List.getElem_toArray, List.getElem_cons_zero, List.getElem_cons_succ, List.setIfInBounds_toArray, List.set_cons_zero, List.set_cons_succ]
  refine pt_c ?_
  refine pt_step (by rw [← HOP.out]; simp only [List.getElem?_toArray, List.getElem?_cons_zero, List.getElem?_cons_succ]; rfl) (by rw [← HOP.out]; kernel_rfl) (fun K hK => ?_)
  go_simp
  refine (rUint_c p.time _).mono ?_
  rintro en w7 ⟨rfl, hb7⟩
  refine hK.out _ _ (But.of_below hb7) ?_
  clear hK K
  try simp only [Act.put, List.getElem_toArray, List.getElem_cons_zero, List.getElem_cons_succ, List.setIfInBounds_toArray, List.set_cons_zero, List.set_cons_succ]
  refine pt_c ?_
  refine pt_step (by rw [← HOP.out]; simp only [List.getElem?_toArray, List.getElem?_cons_zero, List.getElem?_cons_succ]; rfl) (by rw [← HOP.out]; kernel_rfl) (fun K hK => ?_)
  go_simp
  refine (rUint_c p.seq _).mono ?_
  rintro en w8 ⟨rfl, hb8⟩
  refine hK.out _ _ (But.of_below hb8) ?_
  clear hK K
  try simp only [Act.put, List.getElem_toArray, List.getElem_cons_zero, List.getElem_cons_succ, List.setIfInBounds_toArray, List.set_cons_zero, List.set_cons_succ]
  refine pt_c ?_
  refine pt_buildSlice (by rw [← HOP.out]; simp only [List.getElem?_toArray, List.getElem?_cons_zero, List.getElem?_cons_succ]; rfl) (by rw [← HOP.out]; kernel_rfl) 59 62 2 #[(0, .tmp 23), (1, .tmp 27)] rfl ([rU p.time, rU p.seq].flatMap rwC).toArray iI _ Tryz.underlying59 hiI hzI (by rw [hsI]; decide) (by rw [hsI]; decide) [(0, rwV (rU p.time)), (1, rwV (rU p.seq))] rfl (by rw [hsI]; exact filled2 _ _) ?_
  try simp only [Act.put, List.getElem_toArray, List.getElem_cons_zero, List.getElem_cons_succ, List.setIfInBounds_toArray, List.set_cons_zero, List.set_cons_succ]
  have I9 := RowAt.new w8 ([rU p.time, rU p.seq].flatMap rwC).toArray 62
  have hb9 := below_alloc w8 (.cells ([rU p.time, rU p.seq].flatMap rwC).toArray 62)
  obtain ⟨w9, hw9⟩ : ∃ x, w8.alloc (.cells ([rU p.time, rU p.seq].flatMap rwC).toArray 62) = x := ⟨_, rfl⟩
  rw [hw9] at I9 hb9 ⊢
  refine pt_c ?_
  refine pt_step (by rw [← HOP.out]; simp only [List.getElem?_toArray, List.getElem?_cons_zero, List.getElem?_cons_succ]; rfl) (by rw [← HOP.out]; kernel_rfl) (fun K hK => ?_)
  go_simp
  refine (rList_c _ _ _ _).mono ?_
  rintro en w10 ⟨rfl, hb10⟩
  refine hK.out _ _ (But.of_below hb10) ?_
  clear hK K
  try simp only [Act.put, List.getElem_toArray, List.getElem_cons_zero, List.getElem_cons_succ, List.setIfInBounds_toArray, List.set_cons_zero, List.set_cons_succ]
  refine pt_c ?_
  refine pt_step (by rw [← HOP.out]; simp only [List.getElem?_toArray, List.getElem?_cons_zero, List.getElem?_cons_succ]; rfl) (by rw [← HOP.out]; kernel_rfl) (fun K hK => ?_)
  go_simp
  refine (rUint_c p.life _).mono ?_
  rintro en w11 ⟨rfl, hb11⟩
  refine hK.out _ _ (But.of_below hb11) ?_
  clear hK K
  try simp only [Act.put, List.getElem_toArray, List.getElem_cons_zero, List.getElem_cons_succ, List.setIfInBounds_toArray, List.set_cons_zero, List.set_cons_succ]
  refine pt_c ?_
  refine pt_buildSlice (by rw [← HOP.out]; simp only [List.getElem?_toArray, List.getElem?_cons_zero, List.getElem?_cons_succ]; rfl) (by rw [← HOP.out]; kernel_rfl) 59 62 8 #[(0, .tmp 3), (1, .tmp 7), (2, .tmp 11), (3, .tmp 14), (4, .tmp 17), (5, .tmp 20), (6, .tmp 29), (7, .tmp 32)] rfl ([rU 7, rU p.flags, rU k, r4, r5, r6, rL (.slice (some ⟨w8.heap.size, 0, none⟩) 2 2), rU p.life].flatMap rwC).toArray iI _ Tryz.underlying59 hiI hzI (by rw [hsI]; decide) (by rw [hsI]; decide) [(0, rwV (rU 7)), (1, rwV (rU p.flags)), (2, rwV (rU k)), (3, rwV r4), (4, rwV r5), (5, rwV r6), (6, rwV (rL (.slice (some ⟨w8.heap.size, 0, none⟩) 2 2))), (7, rwV (rU p.life))] rfl (by rw [hsI]; exact filled8 _ _ _ _ _ _ _ _) ?_
  try simp only [Act.put, List.getElem_toArray, List.getElem_cons_zero, List.getElem_cons_succ, List.setIfInBounds_toArray, List.set_cons_zero, List.set_cons_succ]
  refine pt_q (v := ?_) (by rw [← HOP.out]; simp only [List.getElem?_toArray, List.getElem?_cons_zero, List.getElem?_cons_succ]; rfl) (by rw [← HOP.out]; kernel_rfl) ?_ ?_
  rotate_left
  · intro w' hBw'
    first | (go_simp; done) | (go_simp; with_reducible rfl)
  try simp only [Act.put, List.getElem_toArray, List.getElem_cons_zero, List.getElem_cons_succ, List.setIfInBounds_toArray, List.set_cons_zero, List.set_cons_succ]
  refine pt_done ?_
  have hb12 := below_alloc w11 (.cells ([rU 7, rU p.flags, rU k, r4, r5, r6, rL (.slice (some ⟨w8.heap.size, 0, none⟩) 2 2), rU p.life].flatMap rwC).toArray 62)
  have own12 := World.ownsRow_lit w11 ([rU 7, rU p.flags, rU k, r4, r5, r6, rL (.slice (some ⟨w8.heap.size, 0, none⟩) 2 2), rU p.life].flatMap rwC).toArray 8 (size := 5) (e := 62) (Nat.le_refl _) (by decide) rfl
  obtain ⟨w12, hw12⟩ : ∃ x, w11.alloc (.cells ([rU 7, rU p.flags, rU k, r4, r5, r6, rL (.slice (some ⟨w8.heap.size, 0, none⟩) 2 2), rU p.life].flatMap rwC).toArray 62) = x := ⟨_, rfl⟩
  rw [hw12] at hb12 own12 ⊢
  clear hw12
  have I12 := (I9.below (below_up hb10 hb11)).below hb12
  have e11 := below_up hb11 hb12
  have e10 := below_up hb10 e11
  have e9 := below_up hb9 e10
  have e8 := below_up hb8 e9
  have e7 := below_up hb7 e8
  have e6 := below_up hb6 e7
  have e5 := below_up hb5 e6
  have e4 := below_up hb4 e5
  have e3 := below_up hb3 e4
  have e2 := below_up hb2 e3
  have e1 := below_up hb1 e2
  have D := below_up HD0.out (below_up hBd e1)
  have HW := Lib.hid (And.intro I12 (And.intro own12 (And.intro D (And.intro e7 (And.intro e6 e5)))))
  have HSZ := Lib.hid (show w.heap.size ≤ w3.heap.size ∧ w3.heap.size ≤ w4.heap.size ∧ w4.heap.size ≤ w5.heap.size ∧ w5.heap.size ≤ w6.heap.size ∧ w6.heap.size ≤ w8.heap.size ∧ w8.heap.size < w12.heap.size ∧ w6.heap.size ≤ w11.heap.size from by
    have h0 := HD0.out.size
    have h1 := hBd.size
    have h2 := hb1.size
    have h3 := hb2.size
    have h4 := hb3.size
    have h5 := hb4.size
    have h6 := hb5.size
    have h7 := hb6.size
    have h8 := hb7.size
    have h9 := hb8.size
    have h10 := I12.lt
    have h11 := hb9.size
    have h12 := hb10.size
    have h13 := hb11.size
    omega)
  have HI := Lib.hid (And.intro hi4 (And.intro hi5 hi6))
  clear hi4 hi5 hi6 I12 own12 D e11 e10 e9 e8 e7 e6 e5 e4 e3 e2 e1 hb12 hb11 hb10 hb9 hb8 hb7 hb6 hb5 hb4 hb3 hb2 hb1 hBd I9 hw9
  go_wp2
  go_ret
  obtain ⟨I12, own12, D, e7, e6, e5⟩ := HW.out
  obtain ⟨s1, s2, s3, s4, s5, s6, s7⟩ := HSZ.out
  obtain ⟨hi4, hi5, hi6⟩ := HI.out
  refine ⟨_, [rU 7, rU p.flags, rU k, r4, r5, r6, rL (.slice (some ⟨w8.heap.size, 0, none⟩) 2 2), rU p.life], rfl, own_down own12 (by omega), ?_, D⟩
  unfold Prm.prL
  rw [HKS.out]
  have j4 := (hi4.up e5).mono (S' := fun q => w.heap.size ≤ q ∧ q < w12.heap.size) (fun q e => ⟨by omega, by omega⟩)
  have j5 := (hi5.up e6).mono (S' := fun q => w.heap.size ≤ q ∧ q < w12.heap.size) (fun q e => ⟨by omega, by omega⟩)
  have j6 := (hi6.up e7).mono (S' := fun q => w.heap.size ≤ q ∧ q < w12.heap.size) (fun q e => ⟨by omega, by omega⟩)
  have jL := itL (its2 (itU (fun q => w.heap.size ≤ q ∧ q < w12.heap.size) w12 p.time hp.t) (itU _ _ p.seq (by have := hp.q; omega))) I12 ⟨by omega, by omega⟩ (by simp)
  simp only [ItsR]
  exact ⟨_, _, rfl, itU _ _ 7 (by decide), _, _, rfl, itU _ _ p.flags (by have := hp.f; omega), _, _, rfl, itU _ _ k HKB.out, _, _, rfl, j4, _, _, rfl, j5, _, _, rfl, j6, _, _, rfl, jL, _, _, rfl, itU _ _ p.life hp.l, rfl⟩
end Go.Proofs.YtpkonagjnfphkaaGreatDoor
