/-
  PrI, PrV, PrC, PrU: several texts in one (bundle.py).
-/
import Derived.Test.YtpkonagjnfphkaaGreatDoorPmH39
import Derived.Test.YtpkonagjnfphkaaGreatDoorPmH16
import Derived.Test.YtpkonagjnfphkaaGreatDoorPmH35
import Derived.Test.YtpkonagjnfphkaaGreatDoorPmH38
namespace Go.Proofs.YtpkonagjnfphkaaGreatDoor
open Go.RowKit Trc Cb
set_option linter.unusedSimpArgs false
set_option linter.unusedVariables false
attribute [local go_sem] Oper.semAt_some
set_option maxRecDepth 100000 in
theorem prWants_c (p : Prm.Pr) (w : World) : Calls Tryz.prog 15 #[prV p] w fun en w' => en = .returned (.func (.func 35) #[] #[.pointer (some ⟨w.heap.size, 0, none⟩)]) ∧ w' = w.alloc (.cells (prC p).toArray 28) := by
  have hmf : ∀ (fn : Fn) (first cap : Array Value) (w : World), (Instr.makeFunc fn first cap).run Tryz.prog w = .ok (.func fn first cap) w := fun _ _ _ _ => rfl
  go_enter Tryz.func15, Tryz.ntmps15
  go_wp2
  go_ret
  exact ⟨rfl, rfl⟩
theorem enters_prWn1 : Enters Tryz.prog 35 := enters_of Tryz.func35 (by kernel_rfl) rfl
def pwAt (f : Nat) (k : Nat) : Nat := (Prm.wantsL f).getD k 0
def pwArgs (f : Nat) (k : Nat) : Array Value := #[.int .u32 (pwAt f k : Nat)]
/-- How many flags a primary has among the first few. -/
def pwC (f j : Nat) : Nat := (if Prm.hasB f 2 = true ∧ 1 ≤ j then 1 else 0) + (if Prm.hasB f 32 = true ∧ 2 ≤ j then 1 else 0)
theorem pw_two {f : Nat} (h : Prm.hasB f 2 = true) : 0 < (Prm.wantsL f).length ∧ pwAt f 0 = 2 := by
  unfold pwAt Prm.wantsL
  cases h2 : Prm.hasB f 32 <;> simp [h, h2]
theorem pw_three {f : Nat} (h : Prm.hasB f 32 = true) : pwC f 1 < (Prm.wantsL f).length ∧ pwAt f (pwC f 1) = 32 := by
  unfold pwAt Prm.wantsL pwC
  cases h2 : Prm.hasB f 2 <;> simp [h, h2]
theorem pw_len (f : Nat) : pwC f 2 = (Prm.wantsL f).length := by
  unfold Prm.wantsL pwC
  cases h2 : Prm.hasB f 2 <;> cases h3 : Prm.hasB f 32 <;> simp [h2, h3]
set_option maxHeartbeats 2000000 in
set_option maxRecDepth 100000 in
theorem pwn1_x (p : Prm.Pr) (hp : p.flags < 4294967296) (C : Nat) (S : Nat → Prop) (w : World) (hr : RowAt w C (prC p).toArray 28) (hSS : S C) :
    SeqX Tryz.prog 35 #[.pointer (some ⟨C, 0, none⟩)] (pwArgs p.flags) (Prm.wantsL p.flags).length S w := by
  intro l' G J Jx W hW hS hG hJ hJx hY h0
  have hR := hr.below hW
  have Hr := Lib.hid hR
  have hCl := hR.lt
  have hix0 : ∀ w : World, (Instr.index 74 (.agg #[.int .u32 2, .int .u32 32]) (.int .i64 0)).run Tryz.prog w = .ok (.int .u32 2) w := fun _ => by kernel_rfl
  have hix1 : ∀ w : World, (Instr.index 74 (.agg #[.int .u32 2, .int .u32 32]) (.int .i64 1)).run Tryz.prog w = .ok (.int .u32 32) w := fun _ => by kernel_rfl
  clear hr hR
  refine (callsIn_wide (n := 3)).1 ?_
  refine callsIn_of_wp Tryz.func35 rfl trivial ?_ rfl
  simp only [Tryz.ntmps35, List.size_toArray, List.length_cons, List.length_nil, Nat.reduceAdd, Nat.reduceSub, Array.replicate_succ, Array.replicate_zero, List.push_toArray, List.append_toArray, List.nil_append, List.cons_append]
  refine wpIn_scopeS ?_
  gi_wp2
  refine wpIn_label ?_
  gi_wp2
  gi_loopw [6] (fun i wr => ∃ (j : Nat) (G : Nat → Prop), j ≤ 2 ∧ i = .int .i64 j ∧ J (pwC p.flags j) G wr ∧ RowAt wr C (prC p).toArray 28 ∧ (∀ k, S k → ¬ G k) ∧ W.heap.size ≤ wr.heap.size) (fun i _ => 2 - (intOf i).toNat)
  case atStart => exact ⟨0, G, Nat.zero_le _, rfl, by simpa [pwC] using h0, Hr.out, fun k hk => (hS k hk).2, Nat.le_refl _⟩
  case round =>
    obtain ⟨j, G1, hk, rfl, hj, hE1, hG1, hsz⟩ := hrel
    have x0 := hE1.cell (i := 0) rfl
    have x1 := hE1.cell (i := 1) rfl
    have x2 := hE1.cell (i := 2) rfl
    have x3 := hE1.cell (i := 3) rfl
    have x4 := hE1.cell (i := 4) rfl
    have x5 := hE1.cell (i := 5) rfl
    have x6 := hE1.cell (i := 6) rfl
    have x7 := hE1.cell (i := 7) rfl
    have x8 := hE1.cell (i := 8) rfl
    have x9 := hE1.cell (i := 9) rfl
    have x10 := hE1.cell (i := 10) rfl
    rcases (show j = 0 ∨ j = 1 ∨ j = 2 by omega) with rfl | rfl | rfl
    · have hc := prHas_c p hp 2 (by decide) wr
      cases hh : Prm.hasB p.flags 2 with
      | true =>
        rw [hh] at hc
        have hln := pw_two hh
        have HC := Lib.hid (show pwC p.flags 1 = pwC p.flags 0 + 1 by simp [pwC, hh])
        have h00 : pwC p.flags 0 = 0 := by simp [pwC]
        rw [h00] at hj HC
        have hpa : pwArgs p.flags 0 = #[.int .u32 2] := by unfold pwArgs; rw [hln.2]; rfl
        have HLT := Lib.hid hln.1
        have HPA := Lib.hid hpa
        clear hln hh hpa
        gi_wp2_with (first | ((try refine ⟨trivial, ?_⟩); gi_at_call 13; refine (callsIn_wide.2 hc).mono ?_; rintro en w1 ⟨rfl, hb1⟩))
        have hJa := hJ _ _ _ _ hj (But.of_below hb1)
        have hE2 := hE1.below hb1
        obtain ⟨fn, tmps, assign, body, hy, hRR⟩ := yieldAt_wide (m' := 2) (hY _ _ _ HLT.out hJa)
        rw [HPA.out] at hy
        gi_wp2
        rw [hy]
        refine ⟨fun _ => by decide, hRR.mono ?_⟩
        rintro en W3 ⟨g, rfl, hw⟩
        have hE3 : RowAt W3 C (prC p).toArray 28 := (hw.but.same _ hE2.lt (hG1 C hSS)).trans hE2
        have hs3 := hw.but.size
        have hs1 := hb1.size
        cases g with
        | true =>
          gi_wp2
          go_roundw
          case rel => exact ⟨1, _, by omega, by go_num, by rw [HC.out]; exact hw.on rfl, hE3, fun k hk => newG_not (hG1 k hk) (by have := (hS k hk).1; omega), by omega⟩
          case measure => simp [intOf]
        | false =>
          gi_wp2
          rw [Exit.noGoto_normal]
          go_end0
          exact ⟨⟨_, rfl⟩, _, .inr ⟨_, HLT.out, hw.off rfl⟩⟩
      | false =>
        rw [hh] at hc
        have HC := Lib.hid (show pwC p.flags 1 = pwC p.flags 0 by simp [pwC, hh])
        clear hh
        gi_wp2_with (first | ((try refine ⟨trivial, ?_⟩); gi_at_call 13; refine (callsIn_wide.2 hc).mono ?_; rintro en w1 ⟨rfl, hb1⟩))
        have hJa := hJ _ _ _ _ hj (But.of_below hb1)
        have hE2 := hE1.below hb1
        have hs1 := hb1.size
        repeat (refine ⟨fun f hf => (by cases hf), ?_⟩; gi_wp2)
        go_roundw
        case rel => exact ⟨1, G1, by omega, by go_num, by rw [HC.out]; exact hJa, hE2, hG1, by omega⟩
        case measure => simp [intOf]
    · have hc := prHas_c p hp 32 (by decide) wr
      cases hh : Prm.hasB p.flags 32 with
      | true =>
        rw [hh] at hc
        have hln := pw_three hh
        have HC := Lib.hid (show pwC p.flags 2 = pwC p.flags 1 + 1 by simp [pwC, hh])
        have hpa : pwArgs p.flags (pwC p.flags 1) = #[.int .u32 32] := by unfold pwArgs; rw [hln.2]; rfl
        have HLT := Lib.hid hln.1
        have HPA := Lib.hid hpa
        clear hln hh hpa
        gi_wp2_with (first | ((try refine ⟨trivial, ?_⟩); gi_at_call 13; refine (callsIn_wide.2 hc).mono ?_; rintro en w1 ⟨rfl, hb1⟩))
        have hJa := hJ _ _ _ _ hj (But.of_below hb1)
        have hE2 := hE1.below hb1
        obtain ⟨fn, tmps, assign, body, hy, hRR⟩ := yieldAt_wide (m' := 2) (hY _ _ _ HLT.out hJa)
        rw [HPA.out] at hy
        gi_wp2
        rw [hy]
        refine ⟨fun _ => by decide, hRR.mono ?_⟩
        rintro en W3 ⟨g, rfl, hw⟩
        have hE3 : RowAt W3 C (prC p).toArray 28 := (hw.but.same _ hE2.lt (hG1 C hSS)).trans hE2
        have hs3 := hw.but.size
        have hs1 := hb1.size
        cases g with
        | true =>
          gi_wp2
          go_roundw
          case rel => exact ⟨2, _, by omega, by go_num, by rw [HC.out]; exact hw.on rfl, hE3, fun k hk => newG_not (hG1 k hk) (by have := (hS k hk).1; omega), by omega⟩
          case measure => simp [intOf]
        | false =>
          gi_wp2
          rw [Exit.noGoto_normal]
          go_end0
          exact ⟨⟨_, rfl⟩, _, .inr ⟨_, HLT.out, hw.off rfl⟩⟩
      | false =>
        rw [hh] at hc
        have HC := Lib.hid (show pwC p.flags 2 = pwC p.flags 1 by simp [pwC, hh])
        clear hh
        gi_wp2_with (first | ((try refine ⟨trivial, ?_⟩); gi_at_call 13; refine (callsIn_wide.2 hc).mono ?_; rintro en w1 ⟨rfl, hb1⟩))
        have hJa := hJ _ _ _ _ hj (But.of_below hb1)
        have hE2 := hE1.below hb1
        have hs1 := hb1.size
        repeat (refine ⟨fun f hf => (by cases hf), ?_⟩; gi_wp2)
        go_roundw
        case rel => exact ⟨2, G1, by omega, by go_num, by rw [HC.out]; exact hJa, hE2, hG1, by omega⟩
        case measure => simp [intOf]
    · have hln := pw_len p.flags
      rw [hln] at hj
      clear hln
      gi_wp2
      rw [Exit.noGoto_normal]
      go_end0
      exact ⟨⟨_, rfl⟩, G1, .inl hj⟩
theorem prNum_c (e : Int) (w : World) : Calls Tryz.prog 12 #[.int .i64 e] w (fun en w' => en = .returned (.int .i64 e) ∧ w = w') := by
  go_enter Tryz.func12, Tryz.ntmps12
  go_wp2
  go_ret
  exact ⟨rfl, rfl⟩
/-- The chapter's first primary. -/
def Prm.p1 : Prm.Pr := ⟨0, 0, 2, 0, 1, 0, 0, 0, 5, 6, 7⟩
set_option maxHeartbeats 1000000 in
set_option maxRecDepth 100000 in
theorem prFirst_c (w : World) : Calls Tryz.prog 33 #[] w (Ret (prV Prm.p1) w) := by
  have hZ := RowAt.new w (prC Prm.p1).toArray 28
  go_enter Tryz.func33, Tryz.ntmps33
  go_wp2
  have g0 := RowAt.cell hZ (i := 0) (v := .int .u32 0) rfl
  have g1 := RowAt.cell hZ (i := 1) (v := .int .i64 0) rfl
  have g2 := RowAt.cell hZ (i := 2) (v := .int .u32 2) rfl
  have g3 := RowAt.cell hZ (i := 3) (v := .int .u32 0) rfl
  have g4 := RowAt.cell hZ (i := 4) (v := .int .u32 1) rfl
  have g5 := RowAt.cell hZ (i := 5) (v := .int .u32 0) rfl
  have g6 := RowAt.cell hZ (i := 6) (v := .int .u32 0) rfl
  have g7 := RowAt.cell hZ (i := 7) (v := .int .u32 0) rfl
  have g8 := RowAt.cell hZ (i := 8) (v := .int .u64 5) rfl
  have g9 := RowAt.cell hZ (i := 9) (v := .int .u32 6) rfl
  have g10 := RowAt.cell hZ (i := 10) (v := .int .u64 7) rfl
  refine bodyPost_ret (v := prV Prm.p1) ?_ rfl ?_
  · simp [results, Tryz.results33, go_sem, Prm.p1, g0, g1, g2, g3, g4, g5, g6, g7, g8, g9, g10]
  exact ⟨rfl, below_alloc _ _⟩
end Go.Proofs.YtpkonagjnfphkaaGreatDoor

namespace Go.Proofs.YtpkonagjnfphkaaGreatDoor
open Go.RowKit Trc Cb
set_option linter.unusedSimpArgs false
set_option linter.unusedVariables false
def Prm.p2 : Prm.Pr := ⟨0, 0, 0, 0, 1, 0, 0, 0, 5, 6, 7⟩
def Prm.p3 : Prm.Pr := ⟨384, 0, 2, 0, 1, 0, 0, 0, 5, 6, 7⟩
def Prm.p4 : Prm.Pr := ⟨256, 0, 0, 0, 0, 0, 0, 0, 0, 0, 0⟩
theorem Prm.p1_ok : Prm.p1.Ok := by constructor <;> decide
theorem Prm.p2_ok : Prm.p2.Ok := by constructor <;> decide
theorem Prm.p3_ok : Prm.p3.Ok := by constructor <;> decide
theorem Prm.p1_okPr : Prm.okPr Prm.p1 = true := by decide
theorem Prm.p2_okPr : Prm.okPr Prm.p2 = false := by decide
theorem Prm.p3_okPr : Prm.okPr Prm.p3 = false := by decide
set_option maxRecDepth 100000 in
theorem Prm.p1_enc : Prm.encPr Prm.p1 = [136, 7, 0, 0, 130, 2, 130, 2, 0, 130, 2, 130, 1, 0, 130, 1, 0, 130, 5, 6, 7] := by decide
theorem Prm.wk_flags : Prm.flagsN 1 [2, 2] = 130 := by decide
theorem Prm.wk_rank : Prm.rankN 256 = 2 := by decide
theorem Prm.wk_exp : Clk.addF (5 : Nat) (7 : Nat) = 12 := by decide
set_option maxHeartbeats 4000000 in
set_option maxRecDepth 100000 in
theorem prWorks_c (w : World) (hT : Tabs w) : Calls Tryz.prog 8 #[] w (Ret (.bool true) w) := by
  have HT := Lib.hid hT
  clear hT
  go_enter Tryz.func8, Tryz.ntmps8
  go_wp2_with fail
  refine (prFirst_c _).mono ?_
  rintro en w1 ⟨rfl, hb1⟩
  have B1 : Below w.heap.size w w1 := hb1
  have X1 : RowAt (w1.alloc (.cells (prC Prm.p1).toArray 28)) w1.heap.size #[.int .u32 0, .int .i64 0, .int .u32 2, .int .u32 0, .int .u32 1, .int .u32 0, .int .u32 0, .int .u32 0, .int .u64 5, .int .u32 6, .int .u64 7] 28 := RowAt.new w1 (prC Prm.p1).toArray 28
  have B1b := B1.alloc B1.size (.cells (prC Prm.p1).toArray 28)
  have HS := Lib.hid B1.size
  go_wp2_with fail
  have hen := prEncode_c Prm.p1 Prm.p1_ok _ (HT.out.up B1b)
  refine hen.mono ?_
  clear hen
  rintro en w2 ⟨hb2, hy2, _⟩
  obtain ⟨v2, rfl, ho2⟩ := hy2 Prm.p1_okPr
  clear hy2
  rw [Prm.p1_enc] at ho2
  obtain ⟨q2, c2, rfl⟩ := own_slice ho2
  have S2 := Lib.hid (Sl.of_own ho2)
  have HOB := Lib.hid (fun (k : Nat) (hk : (Value.slice q2 21 c2).ownBlock = some k) => (show w1.heap.size < k from by have h := (own_of_some ho2 hk).1; rw [World.size_alloc] at h; omega))
  have B2 := below_up B1b hb2
  have X2 := X1.below hb2
  clear X1 B1b hb1 hb2 ho2
  have x0 := X2.cell (i := 0) rfl
  have x1 := X2.cell (i := 1) rfl
  have x2 := X2.cell (i := 2) rfl
  have x3 := X2.cell (i := 3) rfl
  have x4 := X2.cell (i := 4) rfl
  have x5 := X2.cell (i := 5) rfl
  have x6 := X2.cell (i := 6) rfl
  have x7 := X2.cell (i := 7) rfl
  have x8 := X2.cell (i := 8) rfl
  have x9 := X2.cell (i := 9) rfl
  have x10 := X2.cell (i := 10) rfl
  have f2 := X2.fz 2
  have f3 := X2.fz 3
  go_wp2_with fail
  clear x0 x1 x2 x3 x4 x5 x6 x7 x8 x9 x10 f2 f3
  have h1 := X2.set 2 (.int .u32 0)
  have h2 : RowAt ((w2.setCell ⟨w1.heap.size, 2, none⟩ (.int .u32 0)).setCell ⟨w1.heap.size, 3, none⟩ (.int .u32 0)) w1.heap.size #[.int .u32 0, .int .i64 0, .int .u32 0, .int .u32 0, .int .u32 1, .int .u32 0, .int .u32 0, .int .u32 0, .int .u64 5, .int .u32 6, .int .u64 7] 28 := h1.set 3 (.int .u32 0)
  have b2 : But (fun j => j = w1.heap.size) w2 ((w2.setCell ⟨w1.heap.size, 2, none⟩ (.int .u32 0)).setCell ⟨w1.heap.size, 3, none⟩ (.int .u32 0)) := (But.setCell (O := fun j => j = w1.heap.size) _ ⟨w1.heap.size, 2, none⟩ _ (.inl rfl)).trans (But.setCell _ _ _ (.inl rfl))
  have B3 := B2.trans (b2.below (fun j e => by have := HS.out; omega) B2.size)
  replace S2 := Lib.hid (S2.out.but b2 (.inr fun k hk e => by have h := HOB.out k hk; omega))
  obtain ⟨w3, hw3⟩ : ∃ X, (w2.setCell ⟨w1.heap.size, 2, none⟩ (.int .u32 0)).setCell ⟨w1.heap.size, 3, none⟩ (.int .u32 0) = X := ⟨_, rfl⟩
  rw [hw3] at h2 B3 S2 ⊢
  clear h1 b2 hw3 X2 B2
  refine ((show Calls Tryz.prog 23 #[prV Prm.p2] w3 (Ret (.int .i64 2) w3) from by have h := prCheck_c Prm.p2 Prm.p2_ok w3; rw [Prm.p2_okPr] at h; exact h)).mono ?_
  rintro en w4 ⟨rfl, hb4⟩
  have X4 := h2.below hb4
  have B4 := below_up B3 hb4
  replace S2 := Lib.hid (S2.out.up hb4)
  clear h2 B3 hb4
  go_wp2_with fail
  refine (prFirst_c _).mono ?_
  rintro en w5 ⟨rfl, hb5⟩
  have X5 := X4.below hb5
  have B5 := below_up B4 hb5
  replace S2 := Lib.hid (S2.out.up hb5)
  clear X4 B4 hb5
  have x0 := X5.cell (i := 0) rfl
  have x1 := X5.cell (i := 1) rfl
  have x2 := X5.cell (i := 2) rfl
  have x3 := X5.cell (i := 3) rfl
  have x4 := X5.cell (i := 4) rfl
  have x5 := X5.cell (i := 5) rfl
  have x6 := X5.cell (i := 6) rfl
  have x7 := X5.cell (i := 7) rfl
  have x8 := X5.cell (i := 8) rfl
  have x9 := X5.cell (i := 9) rfl
  have x10 := X5.cell (i := 10) rfl
  have f0 := X5.fz 0
  have f1 := X5.fz 1
  have f2 := X5.fz 2
  have f3 := X5.fz 3
  have f4 := X5.fz 4
  have f5 := X5.fz 5
  have f6 := X5.fz 6
  have f7 := X5.fz 7
  have f8 := X5.fz 8
  have f9 := X5.fz 9
  have f10 := X5.fz 10
  go_wp2_with fail
  clear x0 x1 x2 x3 x4 x5 x6 x7 x8 x9 x10 f0 f1 f2 f3 f4 f5 f6 f7 f8 f9 f10
  obtain ⟨h1, b1⟩ := row11 X5 (.int .u32 (Prm.p1.flags : Nat)) (.int .i64 (Prm.p1.sum)) (.int .u32 (Prm.p1.toN : Nat)) (.int .u32 (Prm.p1.toS : Nat)) (.int .u32 (Prm.p1.srN : Nat)) (.int .u32 (Prm.p1.srS : Nat)) (.int .u32 (Prm.p1.rpN : Nat)) (.int .u32 (Prm.p1.rpS : Nat)) (.int .u64 (Prm.p1.time : Nat)) (.int .u32 (Prm.p1.seq : Nat)) (.int .u64 (Prm.p1.life : Nat))
  have h2 : RowAt ((((((((((((w5.setCell ⟨w1.heap.size, 0, none⟩ (.int .u32 (Prm.p1.flags : Nat))).setCell ⟨w1.heap.size, 1, none⟩ (.int .i64 (Prm.p1.sum))).setCell ⟨w1.heap.size, 2, none⟩ (.int .u32 (Prm.p1.toN : Nat))).setCell ⟨w1.heap.size, 3, none⟩ (.int .u32 (Prm.p1.toS : Nat))).setCell ⟨w1.heap.size, 4, none⟩ (.int .u32 (Prm.p1.srN : Nat))).setCell ⟨w1.heap.size, 5, none⟩ (.int .u32 (Prm.p1.srS : Nat))).setCell ⟨w1.heap.size, 6, none⟩ (.int .u32 (Prm.p1.rpN : Nat))).setCell ⟨w1.heap.size, 7, none⟩ (.int .u32 (Prm.p1.rpS : Nat))).setCell ⟨w1.heap.size, 8, none⟩ (.int .u64 (Prm.p1.time : Nat))).setCell ⟨w1.heap.size, 9, none⟩ (.int .u32 (Prm.p1.seq : Nat))).setCell ⟨w1.heap.size, 10, none⟩ (.int .u64 (Prm.p1.life : Nat))).setCell ⟨w1.heap.size, 0, none⟩ (.int .u32 384)) w1.heap.size #[.int .u32 384, .int .i64 0, .int .u32 2, .int .u32 0, .int .u32 1, .int .u32 0, .int .u32 0, .int .u32 0, .int .u64 5, .int .u32 6, .int .u64 7] 28 := h1.set 0 (.int .u32 384)
  have b2 : But (fun j => j = w1.heap.size) w5 ((((((((((((w5.setCell ⟨w1.heap.size, 0, none⟩ (.int .u32 (Prm.p1.flags : Nat))).setCell ⟨w1.heap.size, 1, none⟩ (.int .i64 (Prm.p1.sum))).setCell ⟨w1.heap.size, 2, none⟩ (.int .u32 (Prm.p1.toN : Nat))).setCell ⟨w1.heap.size, 3, none⟩ (.int .u32 (Prm.p1.toS : Nat))).setCell ⟨w1.heap.size, 4, none⟩ (.int .u32 (Prm.p1.srN : Nat))).setCell ⟨w1.heap.size, 5, none⟩ (.int .u32 (Prm.p1.srS : Nat))).setCell ⟨w1.heap.size, 6, none⟩ (.int .u32 (Prm.p1.rpN : Nat))).setCell ⟨w1.heap.size, 7, none⟩ (.int .u32 (Prm.p1.rpS : Nat))).setCell ⟨w1.heap.size, 8, none⟩ (.int .u64 (Prm.p1.time : Nat))).setCell ⟨w1.heap.size, 9, none⟩ (.int .u32 (Prm.p1.seq : Nat))).setCell ⟨w1.heap.size, 10, none⟩ (.int .u64 (Prm.p1.life : Nat))).setCell ⟨w1.heap.size, 0, none⟩ (.int .u32 384)) := b1.trans (But.setCell _ _ _ (.inl rfl))
  have B6 := B5.trans (b2.below (fun j e => by have := HS.out; omega) B5.size)
  replace S2 := Lib.hid (S2.out.but b2 (.inr fun k hk e => by have h := HOB.out k hk; omega))
  obtain ⟨w6, hw6⟩ : ∃ X, ((((((((((((w5.setCell ⟨w1.heap.size, 0, none⟩ (.int .u32 (Prm.p1.flags : Nat))).setCell ⟨w1.heap.size, 1, none⟩ (.int .i64 (Prm.p1.sum))).setCell ⟨w1.heap.size, 2, none⟩ (.int .u32 (Prm.p1.toN : Nat))).setCell ⟨w1.heap.size, 3, none⟩ (.int .u32 (Prm.p1.toS : Nat))).setCell ⟨w1.heap.size, 4, none⟩ (.int .u32 (Prm.p1.srN : Nat))).setCell ⟨w1.heap.size, 5, none⟩ (.int .u32 (Prm.p1.srS : Nat))).setCell ⟨w1.heap.size, 6, none⟩ (.int .u32 (Prm.p1.rpN : Nat))).setCell ⟨w1.heap.size, 7, none⟩ (.int .u32 (Prm.p1.rpS : Nat))).setCell ⟨w1.heap.size, 8, none⟩ (.int .u64 (Prm.p1.time : Nat))).setCell ⟨w1.heap.size, 9, none⟩ (.int .u32 (Prm.p1.seq : Nat))).setCell ⟨w1.heap.size, 10, none⟩ (.int .u64 (Prm.p1.life : Nat))).setCell ⟨w1.heap.size, 0, none⟩ (.int .u32 384)) = X := ⟨_, rfl⟩
  rw [hw6] at h2 B6 S2 ⊢
  clear h1 b1 b2 hw6 X5 B5
  refine (prNum_c _ _).mono ?_
  rintro en wn ⟨rfl, rfl⟩
  have hcv : (convert 48 9 (.slice q2 21 c2)).run Tryz.prog w6 = .ok (.string ⟨#[136, 7, 0, 0, 130, 2, 130, 2, 0, 130, 2, 130, 1, 0, 130, 1, 0, 130, 5, 6, 7]⟩) w6 := run_str Tryz.underlying48 Tryz.underlying5 Tryz.underlying9 S2.out
  have HX := Lib.hid h2
  have HB := Lib.hid B6
  clear h2 B6
  go_wp2_with fail
  have hq := below_alloc w6 (.cells #[.int .u32 2, .int .u32 2] 22)
  have X7 := RowAt.new w6 #[.int .u32 2, .int .u32 2] 22
  have hsl : Sl (w6.alloc (.cells #[.int .u32 2, .int .u32 2] 22)) 1 (.slice (some ⟨w6.heap.size, 0, none⟩) 2 2) 2 ([2, 2].map fun q : Nat => Value.int .u32 q) := ⟨rfl, .inr ⟨w6.heap.size, 0, 2, rfl, Nat.le_refl _, by decide, fun j u hj => by rw [Nat.zero_add]; exact X7.cell (by simpa using hj)⟩⟩
  have hfl := prFlagsOf_c 1 (by decide) [2, 2] _ _ hsl (by decide)
  rw [Prm.wk_flags] at hfl
  refine hfl.mono ?_
  rintro en w7 ⟨rfl, hb7⟩
  replace HX := Lib.hid (HX.out.below (below_up hq hb7))
  replace HB := Lib.hid (below_up HB.out (below_up hq hb7))
  clear hfl hsl X7 hq hb7 hcv
  go_wp2_with fail
  refine ((show Calls Tryz.prog 18 #[prV Prm.p4] w7 (Ret (.int .i64 2) w7) from prRank_c Prm.p4 (by decide) w7)).mono ?_
  rintro en w8 ⟨rfl, hb8⟩
  replace HX := Lib.hid (HX.out.below hb8)
  replace HB := Lib.hid (below_up HB.out hb8)
  clear hb8
  go_wp2_with fail
  refine (prFirst_c _).mono ?_
  rintro en w9 ⟨rfl, hb9⟩
  replace HX := Lib.hid (HX.out.below hb9)
  replace HB := Lib.hid (below_up HB.out hb9)
  clear hb9
  go_wp2_with fail
  refine ((show Calls Tryz.prog 20 #[prV Prm.p1] w9 (Ret (.int .u64 12) w9) from by have h := prExpires_c Prm.p1 w9; rw [show Clk.addF Prm.p1.time Prm.p1.life = 12 from Prm.wk_exp] at h; exact h)).mono ?_
  rintro en wa ⟨rfl, hba⟩
  replace HX := Lib.hid (HX.out.below hba)
  replace HB := Lib.hid (below_up HB.out hba)
  clear hba
  go_wp2_with fail
  refine (prNum_c _ _).mono ?_
  rintro en wn ⟨rfl, rfl⟩
  have x0 := HX.out.cell (i := 0) rfl
  have x1 := HX.out.cell (i := 1) rfl
  have x2 := HX.out.cell (i := 2) rfl
  have x3 := HX.out.cell (i := 3) rfl
  have x4 := HX.out.cell (i := 4) rfl
  have x5 := HX.out.cell (i := 5) rfl
  have x6 := HX.out.cell (i := 6) rfl
  have x7 := HX.out.cell (i := 7) rfl
  have x8 := HX.out.cell (i := 8) rfl
  have x9 := HX.out.cell (i := 9) rfl
  have x10 := HX.out.cell (i := 10) rfl
  go_wp2_with fail
  clear x0 x1 x2 x3 x4 x5 x6 x7 x8 x9 x10
  refine ((show Calls Tryz.prog 23 #[prV Prm.p3] wa (Ret (.int .i64 2) wa) from by have h := prCheck_c Prm.p3 Prm.p3_ok wa; rw [Prm.p3_okPr] at h; exact h)).mono ?_
  rintro en wb ⟨rfl, hbb⟩
  replace HB := Lib.hid (below_up HB.out hbb)
  clear hbb
  go_wp2_with fail
  refine (prNum_c _ _).mono ?_
  rintro en wn ⟨rfl, rfl⟩
  go_wp2
  go_ret
  exact ⟨rfl, HB.out⟩
end Go.Proofs.YtpkonagjnfphkaaGreatDoor

namespace Go.Proofs.YtpkonagjnfphkaaGreatDoor
open Go.RowKit Trc Cb
set_option linter.unusedSimpArgs false
set_option linter.unusedVariables false
namespace Prm
theorem bytes_l (L : List It) : bytesOf (lI L) = headB 4 L.length ++ bytesL L := by
  simp only [bytesOf]
  rw [if_neg (by decide), if_neg (by decide), if_neg (by decide), if_neg (by decide), if_neg (by decide)]
theorem bytes_b (b : List UInt8) : bytesOf (bI b) = headB 2 b.length ++ b := by
  simp only [bytesOf]
  rw [if_neg (by decide), if_pos trivial]
theorem bytes_u (n : Nat) : bytesOf (uI n) = headB 0 n := by
  simp only [bytesOf]
  rw [if_pos trivial]
/-- What stands ahead of the sum's bytes. -/
def aheadB (k : Nat) (L : List It) : List UInt8 := headB 4 ((L.length + 1 : Nat) : Int) ++ (bytesL L ++ headB 2 (Sum.wd k))
theorem zero_bytes (k : Nat) (L : List It) : bytesOf (zeroIt k L) = aheadB k L ++ List.replicate (Sum.wd k) 0 := by
  unfold zeroIt aheadB
  rw [bytes_l, bytesL_app]
  simp only [bytesL, bytes_b, List.length_replicate, List.append_nil, List.length_append, List.length_cons, List.length_nil, List.append_assoc]
theorem seal_bytes {k : Nat} (hk : k = 1 ∨ k = 2) (L : List It) : bytesOf (sealIt k L) = aheadB k L ++ Oct.beB (Sum.wd k) (Sum.sumN k (aheadB k L ++ List.replicate (Sum.wd k) 0)) := by
  have h1 := put_len (k := k) (bytesOf (zeroIt k L)) (by omega)
  unfold sealIt
  rw [if_neg (by omega), bytes_l, bytesL_app]
  simp only [bytesL, bytes_b, List.append_nil, h1, List.length_append, List.length_cons, List.length_nil]
  rw [zero_bytes, Sum.put_all hk]
  unfold aheadB
  simp only [List.append_assoc]
theorem be_inj {k a b : Nat} (hk : k = 1 ∨ k = 2) (ha : a < 256 ^ Sum.wd k) (hb : b < 256 ^ Sum.wd k) (h : Oct.beB (Sum.wd k) a = Oct.beB (Sum.wd k) b) : a = b := by
  have h4 := congrArg Oct.beV h
  rw [Oct.beV_beB _ _ (Int.natCast_nonneg _) (Sum.pow_up ha), Oct.beV_beB _ _ (Int.natCast_nonneg _) (Sum.pow_up hb)] at h4
  exact Int.ofNat.inj h4
theorem bit_ne {x d : UInt8} (ho : Sum.OneBit x.toNat d.toNat) : x ≠ d := fun e => by
  obtain ⟨j, hj, h⟩ := ho
  rw [e] at h
  exact absurd rfl ((h j hj).1 rfl)
/-- Of the same kind of sum: not both sealed. -/
theorem same_kind {k : Nat} (hk : k = 1 ∨ k = 2) (L M : List It) (i : Nat) (d : UInt8) (hi : i < (bytesOf (sealIt k L)).length) (ho : Sum.OneBit ((bytesOf (sealIt k L))[i]).toNat d.toNat) : bytesOf (sealIt k M) ≠ (bytesOf (sealIt k L)).set i d := by
  intro h
  have hne := bit_ne ho
  have hg : (bytesOf (sealIt k L))[i]? = some (bytesOf (sealIt k L))[i] := List.getElem?_eq_getElem hi
  generalize (bytesOf (sealIt k L))[i] = x at *
  rw [seal_bytes hk] at h hg hi
  rw [seal_bytes hk] at h
  generalize aheadB k L = A at *
  generalize aheadB k M = B at *
  have hl := congrArg List.length h
  simp only [List.length_append, List.length_set, Oct.beB_len] at hl
  have hl2 : B.length = A.length := by omega
  by_cases hil : i < A.length
  · rw [List.set_append_left _ _ hil] at h
    obtain ⟨h1, h2⟩ := List.append_inj h (by rw [List.length_set]; exact hl2)
    have h3 := be_inj hk (Sum.sumN_in hk _) (Sum.sumN_in hk _) h2
    rw [List.getElem?_append_left hil, List.getElem?_eq_getElem hil] at hg
    have hx := Option.some.inj hg
    refine Sum.sumN_bit hk (A ++ List.replicate (Sum.wd k) 0) i d (by simp; omega) ?_ ?_
    · rw [List.getElem_append_left hil, hx]; exact ho
    · rw [List.set_append_left _ _ hil, ← h1]; exact h3.symm
  · rw [List.set_append_right _ _ (by omega)] at h
    obtain ⟨h1, h2⟩ := List.append_inj h hl2
    rw [h1] at h2
    have hlt : i - A.length < (Oct.beB (Sum.wd k) (Sum.sumN k (A ++ List.replicate (Sum.wd k) 0))).length := by
      rw [Oct.beB_len]; simp only [List.length_append, Oct.beB_len] at hi; omega
    rw [List.getElem?_append_right (by omega)] at hg
    rw [h2, List.getElem?_set_self hlt] at hg
    exact hne (Option.some.inj hg).symm
/-- Two heads in a row tell their numbers. -/
theorem head_uni {a b : Nat} (ha : a < 18446744073709551616) (hb : b < 18446744073709551616) {r s : List UInt8} (h : headB 0 a ++ r = headB 0 b ++ s) : a = b ∧ r = s := by
  have h1 := headP_headB (m := 0) (n := a) (by omega) (by omega) (by omega) (by omega) r
  have h2 := headP_headB (m := 0) (n := b) (by omega) (by omega) (by omega) (by omega) s
  rw [h, h2] at h1
  simp only [Option.some.injEq, Prod.mk.injEq, true_and] at h1
  have : a = b := by omega
  subst this
  exact ⟨rfl, List.append_cancel_left h⟩
def oneB (c d : Nat) : Bool := (List.range 8).any fun j => (List.range 8).all fun i => (c / 2 ^ i % 2 == d / 2 ^ i % 2) == (i != j)
theorem oneB_of {c d : Nat} (h : Sum.OneBit c d) : oneB c d = true := by
  obtain ⟨j, hj, hi⟩ := h
  unfold oneB
  rw [List.any_eq_true]
  refine ⟨j, by simpa using hj, ?_⟩
  rw [List.all_eq_true]
  intro i hi8
  have := hi i (by simpa using hi8)
  by_cases e : i = j
  · have h2 : ¬ (c / 2 ^ i % 2 = d / 2 ^ i % 2) := fun x => this.1 x e
    simp [e] at h2 ⊢
    exact h2
  · have h2 := this.2 e
    simp [h2, e]
/-- Lists of bytes that are apart in more than a bit. -/
def farB (u v : List UInt8) : Bool :=
  (List.range (min u.length v.length)).any fun i => (u[i]? != v[i]?) && (!(oneB (u.getD i 0).toNat (v.getD i 0).toNat) || (List.range (min u.length v.length)).any fun j => (j != i) && (u[j]? != v[j]?))
theorem far_no {u v r s : List UInt8} (h : farB u v = true) (i : Nat) (d : UInt8) (hi : i < (u ++ r).length) (ho : Sum.OneBit ((u ++ r)[i]).toNat d.toNat) : v ++ s ≠ (u ++ r).set i d := by
  intro e
  unfold farB at h
  rw [List.any_eq_true] at h
  obtain ⟨a, ha, h⟩ := h
  rw [List.mem_range] at ha
  rw [Bool.and_eq_true] at h
  have hau : a < u.length := by omega
  have hav : a < v.length := by omega
  have key : ∀ b, b < u.length → b < v.length → (u[b]? != v[b]?) = true → i = b := by
    intro b h1 h2 h3
    refine Decidable.byContradiction fun hne => ?_
    have := congrArg (fun l : List UInt8 => l[b]?) e
    simp only [List.getElem?_append_left h2] at this
    rw [List.getElem?_set_ne hne, List.getElem?_append_left h1] at this
    simp [this] at h3
  have h1 := key a hau hav h.1
  subst h1
  have hd : v[i]? = some d := by
    have := congrArg (fun l : List UInt8 => l[i]?) e
    simp only [List.getElem?_append_left hav] at this
    rw [this, List.getElem?_set_self hi]
  have hx : (u ++ r)[i] = u[i] := List.getElem_append_left hau
  rw [hx] at ho
  have h2 := oneB_of ho
  have h3 := h.2
  rw [Bool.or_eq_true] at h3
  rcases h3 with h3 | h3
  · have e1 : u.getD i 0 = u[i] := by simp [List.getD, List.getElem?_eq_getElem hau]
    have e2 : v.getD i 0 = d := by simp [List.getD, hd]
    rw [e1, e2, h2] at h3
    cases h3
  · rw [List.any_eq_true] at h3
    obtain ⟨b, hb, h4⟩ := h3
    rw [List.mem_range] at hb
    rw [Bool.and_eq_true] at h4
    have := key b (by omega) (by omega) h4.2
    simp [this] at h4
def flagsL : List Nat := [0, 2, 32, 34, 128, 130, 160, 162, 256, 258, 288, 290]
set_option maxRecDepth 100000 in
theorem flags_in : ∀ f, f < 419 → flagsB f = true → f ∈ flagsL := by decide
theorem flags_mem {f : Nat} (h : flagsB f = true) : f ∈ flagsL := by
  refine flags_in f ?_ h
  unfold flagsB at h
  rw [decide_eq_true_eq] at h
  omega
def hdT (f : Nat) : List UInt8 := if f = 0 then [0] else if f = 2 then [2] else if f < 256 then [24, UInt8.ofNat f] else [25, 1, UInt8.ofNat (f - 256)]
theorem hd_of : ∀ f ∈ flagsL, headB 0 (f : Nat) = hdT f := by
  intro f hf
  simp only [flagsL, List.mem_cons, List.not_mem_nil, or_false] at hf
  rcases hf with rfl | rfl | rfl | rfl | rfl | rfl | rfl | rfl | rfl | rfl | rfl | rfl <;> rfl
theorem far_kinds : ∀ f ∈ flagsL, ∀ g ∈ flagsL, farB (137 :: 7 :: (hdT f ++ [1])) (137 :: 7 :: (hdT g ++ [2])) = true ∧ farB (137 :: 7 :: (hdT f ++ [2])) (137 :: 7 :: (hdT g ++ [1])) = true := by decide
/-- What follows the first three items. -/
theorem pr_bytes {p : Pr} (hp : okPr p = true) : ∃ r, bytesL (prL p) = 7 :: (hdT p.flags ++ (UInt8.ofNat p.sum.toNat :: r)) := by
  obtain ⟨hf, hs, _⟩ := okPr_parts hp
  refine ⟨bytesL [epI p.toN p.toS, epI p.srN p.srS, epI p.rpN p.rpS, lI [uI p.time, uI p.seq], uI p.life], ?_⟩
  have h7 : headB 0 (7 : Nat) = [7] := rfl
  have hk : headB 0 (p.sum.toNat : Nat) = [UInt8.ofNat p.sum.toNat] := by
    rcases (show p.sum.toNat = 0 ∨ p.sum.toNat = 1 ∨ p.sum.toNat = 2 by omega) with e | e | e <;> rw [e] <;> rfl
  have e : bytesL (prL p) = headB 0 (7 : Nat) ++ (headB 0 (p.flags : Nat) ++ (headB 0 (p.sum.toNat : Nat) ++ bytesL [epI p.toN p.toS, epI p.srN p.srS, epI p.rpN p.rpS, lI [uI p.time, uI p.seq], uI p.life])) := by
    unfold prL
    rw [bytesL, bytesL, bytesL, bytes_u, bytes_u, bytes_u]
  rw [e, h7, hk, hd_of _ (flags_mem hf)]
  rfl
theorem prL_len (p : Pr) : (prL p).length = 8 := rfl
theorem set_cons_ne {a b : UInt8} {l m : List UInt8} {i : Nat} {d : UInt8} (hab : a ≠ b) (h : b :: m = (a :: l).set i d) : m = l := by
  cases i with
  | zero => simp only [List.set_cons_zero, List.cons.injEq] at h; exact h.2
  | succ i => simp only [List.set_cons_succ, List.cons.injEq] at h; exact absurd h.1.symm hab
theorem hdT_inj : ∀ f ∈ flagsL, ∀ g ∈ flagsL, ∀ (a b : UInt8) (r s : List UInt8), hdT f ++ a :: r = hdT g ++ b :: s → f = g ∧ a = b := by
  intro f hf g hg a b r s h
  rw [← hd_of f hf, ← hd_of g hg] at h
  have lt : ∀ x ∈ flagsL, x < 18446744073709551616 := by decide
  obtain ⟨h1, h2⟩ := head_uni (lt f hf) (lt g hg) h
  exact ⟨h1, (List.cons.inj h2).1⟩
theorem enc_flip {p q : Pr} (hp : okPr p = true) (hq : okPr q = true) (hs : p.sum ≠ 0) (i : Nat) (d : UInt8) (hi : i < (encPr p).length) (ho : Sum.OneBit ((encPr p)[i]).toNat d.toNat) : encPr q ≠ (encPr p).set i d := by
  obtain ⟨fp, sp, _⟩ := okPr_parts hp
  obtain ⟨fq, sq, _⟩ := okPr_parts hq
  by_cases hk : q.sum.toNat = p.sum.toNat
  · unfold encPr at *
    rw [hk]
    exact same_kind (by omega) _ _ i d hi ho
  · obtain ⟨rp, ep⟩ := pr_bytes hp
    obtain ⟨rq, eq⟩ := pr_bytes hq
    have h9 : headB 4 (((prL p).length + 1 : Nat) : Int) = [137] := rfl
    have h9q : headB 4 (((prL q).length + 1 : Nat) : Int) = [137] := rfl
    have h8 : headB 4 ((prL q).length : Int) = [136] := rfl
    have e1 : ∃ r, encPr p = 137 :: 7 :: (hdT p.flags ++ UInt8.ofNat p.sum.toNat :: r) := by
      unfold encPr
      rw [seal_bytes (by omega)]
      unfold aheadB
      rw [h9, ep]
      simp only [List.cons_append, List.nil_append, List.append_assoc]
      exact ⟨_, rfl⟩
    obtain ⟨r1, e1⟩ := e1
    by_cases h0 : q.sum.toNat = 0
    · have e2 : encPr q = 136 :: 7 :: (hdT q.flags ++ UInt8.ofNat q.sum.toNat :: rq) := by
        unfold encPr sealIt
        rw [if_pos h0, bytes_l, h8, eq]; rfl
      intro h
      rw [e1, e2] at h
      have := set_cons_ne (by decide) h
      have h3 := (hdT_inj _ (flags_mem fq) _ (flags_mem fp) _ _ _ _ (List.cons.inj this).2).2
      have h4 := congrArg UInt8.toNat h3
      simp only [UInt8.toNat_ofNat'] at h4
      omega
    · have e2 : ∃ r, encPr q = 137 :: 7 :: (hdT q.flags ++ UInt8.ofNat q.sum.toNat :: r) := by
        unfold encPr
        rw [seal_bytes (by omega)]
        unfold aheadB
        rw [h9q, eq]
        simp only [List.cons_append, List.nil_append, List.append_assoc]
        exact ⟨_, rfl⟩
      obtain ⟨r2, e2⟩ := e2
      have hfar := far_kinds _ (flags_mem fp) _ (flags_mem fq)
      have a1 : ∀ (f : List UInt8) (k : UInt8) (r : List UInt8), 137 :: 7 :: (f ++ k :: r) = (137 :: 7 :: (f ++ [k])) ++ r := fun f k r => by simp
      rw [a1] at e1 e2
      have hfar2 : farB (137 :: 7 :: (hdT p.flags ++ [UInt8.ofNat p.sum.toNat])) (137 :: 7 :: (hdT q.flags ++ [UInt8.ofNat q.sum.toNat])) = true := by
        rcases (show p.sum.toNat = 1 ∧ q.sum.toNat = 2 ∨ p.sum.toNat = 2 ∧ q.sum.toNat = 1 by omega) with ⟨x, y⟩ | ⟨x, y⟩
        · rw [x, y]; exact hfar.1
        · rw [x, y]; exact hfar.2
      generalize encPr p = P at *
      generalize encPr q = Q at *
      subst e1 e2
      exact far_no hfar2 i d hi ho
/-- With a sum, one bit that is another one is told. -/
theorem dec_flip {p : Pr} (hp : okPr p = true) (hs : p.sum ≠ 0) (i : Nat) (d : UInt8) (hi : i < (encPr p).length) (ho : Sum.OneBit ((encPr p)[i]).toNat d.toNat) : ∃ e, decPr ((encPr p).set i d) = .error e := by
  cases h : decPr ((encPr p).set i d) with
  | error e => exact ⟨e, rfl⟩
  | ok q =>
    have := enc_dec h
    exact absurd this.1 (enc_flip hp this.2.1 hs i d hi ho)
end Prm
end Go.Proofs.YtpkonagjnfphkaaGreatDoor

namespace Go.Proofs.YtpkonagjnfphkaaGreatDoor
open Go.RowKit Trc
set_option linter.unusedVariables false
theorem pr_nat32 {a : Int} (h : (Lit.int .u32 a).wf = true) : ∃ k : Nat, a = k ∧ k < 4294967296 := by
  simp [Lit.wf, IntKind.min, IntKind.max, IntKind.signed, IntKind.bits] at h
  exact ⟨a.toNat, by omega, by omega⟩
theorem pr_nat64 {a : Int} (h : (Lit.int .u64 a).wf = true) : ∃ k : Nat, a = k ∧ k < 18446744073709551616 := by
  simp [Lit.wf, IntKind.min, IntKind.max, IntKind.signed, IntKind.bits] at h
  exact ⟨a.toNat, by omega, by omega⟩
theorem pr_int {a : Int} (h : (Lit.int .i64 a).wf = true) : -9223372036854775808 ≤ a ∧ a ≤ 9223372036854775807 := by
  simp [Lit.wf, IntKind.min, IntKind.max, IntKind.signed, IntKind.bits] at h
  omega
theorem pr_of (a0 : Int) (h0 : (Lit.int .u32 a0).wf = true) (a1 : Int) (h1 : (Lit.int .i64 a1).wf = true) (a2 : Int) (h2 : (Lit.int .u32 a2).wf = true) (a3 : Int) (h3 : (Lit.int .u32 a3).wf = true) (a4 : Int) (h4 : (Lit.int .u32 a4).wf = true) (a5 : Int) (h5 : (Lit.int .u32 a5).wf = true) (a6 : Int) (h6 : (Lit.int .u32 a6).wf = true) (a7 : Int) (h7 : (Lit.int .u32 a7).wf = true) (a8 : Int) (h8 : (Lit.int .u64 a8).wf = true) (a9 : Int) (h9 : (Lit.int .u32 a9).wf = true) (a10 : Int) (h10 : (Lit.int .u64 a10).wf = true) :
    ∃ p : Prm.Pr, p.Ok ∧ (.agg #[.int .u32 a0, .int .i64 a1, .int .u32 a2, .int .u32 a3, .int .u32 a4, .int .u32 a5, .int .u32 a6, .int .u32 a7, .int .u64 a8, .int .u32 a9, .int .u64 a10] : Value) = prV p := by
  obtain ⟨k0, rfl, b0⟩ := pr_nat32 h0
  obtain ⟨b1, b1'⟩ := pr_int h1
  obtain ⟨k2, rfl, b2⟩ := pr_nat32 h2
  obtain ⟨k3, rfl, b3⟩ := pr_nat32 h3
  obtain ⟨k4, rfl, b4⟩ := pr_nat32 h4
  obtain ⟨k5, rfl, b5⟩ := pr_nat32 h5
  obtain ⟨k6, rfl, b6⟩ := pr_nat32 h6
  obtain ⟨k7, rfl, b7⟩ := pr_nat32 h7
  obtain ⟨k8, rfl, b8⟩ := pr_nat64 h8
  obtain ⟨k9, rfl, b9⟩ := pr_nat32 h9
  obtain ⟨k10, rfl, b10⟩ := pr_nat64 h10
  exact ⟨⟨k0, a1, k2, k3, k4, k5, k6, k7, k8, k9, k10⟩, ⟨b0, b1, b1', b2, b3, b4, b5, b6, b7, b8, b9, b10⟩, rfl⟩
end Go.Proofs.YtpkonagjnfphkaaGreatDoor
