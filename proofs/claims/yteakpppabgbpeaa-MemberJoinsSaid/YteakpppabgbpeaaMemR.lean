/-
  The contract of is.
-/
import Derived.Test.YteakpppabgbpeaaMemP
import Derived.Test.YteakpppabgbpeaaMemQ
import Derived.Test.YteakpppabgbpeaaPtM
namespace Go.Proofs.Yteakpppabgbpeaa
open Go.RowKit Mem
set_option linter.unusedSimpArgs false
set_option linter.unusedVariables false
attribute [local go_sem] Oper.semAt_some

/-- What is has at hand. -/
structure IsW (w w1 : World) (B M : Nat) (E L : List Mb) (u : Value) (many : Int) (m : Mb) : Prop where
  below : Below w.heap.size w w1
  p : RowAt w1 w.heap.size #[u] 40
  c : RowAt w1 (w.heap.size + 1) (mbC m).toArray 24
  m : RowAt w1 (w.heap.size + 1 + 1) #[.int .i64 many] 3
  r : RowAt w1 (w.heap.size + 1 + 1 + 1) #[.bool false] 4
  roll : RollAt w1 B M E
  want : Sl w1 4 u L.length (L.flatMap mbC)
theorem IsW.up {w w1 w2 : World} {B M : Nat} {E L : List Mb} {u : Value} {many : Int} {m : Mb} (h : IsW w w1 B M E L u many m) (hb : Below w1.heap.size w1 w2) : IsW w w2 B M E L u many m :=
  ⟨below_up h.below hb, h.p.below hb, h.c.below hb, h.m.below hb, h.r.below hb, h.roll.below hb, h.want.up hb⟩
theorem IsW.start {w : World} {B M : Nat} {E L : List Mb} {u : Value} (many : Int) (m : Mb) (h : RollAt w B M E) (hu : Sl w 4 u L.length (L.flatMap mbC)) : IsW w ((((w.alloc (.cells #[u] 40)).alloc (.cells (mbC m).toArray 24)).alloc (.cells #[.int .i64 many] 3)).alloc (.cells #[.bool false] 4)) B M E L u many m := by
  have hB4 : Below w.heap.size w ((((w.alloc (.cells #[u] 40)).alloc (.cells (mbC m).toArray 24)).alloc (.cells #[.int .i64 many] 3)).alloc (.cells #[.bool false] 4)) := (((below_alloc w _).alloc (by simp) _).alloc (by simp; omega) _).alloc (by simp; omega) _
  have h2 := RowAt.new (w.alloc (.cells #[u] 40)) (mbC m).toArray 24
  rw [World.size_alloc] at h2
  have h3 := RowAt.new ((w.alloc (.cells #[u] 40)).alloc (.cells (mbC m).toArray 24)) #[.int .i64 many] 3
  rw [World.size_alloc, World.size_alloc] at h3
  have h4 := RowAt.new (((w.alloc (.cells #[u] 40)).alloc (.cells (mbC m).toArray 24)).alloc (.cells #[.int .i64 many] 3)) #[.bool false] 4
  rw [World.size_alloc, World.size_alloc, World.size_alloc] at h4
  exact ⟨hB4, (((RowAt.new w _ _).below (below_alloc _ _)).below (below_alloc _ _)).below (below_alloc _ _), (h2.below (below_alloc _ _)).below (below_alloc _ _), h3.below (below_alloc _ _), h4, h.below hB4, hu.up hB4⟩
theorem marks_up {Ds : List Nat} {w w' : World} (h : ∀ D ∈ Ds, w.heap[D]? = some (.deferred (some []))) (hb : Below w.heap.size w w') : ∀ D ∈ Ds, w'.heap[D]? = some (.deferred (some [])) :=
  fun D hD => (hb.block D (Array.getElem?_eq_some_iff.1 (h D hD)).1).trans (h D hD)
theorem exec_mbneq {ρ : Operand → Value} {o : Oper} {x y : Operand} {t : TypeId} (ho : o.op = .binOp .neq 24 x y t) {e : Mb} (hx : ρ x = mbV e) (hy : ρ y = mbV e) (w : World) :
    (execOp ρ o).run Try.prog w = .ok (.value (.bool false)) w := by
  unfold execOp
  simp only [ho, hx, hy]
  have := mb_neql e e w
  simp only [decide_true, Bool.not_true] at this
  simp [go_sem, this]

set_option maxHeartbeats 16000000 in
set_option maxRecDepth 100000 in
theorem is_c {B M : Nat} {E L : List Mb} {u : Value} (many : Int) (m : Mb) (w : World) (h : RollAt w B M E) (hs : SrtOf E L) (hu : Sl w 4 u L.length (L.flatMap mbC)) (hm : m.Wf) (hL : L.length ≤ 100000) :
    Calls Try.prog 19 #[.pointer (some ⟨B, 0, none⟩), .agg #[u], mbV m, .int .i64 many] w (Ret (.bool true) w) := by
  have HK := Lib.hid h.keys
  have HS := Lib.hid hs
  have hEl : E.length ≤ 100000 := by rw [← hs.len]; exact hL
  have HE := Lib.hid hEl
  obtain ⟨au, cu, rfl⟩ := hu.len
  have V4 := IsW.start many m h hu
  refine (callsIn_wide (n := 3)).1 ?_
  refine callsIn_of_wp_marks Try.func19 rfl trivial ?_ rfl
  simp only [Try.ntmps19, List.size_toArray, List.length_cons, List.length_nil, Nat.reduceAdd, Nat.reduceSub, Array.replicate_succ, Array.replicate_zero, List.push_toArray, List.append_toArray, List.nil_append, List.cons_append]
  have he : ∀ (f : FuncId) (caps : Array Value) (w : World), (binOp BinOp.eql 67 (.func (.func f) #[] caps) .nilFunc).run Try.prog w = .ok (.bool false) w := fun _ _ _ => by kernel_rfl
  refine wpIn_wide.2 ?_
  go_wp2_with (go_at_call 34; refine (rAllIt_c _ V4.roll HS.out HE.out).mono ?_; rintro en w1 ⟨C, v, rfl, hov, hC0, hC1, hvk, hb1⟩)
  have V := V4.up hb1
  have hz1 := hb1.size
  simp only [World.size_alloc] at hz1
  obtain ⟨wr, hwr⟩ : ∃ wr, w1 = wr := ⟨_, rfl⟩
  subst hwr
  have HV := Lib.hid V
  have HO := Lib.hid hov
  clear V4 V hov hC0 hb1 hs hEl h hu
  refine wp_loop_ghost_k (fun m9 a' W => ∃ (tn T : Nat) (Ds : List Nat), tn ≤ 2 ∧ m9 = 2 - tn ∧ a' = { tmps := #[.pointer (some ⟨B, 0, none⟩), .agg #[.slice au L.length cu], mbV m, .int .i64 many, a'.tmps.getD 4 undef, .pointer (some ⟨w.heap.size, 0, none⟩), .pointer (some ⟨w.heap.size + 1, 0, none⟩), .pointer (some ⟨w.heap.size + 1 + 1, 0, none⟩), .pointer (some ⟨w.heap.size + 1 + 1 + 1, 0, none⟩), .func (.func 61) #[] #[.pointer (some ⟨C, 0, none⟩)], .pointer (some ⟨T, 0, none⟩), a'.tmps.getD 11 undef, a'.tmps.getD 12 undef, a'.tmps.getD 13 undef, a'.tmps.getD 14 undef, a'.tmps.getD 15 undef, a'.tmps.getD 16 undef, a'.tmps.getD 17 undef, a'.tmps.getD 18 undef, a'.tmps.getD 19 undef, a'.tmps.getD 20 undef, a'.tmps.getD 21 undef, a'.tmps.getD 22 undef, a'.tmps.getD 23 undef, a'.tmps.getD 24 undef, a'.tmps.getD 25 undef, a'.tmps.getD 26 undef, a'.tmps.getD 27 undef, a'.tmps.getD 28 undef, a'.tmps.getD 29 undef, a'.tmps.getD 30 undef, a'.tmps.getD 31 undef, a'.tmps.getD 32 undef, a'.tmps.getD 33 undef, a'.tmps.getD 34 undef, a'.tmps.getD 35 undef, a'.tmps.getD 36 undef, a'.tmps.getD 37 undef, a'.tmps.getD 38 undef, a'.tmps.getD 39 undef, a'.tmps.getD 40 undef, a'.tmps.getD 41 undef, a'.tmps.getD 42 undef, a'.tmps.getD 43 undef, a'.tmps.getD 44 undef, a'.tmps.getD 45 undef, a'.tmps.getD 46 undef, a'.tmps.getD 47 undef, a'.tmps.getD 48 undef, a'.tmps.getD 49 undef, a'.tmps.getD 50 undef, a'.tmps.getD 51 undef, a'.tmps.getD 52 undef, a'.tmps.getD 53 undef, a'.tmps.getD 54 undef, a'.tmps.getD 55 undef, a'.tmps.getD 56 undef, a'.tmps.getD 57 undef, a'.tmps.getD 58 undef, a'.tmps.getD 59 undef, a'.tmps.getD 60 undef, a'.tmps.getD 61 undef, a'.tmps.getD 62 undef, a'.tmps.getD 63 undef, a'.tmps.getD 64 undef, a'.tmps.getD 65 undef, a'.tmps.getD 66 undef, a'.tmps.getD 67 undef, a'.tmps.getD 68 undef, a'.tmps.getD 69 undef, a'.tmps.getD 70 undef, a'.tmps.getD 71 undef, a'.tmps.getD 72 undef, a'.tmps.getD 73 undef, a'.tmps.getD 74 undef, a'.tmps.getD 75 undef, a'.tmps.getD 76 undef, a'.tmps.getD 77 undef, a'.tmps.getD 78 undef, a'.tmps.getD 79 undef, a'.tmps.getD 80 undef, a'.tmps.getD 81 undef, a'.tmps.getD 82 undef, a'.tmps.getD 83 undef, a'.tmps.getD 84 undef, a'.tmps.getD 85 undef, a'.tmps.getD 86 undef, a'.tmps.getD 87 undef, a'.tmps.getD 88 undef, a'.tmps.getD 89 undef, a'.tmps.getD 90 undef, a'.tmps.getD 91 undef, a'.tmps.getD 92 undef, a'.tmps.getD 93 undef, a'.tmps.getD 94 undef, a'.tmps.getD 95 undef, a'.tmps.getD 96 undef, a'.tmps.getD 97 undef, a'.tmps.getD 98 undef, a'.tmps.getD 99 undef, a'.tmps.getD 100 undef, a'.tmps.getD 101 undef, a'.tmps.getD 102 undef, a'.tmps.getD 103 undef, a'.tmps.getD 104 undef, a'.tmps.getD 105 undef, a'.tmps.getD 106 undef, a'.tmps.getD 107 undef, a'.tmps.getD 108 undef, a'.tmps.getD 109 undef, a'.tmps.getD 110 undef, a'.tmps.getD 111 undef, a'.tmps.getD 112 undef, a'.tmps.getD 113 undef, a'.tmps.getD 114 undef, a'.tmps.getD 115 undef, a'.tmps.getD 116 undef, a'.tmps.getD 117 undef, a'.tmps.getD 118 undef, a'.tmps.getD 119 undef, a'.tmps.getD 120 undef, a'.tmps.getD 121 undef, a'.tmps.getD 122 undef, a'.tmps.getD 123 undef, a'.tmps.getD 124 undef, a'.tmps.getD 125 undef, a'.tmps.getD 126 undef, a'.tmps.getD 127 undef, a'.tmps.getD 128 undef, a'.tmps.getD 129 undef, a'.tmps.getD 130 undef, a'.tmps.getD 131 undef, a'.tmps.getD 132 undef, a'.tmps.getD 133 undef, a'.tmps.getD 134 undef, a'.tmps.getD 135 undef, a'.tmps.getD 136 undef, a'.tmps.getD 137 undef, a'.tmps.getD 138 undef, a'.tmps.getD 139 undef, a'.tmps.getD 140 undef, a'.tmps.getD 141 undef, a'.tmps.getD 142 undef, a'.tmps.getD 143 undef, a'.tmps.getD 144 undef, a'.tmps.getD 145 undef, a'.tmps.getD 146 undef, a'.tmps.getD 147 undef, a'.tmps.getD 148 undef, a'.tmps.getD 149 undef, a'.tmps.getD 150 undef, a'.tmps.getD 151 undef, a'.tmps.getD 152 undef, a'.tmps.getD 153 undef, a'.tmps.getD 154 undef, a'.tmps.getD 155 undef, a'.tmps.getD 156 undef, a'.tmps.getD 157 undef, a'.tmps.getD 158 undef, a'.tmps.getD 159 undef, a'.tmps.getD 160 undef, a'.tmps.getD 161 undef, a'.tmps.getD 162 undef, a'.tmps.getD 163 undef, a'.tmps.getD 164 undef, a'.tmps.getD 165 undef, a'.tmps.getD 166 undef, a'.tmps.getD 167 undef, a'.tmps.getD 168 undef, a'.tmps.getD 169 undef, a'.tmps.getD 170 undef, a'.tmps.getD 171 undef], defers := Ds.map markD } ∧ TuI w1 T tn Ds W) 2 ?start ?round
  case start =>
    exact ⟨0, w1.heap.size, [], by omega, rfl, rfl, TuI.start w1⟩
  case round =>
    intro m9 a' W hinv J K hJ hK
    obtain ⟨tn, T, Ds, htn, hm9, ha, hI⟩ := hinv
    obtain ⟨u, hu⟩ : ∃ u : Nat → Value, ∀ i, a'.tmps.getD i undef = u i := ⟨_, fun _ => rfl⟩
    simp only [hu] at ha
    clear hu
    subst ha hm9
    have HJ := Lib.hid hJ
    clear hJ
    have HW := Lib.hid (HV.out.up hI.below)
    have HA2 := Lib.hid (HO.out.up hI.below)
    have HI := Lib.hid hI
    have hT := hI.turn.cell (i := 0) rfl
    have fT := hI.turn.fz 0
    have hTl := hI.turn.lt
    have hT0 := hI.low
    have hWs := hI.below.size
    clear hI
    rcases (show tn = 0 ∨ tn = 1 ∨ tn = 2 by omega) with rfl | rfl | rfl
    · replace hT : W.cell? ⟨T, 0, none⟩ = some (.int .i64 0) := hT
      replace HI := Lib.hid (show TuI w1 T 0 Ds W from HI.out)
      go_wp2
      have hbA := below_alloc W (.cells #[.int .i64 0] 3)
      have hA2 := HA2.out.up hbA
      refine wpIn_wide.1 (wp_range (n := 3) (S := fun q => q = C ∨ v.ownBlock = some q) (gf := 61) (lb := #[.pointer (some ⟨C, 0, none⟩)]) rfl enters_overM
        (overM_x L C L.length v _ _ hA2 ⟨.inl rfl, .inr fun k hk => .inr hk⟩) (Below.refl _ _) (fun _ => rfl)
        (fun q => q = W.heap.size) (fun k h => by simp only [World.size_alloc]; omega) ?hS
        (fun k G W3 => CtR W k G W3 ∧ (k = 0 ∨ (k : Int) < many))
        (fun k a' G W3 => (∃ VB, a' = { tmps := #[.pointer (some ⟨B, 0, none⟩), .agg #[.slice au L.length cu], mbV m, .int .i64 many, u 4, .pointer (some ⟨w.heap.size, 0, none⟩), .pointer (some ⟨w.heap.size + 1, 0, none⟩), .pointer (some ⟨w.heap.size + 1 + 1, 0, none⟩), .pointer (some ⟨w.heap.size + 1 + 1 + 1, 0, none⟩), .func (.func 61) #[] #[.pointer (some ⟨C, 0, none⟩)], .pointer (some ⟨T, 0, none⟩), .pointer (some ⟨W.heap.size, 0, none⟩), .pointer (some ⟨VB, 0, none⟩), u 13, u 14, u 15, u 16, u 17, u 18, .int .i64 0, .bool true, u 21, u 22, .func (.func 61) #[] #[.pointer (some ⟨C, 0, none⟩)], .bool false, .func (.func 61) #[] #[.pointer (some ⟨C, 0, none⟩)], mbV (mbAt L k), u 27, u 28, u 29, u 30, u 31, u 32, u 33, u 34, u 35, u 36, u 37, u 38, u 39, u 40, u 41, u 42, u 43, u 44, u 45, u 46, u 47, u 48, u 49, u 50, u 51, u 52, u 53, u 54, u 55, u 56, u 57, u 58, u 59, u 60, u 61, u 62, u 63, u 64, u 65, u 66, u 67, u 68, u 69, u 70, u 71, u 72, u 73, u 74, u 75, u 76, u 77, u 78, u 79, u 80, u 81, u 82, u 83, u 84, u 85, u 86, u 87, u 88, u 89, u 90, u 91, u 92, u 93, u 94, u 95, u 96, u 97, u 98, u 99, u 100, u 101, u 102, u 103, u 104, u 105, u 106, u 107, u 108, u 109, u 110, u 111, u 112, u 113, u 114, u 115, u 116, u 117, u 118, u 119, u 120, u 121, u 122, u 123, u 124, u 125, u 126, u 127, u 128, u 129, u 130, u 131, u 132, u 133, u 134, u 135, u 136, u 137, u 138, u 139, u 140, u 141, u 142, u 143, u 144, u 145, u 146, u 147, u 148, u 149, u 150, u 151, u 152, u 153, u 154, u 155, u 156, u 157, u 158, u 159, u 160, u 161, u 162, u 163, u 164, u 165, u 166, u 167, u 168, u 169, u 170, u 171], defers := [] } ∧ RowAt W3 VB (mbC (mbAt L k)).toArray 24 ∧ G VB) ∧ CtR W k G W3 ∧ (k = 0 ∨ (k : Int) < many))
        (fun c k G W3 => c = .exit 2 ∧ CtR W k G W3 ∧ many ≤ k ∧ (k = 1 ∨ (k : Int) - 1 < many))
        ?abI ?abM ?abX ?h0 ?assign ?body ?done ?stop)
      case hS =>
        rintro q (rfl | hq)
        · exact ⟨by simp only [World.size_alloc]; omega, by omega⟩
        · have := hvk q hq; exact ⟨by simp only [World.size_alloc]; omega, by omega⟩
      case abI => exact fun k G A B h hb => ⟨CtR.abide (by simp only [World.size_alloc]; omega) G A B h.1 hb, h.2⟩
      case abM =>
        rintro k a' G A B ⟨⟨VB, ha, hV, hG⟩, h⟩ hb
        exact ⟨⟨VB, ha, (hb.same VB hV.lt (fun e => e.2 hG)).trans hV, hG⟩, ⟨CtR.abide (by simp only [World.size_alloc]; omega) G A B h.1 hb, h.2⟩⟩
      case abX => exact fun c k G A B h hb => ⟨h.1, CtR.abide (by simp only [World.size_alloc]; omega) G A B h.2.1 hb, h.2.2⟩
      case h0 => exact ⟨CtR.start W, .inl rfl⟩
      case assign =>
        intro l2 k G W3 K3 hk hi hK3
        gi_wp2
        refine hK3 _ _ (But.alloc _ _) ⟨⟨_, rfl, RowAt.new _ _ _, .inr ⟨Nat.le_refl _, by simp⟩⟩, ?_⟩
        exact ⟨CtR.alloc hi.1 _, hi.2⟩
      case body =>
        rintro l2 k a' G W3 hk hl2 _ hGl ⟨⟨VB, rfl, hVB0, hGV⟩, hi⟩
        have hR := hi.1
        have V3 := HW.out.up hR.below
        obtain ⟨b, off, rfl, hr⟩ := V3.want.rec_at (cells := mbC) (sz := 4) (fun _ => rfl) hk hk
        have Hstep := Lib.hid hR.step
        simp only [mbAt_get hk] at hVB0 ⊢
        have hle2 : ¬ L.length ≤ k := by omega
        have hk2 : (k : Int) ≤ 100000 := by omega
        have hkl : (k : Int) < (L.length : Int) := by omega
        have hkl2 : ¬ (L.length : Int) ≤ (k : Int) := by omega
        generalize L[k] = e at *
        have hVB : RowAt W3.drew VB (mbC e).toArray 24 := hVB0
        have hr3 : W3.drew.rangeAt b (off + k * 4) (mbC e) := hr
        have p3 : W3.cell? ⟨w.heap.size, 0, none⟩ = some (.slice (some ⟨b, off, none⟩) L.length cu) := V3.p.cell (i := 0) rfl
        have m3 : W3.cell? ⟨w.heap.size + 1 + 1, 0, none⟩ = some (.int .i64 many) := V3.m.cell (i := 0) rfl
        have t3 : W3.cell? ⟨T, 0, none⟩ = some (.int .i64 0) := (HI.out.up hR.below).turn.cell (i := 0) rfl
        have a1 : W3.cell? ⟨W.heap.size, 0, none⟩ = some (.int .i64 k) := hR.cnt.cell (i := 0) rfl
        have f1 := hR.cnt.fz 0
        have hTK : ¬ T = W.heap.size := by omega
        have hKT : ¬ W.heap.size = T := by omega
        have hw5 : ¬ w.heap.size + 1 + 1 = W.heap.size := by omega
        have hw6 : ¬ W.heap.size = w.heap.size + 1 + 1 := by omega
        clear hR V3 hr hVB0
        by_cases hmm : many ≤ (k : Int) + 1
        · gi_wp2
          refine wpIn_round_tail 13 mixes (by kernel_rfl) (by kernel_rfl) ?_
          simp only [List.take_succ_cons, List.take_zero, List.drop_succ_cons, List.drop_zero]
          still_step
          still_step
          still_step
          still_step
          still_step
          still_step
          still_step
          still_step
          still_step
          still_step
          refine still_load rfl 24 (.tmp 36) rfl b (off + k * 4) rfl (mbC e) _ hr3 Try.underlying24 rfl (by kernel_rfl) ?_
          try simp only [Act.put, List.getElem_toArray, List.getElem_cons_zero, List.getElem_cons_succ, List.setIfInBounds_toArray, List.set_cons_zero, List.set_cons_succ]
          refine still_load rfl 24 (.tmp 12) rfl VB 0 rfl (mbC e) _ hVB.range Try.underlying24 rfl (by kernel_rfl) ?_
          try simp only [Act.put, List.getElem_toArray, List.getElem_cons_zero, List.getElem_cons_succ, List.setIfInBounds_toArray, List.set_cons_zero, List.set_cons_succ]
          refine still_val rfl (exec_mbneq (e := e) rfl rfl rfl _) ?_
          try simp only [Act.put, List.getElem_toArray, List.getElem_cons_zero, List.getElem_cons_succ, List.setIfInBounds_toArray, List.set_cons_zero, List.set_cons_succ]
          refine wpStill_nil ?_
          gi_wp2
          exact ⟨Hstep.out.1, rfl, Hstep.out.2, by simpa using hmm, by rcases hi.2 with h | h; exact .inl (by omega); exact .inr (by simp; omega)⟩
        · gi_wp2
          refine wpIn_round_tail 13 mixes (by kernel_rfl) (by kernel_rfl) ?_
          simp only [List.take_succ_cons, List.take_zero, List.drop_succ_cons, List.drop_zero]
          still_step
          still_step
          still_step
          still_step
          still_step
          still_step
          still_step
          still_step
          still_step
          still_step
          refine still_load rfl 24 (.tmp 36) rfl b (off + k * 4) rfl (mbC e) _ hr3 Try.underlying24 rfl (by kernel_rfl) ?_
          try simp only [Act.put, List.getElem_toArray, List.getElem_cons_zero, List.getElem_cons_succ, List.setIfInBounds_toArray, List.set_cons_zero, List.set_cons_succ]
          refine still_load rfl 24 (.tmp 12) rfl VB 0 rfl (mbC e) _ hVB.range Try.underlying24 rfl (by kernel_rfl) ?_
          try simp only [Act.put, List.getElem_toArray, List.getElem_cons_zero, List.getElem_cons_succ, List.setIfInBounds_toArray, List.set_cons_zero, List.set_cons_succ]
          refine still_val rfl (exec_mbneq (e := e) rfl rfl rfl _) ?_
          try simp only [Act.put, List.getElem_toArray, List.getElem_cons_zero, List.getElem_cons_succ, List.setIfInBounds_toArray, List.set_cons_zero, List.set_cons_succ]
          refine wpStill_nil ?_
          gi_wp2
          exact ⟨Hstep.out.1, Hstep.out.2, .inr (by simp; omega)⟩
      case done =>
        rintro D G W3 hD hGD hi hKD
        have hR := hi.1
        have V3 := HW.out.up hR.below
        have p3 : W3.cell? ⟨w.heap.size, 0, none⟩ = some (.slice au L.length cu) := V3.p.cell (i := 0) rfl
        have m3 : W3.cell? ⟨w.heap.size + 1 + 1, 0, none⟩ = some (.int .i64 many) := V3.m.cell (i := 0) rfl
        have t3 : W3.cell? ⟨T, 0, none⟩ = some (.int .i64 0) := (HI.out.up hR.below).turn.cell (i := 0) rfl
        have HN := Lib.hid (fun v => HI.out.next hR.below hKD (by simp only [World.size_alloc] at hD; omega) v)
        clear V3
        have a1 : W3.cell? ⟨W.heap.size, 0, none⟩ = some (.int .i64 (L.length : Nat)) := hR.cnt.cell (i := 0) rfl
        clear hR hKD
        have hA0 := hi.2
        clear hi
        generalize L.length = A at *
        by_cases h1m : 1 < many
        · have hmx := run_maxR h1m
          have hmn := run_minL (show ¬ many < (A : Int) by omega)
          clear hA0 h1m hL
          go_wp2
          refine Handed.intro 1 (by omega) (HJ.out _ _ _ ?_)
          exact ⟨1, W3.heap.size, D :: Ds, by omega, rfl, rfl, HN.out 1⟩
        · have hmx := run_maxL h1m
          have hmn := run_minL (show ¬ (1 : Int) < (A : Int) by omega)
          clear hA0 h1m hL
          go_wp2
          refine Handed.intro 1 (by omega) (HJ.out _ _ _ ?_)
          exact ⟨1, W3.heap.size, D :: Ds, by omega, rfl, rfl, HN.out 1⟩
      case stop =>
        rintro D c k G W3 hD hGD hk ⟨rfl, hR, hmk, hk0⟩ hKD
        refine wpIn_wide.2 ?_
        have V3 := HW.out.up hR.below
        have p3 : W3.cell? ⟨w.heap.size, 0, none⟩ = some (.slice au L.length cu) := V3.p.cell (i := 0) rfl
        have m3 : W3.cell? ⟨w.heap.size + 1 + 1, 0, none⟩ = some (.int .i64 many) := V3.m.cell (i := 0) rfl
        have t3 : W3.cell? ⟨T, 0, none⟩ = some (.int .i64 0) := (HI.out.up hR.below).turn.cell (i := 0) rfl
        have HN := Lib.hid (fun v => HI.out.next hR.below hKD (by simp only [World.size_alloc] at hD; omega) v)
        clear V3
        have a1 : W3.cell? ⟨W.heap.size, 0, none⟩ = some (.int .i64 ((k : Int) + 1)) := hR.cnt.cell (i := 0) rfl
        have hmk' : many ≤ (k : Int) + 1 := by simpa using hmk
        have hk0' : k = 0 ∨ (k : Int) < many := by rcases hk0 with h | h; exact .inl (by omega); exact .inr (by simp at h; omega)
        have hkA : ((k : Int) + 1) ≤ (L.length : Nat) := by omega
        clear hR hKD hmk hk0
        generalize L.length = A at *
        clear hk
        by_cases h1m : 1 < many
        · obtain rfl : many = (k : Int) + 1 := by omega
          clear hmk' hk0'
          have hmx := run_maxR h1m
          by_cases hAA : (k : Int) + 1 < (A : Int)
          · have hmn := run_minR hAA
            clear h1m hAA hkA hL
            go_wp2
            refine Handed.intro 1 (by omega) (HJ.out _ _ _ ?_)
            exact ⟨1, W3.heap.size, D :: Ds, by omega, rfl, rfl, HN.out 1⟩
          · obtain rfl : A = k + 1 := by omega
            have hmn := run_minL (show ¬ (k : Int) + 1 < (k : Int) + 1 by omega)
            clear h1m hAA hkA hL
            go_wp2
            refine Handed.intro 1 (by omega) (HJ.out _ _ _ ?_)
            exact ⟨1, W3.heap.size, D :: Ds, by omega, rfl, rfl, HN.out 1⟩
        · obtain rfl : k = 0 := by omega
          have hm1 : many ≤ 1 := by omega
          clear hmk' hk0'
          have hmx := run_maxL h1m
          by_cases hAA : (1 : Int) < (A : Int)
          · have hmn := run_minR hAA
            clear h1m hAA hkA hm1 hL
            go_wp2
            refine Handed.intro 1 (by omega) (HJ.out _ _ _ ?_)
            exact ⟨1, W3.heap.size, D :: Ds, by omega, rfl, rfl, HN.out 1⟩
          · obtain rfl : A = 1 := by omega
            have hmn := run_minL (show ¬ (1 : Int) < (1 : Int) by omega)
            clear h1m hAA hkA hm1 hL
            go_wp2
            refine Handed.intro 1 (by omega) (HJ.out _ _ _ ?_)
            exact ⟨1, W3.heap.size, D :: Ds, by omega, rfl, rfl, HN.out 1⟩
    · replace hT : W.cell? ⟨T, 0, none⟩ = some (.int .i64 1) := hT
      replace HI := Lib.hid (show TuI w1 T 1 Ds W from HI.out)
      go_wp2
      have hbA := below_alloc W (.cells #[.int .i64 0] 3)
      have hA2 := HA2.out.up hbA
      refine wpIn_wide.1 (wp_range (n := 3) (S := fun q => q = C ∨ v.ownBlock = some q) (gf := 61) (lb := #[.pointer (some ⟨C, 0, none⟩)]) rfl enters_overM
        (overM_x L C L.length v _ _ hA2 ⟨.inl rfl, .inr fun k hk => .inr hk⟩) (Below.refl _ _) (fun _ => rfl)
        (fun q => q = W.heap.size) (fun k h => by simp only [World.size_alloc]; omega) ?hS
        (fun k G W3 => CtR W k G W3)
        (fun k a' G W3 => (∃ VB, a' = { tmps := #[.pointer (some ⟨B, 0, none⟩), .agg #[.slice au L.length cu], mbV m, .int .i64 many, u 4, .pointer (some ⟨w.heap.size, 0, none⟩), .pointer (some ⟨w.heap.size + 1, 0, none⟩), .pointer (some ⟨w.heap.size + 1 + 1, 0, none⟩), .pointer (some ⟨w.heap.size + 1 + 1 + 1, 0, none⟩), .func (.func 61) #[] #[.pointer (some ⟨C, 0, none⟩)], .pointer (some ⟨T, 0, none⟩), .pointer (some ⟨W.heap.size, 0, none⟩), .pointer (some ⟨VB, 0, none⟩), u 13, u 14, u 15, u 16, u 17, u 18, .int .i64 1, .bool true, u 21, u 22, .func (.func 61) #[] #[.pointer (some ⟨C, 0, none⟩)], .bool false, .func (.func 61) #[] #[.pointer (some ⟨C, 0, none⟩)], mbV (mbAt L k), u 27, u 28, u 29, u 30, u 31, u 32, u 33, u 34, u 35, u 36, u 37, u 38, u 39, u 40, u 41, u 42, u 43, u 44, u 45, u 46, u 47, u 48, u 49, u 50, u 51, u 52, u 53, u 54, u 55, u 56, u 57, u 58, u 59, u 60, u 61, u 62, u 63, u 64, u 65, u 66, u 67, u 68, u 69, u 70, u 71, u 72, u 73, u 74, u 75, u 76, u 77, u 78, u 79, u 80, u 81, u 82, u 83, u 84, u 85, u 86, u 87, u 88, u 89, u 90, u 91, u 92, u 93, u 94, u 95, u 96, u 97, u 98, u 99, u 100, u 101, u 102, u 103, u 104, u 105, u 106, u 107, u 108, u 109, u 110, u 111, u 112, u 113, u 114, u 115, u 116, u 117, u 118, u 119, u 120, u 121, u 122, u 123, u 124, u 125, u 126, u 127, u 128, u 129, u 130, u 131, u 132, u 133, u 134, u 135, u 136, u 137, u 138, u 139, u 140, u 141, u 142, u 143, u 144, u 145, u 146, u 147, u 148, u 149, u 150, u 151, u 152, u 153, u 154, u 155, u 156, u 157, u 158, u 159, u 160, u 161, u 162, u 163, u 164, u 165, u 166, u 167, u 168, u 169, u 170, u 171], defers := [] } ∧ RowAt W3 VB (mbC (mbAt L k)).toArray 24 ∧ G VB) ∧ CtR W k G W3)
        (fun c k G W3 => False)
        ?abI ?abM ?abX ?h0 ?assign ?body ?done ?stop)
      case hS =>
        rintro q (rfl | hq)
        · exact ⟨by simp only [World.size_alloc]; omega, by omega⟩
        · have := hvk q hq; exact ⟨by simp only [World.size_alloc]; omega, by omega⟩
      case abI => exact fun k G A B h hb => CtR.abide (by simp only [World.size_alloc]; omega) G A B h hb
      case abM =>
        rintro k a' G A B ⟨⟨VB, ha, hV, hG⟩, h⟩ hb
        exact ⟨⟨VB, ha, (hb.same VB hV.lt (fun e => e.2 hG)).trans hV, hG⟩, CtR.abide (by simp only [World.size_alloc]; omega) G A B h hb⟩
      case abX => exact fun c k G A B h hb => h.elim
      case h0 => exact CtR.start W
      case assign =>
        intro l2 k G W3 K3 hk hi hK3
        gi_wp2
        refine hK3 _ _ (But.alloc _ _) ⟨⟨_, rfl, RowAt.new _ _ _, .inr ⟨Nat.le_refl _, by simp⟩⟩, ?_⟩
        exact CtR.alloc hi _
      case body =>
        rintro l2 k a' G W3 hk hl2 _ hGl ⟨⟨VB, rfl, hVB0, hGV⟩, hi⟩
        have hR := hi
        have V3 := HW.out.up hR.below
        obtain ⟨b, off, rfl, hr⟩ := V3.want.rec_at (cells := mbC) (sz := 4) (fun _ => rfl) hk hk
        have Hstep := Lib.hid hR.step
        simp only [mbAt_get hk] at hVB0 ⊢
        have hle2 : ¬ L.length ≤ k := by omega
        have hk2 : (k : Int) ≤ 100000 := by omega
        have hkl : (k : Int) < (L.length : Int) := by omega
        have hkl2 : ¬ (L.length : Int) ≤ (k : Int) := by omega
        generalize L[k] = e at *
        have hVB : RowAt W3.drew VB (mbC e).toArray 24 := hVB0
        have hr3 : W3.drew.rangeAt b (off + k * 4) (mbC e) := hr
        have p3 : W3.cell? ⟨w.heap.size, 0, none⟩ = some (.slice (some ⟨b, off, none⟩) L.length cu) := V3.p.cell (i := 0) rfl
        have m3 : W3.cell? ⟨w.heap.size + 1 + 1, 0, none⟩ = some (.int .i64 many) := V3.m.cell (i := 0) rfl
        have t3 : W3.cell? ⟨T, 0, none⟩ = some (.int .i64 1) := (HI.out.up hR.below).turn.cell (i := 0) rfl
        have a1 : W3.cell? ⟨W.heap.size, 0, none⟩ = some (.int .i64 k) := hR.cnt.cell (i := 0) rfl
        have f1 := hR.cnt.fz 0
        have hTK : ¬ T = W.heap.size := by omega
        have hKT : ¬ W.heap.size = T := by omega
        have hw5 : ¬ w.heap.size + 1 + 1 = W.heap.size := by omega
        have hw6 : ¬ W.heap.size = w.heap.size + 1 + 1 := by omega
        clear hR V3 hr hVB0
        gi_wp2
        refine wpIn_round_tail 13 mixes (by kernel_rfl) (by kernel_rfl) ?_
        simp only [List.take_succ_cons, List.take_zero, List.drop_succ_cons, List.drop_zero]
        still_step
        still_step
        still_step
        still_step
        still_step
        still_step
        still_step
        still_step
        still_step
        still_step
        refine still_load rfl 24 (.tmp 36) rfl b (off + k * 4) rfl (mbC e) _ hr3 Try.underlying24 rfl (by kernel_rfl) ?_
        try simp only [Act.put, List.getElem_toArray, List.getElem_cons_zero, List.getElem_cons_succ, List.setIfInBounds_toArray, List.set_cons_zero, List.set_cons_succ]
        refine still_load rfl 24 (.tmp 12) rfl VB 0 rfl (mbC e) _ hVB.range Try.underlying24 rfl (by kernel_rfl) ?_
        try simp only [Act.put, List.getElem_toArray, List.getElem_cons_zero, List.getElem_cons_succ, List.setIfInBounds_toArray, List.set_cons_zero, List.set_cons_succ]
        refine still_val rfl (exec_mbneq (e := e) rfl rfl rfl _) ?_
        try simp only [Act.put, List.getElem_toArray, List.getElem_cons_zero, List.getElem_cons_succ, List.setIfInBounds_toArray, List.set_cons_zero, List.set_cons_succ]
        refine wpStill_nil ?_
        gi_wp2
        exact ⟨Hstep.out.1, Hstep.out.2⟩
      case done =>
        rintro D G W3 hD hGD hi hKD
        have hR := hi
        have V3 := HW.out.up hR.below
        have p3 : W3.cell? ⟨w.heap.size, 0, none⟩ = some (.slice au L.length cu) := V3.p.cell (i := 0) rfl
        have m3 : W3.cell? ⟨w.heap.size + 1 + 1, 0, none⟩ = some (.int .i64 many) := V3.m.cell (i := 0) rfl
        have t3 : W3.cell? ⟨T, 0, none⟩ = some (.int .i64 1) := (HI.out.up hR.below).turn.cell (i := 0) rfl
        have HN := Lib.hid (fun v => HI.out.next hR.below hKD (by simp only [World.size_alloc] at hD; omega) v)
        clear V3
        have a1 : W3.cell? ⟨W.heap.size, 0, none⟩ = some (.int .i64 (L.length : Nat)) := hR.cnt.cell (i := 0) rfl
        clear hR hKD
        go_wp2
        refine Handed.intro 0 (by omega) (HJ.out _ _ _ ?_)
        exact ⟨2, W3.heap.size, D :: Ds, by omega, rfl, rfl, HN.out 2⟩
      case stop =>
        intro D c k G W3 hD hGD hk hi hKD
        exact hi.elim
    · replace hT : W.cell? ⟨T, 0, none⟩ = some (.int .i64 2) := hT
      have VV := HW
      have d0 := VV.out.c.cell (i := 0) (v := .int .u32 m.node) rfl
      have d1 := VV.out.c.cell (i := 1) (v := .int .u32 m.region) rfl
      have HM := Lib.hid (fun D2 hD2 => (HI.out.marks D2 hD2).1)
      have hlow := Lib.hid (fun D2 hD2 => (HI.out.marks D2 hD2).2)
      have hnd := HI.out.nodup
      have HL := Lib.hid HS.out.len
      have HH := Lib.hid (has_ref HK.out HS.out m.node m.region)
      clear fT hTl hT0
      cases hfb : findB L m.node m.region with
      | true =>
        have hg := rGet_c m.node m.region hm.n1 hm.n2 hm.r1 hm.r2 W VV.out.roll
        unfold getV at hg
        rw [find_some_ref HK.out HS.out hfb] at hg
        have hkl := findB_lt hfb
        have hf := fun W hu => rfFind_c L (.slice au L.length cu) L.length m.node m.region W hu hL
        unfold findV at hf
        rw [hfb] at hf
        rw [mbAt_get hkl] at hg
        simp only [Option.getD_some, Option.isSome_some] at hg
        have hkI : ((findK L m.node m.region : Nat) : Int) < (L.length : Int) := by omega
        have hx : ∃ x, L[findK L m.node m.region] = x := ⟨_, rfl⟩
        obtain ⟨b, off, rfl, hr⟩ := VV.out.want.rec_at (cells := mbC) (sz := 4) (fun _ => rfl) hkl hkl
        obtain ⟨x, hx⟩ := hx
        rw [hx] at hg hr
        clear hx hkl hfb
        generalize findK L m.node m.region = j at *
        have hne := mb_neql x x
        simp only [decide_true, Bool.not_true] at hne
        go_wp2_with (first
          | (go_at_call 36; refine hg.mono ?_; rintro en w5 ⟨rfl, hb5⟩; replace VV := Lib.hid (VV.out.up hb5); have X5 := RowAt.new w5 (mbC x).toArray 24; have hb6 := below_alloc w5 (.cells (mbC x).toArray 24); replace VV := Lib.hid (VV.out.up hb6); have p6 := VV.out.p.cell (i := 0) rfl; have c6 := VV.out.c.cell (i := 0) (v := .int .u32 m.node) rfl; have c7 := VV.out.c.cell (i := 1) (v := .int .u32 m.region) rfl; replace HM := Lib.hid (marks_up (marks_up HM.out hb5) hb6); have hr5 := rangeAt_up hb6 (rangeAt_up hb5 hr))
          | (go_at_call 35; refine (hf _ VV.out.want).mono ?_; rintro en w7 ⟨rfl, hb7⟩; replace VV := Lib.hid (VV.out.up hb7); have X7 := X5.below hb7; have hr7 := rangeAt_up hb7 hr5; replace HM := Lib.hid (marks_up HM.out hb7)))
        refine wp_onlyN (wp_region_pt (fun _ => False) (.q 0 (.q 1 (.q 2 (.q 3 (.q 4 (.q 5 (.q 6 (.q 7 (.q 8 (.q 9 (.q 10 (.q 11 (.q 12 (.q 13 (.q 14 (.q 15 (.q 16 (.q 17 (.q 18 (.q 19 (.q 20 (.q 21 (.q 22 (.q 23 .done)))))))))))))))))))))))) (by kernel_rfl) (by kernel_rfl) (by kernel_rfl) (by decide) onlyN_panic (fun Wd hBd => ?_))
        try simp only [Act.put, List.getElem_toArray, List.getElem_cons_zero, List.getElem_cons_succ, List.setIfInBounds_toArray, List.set_cons_zero, List.set_cons_succ]
        replace VV := Lib.hid (VV.out.up hBd)
        replace HM := Lib.hid (marks_up HM.out hBd)
        have X8 := X7.below hBd
        have KP := VV.out.p.cell (i := 0) (v := .slice (some ⟨b, off, none⟩) L.length cu) rfl
        have hr8 := rangeAt_up hBd hr7
        refine pt_q (v := ?_) rfl (by rfl) ?_ ?_
        rotate_left
        · intro w' hBw'
          have p0 := hBw'.cell KP (fun h => h)
          first | (go_simp; done) | (go_simp; with_reducible rfl)
        try simp only [Act.put, List.getElem_toArray, List.getElem_cons_zero, List.getElem_cons_succ, List.setIfInBounds_toArray, List.set_cons_zero, List.set_cons_succ]
        refine pt_q (v := ?_) rfl (by rfl) ?_ ?_
        rotate_left
        · intro w' hBw'
          have p0 := hBw'.cell KP (fun h => h)
          first | (go_simp; done) | (go_simp; with_reducible rfl)
        try simp only [Act.put, List.getElem_toArray, List.getElem_cons_zero, List.getElem_cons_succ, List.setIfInBounds_toArray, List.set_cons_zero, List.set_cons_succ]
        refine pt_q (v := ?_) rfl (by rfl) ?_ ?_
        rotate_left
        · intro w' hBw'
          have p0 := hBw'.cell KP (fun h => h)
          first | (go_simp; done) | (go_simp; with_reducible rfl)
        try simp only [Act.put, List.getElem_toArray, List.getElem_cons_zero, List.getElem_cons_succ, List.setIfInBounds_toArray, List.set_cons_zero, List.set_cons_succ]
        refine pt_q (v := ?_) rfl (by rfl) ?_ ?_
        rotate_left
        · intro w' hBw'
          have p0 := hBw'.cell KP (fun h => h)
          first | (go_simp; done) | (go_simp; with_reducible rfl)
        try simp only [Act.put, List.getElem_toArray, List.getElem_cons_zero, List.getElem_cons_succ, List.setIfInBounds_toArray, List.set_cons_zero, List.set_cons_succ]
        refine pt_q (v := ?_) rfl (by rfl) ?_ ?_
        rotate_left
        · intro w' hBw'
          have p0 := hBw'.cell KP (fun h => h)
          first | (go_simp; done) | (go_simp; with_reducible rfl)
        try simp only [Act.put, List.getElem_toArray, List.getElem_cons_zero, List.getElem_cons_succ, List.setIfInBounds_toArray, List.set_cons_zero, List.set_cons_succ]
        refine pt_q (v := ?_) rfl (by rfl) ?_ ?_
        rotate_left
        · intro w' hBw'
          have p0 := hBw'.cell KP (fun h => h)
          first | (go_simp; done) | (go_simp; with_reducible rfl)
        try simp only [Act.put, List.getElem_toArray, List.getElem_cons_zero, List.getElem_cons_succ, List.setIfInBounds_toArray, List.set_cons_zero, List.set_cons_succ]
        refine pt_load rfl (by rfl) 24 (.tmp 13) rfl w5.heap.size 0 rfl (mbC x) _ X8.range (fun h => h) Try.underlying24 rfl (by kernel_rfl) ?_
        try simp only [Act.put, List.getElem_toArray, List.getElem_cons_zero, List.getElem_cons_succ, List.setIfInBounds_toArray, List.set_cons_zero, List.set_cons_succ]
        refine pt_q (v := ?_) rfl (by rfl) ?_ ?_
        rotate_left
        · intro w' hBw'
          have p0 := hBw'.cell KP (fun h => h)
          first | (go_simp; done) | (go_simp; with_reducible rfl)
        try simp only [Act.put, List.getElem_toArray, List.getElem_cons_zero, List.getElem_cons_succ, List.setIfInBounds_toArray, List.set_cons_zero, List.set_cons_succ]
        refine pt_q (v := ?_) rfl (by rfl) ?_ ?_
        rotate_left
        · intro w' hBw'
          have p0 := hBw'.cell KP (fun h => h)
          first | (go_simp; done) | (go_simp; with_reducible rfl)
        try simp only [Act.put, List.getElem_toArray, List.getElem_cons_zero, List.getElem_cons_succ, List.setIfInBounds_toArray, List.set_cons_zero, List.set_cons_succ]
        refine pt_q (v := ?_) rfl (by rfl) ?_ ?_
        rotate_left
        · intro w' hBw'
          have p0 := hBw'.cell KP (fun h => h)
          first | (go_simp; done) | (go_simp; with_reducible rfl)
        try simp only [Act.put, List.getElem_toArray, List.getElem_cons_zero, List.getElem_cons_succ, List.setIfInBounds_toArray, List.set_cons_zero, List.set_cons_succ]
        refine pt_q (v := ?_) rfl (by rfl) ?_ ?_
        rotate_left
        · intro w' hBw'
          have p0 := hBw'.cell KP (fun h => h)
          first | (go_simp; done) | (go_simp; with_reducible rfl)
        try simp only [Act.put, List.getElem_toArray, List.getElem_cons_zero, List.getElem_cons_succ, List.setIfInBounds_toArray, List.set_cons_zero, List.set_cons_succ]
        refine pt_load rfl (by rfl) 24 (.tmp 102) rfl b (off + j * 4) rfl (mbC x) _ hr8 (fun h => h) Try.underlying24 rfl (by kernel_rfl) ?_
        try simp only [Act.put, List.getElem_toArray, List.getElem_cons_zero, List.getElem_cons_succ, List.setIfInBounds_toArray, List.set_cons_zero, List.set_cons_succ]
        refine pt_q (v := ?_) rfl (by rfl) ?_ ?_
        rotate_left
        · intro w' hBw'
          have p0 := hBw'.cell KP (fun h => h)
          first | (go_simp; done) | (go_simp; with_reducible rfl)
        try simp only [Act.put, List.getElem_toArray, List.getElem_cons_zero, List.getElem_cons_succ, List.setIfInBounds_toArray, List.set_cons_zero, List.set_cons_succ]
        refine pt_q (v := ?_) rfl (by rfl) ?_ ?_
        rotate_left
        · intro w' hBw'
          have p0 := hBw'.cell KP (fun h => h)
          first | (go_simp; done) | (go_simp; with_reducible rfl)
        try simp only [Act.put, List.getElem_toArray, List.getElem_cons_zero, List.getElem_cons_succ, List.setIfInBounds_toArray, List.set_cons_zero, List.set_cons_succ]
        refine pt_q (v := ?_) rfl (by rfl) ?_ ?_
        rotate_left
        · intro w' hBw'
          have p0 := hBw'.cell KP (fun h => h)
          first | (go_simp; done) | (go_simp; with_reducible rfl)
        try simp only [Act.put, List.getElem_toArray, List.getElem_cons_zero, List.getElem_cons_succ, List.setIfInBounds_toArray, List.set_cons_zero, List.set_cons_succ]
        refine pt_q (v := ?_) rfl (by rfl) ?_ ?_
        rotate_left
        · intro w' hBw'
          have p0 := hBw'.cell KP (fun h => h)
          first | (go_simp; done) | (go_simp; with_reducible rfl)
        try simp only [Act.put, List.getElem_toArray, List.getElem_cons_zero, List.getElem_cons_succ, List.setIfInBounds_toArray, List.set_cons_zero, List.set_cons_succ]
        refine pt_q (v := ?_) rfl (by rfl) ?_ ?_
        rotate_left
        · intro w' hBw'
          have p0 := hBw'.cell KP (fun h => h)
          first | (go_simp; done) | (go_simp; with_reducible rfl)
        try simp only [Act.put, List.getElem_toArray, List.getElem_cons_zero, List.getElem_cons_succ, List.setIfInBounds_toArray, List.set_cons_zero, List.set_cons_succ]
        refine pt_q (v := ?_) rfl (by rfl) ?_ ?_
        rotate_left
        · intro w' hBw'
          have p0 := hBw'.cell KP (fun h => h)
          first | (go_simp; done) | (go_simp; with_reducible rfl)
        try simp only [Act.put, List.getElem_toArray, List.getElem_cons_zero, List.getElem_cons_succ, List.setIfInBounds_toArray, List.set_cons_zero, List.set_cons_succ]
        refine pt_q (v := ?_) rfl (by rfl) ?_ ?_
        rotate_left
        · intro w' hBw'
          have p0 := hBw'.cell KP (fun h => h)
          first | (go_simp; done) | (go_simp; with_reducible rfl)
        try simp only [Act.put, List.getElem_toArray, List.getElem_cons_zero, List.getElem_cons_succ, List.setIfInBounds_toArray, List.set_cons_zero, List.set_cons_succ]
        refine pt_no rfl (by rfl) ?_
        try simp only [Act.put, List.getElem_toArray, List.getElem_cons_zero, List.getElem_cons_succ, List.setIfInBounds_toArray, List.set_cons_zero, List.set_cons_succ]
        refine pt_no rfl (by rfl) ?_
        try simp only [Act.put, List.getElem_toArray, List.getElem_cons_zero, List.getElem_cons_succ, List.setIfInBounds_toArray, List.set_cons_zero, List.set_cons_succ]
        refine pt_no rfl (by rfl) ?_
        try simp only [Act.put, List.getElem_toArray, List.getElem_cons_zero, List.getElem_cons_succ, List.setIfInBounds_toArray, List.set_cons_zero, List.set_cons_succ]
        refine pt_q (v := ?_) rfl (by rfl) ?_ ?_
        rotate_left
        · intro w' hBw'
          have p0 := hBw'.cell KP (fun h => h)
          first | (go_simp; done) | (go_simp; with_reducible rfl)
        try simp only [Act.put, List.getElem_toArray, List.getElem_cons_zero, List.getElem_cons_succ, List.setIfInBounds_toArray, List.set_cons_zero, List.set_cons_succ]
        refine pt_q (v := ?_) rfl (by rfl) ?_ ?_
        rotate_left
        · intro w' hBw'
          have p0 := hBw'.cell KP (fun h => h)
          first | (go_simp; done) | (go_simp; with_reducible rfl)
        try simp only [Act.put, List.getElem_toArray, List.getElem_cons_zero, List.getElem_cons_succ, List.setIfInBounds_toArray, List.set_cons_zero, List.set_cons_succ]
        refine pt_doneN ?_
        clear KP X8 X7
        obtain ⟨W8, hW8⟩ : ∃ W, W = Wd := ⟨_, rfl⟩
        subst hW8
        go_wp2
        refine wp_onlyN (wp_region_pt (fun i => i = w.heap.size + 1 + 1 + 1) (.q 0 (.q 1 (.q 2 (.q 3 (.q 4 (.q 6 (.q 7 (.q 8 (.q 9 (.q 10 (.c 5 (.c 11 (.q 12 (.q 13 (.q 14 (.q 15 (.q 16 (.q 18 (.q 19 (.q 20 (.c 17 (.c 21 (.q 22 (.q 23 (.q 24 (.q 25 (.q 26 (.q 27 (.q 29 (.q 30 (.q 31 (.q 33 (.c 28 (.c 32 (.c 34 (.q 35 (.q 36 (.q 37 (.q 38 (.q 39 (.q 41 (.q 42 (.q 43 (.q 45 (.c 40 (.c 44 (.c 46 (.q 47 (.q 48 (.q 49 (.q 51 (.q 52 (.q 53 (.c 50 (.q 54 (.q 55 (.c 56 .done))))))))))))))))))))))))))))))))))))))))))))))))))))))))) (by kernel_rfl) (by kernel_rfl) (by kernel_rfl) (by decide) onlyN_panic (fun Wd hBd => ?_))
        try simp only [Act.put, List.getElem_toArray, List.getElem_cons_zero, List.getElem_cons_succ, List.setIfInBounds_toArray, List.set_cons_zero, List.set_cons_succ]
        replace VV := Lib.hid (VV.out.up hBd)
        have KP := VV.out.p.cell (i := 0) (v := .slice (some ⟨b, off, none⟩) L.length cu) rfl
        have K0 := VV.out.c.cell (i := 0) (v := .int .u32 m.node) rfl
        have K1 := VV.out.c.cell (i := 1) (v := .int .u32 m.region) rfl
        have KM := VV.out.m.cell (i := 0) (v := .int .i64 many) rfl
        replace HM := Lib.hid (marks_up HM.out hBd)
        refine pt_q (v := ?_) rfl (by rfl) ?_ ?_
        rotate_left
        · intro w' hBw'
          have p0 := hBw'.cell KP (by omega)
          have k0 := hBw'.cell K0 (by omega)
          have k1 := hBw'.cell K1 (by omega)
          have km := hBw'.cell KM (by omega)
          first | (go_simp; done) | (go_simp; with_reducible rfl)
        try simp only [Act.put, List.getElem_toArray, List.getElem_cons_zero, List.getElem_cons_succ, List.setIfInBounds_toArray, List.set_cons_zero, List.set_cons_succ]
        refine pt_q (v := ?_) rfl (by rfl) ?_ ?_
        rotate_left
        · intro w' hBw'
          have p0 := hBw'.cell KP (by omega)
          have k0 := hBw'.cell K0 (by omega)
          have k1 := hBw'.cell K1 (by omega)
          have km := hBw'.cell KM (by omega)
          first | (go_simp; done) | (go_simp; with_reducible rfl)
        try simp only [Act.put, List.getElem_toArray, List.getElem_cons_zero, List.getElem_cons_succ, List.setIfInBounds_toArray, List.set_cons_zero, List.set_cons_succ]
        refine pt_q (v := ?_) rfl (by rfl) ?_ ?_
        rotate_left
        · intro w' hBw'
          have p0 := hBw'.cell KP (by omega)
          have k0 := hBw'.cell K0 (by omega)
          have k1 := hBw'.cell K1 (by omega)
          have km := hBw'.cell KM (by omega)
          first | (go_simp; done) | (go_simp; with_reducible rfl)
        try simp only [Act.put, List.getElem_toArray, List.getElem_cons_zero, List.getElem_cons_succ, List.setIfInBounds_toArray, List.set_cons_zero, List.set_cons_succ]
        refine pt_q (v := ?_) rfl (by rfl) ?_ ?_
        rotate_left
        · intro w' hBw'
          have p0 := hBw'.cell KP (by omega)
          have k0 := hBw'.cell K0 (by omega)
          have k1 := hBw'.cell K1 (by omega)
          have km := hBw'.cell KM (by omega)
          first | (go_simp; done) | (go_simp; with_reducible rfl)
        try simp only [Act.put, List.getElem_toArray, List.getElem_cons_zero, List.getElem_cons_succ, List.setIfInBounds_toArray, List.set_cons_zero, List.set_cons_succ]
        refine pt_q (v := ?_) rfl (by rfl) ?_ ?_
        rotate_left
        · intro w' hBw'
          have p0 := hBw'.cell KP (by omega)
          have k0 := hBw'.cell K0 (by omega)
          have k1 := hBw'.cell K1 (by omega)
          have km := hBw'.cell KM (by omega)
          first | (go_simp; done) | (go_simp; with_reducible rfl)
        try simp only [Act.put, List.getElem_toArray, List.getElem_cons_zero, List.getElem_cons_succ, List.setIfInBounds_toArray, List.set_cons_zero, List.set_cons_succ]
        refine pt_q (v := ?_) rfl (by rfl) ?_ ?_
        rotate_left
        · intro w' hBw'
          have p0 := hBw'.cell KP (by omega)
          have k0 := hBw'.cell K0 (by omega)
          have k1 := hBw'.cell K1 (by omega)
          have km := hBw'.cell KM (by omega)
          first | (go_simp; done) | (go_simp; with_reducible rfl)
        try simp only [Act.put, List.getElem_toArray, List.getElem_cons_zero, List.getElem_cons_succ, List.setIfInBounds_toArray, List.set_cons_zero, List.set_cons_succ]
        refine pt_q (v := ?_) rfl (by rfl) ?_ ?_
        rotate_left
        · intro w' hBw'
          have p0 := hBw'.cell KP (by omega)
          have k0 := hBw'.cell K0 (by omega)
          have k1 := hBw'.cell K1 (by omega)
          have km := hBw'.cell KM (by omega)
          first | (go_simp; done) | (go_simp; with_reducible rfl)
        try simp only [Act.put, List.getElem_toArray, List.getElem_cons_zero, List.getElem_cons_succ, List.setIfInBounds_toArray, List.set_cons_zero, List.set_cons_succ]
        refine pt_q (v := ?_) rfl (by rfl) ?_ ?_
        rotate_left
        · intro w' hBw'
          have p0 := hBw'.cell KP (by omega)
          have k0 := hBw'.cell K0 (by omega)
          have k1 := hBw'.cell K1 (by omega)
          have km := hBw'.cell KM (by omega)
          first | (go_simp; done) | (go_simp; with_reducible rfl)
        try simp only [Act.put, List.getElem_toArray, List.getElem_cons_zero, List.getElem_cons_succ, List.setIfInBounds_toArray, List.set_cons_zero, List.set_cons_succ]
        refine pt_q (v := ?_) rfl (by rfl) ?_ ?_
        rotate_left
        · intro w' hBw'
          have p0 := hBw'.cell KP (by omega)
          have k0 := hBw'.cell K0 (by omega)
          have k1 := hBw'.cell K1 (by omega)
          have km := hBw'.cell KM (by omega)
          first | (go_simp; done) | (go_simp; with_reducible rfl)
        try simp only [Act.put, List.getElem_toArray, List.getElem_cons_zero, List.getElem_cons_succ, List.setIfInBounds_toArray, List.set_cons_zero, List.set_cons_succ]
        refine pt_q (v := ?_) rfl (by rfl) ?_ ?_
        rotate_left
        · intro w' hBw'
          have p0 := hBw'.cell KP (by omega)
          have k0 := hBw'.cell K0 (by omega)
          have k1 := hBw'.cell K1 (by omega)
          have km := hBw'.cell KM (by omega)
          first | (go_simp; done) | (go_simp; with_reducible rfl)
        try simp only [Act.put, List.getElem_toArray, List.getElem_cons_zero, List.getElem_cons_succ, List.setIfInBounds_toArray, List.set_cons_zero, List.set_cons_succ]
        refine pt_c ?_
        refine pt_step rfl (by rfl) (fun K hK => ?_)
        go_simp
        refine (rHas_c m.node m.region hm.n1 hm.n2 hm.r1 hm.r2 _ VV.out.roll).mono ?_
        rintro en wx ⟨rfl, hbx⟩
        refine hK.out _ _ (But.of_below hbx) ?_
        clear hK K
        try simp only [Act.put, List.getElem_toArray, List.getElem_cons_zero, List.getElem_cons_succ, List.setIfInBounds_toArray, List.set_cons_zero, List.set_cons_succ]
        replace KP := cell_up hbx KP
        replace K0 := cell_up hbx K0
        replace K1 := cell_up hbx K1
        replace KM := cell_up hbx KM
        replace VV := Lib.hid (VV.out.up hbx)
        replace HM := Lib.hid (marks_up HM.out hbx)
        clear hbx
        refine pt_c ?_
        refine pt_step rfl (by rfl) (fun K hK => ?_)
        go_simp
        refine (rfHas_c L _ L.length m.node m.region _ VV.out.want hL).mono ?_
        rw [← HH.out]; rintro en wx ⟨rfl, hbx⟩
        refine hK.out _ _ (But.of_below hbx) ?_
        clear hK K
        try simp only [Act.put, List.getElem_toArray, List.getElem_cons_zero, List.getElem_cons_succ, List.setIfInBounds_toArray, List.set_cons_zero, List.set_cons_succ]
        replace KP := cell_up hbx KP
        replace K0 := cell_up hbx K0
        replace K1 := cell_up hbx K1
        replace KM := cell_up hbx KM
        replace VV := Lib.hid (VV.out.up hbx)
        replace HM := Lib.hid (marks_up HM.out hbx)
        clear hbx
        refine pt_q (v := ?_) rfl (by rfl) ?_ ?_
        rotate_left
        · intro w' hBw'
          have p0 := hBw'.cell KP (by omega)
          have k0 := hBw'.cell K0 (by omega)
          have k1 := hBw'.cell K1 (by omega)
          have km := hBw'.cell KM (by omega)
          first | (go_simp; done) | (go_simp; with_reducible rfl)
        try simp only [Act.put, List.getElem_toArray, List.getElem_cons_zero, List.getElem_cons_succ, List.setIfInBounds_toArray, List.set_cons_zero, List.set_cons_succ]
        refine pt_q (v := ?_) rfl (by rfl) ?_ ?_
        rotate_left
        · intro w' hBw'
          have p0 := hBw'.cell KP (by omega)
          have k0 := hBw'.cell K0 (by omega)
          have k1 := hBw'.cell K1 (by omega)
          have km := hBw'.cell KM (by omega)
          first | (go_simp; done) | (go_simp; with_reducible rfl)
        try simp only [Act.put, List.getElem_toArray, List.getElem_cons_zero, List.getElem_cons_succ, List.setIfInBounds_toArray, List.set_cons_zero, List.set_cons_succ]
        refine pt_q (v := ?_) rfl (by rfl) ?_ ?_
        rotate_left
        · intro w' hBw'
          have p0 := hBw'.cell KP (by omega)
          have k0 := hBw'.cell K0 (by omega)
          have k1 := hBw'.cell K1 (by omega)
          have km := hBw'.cell KM (by omega)
          first | (go_simp; done) | (go_simp; with_reducible rfl)
        try simp only [Act.put, List.getElem_toArray, List.getElem_cons_zero, List.getElem_cons_succ, List.setIfInBounds_toArray, List.set_cons_zero, List.set_cons_succ]
        refine pt_q (v := ?_) rfl (by rfl) ?_ ?_
        rotate_left
        · intro w' hBw'
          have p0 := hBw'.cell KP (by omega)
          have k0 := hBw'.cell K0 (by omega)
          have k1 := hBw'.cell K1 (by omega)
          have km := hBw'.cell KM (by omega)
          first | (go_simp; done) | (go_simp; with_reducible rfl)
        try simp only [Act.put, List.getElem_toArray, List.getElem_cons_zero, List.getElem_cons_succ, List.setIfInBounds_toArray, List.set_cons_zero, List.set_cons_succ]
        refine pt_q (v := ?_) rfl (by rfl) ?_ ?_
        rotate_left
        · intro w' hBw'
          have p0 := hBw'.cell KP (by omega)
          have k0 := hBw'.cell K0 (by omega)
          have k1 := hBw'.cell K1 (by omega)
          have km := hBw'.cell KM (by omega)
          first | (go_simp; done) | (go_simp; with_reducible rfl)
        try simp only [Act.put, List.getElem_toArray, List.getElem_cons_zero, List.getElem_cons_succ, List.setIfInBounds_toArray, List.set_cons_zero, List.set_cons_succ]
        refine pt_q (v := ?_) rfl (by rfl) ?_ ?_
        rotate_left
        · intro w' hBw'
          have p0 := hBw'.cell KP (by omega)
          have k0 := hBw'.cell K0 (by omega)
          have k1 := hBw'.cell K1 (by omega)
          have km := hBw'.cell KM (by omega)
          first | (go_simp; done) | (go_simp; with_reducible rfl)
        try simp only [Act.put, List.getElem_toArray, List.getElem_cons_zero, List.getElem_cons_succ, List.setIfInBounds_toArray, List.set_cons_zero, List.set_cons_succ]
        refine pt_q (v := ?_) rfl (by rfl) ?_ ?_
        rotate_left
        · intro w' hBw'
          have p0 := hBw'.cell KP (by omega)
          have k0 := hBw'.cell K0 (by omega)
          have k1 := hBw'.cell K1 (by omega)
          have km := hBw'.cell KM (by omega)
          first | (go_simp; done) | (go_simp; with_reducible rfl)
        try simp only [Act.put, List.getElem_toArray, List.getElem_cons_zero, List.getElem_cons_succ, List.setIfInBounds_toArray, List.set_cons_zero, List.set_cons_succ]
        refine pt_q (v := ?_) rfl (by rfl) ?_ ?_
        rotate_left
        · intro w' hBw'
          have p0 := hBw'.cell KP (by omega)
          have k0 := hBw'.cell K0 (by omega)
          have k1 := hBw'.cell K1 (by omega)
          have km := hBw'.cell KM (by omega)
          first | (go_simp; done) | (go_simp; with_reducible rfl)
        try simp only [Act.put, List.getElem_toArray, List.getElem_cons_zero, List.getElem_cons_succ, List.setIfInBounds_toArray, List.set_cons_zero, List.set_cons_succ]
        refine pt_c ?_
        refine pt_step rfl (by rfl) (fun K hK => ?_)
        go_simp
        refine (rHome_c m.node _ VV.out.roll HS.out HE.out).mono ?_
        rintro en wx ⟨rfl, hbx⟩
        refine hK.out _ _ (But.of_below hbx) ?_
        clear hK K
        try simp only [Act.put, List.getElem_toArray, List.getElem_cons_zero, List.getElem_cons_succ, List.setIfInBounds_toArray, List.set_cons_zero, List.set_cons_succ]
        replace KP := cell_up hbx KP
        replace K0 := cell_up hbx K0
        replace K1 := cell_up hbx K1
        replace KM := cell_up hbx KM
        replace VV := Lib.hid (VV.out.up hbx)
        replace HM := Lib.hid (marks_up HM.out hbx)
        clear hbx
        refine pt_c ?_
        refine pt_step rfl (by rfl) (fun K hK => ?_)
        go_simp
        refine (rfHome_c L _ L.length m.node _ VV.out.want hL).mono ?_
        rintro en wx ⟨rfl, hbx⟩
        refine hK.out _ _ (But.of_below hbx) ?_
        clear hK K
        try simp only [Act.put, List.getElem_toArray, List.getElem_cons_zero, List.getElem_cons_succ, List.setIfInBounds_toArray, List.set_cons_zero, List.set_cons_succ]
        replace KP := cell_up hbx KP
        replace K0 := cell_up hbx K0
        replace K1 := cell_up hbx K1
        replace KM := cell_up hbx KM
        replace VV := Lib.hid (VV.out.up hbx)
        replace HM := Lib.hid (marks_up HM.out hbx)
        clear hbx
        refine pt_q (v := ?_) rfl (by rfl) ?_ ?_
        rotate_left
        · intro w' hBw'
          have p0 := hBw'.cell KP (by omega)
          have k0 := hBw'.cell K0 (by omega)
          have k1 := hBw'.cell K1 (by omega)
          have km := hBw'.cell KM (by omega)
          first | (go_simp; done) | (go_simp; with_reducible rfl)
        try simp only [Act.put, List.getElem_toArray, List.getElem_cons_zero, List.getElem_cons_succ, List.setIfInBounds_toArray, List.set_cons_zero, List.set_cons_succ]
        refine pt_q (v := ?_) rfl (by rfl) ?_ ?_
        rotate_left
        · intro w' hBw'
          have p0 := hBw'.cell KP (by omega)
          have k0 := hBw'.cell K0 (by omega)
          have k1 := hBw'.cell K1 (by omega)
          have km := hBw'.cell KM (by omega)
          first | (go_simp; done) | (go_simp; with_reducible rfl)
        try simp only [Act.put, List.getElem_toArray, List.getElem_cons_zero, List.getElem_cons_succ, List.setIfInBounds_toArray, List.set_cons_zero, List.set_cons_succ]
        refine pt_q (v := ?_) rfl (by rfl) ?_ ?_
        rotate_left
        · intro w' hBw'
          have p0 := hBw'.cell KP (by omega)
          have k0 := hBw'.cell K0 (by omega)
          have k1 := hBw'.cell K1 (by omega)
          have km := hBw'.cell KM (by omega)
          first | (go_simp; done) | (go_simp; with_reducible rfl)
        try simp only [Act.put, List.getElem_toArray, List.getElem_cons_zero, List.getElem_cons_succ, List.setIfInBounds_toArray, List.set_cons_zero, List.set_cons_succ]
        refine pt_q (v := ?_) rfl (by rfl) ?_ ?_
        rotate_left
        · intro w' hBw'
          have p0 := hBw'.cell KP (by omega)
          have k0 := hBw'.cell K0 (by omega)
          have k1 := hBw'.cell K1 (by omega)
          have km := hBw'.cell KM (by omega)
          first | (go_simp; done) | (go_simp; with_reducible rfl)
        try simp only [Act.put, List.getElem_toArray, List.getElem_cons_zero, List.getElem_cons_succ, List.setIfInBounds_toArray, List.set_cons_zero, List.set_cons_succ]
        refine pt_q (v := ?_) rfl (by rfl) ?_ ?_
        rotate_left
        · intro w' hBw'
          have p0 := hBw'.cell KP (by omega)
          have k0 := hBw'.cell K0 (by omega)
          have k1 := hBw'.cell K1 (by omega)
          have km := hBw'.cell KM (by omega)
          first | (go_simp; done) | (go_simp; with_reducible rfl)
        try simp only [Act.put, List.getElem_toArray, List.getElem_cons_zero, List.getElem_cons_succ, List.setIfInBounds_toArray, List.set_cons_zero, List.set_cons_succ]
        refine pt_q (v := ?_) rfl (by rfl) ?_ ?_
        rotate_left
        · intro w' hBw'
          have p0 := hBw'.cell KP (by omega)
          have k0 := hBw'.cell K0 (by omega)
          have k1 := hBw'.cell K1 (by omega)
          have km := hBw'.cell KM (by omega)
          first | (go_simp; done) | (go_simp; with_reducible rfl)
        try simp only [Act.put, List.getElem_toArray, List.getElem_cons_zero, List.getElem_cons_succ, List.setIfInBounds_toArray, List.set_cons_zero, List.set_cons_succ]
        refine pt_q (v := ?_) rfl (by rfl) ?_ ?_
        rotate_left
        · intro w' hBw'
          have p0 := hBw'.cell KP (by omega)
          have k0 := hBw'.cell K0 (by omega)
          have k1 := hBw'.cell K1 (by omega)
          have km := hBw'.cell KM (by omega)
          first | (go_simp; done) | (go_simp; with_reducible rfl)
        try simp only [Act.put, List.getElem_toArray, List.getElem_cons_zero, List.getElem_cons_succ, List.setIfInBounds_toArray, List.set_cons_zero, List.set_cons_succ]
        refine pt_q (v := ?_) rfl (by rfl) ?_ ?_
        rotate_left
        · intro w' hBw'
          have p0 := hBw'.cell KP (by omega)
          have k0 := hBw'.cell K0 (by omega)
          have k1 := hBw'.cell K1 (by omega)
          have km := hBw'.cell KM (by omega)
          first | (go_simp; done) | (go_simp; with_reducible rfl)
        try simp only [Act.put, List.getElem_toArray, List.getElem_cons_zero, List.getElem_cons_succ, List.setIfInBounds_toArray, List.set_cons_zero, List.set_cons_succ]
        refine pt_q (v := ?_) rfl (by rfl) ?_ ?_
        rotate_left
        · intro w' hBw'
          have p0 := hBw'.cell KP (by omega)
          have k0 := hBw'.cell K0 (by omega)
          have k1 := hBw'.cell K1 (by omega)
          have km := hBw'.cell KM (by omega)
          first | (go_simp; done) | (go_simp; with_reducible rfl)
        try simp only [Act.put, List.getElem_toArray, List.getElem_cons_zero, List.getElem_cons_succ, List.setIfInBounds_toArray, List.set_cons_zero, List.set_cons_succ]
        refine pt_q (v := ?_) rfl (by rfl) ?_ ?_
        rotate_left
        · intro w' hBw'
          have p0 := hBw'.cell KP (by omega)
          have k0 := hBw'.cell K0 (by omega)
          have k1 := hBw'.cell K1 (by omega)
          have km := hBw'.cell KM (by omega)
          first | (go_simp; done) | (go_simp; with_reducible rfl)
        try simp only [Act.put, List.getElem_toArray, List.getElem_cons_zero, List.getElem_cons_succ, List.setIfInBounds_toArray, List.set_cons_zero, List.set_cons_succ]
        refine pt_c ?_
        refine pt_step rfl (by rfl) (fun K hK => ?_)
        go_simp
        refine (rRegions_c m.node _ VV.out.roll HS.out HE.out).mono ?_
        rintro en wx ⟨C2, v2, rfl, hov2, _, _, _, hbx⟩
        refine hK.out _ _ (But.of_below hbx) ?_
        clear hK K
        try simp only [Act.put, List.getElem_toArray, List.getElem_cons_zero, List.getElem_cons_succ, List.setIfInBounds_toArray, List.set_cons_zero, List.set_cons_succ]
        replace KP := cell_up hbx KP
        replace K0 := cell_up hbx K0
        replace K1 := cell_up hbx K1
        replace KM := cell_up hbx KM
        replace VV := Lib.hid (VV.out.up hbx)
        replace HM := Lib.hid (marks_up HM.out hbx)
        clear hbx
        refine pt_c ?_
        refine pt_step rfl (by rfl) (fun K hK => ?_)
        go_simp
        refine (rfRegions_c L _ L.length m.node _ VV.out.want hL).mono ?_
        rintro en wx ⟨u2, rfl, hown2, hbx⟩
        refine hK.out _ _ (But.of_below hbx) ?_
        clear hK K
        try simp only [Act.put, List.getElem_toArray, List.getElem_cons_zero, List.getElem_cons_succ, List.setIfInBounds_toArray, List.set_cons_zero, List.set_cons_succ]
        replace KP := cell_up hbx KP
        replace K0 := cell_up hbx K0
        replace K1 := cell_up hbx K1
        replace KM := cell_up hbx KM
        replace VV := Lib.hid (VV.out.up hbx)
        replace HM := Lib.hid (marks_up HM.out hbx)
        replace hov2 := hov2.up hbx
        clear hbx
        refine pt_c ?_
        refine pt_step rfl (by rfl) (fun K hK => ?_)
        go_simp
        refine (uints_c many _ hov2 (Sl.of_own hown2) (by unfold regsF; rw [List.length_map]; exact Nat.le_trans (List.length_filter_le _ _) hL)).mono ?_
        rintro en wx ⟨rfl, hbx⟩
        refine hK.out _ _ (But.of_below hbx) ?_
        clear hK K
        try simp only [Act.put, List.getElem_toArray, List.getElem_cons_zero, List.getElem_cons_succ, List.setIfInBounds_toArray, List.set_cons_zero, List.set_cons_succ]
        replace KP := cell_up hbx KP
        replace K0 := cell_up hbx K0
        replace K1 := cell_up hbx K1
        replace KM := cell_up hbx KM
        replace VV := Lib.hid (VV.out.up hbx)
        replace HM := Lib.hid (marks_up HM.out hbx)
        clear hov2 hown2
        clear hbx
        refine pt_q (v := ?_) rfl (by rfl) ?_ ?_
        rotate_left
        · intro w' hBw'
          have p0 := hBw'.cell KP (by omega)
          have k0 := hBw'.cell K0 (by omega)
          have k1 := hBw'.cell K1 (by omega)
          have km := hBw'.cell KM (by omega)
          first | (go_simp; done) | (go_simp; with_reducible rfl)
        try simp only [Act.put, List.getElem_toArray, List.getElem_cons_zero, List.getElem_cons_succ, List.setIfInBounds_toArray, List.set_cons_zero, List.set_cons_succ]
        refine pt_q (v := ?_) rfl (by rfl) ?_ ?_
        rotate_left
        · intro w' hBw'
          have p0 := hBw'.cell KP (by omega)
          have k0 := hBw'.cell K0 (by omega)
          have k1 := hBw'.cell K1 (by omega)
          have km := hBw'.cell KM (by omega)
          first | (go_simp; done) | (go_simp; with_reducible rfl)
        try simp only [Act.put, List.getElem_toArray, List.getElem_cons_zero, List.getElem_cons_succ, List.setIfInBounds_toArray, List.set_cons_zero, List.set_cons_succ]
        refine pt_q (v := ?_) rfl (by rfl) ?_ ?_
        rotate_left
        · intro w' hBw'
          have p0 := hBw'.cell KP (by omega)
          have k0 := hBw'.cell K0 (by omega)
          have k1 := hBw'.cell K1 (by omega)
          have km := hBw'.cell KM (by omega)
          first | (go_simp; done) | (go_simp; with_reducible rfl)
        try simp only [Act.put, List.getElem_toArray, List.getElem_cons_zero, List.getElem_cons_succ, List.setIfInBounds_toArray, List.set_cons_zero, List.set_cons_succ]
        refine pt_q (v := ?_) rfl (by rfl) ?_ ?_
        rotate_left
        · intro w' hBw'
          have p0 := hBw'.cell KP (by omega)
          have k0 := hBw'.cell K0 (by omega)
          have k1 := hBw'.cell K1 (by omega)
          have km := hBw'.cell KM (by omega)
          first | (go_simp; done) | (go_simp; with_reducible rfl)
        try simp only [Act.put, List.getElem_toArray, List.getElem_cons_zero, List.getElem_cons_succ, List.setIfInBounds_toArray, List.set_cons_zero, List.set_cons_succ]
        refine pt_q (v := ?_) rfl (by rfl) ?_ ?_
        rotate_left
        · intro w' hBw'
          have p0 := hBw'.cell KP (by omega)
          have k0 := hBw'.cell K0 (by omega)
          have k1 := hBw'.cell K1 (by omega)
          have km := hBw'.cell KM (by omega)
          first | (go_simp; done) | (go_simp; with_reducible rfl)
        try simp only [Act.put, List.getElem_toArray, List.getElem_cons_zero, List.getElem_cons_succ, List.setIfInBounds_toArray, List.set_cons_zero, List.set_cons_succ]
        refine pt_q (v := ?_) rfl (by rfl) ?_ ?_
        rotate_left
        · intro w' hBw'
          have p0 := hBw'.cell KP (by omega)
          have k0 := hBw'.cell K0 (by omega)
          have k1 := hBw'.cell K1 (by omega)
          have km := hBw'.cell KM (by omega)
          first | (go_simp; done) | (go_simp; with_reducible rfl)
        try simp only [Act.put, List.getElem_toArray, List.getElem_cons_zero, List.getElem_cons_succ, List.setIfInBounds_toArray, List.set_cons_zero, List.set_cons_succ]
        refine pt_q (v := ?_) rfl (by rfl) ?_ ?_
        rotate_left
        · intro w' hBw'
          have p0 := hBw'.cell KP (by omega)
          have k0 := hBw'.cell K0 (by omega)
          have k1 := hBw'.cell K1 (by omega)
          have km := hBw'.cell KM (by omega)
          first | (go_simp; done) | (go_simp; with_reducible rfl)
        try simp only [Act.put, List.getElem_toArray, List.getElem_cons_zero, List.getElem_cons_succ, List.setIfInBounds_toArray, List.set_cons_zero, List.set_cons_succ]
        refine pt_q (v := ?_) rfl (by rfl) ?_ ?_
        rotate_left
        · intro w' hBw'
          have p0 := hBw'.cell KP (by omega)
          have k0 := hBw'.cell K0 (by omega)
          have k1 := hBw'.cell K1 (by omega)
          have km := hBw'.cell KM (by omega)
          first | (go_simp; done) | (go_simp; with_reducible rfl)
        try simp only [Act.put, List.getElem_toArray, List.getElem_cons_zero, List.getElem_cons_succ, List.setIfInBounds_toArray, List.set_cons_zero, List.set_cons_succ]
        refine pt_q (v := ?_) rfl (by rfl) ?_ ?_
        rotate_left
        · intro w' hBw'
          have p0 := hBw'.cell KP (by omega)
          have k0 := hBw'.cell K0 (by omega)
          have k1 := hBw'.cell K1 (by omega)
          have km := hBw'.cell KM (by omega)
          first | (go_simp; done) | (go_simp; with_reducible rfl)
        try simp only [Act.put, List.getElem_toArray, List.getElem_cons_zero, List.getElem_cons_succ, List.setIfInBounds_toArray, List.set_cons_zero, List.set_cons_succ]
        refine pt_c ?_
        refine pt_step rfl (by rfl) (fun K hK => ?_)
        go_simp
        refine (rNodes_c m.region _ VV.out.roll HS.out HE.out).mono ?_
        rintro en wx ⟨C3, v3, rfl, hov3, _, _, _, hbx⟩
        refine hK.out _ _ (But.of_below hbx) ?_
        clear hK K
        try simp only [Act.put, List.getElem_toArray, List.getElem_cons_zero, List.getElem_cons_succ, List.setIfInBounds_toArray, List.set_cons_zero, List.set_cons_succ]
        replace KP := cell_up hbx KP
        replace K0 := cell_up hbx K0
        replace K1 := cell_up hbx K1
        replace KM := cell_up hbx KM
        replace VV := Lib.hid (VV.out.up hbx)
        replace HM := Lib.hid (marks_up HM.out hbx)
        clear hbx
        refine pt_c ?_
        refine pt_step rfl (by rfl) (fun K hK => ?_)
        go_simp
        refine (rfNodes_c L _ L.length m.region _ VV.out.want hL).mono ?_
        rintro en wx ⟨u3, rfl, hown3, hbx⟩
        refine hK.out _ _ (But.of_below hbx) ?_
        clear hK K
        try simp only [Act.put, List.getElem_toArray, List.getElem_cons_zero, List.getElem_cons_succ, List.setIfInBounds_toArray, List.set_cons_zero, List.set_cons_succ]
        replace KP := cell_up hbx KP
        replace K0 := cell_up hbx K0
        replace K1 := cell_up hbx K1
        replace KM := cell_up hbx KM
        replace VV := Lib.hid (VV.out.up hbx)
        replace HM := Lib.hid (marks_up HM.out hbx)
        replace hov3 := hov3.up hbx
        clear hbx
        refine pt_c ?_
        refine pt_step rfl (by rfl) (fun K hK => ?_)
        go_simp
        refine (uints_c many _ hov3 (Sl.of_own hown3) (by unfold nodsF; rw [List.length_map]; exact Nat.le_trans (List.length_filter_le _ _) hL)).mono ?_
        rintro en wx ⟨rfl, hbx⟩
        refine hK.out _ _ (But.of_below hbx) ?_
        clear hK K
        try simp only [Act.put, List.getElem_toArray, List.getElem_cons_zero, List.getElem_cons_succ, List.setIfInBounds_toArray, List.set_cons_zero, List.set_cons_succ]
        replace KP := cell_up hbx KP
        replace K0 := cell_up hbx K0
        replace K1 := cell_up hbx K1
        replace KM := cell_up hbx KM
        replace VV := Lib.hid (VV.out.up hbx)
        replace HM := Lib.hid (marks_up HM.out hbx)
        clear hov3 hown3
        clear hbx
        refine pt_q (v := ?_) rfl (by rfl) ?_ ?_
        rotate_left
        · intro w' hBw'
          have p0 := hBw'.cell KP (by omega)
          have k0 := hBw'.cell K0 (by omega)
          have k1 := hBw'.cell K1 (by omega)
          have km := hBw'.cell KM (by omega)
          first | (go_simp; done) | (go_simp; with_reducible rfl)
        try simp only [Act.put, List.getElem_toArray, List.getElem_cons_zero, List.getElem_cons_succ, List.setIfInBounds_toArray, List.set_cons_zero, List.set_cons_succ]
        refine pt_q (v := ?_) rfl (by rfl) ?_ ?_
        rotate_left
        · intro w' hBw'
          have p0 := hBw'.cell KP (by omega)
          have k0 := hBw'.cell K0 (by omega)
          have k1 := hBw'.cell K1 (by omega)
          have km := hBw'.cell KM (by omega)
          first | (go_simp; done) | (go_simp; with_reducible rfl)
        try simp only [Act.put, List.getElem_toArray, List.getElem_cons_zero, List.getElem_cons_succ, List.setIfInBounds_toArray, List.set_cons_zero, List.set_cons_succ]
        refine pt_q (v := ?_) rfl (by rfl) ?_ ?_
        rotate_left
        · intro w' hBw'
          have p0 := hBw'.cell KP (by omega)
          have k0 := hBw'.cell K0 (by omega)
          have k1 := hBw'.cell K1 (by omega)
          have km := hBw'.cell KM (by omega)
          first | (go_simp; done) | (go_simp; with_reducible rfl)
        try simp only [Act.put, List.getElem_toArray, List.getElem_cons_zero, List.getElem_cons_succ, List.setIfInBounds_toArray, List.set_cons_zero, List.set_cons_succ]
        refine pt_q (v := ?_) rfl (by rfl) ?_ ?_
        rotate_left
        · intro w' hBw'
          have p0 := hBw'.cell KP (by omega)
          have k0 := hBw'.cell K0 (by omega)
          have k1 := hBw'.cell K1 (by omega)
          have km := hBw'.cell KM (by omega)
          first | (go_simp; done) | (go_simp; with_reducible rfl)
        try simp only [Act.put, List.getElem_toArray, List.getElem_cons_zero, List.getElem_cons_succ, List.setIfInBounds_toArray, List.set_cons_zero, List.set_cons_succ]
        refine pt_q (v := ?_) rfl (by rfl) ?_ ?_
        rotate_left
        · intro w' hBw'
          have p0 := hBw'.cell KP (by omega)
          have k0 := hBw'.cell K0 (by omega)
          have k1 := hBw'.cell K1 (by omega)
          have km := hBw'.cell KM (by omega)
          first | (go_simp; done) | (go_simp; with_reducible rfl)
        try simp only [Act.put, List.getElem_toArray, List.getElem_cons_zero, List.getElem_cons_succ, List.setIfInBounds_toArray, List.set_cons_zero, List.set_cons_succ]
        refine pt_q (v := ?_) rfl (by rfl) ?_ ?_
        rotate_left
        · intro w' hBw'
          have p0 := hBw'.cell KP (by omega)
          have k0 := hBw'.cell K0 (by omega)
          have k1 := hBw'.cell K1 (by omega)
          have km := hBw'.cell KM (by omega)
          first | (go_simp; done) | (go_simp; with_reducible rfl)
        try simp only [Act.put, List.getElem_toArray, List.getElem_cons_zero, List.getElem_cons_succ, List.setIfInBounds_toArray, List.set_cons_zero, List.set_cons_succ]
        refine pt_c ?_
        refine pt_step rfl (by rfl) (fun K hK => ?_)
        go_simp
        refine (rLen_c _ VV.out.roll HE.out).mono ?_
        rw [← HL.out]; rintro en wx ⟨rfl, hbx⟩
        refine hK.out _ _ (But.of_below hbx) ?_
        clear hK K
        try simp only [Act.put, List.getElem_toArray, List.getElem_cons_zero, List.getElem_cons_succ, List.setIfInBounds_toArray, List.set_cons_zero, List.set_cons_succ]
        replace KP := cell_up hbx KP
        replace K0 := cell_up hbx K0
        replace K1 := cell_up hbx K1
        replace KM := cell_up hbx KM
        replace VV := Lib.hid (VV.out.up hbx)
        replace HM := Lib.hid (marks_up HM.out hbx)
        clear hbx
        refine pt_q (v := ?_) rfl (by rfl) ?_ ?_
        rotate_left
        · intro w' hBw'
          have p0 := hBw'.cell KP (by omega)
          have k0 := hBw'.cell K0 (by omega)
          have k1 := hBw'.cell K1 (by omega)
          have km := hBw'.cell KM (by omega)
          first | (go_simp; done) | (go_simp; with_reducible rfl)
        try simp only [Act.put, List.getElem_toArray, List.getElem_cons_zero, List.getElem_cons_succ, List.setIfInBounds_toArray, List.set_cons_zero, List.set_cons_succ]
        refine pt_q (v := ?_) rfl (by rfl) ?_ ?_
        rotate_left
        · intro w' hBw'
          have p0 := hBw'.cell KP (by omega)
          have k0 := hBw'.cell K0 (by omega)
          have k1 := hBw'.cell K1 (by omega)
          have km := hBw'.cell KM (by omega)
          first | (go_simp; done) | (go_simp; with_reducible rfl)
        try simp only [Act.put, List.getElem_toArray, List.getElem_cons_zero, List.getElem_cons_succ, List.setIfInBounds_toArray, List.set_cons_zero, List.set_cons_succ]
        have rfx := VV.out.r.fz 0
        have rcx := VV.out.r.cell (i := 0) (v := .bool false) rfl
        refine pt_c ?_
        refine pt_step rfl (by rfl) (fun K hK => ?_)
        go_simp
        refine hK.out _ _ (But.setCell _ _ _ (.inl rfl)) ?_
        clear hK K
        try simp only [Act.put, List.getElem_toArray, List.getElem_cons_zero, List.getElem_cons_succ, List.setIfInBounds_toArray, List.set_cons_zero, List.set_cons_succ]
        refine pt_doneN ?_
        have V7 := VV.out
        have hmk9 := HM.out
        have hnb : w.heap.size + 1 + 1 + 1 ∉ Ds := fun hD2 => by have h1 := hmk9 _ hD2; have h2 := V7.r; unfold RowAt at h2; rw [h1] at h2; cases h2
        go_wp2
        refine leaves_marks Ds _ hnd (fun D2 hD2 => ?_) (fun w9 hb9 => ?_)
        · have hne9 : D2 ≠ w.heap.size + 1 + 1 + 1 := fun e => hnb (e ▸ hD2)
          exact (Below.heap_setCell _ ⟨w.heap.size + 1 + 1 + 1, 0, none⟩ (.bool true) D2 (by simpa using hne9)).trans (hmk9 D2 hD2)
        · have hx4 := V7.r.set 0 (.bool true)
          have hx5 : RowAt w9 (w.heap.size + 1 + 1 + 1) #[.bool true] 4 := (hb9.same _ hx4.lt hnb).trans hx4
          have hx5c := hx5.cell (i := 0) (v := .bool true) rfl
          refine ⟨.bool true, by simp [results, Try.results19, go_sem, hx5c], rfl, ?_⟩
          have hB3 := V7.below.setCell (show w.heap.size ≤ (⟨w.heap.size + 1 + 1 + 1, 0, none⟩ : Addr).block by simp; omega) (.bool true)
          exact hB3.trans (hb9.below (fun D2 hD2 => by have := hlow.out D2 hD2; omega) hB3.size)
      | false =>
        have hg := rGet_c m.node m.region hm.n1 hm.n2 hm.r1 hm.r2 W VV.out.roll
        unfold getV at hg
        rw [find_none_ref HK.out HS.out hfb] at hg
        have hf := fun W hu => rfFind_c L (.slice au L.length cu) L.length m.node m.region W hu hL
        unfold findV at hf
        rw [hfb] at hf
        simp only [Option.getD_none, Option.isSome_none] at hg
        clear hfb
        generalize findK L m.node m.region = j at *
        have hne := mb_neql zmb zmb
        simp only [decide_true, Bool.not_true] at hne
        go_wp2_with (first
          | (go_at_call 36; refine hg.mono ?_; rintro en w5 ⟨rfl, hb5⟩; replace VV := Lib.hid (VV.out.up hb5); have X5 := RowAt.new w5 (mbC zmb).toArray 24; have hb6 := below_alloc w5 (.cells (mbC zmb).toArray 24); replace VV := Lib.hid (VV.out.up hb6); have p6 := VV.out.p.cell (i := 0) rfl; have c6 := VV.out.c.cell (i := 0) (v := .int .u32 m.node) rfl; have c7 := VV.out.c.cell (i := 1) (v := .int .u32 m.region) rfl; replace HM := Lib.hid (marks_up (marks_up HM.out hb5) hb6))
          | (go_at_call 35; refine (hf _ VV.out.want).mono ?_; rintro en w7 ⟨rfl, hb7⟩; replace VV := Lib.hid (VV.out.up hb7); have X7 := X5.below hb7; replace HM := Lib.hid (marks_up HM.out hb7)))
        refine wp_onlyN (wp_region_pt (fun _ => False) (.q 0 (.q 1 (.q 2 (.q 3 (.q 4 (.q 5 (.q 6 (.q 7 (.q 8 (.q 9 (.q 10 (.q 11 (.q 12 (.q 13 (.q 14 (.q 15 (.q 16 (.q 17 (.q 18 (.q 19 (.q 20 (.q 21 (.q 22 (.q 23 .done)))))))))))))))))))))))) (by kernel_rfl) (by kernel_rfl) (by kernel_rfl) (by decide) onlyN_panic (fun Wd hBd => ?_))
        try simp only [Act.put, List.getElem_toArray, List.getElem_cons_zero, List.getElem_cons_succ, List.setIfInBounds_toArray, List.set_cons_zero, List.set_cons_succ]
        replace VV := Lib.hid (VV.out.up hBd)
        replace HM := Lib.hid (marks_up HM.out hBd)
        have X8 := X7.below hBd
        have KP := VV.out.p.cell (i := 0) (v := .slice au L.length cu) rfl
        refine pt_q (v := ?_) rfl (by rfl) ?_ ?_
        rotate_left
        · intro w' hBw'
          have p0 := hBw'.cell KP (fun h => h)
          first | (go_simp; done) | (go_simp; with_reducible rfl)
        try simp only [Act.put, List.getElem_toArray, List.getElem_cons_zero, List.getElem_cons_succ, List.setIfInBounds_toArray, List.set_cons_zero, List.set_cons_succ]
        refine pt_q (v := ?_) rfl (by rfl) ?_ ?_
        rotate_left
        · intro w' hBw'
          have p0 := hBw'.cell KP (fun h => h)
          first | (go_simp; done) | (go_simp; with_reducible rfl)
        try simp only [Act.put, List.getElem_toArray, List.getElem_cons_zero, List.getElem_cons_succ, List.setIfInBounds_toArray, List.set_cons_zero, List.set_cons_succ]
        refine pt_q (v := ?_) rfl (by rfl) ?_ ?_
        rotate_left
        · intro w' hBw'
          have p0 := hBw'.cell KP (fun h => h)
          first | (go_simp; done) | (go_simp; with_reducible rfl)
        try simp only [Act.put, List.getElem_toArray, List.getElem_cons_zero, List.getElem_cons_succ, List.setIfInBounds_toArray, List.set_cons_zero, List.set_cons_succ]
        refine pt_q (v := ?_) rfl (by rfl) ?_ ?_
        rotate_left
        · intro w' hBw'
          have p0 := hBw'.cell KP (fun h => h)
          first | (go_simp; done) | (go_simp; with_reducible rfl)
        try simp only [Act.put, List.getElem_toArray, List.getElem_cons_zero, List.getElem_cons_succ, List.setIfInBounds_toArray, List.set_cons_zero, List.set_cons_succ]
        refine pt_q (v := ?_) rfl (by rfl) ?_ ?_
        rotate_left
        · intro w' hBw'
          have p0 := hBw'.cell KP (fun h => h)
          first | (go_simp; done) | (go_simp; with_reducible rfl)
        try simp only [Act.put, List.getElem_toArray, List.getElem_cons_zero, List.getElem_cons_succ, List.setIfInBounds_toArray, List.set_cons_zero, List.set_cons_succ]
        refine pt_q (v := ?_) rfl (by rfl) ?_ ?_
        rotate_left
        · intro w' hBw'
          have p0 := hBw'.cell KP (fun h => h)
          first | (go_simp; done) | (go_simp; with_reducible rfl)
        try simp only [Act.put, List.getElem_toArray, List.getElem_cons_zero, List.getElem_cons_succ, List.setIfInBounds_toArray, List.set_cons_zero, List.set_cons_succ]
        refine pt_no rfl (by rfl) ?_
        try simp only [Act.put, List.getElem_toArray, List.getElem_cons_zero, List.getElem_cons_succ, List.setIfInBounds_toArray, List.set_cons_zero, List.set_cons_succ]
        refine pt_no rfl (by rfl) ?_
        try simp only [Act.put, List.getElem_toArray, List.getElem_cons_zero, List.getElem_cons_succ, List.setIfInBounds_toArray, List.set_cons_zero, List.set_cons_succ]
        refine pt_no rfl (by rfl) ?_
        try simp only [Act.put, List.getElem_toArray, List.getElem_cons_zero, List.getElem_cons_succ, List.setIfInBounds_toArray, List.set_cons_zero, List.set_cons_succ]
        refine pt_no rfl (by rfl) ?_
        try simp only [Act.put, List.getElem_toArray, List.getElem_cons_zero, List.getElem_cons_succ, List.setIfInBounds_toArray, List.set_cons_zero, List.set_cons_succ]
        refine pt_no rfl (by rfl) ?_
        try simp only [Act.put, List.getElem_toArray, List.getElem_cons_zero, List.getElem_cons_succ, List.setIfInBounds_toArray, List.set_cons_zero, List.set_cons_succ]
        refine pt_no rfl (by rfl) ?_
        try simp only [Act.put, List.getElem_toArray, List.getElem_cons_zero, List.getElem_cons_succ, List.setIfInBounds_toArray, List.set_cons_zero, List.set_cons_succ]
        refine pt_no rfl (by rfl) ?_
        try simp only [Act.put, List.getElem_toArray, List.getElem_cons_zero, List.getElem_cons_succ, List.setIfInBounds_toArray, List.set_cons_zero, List.set_cons_succ]
        refine pt_q (v := ?_) rfl (by rfl) ?_ ?_
        rotate_left
        · intro w' hBw'
          have p0 := hBw'.cell KP (fun h => h)
          first | (go_simp; done) | (go_simp; with_reducible rfl)
        try simp only [Act.put, List.getElem_toArray, List.getElem_cons_zero, List.getElem_cons_succ, List.setIfInBounds_toArray, List.set_cons_zero, List.set_cons_succ]
        refine pt_q (v := ?_) rfl (by rfl) ?_ ?_
        rotate_left
        · intro w' hBw'
          have p0 := hBw'.cell KP (fun h => h)
          first | (go_simp; done) | (go_simp; with_reducible rfl)
        try simp only [Act.put, List.getElem_toArray, List.getElem_cons_zero, List.getElem_cons_succ, List.setIfInBounds_toArray, List.set_cons_zero, List.set_cons_succ]
        refine pt_q (v := ?_) rfl (by rfl) ?_ ?_
        rotate_left
        · intro w' hBw'
          have p0 := hBw'.cell KP (fun h => h)
          first | (go_simp; done) | (go_simp; with_reducible rfl)
        try simp only [Act.put, List.getElem_toArray, List.getElem_cons_zero, List.getElem_cons_succ, List.setIfInBounds_toArray, List.set_cons_zero, List.set_cons_succ]
        refine pt_q (v := ?_) rfl (by rfl) ?_ ?_
        rotate_left
        · intro w' hBw'
          have p0 := hBw'.cell KP (fun h => h)
          first | (go_simp; done) | (go_simp; with_reducible rfl)
        try simp only [Act.put, List.getElem_toArray, List.getElem_cons_zero, List.getElem_cons_succ, List.setIfInBounds_toArray, List.set_cons_zero, List.set_cons_succ]
        refine pt_q (v := ?_) rfl (by rfl) ?_ ?_
        rotate_left
        · intro w' hBw'
          have p0 := hBw'.cell KP (fun h => h)
          first | (go_simp; done) | (go_simp; with_reducible rfl)
        try simp only [Act.put, List.getElem_toArray, List.getElem_cons_zero, List.getElem_cons_succ, List.setIfInBounds_toArray, List.set_cons_zero, List.set_cons_succ]
        refine pt_q (v := ?_) rfl (by rfl) ?_ ?_
        rotate_left
        · intro w' hBw'
          have p0 := hBw'.cell KP (fun h => h)
          first | (go_simp; done) | (go_simp; with_reducible rfl)
        try simp only [Act.put, List.getElem_toArray, List.getElem_cons_zero, List.getElem_cons_succ, List.setIfInBounds_toArray, List.set_cons_zero, List.set_cons_succ]
        refine pt_load rfl (by rfl) 24 (.tmp 13) rfl w5.heap.size 0 rfl (mbC zmb) _ X8.range (fun h => h) Try.underlying24 rfl (by kernel_rfl) ?_
        try simp only [Act.put, List.getElem_toArray, List.getElem_cons_zero, List.getElem_cons_succ, List.setIfInBounds_toArray, List.set_cons_zero, List.set_cons_succ]
        refine pt_q (v := ?_) rfl (by rfl) ?_ ?_
        rotate_left
        · intro w' hBw'
          have p0 := hBw'.cell KP (fun h => h)
          first | (go_simp; done) | (go_simp; with_reducible rfl)
        try simp only [Act.put, List.getElem_toArray, List.getElem_cons_zero, List.getElem_cons_succ, List.setIfInBounds_toArray, List.set_cons_zero, List.set_cons_succ]
        refine pt_q (v := .bool false) rfl (by rfl) (fun w' _ => exec_mbneq (e := zmb) rfl rfl rfl w') ?_
        try simp only [Act.put, List.getElem_toArray, List.getElem_cons_zero, List.getElem_cons_succ, List.setIfInBounds_toArray, List.set_cons_zero, List.set_cons_succ]
        refine pt_q (v := ?_) rfl (by rfl) ?_ ?_
        rotate_left
        · intro w' hBw'
          have p0 := hBw'.cell KP (fun h => h)
          first | (go_simp; done) | (go_simp; with_reducible rfl)
        try simp only [Act.put, List.getElem_toArray, List.getElem_cons_zero, List.getElem_cons_succ, List.setIfInBounds_toArray, List.set_cons_zero, List.set_cons_succ]
        refine pt_q (v := ?_) rfl (by rfl) ?_ ?_
        rotate_left
        · intro w' hBw'
          have p0 := hBw'.cell KP (fun h => h)
          first | (go_simp; done) | (go_simp; with_reducible rfl)
        try simp only [Act.put, List.getElem_toArray, List.getElem_cons_zero, List.getElem_cons_succ, List.setIfInBounds_toArray, List.set_cons_zero, List.set_cons_succ]
        refine pt_doneN ?_
        clear KP X8 X7
        obtain ⟨W8, hW8⟩ : ∃ W, W = Wd := ⟨_, rfl⟩
        subst hW8
        go_wp2
        refine wp_onlyN (wp_region_pt (fun i => i = w.heap.size + 1 + 1 + 1) (.q 0 (.q 1 (.q 2 (.q 3 (.q 4 (.q 6 (.q 7 (.q 8 (.q 9 (.q 10 (.c 5 (.c 11 (.q 12 (.q 13 (.q 14 (.q 15 (.q 16 (.q 18 (.q 19 (.q 20 (.c 17 (.c 21 (.q 22 (.q 23 (.q 24 (.q 25 (.q 26 (.q 27 (.q 29 (.q 30 (.q 31 (.q 33 (.c 28 (.c 32 (.c 34 (.q 35 (.q 36 (.q 37 (.q 38 (.q 39 (.q 41 (.q 42 (.q 43 (.q 45 (.c 40 (.c 44 (.c 46 (.q 47 (.q 48 (.q 49 (.q 51 (.q 52 (.q 53 (.c 50 (.q 54 (.q 55 (.c 56 .done))))))))))))))))))))))))))))))))))))))))))))))))))))))))) (by kernel_rfl) (by kernel_rfl) (by kernel_rfl) (by decide) onlyN_panic (fun Wd hBd => ?_))
        try simp only [Act.put, List.getElem_toArray, List.getElem_cons_zero, List.getElem_cons_succ, List.setIfInBounds_toArray, List.set_cons_zero, List.set_cons_succ]
        replace VV := Lib.hid (VV.out.up hBd)
        have KP := VV.out.p.cell (i := 0) (v := .slice au L.length cu) rfl
        have K0 := VV.out.c.cell (i := 0) (v := .int .u32 m.node) rfl
        have K1 := VV.out.c.cell (i := 1) (v := .int .u32 m.region) rfl
        have KM := VV.out.m.cell (i := 0) (v := .int .i64 many) rfl
        replace HM := Lib.hid (marks_up HM.out hBd)
        refine pt_q (v := ?_) rfl (by rfl) ?_ ?_
        rotate_left
        · intro w' hBw'
          have p0 := hBw'.cell KP (by omega)
          have k0 := hBw'.cell K0 (by omega)
          have k1 := hBw'.cell K1 (by omega)
          have km := hBw'.cell KM (by omega)
          first | (go_simp; done) | (go_simp; with_reducible rfl)
        try simp only [Act.put, List.getElem_toArray, List.getElem_cons_zero, List.getElem_cons_succ, List.setIfInBounds_toArray, List.set_cons_zero, List.set_cons_succ]
        refine pt_q (v := ?_) rfl (by rfl) ?_ ?_
        rotate_left
        · intro w' hBw'
          have p0 := hBw'.cell KP (by omega)
          have k0 := hBw'.cell K0 (by omega)
          have k1 := hBw'.cell K1 (by omega)
          have km := hBw'.cell KM (by omega)
          first | (go_simp; done) | (go_simp; with_reducible rfl)
        try simp only [Act.put, List.getElem_toArray, List.getElem_cons_zero, List.getElem_cons_succ, List.setIfInBounds_toArray, List.set_cons_zero, List.set_cons_succ]
        refine pt_q (v := ?_) rfl (by rfl) ?_ ?_
        rotate_left
        · intro w' hBw'
          have p0 := hBw'.cell KP (by omega)
          have k0 := hBw'.cell K0 (by omega)
          have k1 := hBw'.cell K1 (by omega)
          have km := hBw'.cell KM (by omega)
          first | (go_simp; done) | (go_simp; with_reducible rfl)
        try simp only [Act.put, List.getElem_toArray, List.getElem_cons_zero, List.getElem_cons_succ, List.setIfInBounds_toArray, List.set_cons_zero, List.set_cons_succ]
        refine pt_q (v := ?_) rfl (by rfl) ?_ ?_
        rotate_left
        · intro w' hBw'
          have p0 := hBw'.cell KP (by omega)
          have k0 := hBw'.cell K0 (by omega)
          have k1 := hBw'.cell K1 (by omega)
          have km := hBw'.cell KM (by omega)
          first | (go_simp; done) | (go_simp; with_reducible rfl)
        try simp only [Act.put, List.getElem_toArray, List.getElem_cons_zero, List.getElem_cons_succ, List.setIfInBounds_toArray, List.set_cons_zero, List.set_cons_succ]
        refine pt_q (v := ?_) rfl (by rfl) ?_ ?_
        rotate_left
        · intro w' hBw'
          have p0 := hBw'.cell KP (by omega)
          have k0 := hBw'.cell K0 (by omega)
          have k1 := hBw'.cell K1 (by omega)
          have km := hBw'.cell KM (by omega)
          first | (go_simp; done) | (go_simp; with_reducible rfl)
        try simp only [Act.put, List.getElem_toArray, List.getElem_cons_zero, List.getElem_cons_succ, List.setIfInBounds_toArray, List.set_cons_zero, List.set_cons_succ]
        refine pt_q (v := ?_) rfl (by rfl) ?_ ?_
        rotate_left
        · intro w' hBw'
          have p0 := hBw'.cell KP (by omega)
          have k0 := hBw'.cell K0 (by omega)
          have k1 := hBw'.cell K1 (by omega)
          have km := hBw'.cell KM (by omega)
          first | (go_simp; done) | (go_simp; with_reducible rfl)
        try simp only [Act.put, List.getElem_toArray, List.getElem_cons_zero, List.getElem_cons_succ, List.setIfInBounds_toArray, List.set_cons_zero, List.set_cons_succ]
        refine pt_q (v := ?_) rfl (by rfl) ?_ ?_
        rotate_left
        · intro w' hBw'
          have p0 := hBw'.cell KP (by omega)
          have k0 := hBw'.cell K0 (by omega)
          have k1 := hBw'.cell K1 (by omega)
          have km := hBw'.cell KM (by omega)
          first | (go_simp; done) | (go_simp; with_reducible rfl)
        try simp only [Act.put, List.getElem_toArray, List.getElem_cons_zero, List.getElem_cons_succ, List.setIfInBounds_toArray, List.set_cons_zero, List.set_cons_succ]
        refine pt_q (v := ?_) rfl (by rfl) ?_ ?_
        rotate_left
        · intro w' hBw'
          have p0 := hBw'.cell KP (by omega)
          have k0 := hBw'.cell K0 (by omega)
          have k1 := hBw'.cell K1 (by omega)
          have km := hBw'.cell KM (by omega)
          first | (go_simp; done) | (go_simp; with_reducible rfl)
        try simp only [Act.put, List.getElem_toArray, List.getElem_cons_zero, List.getElem_cons_succ, List.setIfInBounds_toArray, List.set_cons_zero, List.set_cons_succ]
        refine pt_q (v := ?_) rfl (by rfl) ?_ ?_
        rotate_left
        · intro w' hBw'
          have p0 := hBw'.cell KP (by omega)
          have k0 := hBw'.cell K0 (by omega)
          have k1 := hBw'.cell K1 (by omega)
          have km := hBw'.cell KM (by omega)
          first | (go_simp; done) | (go_simp; with_reducible rfl)
        try simp only [Act.put, List.getElem_toArray, List.getElem_cons_zero, List.getElem_cons_succ, List.setIfInBounds_toArray, List.set_cons_zero, List.set_cons_succ]
        refine pt_q (v := ?_) rfl (by rfl) ?_ ?_
        rotate_left
        · intro w' hBw'
          have p0 := hBw'.cell KP (by omega)
          have k0 := hBw'.cell K0 (by omega)
          have k1 := hBw'.cell K1 (by omega)
          have km := hBw'.cell KM (by omega)
          first | (go_simp; done) | (go_simp; with_reducible rfl)
        try simp only [Act.put, List.getElem_toArray, List.getElem_cons_zero, List.getElem_cons_succ, List.setIfInBounds_toArray, List.set_cons_zero, List.set_cons_succ]
        refine pt_c ?_
        refine pt_step rfl (by rfl) (fun K hK => ?_)
        go_simp
        refine (rHas_c m.node m.region hm.n1 hm.n2 hm.r1 hm.r2 _ VV.out.roll).mono ?_
        rintro en wx ⟨rfl, hbx⟩
        refine hK.out _ _ (But.of_below hbx) ?_
        clear hK K
        try simp only [Act.put, List.getElem_toArray, List.getElem_cons_zero, List.getElem_cons_succ, List.setIfInBounds_toArray, List.set_cons_zero, List.set_cons_succ]
        replace KP := cell_up hbx KP
        replace K0 := cell_up hbx K0
        replace K1 := cell_up hbx K1
        replace KM := cell_up hbx KM
        replace VV := Lib.hid (VV.out.up hbx)
        replace HM := Lib.hid (marks_up HM.out hbx)
        clear hbx
        refine pt_c ?_
        refine pt_step rfl (by rfl) (fun K hK => ?_)
        go_simp
        refine (rfHas_c L _ L.length m.node m.region _ VV.out.want hL).mono ?_
        rw [← HH.out]; rintro en wx ⟨rfl, hbx⟩
        refine hK.out _ _ (But.of_below hbx) ?_
        clear hK K
        try simp only [Act.put, List.getElem_toArray, List.getElem_cons_zero, List.getElem_cons_succ, List.setIfInBounds_toArray, List.set_cons_zero, List.set_cons_succ]
        replace KP := cell_up hbx KP
        replace K0 := cell_up hbx K0
        replace K1 := cell_up hbx K1
        replace KM := cell_up hbx KM
        replace VV := Lib.hid (VV.out.up hbx)
        replace HM := Lib.hid (marks_up HM.out hbx)
        clear hbx
        refine pt_q (v := ?_) rfl (by rfl) ?_ ?_
        rotate_left
        · intro w' hBw'
          have p0 := hBw'.cell KP (by omega)
          have k0 := hBw'.cell K0 (by omega)
          have k1 := hBw'.cell K1 (by omega)
          have km := hBw'.cell KM (by omega)
          first | (go_simp; done) | (go_simp; with_reducible rfl)
        try simp only [Act.put, List.getElem_toArray, List.getElem_cons_zero, List.getElem_cons_succ, List.setIfInBounds_toArray, List.set_cons_zero, List.set_cons_succ]
        refine pt_q (v := ?_) rfl (by rfl) ?_ ?_
        rotate_left
        · intro w' hBw'
          have p0 := hBw'.cell KP (by omega)
          have k0 := hBw'.cell K0 (by omega)
          have k1 := hBw'.cell K1 (by omega)
          have km := hBw'.cell KM (by omega)
          first | (go_simp; done) | (go_simp; with_reducible rfl)
        try simp only [Act.put, List.getElem_toArray, List.getElem_cons_zero, List.getElem_cons_succ, List.setIfInBounds_toArray, List.set_cons_zero, List.set_cons_succ]
        refine pt_q (v := ?_) rfl (by rfl) ?_ ?_
        rotate_left
        · intro w' hBw'
          have p0 := hBw'.cell KP (by omega)
          have k0 := hBw'.cell K0 (by omega)
          have k1 := hBw'.cell K1 (by omega)
          have km := hBw'.cell KM (by omega)
          first | (go_simp; done) | (go_simp; with_reducible rfl)
        try simp only [Act.put, List.getElem_toArray, List.getElem_cons_zero, List.getElem_cons_succ, List.setIfInBounds_toArray, List.set_cons_zero, List.set_cons_succ]
        refine pt_q (v := ?_) rfl (by rfl) ?_ ?_
        rotate_left
        · intro w' hBw'
          have p0 := hBw'.cell KP (by omega)
          have k0 := hBw'.cell K0 (by omega)
          have k1 := hBw'.cell K1 (by omega)
          have km := hBw'.cell KM (by omega)
          first | (go_simp; done) | (go_simp; with_reducible rfl)
        try simp only [Act.put, List.getElem_toArray, List.getElem_cons_zero, List.getElem_cons_succ, List.setIfInBounds_toArray, List.set_cons_zero, List.set_cons_succ]
        refine pt_q (v := ?_) rfl (by rfl) ?_ ?_
        rotate_left
        · intro w' hBw'
          have p0 := hBw'.cell KP (by omega)
          have k0 := hBw'.cell K0 (by omega)
          have k1 := hBw'.cell K1 (by omega)
          have km := hBw'.cell KM (by omega)
          first | (go_simp; done) | (go_simp; with_reducible rfl)
        try simp only [Act.put, List.getElem_toArray, List.getElem_cons_zero, List.getElem_cons_succ, List.setIfInBounds_toArray, List.set_cons_zero, List.set_cons_succ]
        refine pt_q (v := ?_) rfl (by rfl) ?_ ?_
        rotate_left
        · intro w' hBw'
          have p0 := hBw'.cell KP (by omega)
          have k0 := hBw'.cell K0 (by omega)
          have k1 := hBw'.cell K1 (by omega)
          have km := hBw'.cell KM (by omega)
          first | (go_simp; done) | (go_simp; with_reducible rfl)
        try simp only [Act.put, List.getElem_toArray, List.getElem_cons_zero, List.getElem_cons_succ, List.setIfInBounds_toArray, List.set_cons_zero, List.set_cons_succ]
        refine pt_q (v := ?_) rfl (by rfl) ?_ ?_
        rotate_left
        · intro w' hBw'
          have p0 := hBw'.cell KP (by omega)
          have k0 := hBw'.cell K0 (by omega)
          have k1 := hBw'.cell K1 (by omega)
          have km := hBw'.cell KM (by omega)
          first | (go_simp; done) | (go_simp; with_reducible rfl)
        try simp only [Act.put, List.getElem_toArray, List.getElem_cons_zero, List.getElem_cons_succ, List.setIfInBounds_toArray, List.set_cons_zero, List.set_cons_succ]
        refine pt_q (v := ?_) rfl (by rfl) ?_ ?_
        rotate_left
        · intro w' hBw'
          have p0 := hBw'.cell KP (by omega)
          have k0 := hBw'.cell K0 (by omega)
          have k1 := hBw'.cell K1 (by omega)
          have km := hBw'.cell KM (by omega)
          first | (go_simp; done) | (go_simp; with_reducible rfl)
        try simp only [Act.put, List.getElem_toArray, List.getElem_cons_zero, List.getElem_cons_succ, List.setIfInBounds_toArray, List.set_cons_zero, List.set_cons_succ]
        refine pt_c ?_
        refine pt_step rfl (by rfl) (fun K hK => ?_)
        go_simp
        refine (rHome_c m.node _ VV.out.roll HS.out HE.out).mono ?_
        rintro en wx ⟨rfl, hbx⟩
        refine hK.out _ _ (But.of_below hbx) ?_
        clear hK K
        try simp only [Act.put, List.getElem_toArray, List.getElem_cons_zero, List.getElem_cons_succ, List.setIfInBounds_toArray, List.set_cons_zero, List.set_cons_succ]
        replace KP := cell_up hbx KP
        replace K0 := cell_up hbx K0
        replace K1 := cell_up hbx K1
        replace KM := cell_up hbx KM
        replace VV := Lib.hid (VV.out.up hbx)
        replace HM := Lib.hid (marks_up HM.out hbx)
        clear hbx
        refine pt_c ?_
        refine pt_step rfl (by rfl) (fun K hK => ?_)
        go_simp
        refine (rfHome_c L _ L.length m.node _ VV.out.want hL).mono ?_
        rintro en wx ⟨rfl, hbx⟩
        refine hK.out _ _ (But.of_below hbx) ?_
        clear hK K
        try simp only [Act.put, List.getElem_toArray, List.getElem_cons_zero, List.getElem_cons_succ, List.setIfInBounds_toArray, List.set_cons_zero, List.set_cons_succ]
        replace KP := cell_up hbx KP
        replace K0 := cell_up hbx K0
        replace K1 := cell_up hbx K1
        replace KM := cell_up hbx KM
        replace VV := Lib.hid (VV.out.up hbx)
        replace HM := Lib.hid (marks_up HM.out hbx)
        clear hbx
        refine pt_q (v := ?_) rfl (by rfl) ?_ ?_
        rotate_left
        · intro w' hBw'
          have p0 := hBw'.cell KP (by omega)
          have k0 := hBw'.cell K0 (by omega)
          have k1 := hBw'.cell K1 (by omega)
          have km := hBw'.cell KM (by omega)
          first | (go_simp; done) | (go_simp; with_reducible rfl)
        try simp only [Act.put, List.getElem_toArray, List.getElem_cons_zero, List.getElem_cons_succ, List.setIfInBounds_toArray, List.set_cons_zero, List.set_cons_succ]
        refine pt_q (v := ?_) rfl (by rfl) ?_ ?_
        rotate_left
        · intro w' hBw'
          have p0 := hBw'.cell KP (by omega)
          have k0 := hBw'.cell K0 (by omega)
          have k1 := hBw'.cell K1 (by omega)
          have km := hBw'.cell KM (by omega)
          first | (go_simp; done) | (go_simp; with_reducible rfl)
        try simp only [Act.put, List.getElem_toArray, List.getElem_cons_zero, List.getElem_cons_succ, List.setIfInBounds_toArray, List.set_cons_zero, List.set_cons_succ]
        refine pt_q (v := ?_) rfl (by rfl) ?_ ?_
        rotate_left
        · intro w' hBw'
          have p0 := hBw'.cell KP (by omega)
          have k0 := hBw'.cell K0 (by omega)
          have k1 := hBw'.cell K1 (by omega)
          have km := hBw'.cell KM (by omega)
          first | (go_simp; done) | (go_simp; with_reducible rfl)
        try simp only [Act.put, List.getElem_toArray, List.getElem_cons_zero, List.getElem_cons_succ, List.setIfInBounds_toArray, List.set_cons_zero, List.set_cons_succ]
        refine pt_q (v := ?_) rfl (by rfl) ?_ ?_
        rotate_left
        · intro w' hBw'
          have p0 := hBw'.cell KP (by omega)
          have k0 := hBw'.cell K0 (by omega)
          have k1 := hBw'.cell K1 (by omega)
          have km := hBw'.cell KM (by omega)
          first | (go_simp; done) | (go_simp; with_reducible rfl)
        try simp only [Act.put, List.getElem_toArray, List.getElem_cons_zero, List.getElem_cons_succ, List.setIfInBounds_toArray, List.set_cons_zero, List.set_cons_succ]
        refine pt_q (v := ?_) rfl (by rfl) ?_ ?_
        rotate_left
        · intro w' hBw'
          have p0 := hBw'.cell KP (by omega)
          have k0 := hBw'.cell K0 (by omega)
          have k1 := hBw'.cell K1 (by omega)
          have km := hBw'.cell KM (by omega)
          first | (go_simp; done) | (go_simp; with_reducible rfl)
        try simp only [Act.put, List.getElem_toArray, List.getElem_cons_zero, List.getElem_cons_succ, List.setIfInBounds_toArray, List.set_cons_zero, List.set_cons_succ]
        refine pt_q (v := ?_) rfl (by rfl) ?_ ?_
        rotate_left
        · intro w' hBw'
          have p0 := hBw'.cell KP (by omega)
          have k0 := hBw'.cell K0 (by omega)
          have k1 := hBw'.cell K1 (by omega)
          have km := hBw'.cell KM (by omega)
          first | (go_simp; done) | (go_simp; with_reducible rfl)
        try simp only [Act.put, List.getElem_toArray, List.getElem_cons_zero, List.getElem_cons_succ, List.setIfInBounds_toArray, List.set_cons_zero, List.set_cons_succ]
        refine pt_q (v := ?_) rfl (by rfl) ?_ ?_
        rotate_left
        · intro w' hBw'
          have p0 := hBw'.cell KP (by omega)
          have k0 := hBw'.cell K0 (by omega)
          have k1 := hBw'.cell K1 (by omega)
          have km := hBw'.cell KM (by omega)
          first | (go_simp; done) | (go_simp; with_reducible rfl)
        try simp only [Act.put, List.getElem_toArray, List.getElem_cons_zero, List.getElem_cons_succ, List.setIfInBounds_toArray, List.set_cons_zero, List.set_cons_succ]
        refine pt_q (v := ?_) rfl (by rfl) ?_ ?_
        rotate_left
        · intro w' hBw'
          have p0 := hBw'.cell KP (by omega)
          have k0 := hBw'.cell K0 (by omega)
          have k1 := hBw'.cell K1 (by omega)
          have km := hBw'.cell KM (by omega)
          first | (go_simp; done) | (go_simp; with_reducible rfl)
        try simp only [Act.put, List.getElem_toArray, List.getElem_cons_zero, List.getElem_cons_succ, List.setIfInBounds_toArray, List.set_cons_zero, List.set_cons_succ]
        refine pt_q (v := ?_) rfl (by rfl) ?_ ?_
        rotate_left
        · intro w' hBw'
          have p0 := hBw'.cell KP (by omega)
          have k0 := hBw'.cell K0 (by omega)
          have k1 := hBw'.cell K1 (by omega)
          have km := hBw'.cell KM (by omega)
          first | (go_simp; done) | (go_simp; with_reducible rfl)
        try simp only [Act.put, List.getElem_toArray, List.getElem_cons_zero, List.getElem_cons_succ, List.setIfInBounds_toArray, List.set_cons_zero, List.set_cons_succ]
        refine pt_q (v := ?_) rfl (by rfl) ?_ ?_
        rotate_left
        · intro w' hBw'
          have p0 := hBw'.cell KP (by omega)
          have k0 := hBw'.cell K0 (by omega)
          have k1 := hBw'.cell K1 (by omega)
          have km := hBw'.cell KM (by omega)
          first | (go_simp; done) | (go_simp; with_reducible rfl)
        try simp only [Act.put, List.getElem_toArray, List.getElem_cons_zero, List.getElem_cons_succ, List.setIfInBounds_toArray, List.set_cons_zero, List.set_cons_succ]
        refine pt_c ?_
        refine pt_step rfl (by rfl) (fun K hK => ?_)
        go_simp
        refine (rRegions_c m.node _ VV.out.roll HS.out HE.out).mono ?_
        rintro en wx ⟨C2, v2, rfl, hov2, _, _, _, hbx⟩
        refine hK.out _ _ (But.of_below hbx) ?_
        clear hK K
        try simp only [Act.put, List.getElem_toArray, List.getElem_cons_zero, List.getElem_cons_succ, List.setIfInBounds_toArray, List.set_cons_zero, List.set_cons_succ]
        replace KP := cell_up hbx KP
        replace K0 := cell_up hbx K0
        replace K1 := cell_up hbx K1
        replace KM := cell_up hbx KM
        replace VV := Lib.hid (VV.out.up hbx)
        replace HM := Lib.hid (marks_up HM.out hbx)
        clear hbx
        refine pt_c ?_
        refine pt_step rfl (by rfl) (fun K hK => ?_)
        go_simp
        refine (rfRegions_c L _ L.length m.node _ VV.out.want hL).mono ?_
        rintro en wx ⟨u2, rfl, hown2, hbx⟩
        refine hK.out _ _ (But.of_below hbx) ?_
        clear hK K
        try simp only [Act.put, List.getElem_toArray, List.getElem_cons_zero, List.getElem_cons_succ, List.setIfInBounds_toArray, List.set_cons_zero, List.set_cons_succ]
        replace KP := cell_up hbx KP
        replace K0 := cell_up hbx K0
        replace K1 := cell_up hbx K1
        replace KM := cell_up hbx KM
        replace VV := Lib.hid (VV.out.up hbx)
        replace HM := Lib.hid (marks_up HM.out hbx)
        replace hov2 := hov2.up hbx
        clear hbx
        refine pt_c ?_
        refine pt_step rfl (by rfl) (fun K hK => ?_)
        go_simp
        refine (uints_c many _ hov2 (Sl.of_own hown2) (by unfold regsF; rw [List.length_map]; exact Nat.le_trans (List.length_filter_le _ _) hL)).mono ?_
        rintro en wx ⟨rfl, hbx⟩
        refine hK.out _ _ (But.of_below hbx) ?_
        clear hK K
        try simp only [Act.put, List.getElem_toArray, List.getElem_cons_zero, List.getElem_cons_succ, List.setIfInBounds_toArray, List.set_cons_zero, List.set_cons_succ]
        replace KP := cell_up hbx KP
        replace K0 := cell_up hbx K0
        replace K1 := cell_up hbx K1
        replace KM := cell_up hbx KM
        replace VV := Lib.hid (VV.out.up hbx)
        replace HM := Lib.hid (marks_up HM.out hbx)
        clear hov2 hown2
        clear hbx
        refine pt_q (v := ?_) rfl (by rfl) ?_ ?_
        rotate_left
        · intro w' hBw'
          have p0 := hBw'.cell KP (by omega)
          have k0 := hBw'.cell K0 (by omega)
          have k1 := hBw'.cell K1 (by omega)
          have km := hBw'.cell KM (by omega)
          first | (go_simp; done) | (go_simp; with_reducible rfl)
        try simp only [Act.put, List.getElem_toArray, List.getElem_cons_zero, List.getElem_cons_succ, List.setIfInBounds_toArray, List.set_cons_zero, List.set_cons_succ]
        refine pt_q (v := ?_) rfl (by rfl) ?_ ?_
        rotate_left
        · intro w' hBw'
          have p0 := hBw'.cell KP (by omega)
          have k0 := hBw'.cell K0 (by omega)
          have k1 := hBw'.cell K1 (by omega)
          have km := hBw'.cell KM (by omega)
          first | (go_simp; done) | (go_simp; with_reducible rfl)
        try simp only [Act.put, List.getElem_toArray, List.getElem_cons_zero, List.getElem_cons_succ, List.setIfInBounds_toArray, List.set_cons_zero, List.set_cons_succ]
        refine pt_q (v := ?_) rfl (by rfl) ?_ ?_
        rotate_left
        · intro w' hBw'
          have p0 := hBw'.cell KP (by omega)
          have k0 := hBw'.cell K0 (by omega)
          have k1 := hBw'.cell K1 (by omega)
          have km := hBw'.cell KM (by omega)
          first | (go_simp; done) | (go_simp; with_reducible rfl)
        try simp only [Act.put, List.getElem_toArray, List.getElem_cons_zero, List.getElem_cons_succ, List.setIfInBounds_toArray, List.set_cons_zero, List.set_cons_succ]
        refine pt_q (v := ?_) rfl (by rfl) ?_ ?_
        rotate_left
        · intro w' hBw'
          have p0 := hBw'.cell KP (by omega)
          have k0 := hBw'.cell K0 (by omega)
          have k1 := hBw'.cell K1 (by omega)
          have km := hBw'.cell KM (by omega)
          first | (go_simp; done) | (go_simp; with_reducible rfl)
        try simp only [Act.put, List.getElem_toArray, List.getElem_cons_zero, List.getElem_cons_succ, List.setIfInBounds_toArray, List.set_cons_zero, List.set_cons_succ]
        refine pt_q (v := ?_) rfl (by rfl) ?_ ?_
        rotate_left
        · intro w' hBw'
          have p0 := hBw'.cell KP (by omega)
          have k0 := hBw'.cell K0 (by omega)
          have k1 := hBw'.cell K1 (by omega)
          have km := hBw'.cell KM (by omega)
          first | (go_simp; done) | (go_simp; with_reducible rfl)
        try simp only [Act.put, List.getElem_toArray, List.getElem_cons_zero, List.getElem_cons_succ, List.setIfInBounds_toArray, List.set_cons_zero, List.set_cons_succ]
        refine pt_q (v := ?_) rfl (by rfl) ?_ ?_
        rotate_left
        · intro w' hBw'
          have p0 := hBw'.cell KP (by omega)
          have k0 := hBw'.cell K0 (by omega)
          have k1 := hBw'.cell K1 (by omega)
          have km := hBw'.cell KM (by omega)
          first | (go_simp; done) | (go_simp; with_reducible rfl)
        try simp only [Act.put, List.getElem_toArray, List.getElem_cons_zero, List.getElem_cons_succ, List.setIfInBounds_toArray, List.set_cons_zero, List.set_cons_succ]
        refine pt_q (v := ?_) rfl (by rfl) ?_ ?_
        rotate_left
        · intro w' hBw'
          have p0 := hBw'.cell KP (by omega)
          have k0 := hBw'.cell K0 (by omega)
          have k1 := hBw'.cell K1 (by omega)
          have km := hBw'.cell KM (by omega)
          first | (go_simp; done) | (go_simp; with_reducible rfl)
        try simp only [Act.put, List.getElem_toArray, List.getElem_cons_zero, List.getElem_cons_succ, List.setIfInBounds_toArray, List.set_cons_zero, List.set_cons_succ]
        refine pt_q (v := ?_) rfl (by rfl) ?_ ?_
        rotate_left
        · intro w' hBw'
          have p0 := hBw'.cell KP (by omega)
          have k0 := hBw'.cell K0 (by omega)
          have k1 := hBw'.cell K1 (by omega)
          have km := hBw'.cell KM (by omega)
          first | (go_simp; done) | (go_simp; with_reducible rfl)
        try simp only [Act.put, List.getElem_toArray, List.getElem_cons_zero, List.getElem_cons_succ, List.setIfInBounds_toArray, List.set_cons_zero, List.set_cons_succ]
        refine pt_q (v := ?_) rfl (by rfl) ?_ ?_
        rotate_left
        · intro w' hBw'
          have p0 := hBw'.cell KP (by omega)
          have k0 := hBw'.cell K0 (by omega)
          have k1 := hBw'.cell K1 (by omega)
          have km := hBw'.cell KM (by omega)
          first | (go_simp; done) | (go_simp; with_reducible rfl)
        try simp only [Act.put, List.getElem_toArray, List.getElem_cons_zero, List.getElem_cons_succ, List.setIfInBounds_toArray, List.set_cons_zero, List.set_cons_succ]
        refine pt_c ?_
        refine pt_step rfl (by rfl) (fun K hK => ?_)
        go_simp
        refine (rNodes_c m.region _ VV.out.roll HS.out HE.out).mono ?_
        rintro en wx ⟨C3, v3, rfl, hov3, _, _, _, hbx⟩
        refine hK.out _ _ (But.of_below hbx) ?_
        clear hK K
        try simp only [Act.put, List.getElem_toArray, List.getElem_cons_zero, List.getElem_cons_succ, List.setIfInBounds_toArray, List.set_cons_zero, List.set_cons_succ]
        replace KP := cell_up hbx KP
        replace K0 := cell_up hbx K0
        replace K1 := cell_up hbx K1
        replace KM := cell_up hbx KM
        replace VV := Lib.hid (VV.out.up hbx)
        replace HM := Lib.hid (marks_up HM.out hbx)
        clear hbx
        refine pt_c ?_
        refine pt_step rfl (by rfl) (fun K hK => ?_)
        go_simp
        refine (rfNodes_c L _ L.length m.region _ VV.out.want hL).mono ?_
        rintro en wx ⟨u3, rfl, hown3, hbx⟩
        refine hK.out _ _ (But.of_below hbx) ?_
        clear hK K
        try simp only [Act.put, List.getElem_toArray, List.getElem_cons_zero, List.getElem_cons_succ, List.setIfInBounds_toArray, List.set_cons_zero, List.set_cons_succ]
        replace KP := cell_up hbx KP
        replace K0 := cell_up hbx K0
        replace K1 := cell_up hbx K1
        replace KM := cell_up hbx KM
        replace VV := Lib.hid (VV.out.up hbx)
        replace HM := Lib.hid (marks_up HM.out hbx)
        replace hov3 := hov3.up hbx
        clear hbx
        refine pt_c ?_
        refine pt_step rfl (by rfl) (fun K hK => ?_)
        go_simp
        refine (uints_c many _ hov3 (Sl.of_own hown3) (by unfold nodsF; rw [List.length_map]; exact Nat.le_trans (List.length_filter_le _ _) hL)).mono ?_
        rintro en wx ⟨rfl, hbx⟩
        refine hK.out _ _ (But.of_below hbx) ?_
        clear hK K
        try simp only [Act.put, List.getElem_toArray, List.getElem_cons_zero, List.getElem_cons_succ, List.setIfInBounds_toArray, List.set_cons_zero, List.set_cons_succ]
        replace KP := cell_up hbx KP
        replace K0 := cell_up hbx K0
        replace K1 := cell_up hbx K1
        replace KM := cell_up hbx KM
        replace VV := Lib.hid (VV.out.up hbx)
        replace HM := Lib.hid (marks_up HM.out hbx)
        clear hov3 hown3
        clear hbx
        refine pt_q (v := ?_) rfl (by rfl) ?_ ?_
        rotate_left
        · intro w' hBw'
          have p0 := hBw'.cell KP (by omega)
          have k0 := hBw'.cell K0 (by omega)
          have k1 := hBw'.cell K1 (by omega)
          have km := hBw'.cell KM (by omega)
          first | (go_simp; done) | (go_simp; with_reducible rfl)
        try simp only [Act.put, List.getElem_toArray, List.getElem_cons_zero, List.getElem_cons_succ, List.setIfInBounds_toArray, List.set_cons_zero, List.set_cons_succ]
        refine pt_q (v := ?_) rfl (by rfl) ?_ ?_
        rotate_left
        · intro w' hBw'
          have p0 := hBw'.cell KP (by omega)
          have k0 := hBw'.cell K0 (by omega)
          have k1 := hBw'.cell K1 (by omega)
          have km := hBw'.cell KM (by omega)
          first | (go_simp; done) | (go_simp; with_reducible rfl)
        try simp only [Act.put, List.getElem_toArray, List.getElem_cons_zero, List.getElem_cons_succ, List.setIfInBounds_toArray, List.set_cons_zero, List.set_cons_succ]
        refine pt_q (v := ?_) rfl (by rfl) ?_ ?_
        rotate_left
        · intro w' hBw'
          have p0 := hBw'.cell KP (by omega)
          have k0 := hBw'.cell K0 (by omega)
          have k1 := hBw'.cell K1 (by omega)
          have km := hBw'.cell KM (by omega)
          first | (go_simp; done) | (go_simp; with_reducible rfl)
        try simp only [Act.put, List.getElem_toArray, List.getElem_cons_zero, List.getElem_cons_succ, List.setIfInBounds_toArray, List.set_cons_zero, List.set_cons_succ]
        refine pt_q (v := ?_) rfl (by rfl) ?_ ?_
        rotate_left
        · intro w' hBw'
          have p0 := hBw'.cell KP (by omega)
          have k0 := hBw'.cell K0 (by omega)
          have k1 := hBw'.cell K1 (by omega)
          have km := hBw'.cell KM (by omega)
          first | (go_simp; done) | (go_simp; with_reducible rfl)
        try simp only [Act.put, List.getElem_toArray, List.getElem_cons_zero, List.getElem_cons_succ, List.setIfInBounds_toArray, List.set_cons_zero, List.set_cons_succ]
        refine pt_q (v := ?_) rfl (by rfl) ?_ ?_
        rotate_left
        · intro w' hBw'
          have p0 := hBw'.cell KP (by omega)
          have k0 := hBw'.cell K0 (by omega)
          have k1 := hBw'.cell K1 (by omega)
          have km := hBw'.cell KM (by omega)
          first | (go_simp; done) | (go_simp; with_reducible rfl)
        try simp only [Act.put, List.getElem_toArray, List.getElem_cons_zero, List.getElem_cons_succ, List.setIfInBounds_toArray, List.set_cons_zero, List.set_cons_succ]
        refine pt_q (v := ?_) rfl (by rfl) ?_ ?_
        rotate_left
        · intro w' hBw'
          have p0 := hBw'.cell KP (by omega)
          have k0 := hBw'.cell K0 (by omega)
          have k1 := hBw'.cell K1 (by omega)
          have km := hBw'.cell KM (by omega)
          first | (go_simp; done) | (go_simp; with_reducible rfl)
        try simp only [Act.put, List.getElem_toArray, List.getElem_cons_zero, List.getElem_cons_succ, List.setIfInBounds_toArray, List.set_cons_zero, List.set_cons_succ]
        refine pt_c ?_
        refine pt_step rfl (by rfl) (fun K hK => ?_)
        go_simp
        refine (rLen_c _ VV.out.roll HE.out).mono ?_
        rw [← HL.out]; rintro en wx ⟨rfl, hbx⟩
        refine hK.out _ _ (But.of_below hbx) ?_
        clear hK K
        try simp only [Act.put, List.getElem_toArray, List.getElem_cons_zero, List.getElem_cons_succ, List.setIfInBounds_toArray, List.set_cons_zero, List.set_cons_succ]
        replace KP := cell_up hbx KP
        replace K0 := cell_up hbx K0
        replace K1 := cell_up hbx K1
        replace KM := cell_up hbx KM
        replace VV := Lib.hid (VV.out.up hbx)
        replace HM := Lib.hid (marks_up HM.out hbx)
        clear hbx
        refine pt_q (v := ?_) rfl (by rfl) ?_ ?_
        rotate_left
        · intro w' hBw'
          have p0 := hBw'.cell KP (by omega)
          have k0 := hBw'.cell K0 (by omega)
          have k1 := hBw'.cell K1 (by omega)
          have km := hBw'.cell KM (by omega)
          first | (go_simp; done) | (go_simp; with_reducible rfl)
        try simp only [Act.put, List.getElem_toArray, List.getElem_cons_zero, List.getElem_cons_succ, List.setIfInBounds_toArray, List.set_cons_zero, List.set_cons_succ]
        refine pt_q (v := ?_) rfl (by rfl) ?_ ?_
        rotate_left
        · intro w' hBw'
          have p0 := hBw'.cell KP (by omega)
          have k0 := hBw'.cell K0 (by omega)
          have k1 := hBw'.cell K1 (by omega)
          have km := hBw'.cell KM (by omega)
          first | (go_simp; done) | (go_simp; with_reducible rfl)
        try simp only [Act.put, List.getElem_toArray, List.getElem_cons_zero, List.getElem_cons_succ, List.setIfInBounds_toArray, List.set_cons_zero, List.set_cons_succ]
        have rfx := VV.out.r.fz 0
        have rcx := VV.out.r.cell (i := 0) (v := .bool false) rfl
        refine pt_c ?_
        refine pt_step rfl (by rfl) (fun K hK => ?_)
        go_simp
        refine hK.out _ _ (But.setCell _ _ _ (.inl rfl)) ?_
        clear hK K
        try simp only [Act.put, List.getElem_toArray, List.getElem_cons_zero, List.getElem_cons_succ, List.setIfInBounds_toArray, List.set_cons_zero, List.set_cons_succ]
        refine pt_doneN ?_
        have V7 := VV.out
        have hmk9 := HM.out
        have hnb : w.heap.size + 1 + 1 + 1 ∉ Ds := fun hD2 => by have h1 := hmk9 _ hD2; have h2 := V7.r; unfold RowAt at h2; rw [h1] at h2; cases h2
        go_wp2
        refine leaves_marks Ds _ hnd (fun D2 hD2 => ?_) (fun w9 hb9 => ?_)
        · have hne9 : D2 ≠ w.heap.size + 1 + 1 + 1 := fun e => hnb (e ▸ hD2)
          exact (Below.heap_setCell _ ⟨w.heap.size + 1 + 1 + 1, 0, none⟩ (.bool true) D2 (by simpa using hne9)).trans (hmk9 D2 hD2)
        · have hx4 := V7.r.set 0 (.bool true)
          have hx5 : RowAt w9 (w.heap.size + 1 + 1 + 1) #[.bool true] 4 := (hb9.same _ hx4.lt hnb).trans hx4
          have hx5c := hx5.cell (i := 0) (v := .bool true) rfl
          refine ⟨.bool true, by simp [results, Try.results19, go_sem, hx5c], rfl, ?_⟩
          have hB3 := V7.below.setCell (show w.heap.size ≤ (⟨w.heap.size + 1 + 1 + 1, 0, none⟩ : Addr).block by simp; omega) (.bool true)
          exact hB3.trans (hb9.below (fun D2 hD2 => by have := hlow.out D2 hD2; omega) hB3.size)
end Go.Proofs.Yteakpppabgbpeaa
