/-
  The contract of is.
-/
import Derived.Test.YtfoncaamhleckaaSeT
import Derived.Test.YtfoncaamhleckaaTurn
import Derived.Test.YtfoncaamhleckaaPtM
namespace Go.Proofs.Ytfoncaamhleckaa
open Go.RowKit Go.Maps Trc Sn
set_option linter.unusedSimpArgs false
set_option linter.unusedVariables false
attribute [local go_sem] Oper.semAt_some

theorem run_maxR {x y : Int} (h : x < y) : ∀ ts t (w : World), (Builtin.max_ ts t #[.int .i64 x, .int .i64 y]).run Try.prog w = .ok (.int .i64 y) w := fun ts t w => by rw [run_max_int2, if_pos h]
theorem run_maxL {x y : Int} (h : ¬ x < y) : ∀ ts t (w : World), (Builtin.max_ ts t #[.int .i64 x, .int .i64 y]).run Try.prog w = .ok (.int .i64 x) w := fun ts t w => by rw [run_max_int2, if_neg h]
theorem run_minR {x y : Int} (h : y < x) : ∀ ts t (w : World), (Builtin.min_ ts t #[.int .i64 x, .int .i64 y]).run Try.prog w = .ok (.int .i64 y) w := fun ts t w => by rw [run_min_int2, if_pos h]
theorem run_minL {x y : Int} (h : ¬ y < x) : ∀ ts t (w : World), (Builtin.min_ ts t #[.int .i64 x, .int .i64 y]).run Try.prog w = .ok (.int .i64 x) w := fun ts t w => by rw [run_min_int2, if_neg h]
def Sn.rwAt (L : List (Sg × Int)) (k : Nat) : Sg × Int := L.getD k (zsg, 0)
theorem Sn.rwAt_get {L : List (Sg × Int)} {k : Nat} (h : k < L.length) : rwAt L k = L[k] := by unfold rwAt; rw [List.getD_eq_getElem?_getD, List.getElem?_eq_getElem h]; rfl
/-- What is has at hand. -/
structure IsW (w w1 : World) (T M : Nat) (most : Int) (E L : List (Sg × Int)) (u : Value) (many : Int) : Prop where
  below : Below w.heap.size w w1
  p : RowAt w1 w.heap.size #[u, .int .i64 most] 49
  m : RowAt w1 (w.heap.size + 1) #[.int .i64 many] 3
  r : RowAt w1 (w.heap.size + 1 + 1) #[.bool false] 4
  tab : Tab w1 T M most E
  want : Sl w1 7 u L.length (L.flatMap rwC)
theorem IsW.up {w w1 w2 : World} {T M : Nat} {most : Int} {E L : List (Sg × Int)} {u : Value} {many : Int} (h : IsW w w1 T M most E L u many) (hb : Below w1.heap.size w1 w2) : IsW w w2 T M most E L u many :=
  ⟨below_up h.below hb, h.p.below hb, h.m.below hb, h.r.below hb, h.tab.below hb, h.want.up hb⟩
theorem IsW.start {w : World} {T M : Nat} {most : Int} {E L : List (Sg × Int)} {u : Value} (many : Int) (h : Tab w T M most E) (hu : Sl w 7 u L.length (L.flatMap rwC)) : IsW w (((w.alloc (.cells #[u, .int .i64 most] 49)).alloc (.cells #[.int .i64 many] 3)).alloc (.cells #[.bool false] 4)) T M most E L u many := by
  have hB3 : Below w.heap.size w (((w.alloc (.cells #[u, .int .i64 most] 49)).alloc (.cells #[.int .i64 many] 3)).alloc (.cells #[.bool false] 4)) := ((below_alloc w _).alloc (by simp) _).alloc (by simp; omega) _
  have h2 := RowAt.new (w.alloc (.cells #[u, .int .i64 most] 49)) #[.int .i64 many] 3
  rw [World.size_alloc] at h2
  have h3 := RowAt.new ((w.alloc (.cells #[u, .int .i64 most] 49)).alloc (.cells #[.int .i64 many] 3)) #[.bool false] 4
  rw [World.size_alloc, World.size_alloc] at h3
  exact ⟨hB3, ((RowAt.new w _ _).below (below_alloc _ _)).below (below_alloc _ _), h2.below (below_alloc _ _), h3, h.below hB3, hu.up hB3⟩
theorem marks_up {Ds : List Nat} {w w' : World} (h : ∀ D ∈ Ds, w.heap[D]? = some (.deferred (some []))) (hb : Below w.heap.size w w') : ∀ D ∈ Ds, w'.heap[D]? = some (.deferred (some [])) :=
  fun D hD => (hb.block D (Array.getElem?_eq_some_iff.1 (h D hD)).1).trans (h D hD)
theorem exec_rwneq {ρ : Operand → Value} {o : Oper} {x y : Operand} {t : TypeId} (ho : o.op = .binOp .neq 78 x y t) {e : Sg × Int} (hx : ρ x = .agg (rwC e).toArray) (hy : ρ y = .agg (rwC e).toArray) (w : World) :
    (execOp ρ o).run Try.prog w = .ok (.value (.bool false)) w := by
  unfold execOp
  simp only [ho, hx, hy]
  have := rw_neq e e w
  simp only [decide_true, Bool.not_true] at this
  simp [go_sem, this]
/-- The iterator's two blocks. -/
structure ItA (w : World) (C M' : Nat) (E : List (Sg × Int)) : Prop where
  c : w.cell? ⟨C, 0, none⟩ = some (.map (some M'))
  m : SMap w M' E
theorem ItA.up {w w' : World} {C M' : Nat} {E : List (Sg × Int)} (h : ItA w C M' E) (hb : Below w.heap.size w w') : ItA w' C M' E := ⟨cell_up hb h.c, h.m.heap (hb.block M' h.m.lt)⟩

theorem rNextAs {L : List (Sg × Int)} {v : Value} {most u : Int} {b : Bool} (h : nxF L = (u, b)) (w : World) (hv : Sl w 7 v L.length (L.flatMap rwC)) :
    Calls Try.prog 34 #[tbV v most] w (Ret (.tuple #[.int .u64 u, .bool b]) w) := by
  have := rNext_c L v L.length most w hv
  rw [h] at this
  exact this

set_option maxHeartbeats 16000000 in
set_option maxRecDepth 100000 in
theorem is_c {T M : Nat} {most : Int} {E L : List (Sg × Int)} {u : Value} (many : Int) (w : World) (h : Tab w T M most E) (hu : Sl w 7 u L.length (L.flatMap rwC)) (hs : SrtE E L) :
    Calls Try.prog 15 #[.pointer (some ⟨T, 0, none⟩), tbV u most, .int .i64 many] w (Ret (.bool true) w) := by
  have HS := Lib.hid hs
  have hEl := h.len
  have hL : L.length ≤ 4096 := by rw [hs.len]; exact hEl
  have HE := Lib.hid hEl
  have HOK := Lib.hid h.ok
  have HLn := Lib.hid hs.len
  obtain ⟨au, cu, rfl⟩ := hu.len
  have V4 := IsW.start many h hu
  refine (callsIn_wide (n := 3)).1 ?_
  refine callsIn_of_wp_marks Try.func15 rfl trivial ?_ rfl
  simp only [Try.ntmps15, List.size_toArray, List.length_cons, List.length_nil, Nat.reduceAdd, Nat.reduceSub, Array.replicate_succ, Array.replicate_zero, List.push_toArray, List.append_toArray, List.nil_append, List.cons_append]
  have he : ∀ (f : FuncId) (caps : Array Value) (w : World), (binOp BinOp.eql 80 (.func (.func f) #[] caps) .nilFunc).run Try.prog w = .ok (.bool false) w := fun _ _ _ => by kernel_rfl
  refine wpIn_wide.2 ?_
  go_wp2_with (go_at_call 33; refine (seAll_c _ V4.tab).mono ?_; rintro en w1 ⟨C, M', rfl, hC0, hM0, hC1, hM1, hb1⟩)
  have V := V4.up hb1
  have hz1 := hb1.size
  simp only [World.size_alloc] at hz1 hC1 hM1
  have HV := Lib.hid V
  have hCl := World.block_lt_of_cell? w1 _ hC0
  have hMl := hM0.lt
  have HO := Lib.hid (show ItA w1 C M' E from ⟨hC0, hM0⟩)
  clear V4 V hC0 hM0 hb1 hs hEl h hu
  refine wp_loop_ghost_k (fun m9 a' W => ∃ (tn TV : Nat) (Ds : List Nat), tn ≤ 2 ∧ m9 = 2 - tn ∧ a' = { tmps := #[.pointer (some ⟨T, 0, none⟩), tbV (.slice au L.length cu) most, .int .i64 many, a'.tmps.getD 3 undef, .pointer (some ⟨w.heap.size, 0, none⟩), .pointer (some ⟨w.heap.size + 1, 0, none⟩), .pointer (some ⟨w.heap.size + 1 + 1, 0, none⟩), .func (.func 39) #[] #[.pointer (some ⟨C, 0, none⟩)], .pointer (some ⟨TV, 0, none⟩), a'.tmps.getD 9 undef, a'.tmps.getD 10 undef, a'.tmps.getD 11 undef, a'.tmps.getD 12 undef, a'.tmps.getD 13 undef, a'.tmps.getD 14 undef, a'.tmps.getD 15 undef, a'.tmps.getD 16 undef, a'.tmps.getD 17 undef, a'.tmps.getD 18 undef, a'.tmps.getD 19 undef, a'.tmps.getD 20 undef, a'.tmps.getD 21 undef, a'.tmps.getD 22 undef, a'.tmps.getD 23 undef, a'.tmps.getD 24 undef, a'.tmps.getD 25 undef, a'.tmps.getD 26 undef, a'.tmps.getD 27 undef, a'.tmps.getD 28 undef, a'.tmps.getD 29 undef, a'.tmps.getD 30 undef, a'.tmps.getD 31 undef, a'.tmps.getD 32 undef, a'.tmps.getD 33 undef, a'.tmps.getD 34 undef, a'.tmps.getD 35 undef, a'.tmps.getD 36 undef, a'.tmps.getD 37 undef, a'.tmps.getD 38 undef, a'.tmps.getD 39 undef, a'.tmps.getD 40 undef, a'.tmps.getD 41 undef, a'.tmps.getD 42 undef, a'.tmps.getD 43 undef, a'.tmps.getD 44 undef, a'.tmps.getD 45 undef, a'.tmps.getD 46 undef, a'.tmps.getD 47 undef, a'.tmps.getD 48 undef, a'.tmps.getD 49 undef, a'.tmps.getD 50 undef, a'.tmps.getD 51 undef, a'.tmps.getD 52 undef, a'.tmps.getD 53 undef, a'.tmps.getD 54 undef, a'.tmps.getD 55 undef, a'.tmps.getD 56 undef, a'.tmps.getD 57 undef, a'.tmps.getD 58 undef, a'.tmps.getD 59 undef, a'.tmps.getD 60 undef, a'.tmps.getD 61 undef, a'.tmps.getD 62 undef, a'.tmps.getD 63 undef, a'.tmps.getD 64 undef, a'.tmps.getD 65 undef, a'.tmps.getD 66 undef, a'.tmps.getD 67 undef, a'.tmps.getD 68 undef, a'.tmps.getD 69 undef, a'.tmps.getD 70 undef, a'.tmps.getD 71 undef, a'.tmps.getD 72 undef, a'.tmps.getD 73 undef, a'.tmps.getD 74 undef, a'.tmps.getD 75 undef, a'.tmps.getD 76 undef, a'.tmps.getD 77 undef, a'.tmps.getD 78 undef, a'.tmps.getD 79 undef, a'.tmps.getD 80 undef, a'.tmps.getD 81 undef, a'.tmps.getD 82 undef, a'.tmps.getD 83 undef, a'.tmps.getD 84 undef, a'.tmps.getD 85 undef, a'.tmps.getD 86 undef, a'.tmps.getD 87 undef, a'.tmps.getD 88 undef, a'.tmps.getD 89 undef, a'.tmps.getD 90 undef, a'.tmps.getD 91 undef, a'.tmps.getD 92 undef, a'.tmps.getD 93 undef, a'.tmps.getD 94 undef, a'.tmps.getD 95 undef, a'.tmps.getD 96 undef, a'.tmps.getD 97 undef, a'.tmps.getD 98 undef, a'.tmps.getD 99 undef, a'.tmps.getD 100 undef, a'.tmps.getD 101 undef, a'.tmps.getD 102 undef, a'.tmps.getD 103 undef, a'.tmps.getD 104 undef, a'.tmps.getD 105 undef, a'.tmps.getD 106 undef, a'.tmps.getD 107 undef, a'.tmps.getD 108 undef, a'.tmps.getD 109 undef, a'.tmps.getD 110 undef, a'.tmps.getD 111 undef, a'.tmps.getD 112 undef, a'.tmps.getD 113 undef], defers := Ds.map markD } ∧ TuI w1 TV tn Ds W) 2 ?start ?round
  case start =>
    exact ⟨0, w1.heap.size, [], by omega, rfl, rfl, TuI.start w1⟩
  case round =>
    intro m9 a' W hinv J K hJ hK
    obtain ⟨tn, TV, Ds, htn, hm9, ha, hI⟩ := hinv
    obtain ⟨u, hu⟩ : ∃ u : Nat → Value, ∀ i, a'.tmps.getD i undef = u i := ⟨_, fun _ => rfl⟩
    simp only [hu] at ha
    clear hu
    subst ha hm9
    have HJ := Lib.hid hJ
    clear hJ
    have HW := Lib.hid (HV.out.up hI.below)
    have HA2 := Lib.hid (HO.out.up hI.below)
    have HI := Lib.hid hI
    have hT := hI.turn.cell (i := 0) rfl
    have fT := hI.turn.fz 0
    have hTl := hI.turn.lt
    have hT0 := hI.low
    have hWs := hI.below.size
    clear hI
    rcases (show tn = 0 ∨ tn = 1 ∨ tn = 2 by omega) with rfl | rfl | rfl
    · replace hT : W.cell? ⟨TV, 0, none⟩ = some (.int .i64 0) := hT
      replace HI := Lib.hid (show TuI w1 TV 0 Ds W from HI.out)
      go_wp2
      have hbA := below_alloc W (.cells #[.int .i64 0] 3)
      have hA2 := HA2.out.up hbA
      refine wpIn_wide.1 (wp_range (n := 3) (S := fun q => q = C ∨ q = M') (gf := 39) (lb := #[.pointer (some ⟨C, 0, none⟩)]) rfl enters_seAll1
        (seAll1_x (M := M') (C := C) _ _ hA2.c hA2.m HOK.out HS.out HE.out ⟨.inl rfl, .inr rfl⟩) (Below.refl _ _) (fun _ => rfl)
        (fun q => q = W.heap.size) (fun k h => by simp only [World.size_alloc]; omega) ?hS
        (fun k G W3 => CtR W k G W3 ∧ (k = 0 ∨ (k : Int) < many))
        (fun k a' G W3 => (∃ VB, a' = { tmps := #[.pointer (some ⟨T, 0, none⟩), tbV (.slice au L.length cu) most, .int .i64 many, u 3, .pointer (some ⟨w.heap.size, 0, none⟩), .pointer (some ⟨w.heap.size + 1, 0, none⟩), .pointer (some ⟨w.heap.size + 1 + 1, 0, none⟩), .func (.func 39) #[] #[.pointer (some ⟨C, 0, none⟩)], .pointer (some ⟨TV, 0, none⟩), .pointer (some ⟨W.heap.size, 0, none⟩), .pointer (some ⟨VB, 0, none⟩), .int .u64 (rwAt L k).2, u 12, u 13, u 14, u 15, u 16, u 17, u 18, u 19, .int .i64 0, .bool true, u 22, u 23, .func (.func 39) #[] #[.pointer (some ⟨C, 0, none⟩)], .bool false, .func (.func 39) #[] #[.pointer (some ⟨C, 0, none⟩)], sgV (rwAt L k).1, .int .u64 (rwAt L k).2, u 29, u 30, u 31, u 32, u 33, u 34, u 35, u 36, u 37, u 38, u 39, u 40, u 41, u 42, u 43, u 44, u 45, u 46, u 47, u 48, u 49, u 50, u 51, u 52, u 53, u 54, u 55, u 56, u 57, u 58, u 59, u 60, u 61, u 62, u 63, u 64, u 65, u 66, u 67, u 68, u 69, u 70, u 71, u 72, u 73, u 74, u 75, u 76, u 77, u 78, u 79, u 80, u 81, u 82, u 83, u 84, u 85, u 86, u 87, u 88, u 89, u 90, u 91, u 92, u 93, u 94, u 95, u 96, u 97, u 98, u 99, u 100, u 101, u 102, u 103, u 104, u 105, u 106, u 107, u 108, u 109, u 110, u 111, u 112, u 113], defers := [] } ∧ RowAt W3 VB (sgC (rwAt L k).1).toArray 38 ∧ G VB) ∧ CtR W k G W3 ∧ (k = 0 ∨ (k : Int) < many))
        (fun c k G W3 => c = .exit 2 ∧ CtR W k G W3 ∧ many ≤ k ∧ (k = 1 ∨ (k : Int) - 1 < many))
        ?abI ?abM ?abX ?h0 ?assign ?body ?done ?stop)
      case hS =>
        rintro q (rfl | rfl)
        · exact ⟨by simp only [World.size_alloc]; omega, by omega⟩
        · exact ⟨by simp only [World.size_alloc]; omega, by omega⟩
      case abI => exact fun k G A B h hb => ⟨CtR.abide (by simp only [World.size_alloc]; omega) G A B h.1 hb, h.2⟩
      case abM =>
        rintro k a' G A B ⟨⟨VB, ha, hV, hG⟩, h⟩ hb
        exact ⟨⟨VB, ha, (hb.same VB hV.lt (fun e => e.2 hG)).trans hV, hG⟩, ⟨CtR.abide (by simp only [World.size_alloc]; omega) G A B h.1 hb, h.2⟩⟩
      case abX => exact fun c k G A B h hb => ⟨h.1, CtR.abide (by simp only [World.size_alloc]; omega) G A B h.2.1 hb, h.2.2⟩
      case h0 => exact ⟨CtR.start W, .inl rfl⟩
      case assign =>
        intro l2 k G W3 K3 hk hi hK3
        simp only [seArgs]
        gi_wp2
        refine hK3 _ _ (But.alloc _ _) ?_
        simp only [rwAt_get hk]
        refine ⟨⟨_, rfl, RowAt.new _ _ _, .inr ⟨Nat.le_refl _, by simp⟩⟩, ?_⟩
        exact ⟨CtR.alloc hi.1 _, hi.2⟩
      case body =>
        rintro l2 k a' G W3 hk hl2 _ hGl ⟨⟨VB, rfl, hVB0, hGV⟩, hi⟩
        have hR := hi.1
        have V3 := HW.out.up hR.below
        obtain ⟨b, off, rfl, hr⟩ := V3.want.rec_at (cells := rwC) (sz := 7) (fun _ => rfl) hk hk
        have Hstep := Lib.hid hR.step
        simp only [rwAt_get hk] at hVB0 ⊢
        have hle2 : ¬ L.length ≤ k := by omega
        have hk2 : (k : Int) ≤ 100000 := by omega
        have hkl : (k : Int) < (L.length : Int) := by omega
        have hkl2 : ¬ (L.length : Int) ≤ (k : Int) := by omega
        generalize L[k] = e at *
        have hVB : RowAt W3.drew VB (sgC e.1).toArray 38 := hVB0
        have hr3 : W3.drew.rangeAt b (off + k * 7) (rwC e) := hr
        have p3 : W3.cell? ⟨w.heap.size, 0, none⟩ = some (.slice (some ⟨b, off, none⟩) L.length cu) := V3.p.cell (i := 0) rfl
        have m3 : W3.cell? ⟨w.heap.size + 1, 0, none⟩ = some (.int .i64 many) := V3.m.cell (i := 0) rfl
        have t3 : W3.cell? ⟨TV, 0, none⟩ = some (.int .i64 0) := (HI.out.up hR.below).turn.cell (i := 0) rfl
        have a1 : W3.cell? ⟨W.heap.size, 0, none⟩ = some (.int .i64 k) := hR.cnt.cell (i := 0) rfl
        have f1 := hR.cnt.fz 0
        have hTK : ¬ TV = W.heap.size := by omega
        have hKT : ¬ W.heap.size = TV := by omega
        have hw5 : ¬ w.heap.size + 1 = W.heap.size := by omega
        have hw6 : ¬ W.heap.size = w.heap.size + 1 := by omega
        clear hR V3 hr hVB0
        by_cases hmm : many ≤ (k : Int) + 1
        · gi_wp2
          refine wpIn_round_tail 15 mixesS (by kernel_rfl) (by kernel_rfl) ?_
          simp only [List.take_succ_cons, List.take_zero, List.drop_succ_cons, List.drop_zero]
          still_step
          still_step
          still_step
          still_step
          still_step
          still_step
          still_step
          still_step
          still_step
          still_step
          refine still_load rfl 78 (.tmp 38) rfl b (off + k * 7) rfl (rwC e) _ hr3 Try.underlying78 rfl (by kernel_rfl) ?_
          try simp only [Act.put, List.getElem_toArray, List.getElem_cons_zero, List.getElem_cons_succ, List.setIfInBounds_toArray, List.set_cons_zero, List.set_cons_succ]
          refine still_load rfl 38 (.tmp 10) rfl VB 0 rfl (sgC e.1) _ hVB.range Try.underlying38 rfl (by kernel_rfl) ?_
          try simp only [Act.put, List.getElem_toArray, List.getElem_cons_zero, List.getElem_cons_succ, List.setIfInBounds_toArray, List.set_cons_zero, List.set_cons_succ]
          still_step
          still_step
          refine still_val rfl (exec_rwneq (e := e) rfl rfl rfl _) ?_
          try simp only [Act.put, List.getElem_toArray, List.getElem_cons_zero, List.getElem_cons_succ, List.setIfInBounds_toArray, List.set_cons_zero, List.set_cons_succ]
          refine wpStill_nil ?_
          gi_wp2
          exact ⟨Hstep.out.1, rfl, Hstep.out.2, by simpa using hmm, by rcases hi.2 with h | h; exact .inl (by omega); exact .inr (by simp; omega)⟩
        · gi_wp2
          refine wpIn_round_tail 15 mixesS (by kernel_rfl) (by kernel_rfl) ?_
          simp only [List.take_succ_cons, List.take_zero, List.drop_succ_cons, List.drop_zero]
          still_step
          still_step
          still_step
          still_step
          still_step
          still_step
          still_step
          still_step
          still_step
          still_step
          refine still_load rfl 78 (.tmp 38) rfl b (off + k * 7) rfl (rwC e) _ hr3 Try.underlying78 rfl (by kernel_rfl) ?_
          try simp only [Act.put, List.getElem_toArray, List.getElem_cons_zero, List.getElem_cons_succ, List.setIfInBounds_toArray, List.set_cons_zero, List.set_cons_succ]
          refine still_load rfl 38 (.tmp 10) rfl VB 0 rfl (sgC e.1) _ hVB.range Try.underlying38 rfl (by kernel_rfl) ?_
          try simp only [Act.put, List.getElem_toArray, List.getElem_cons_zero, List.getElem_cons_succ, List.setIfInBounds_toArray, List.set_cons_zero, List.set_cons_succ]
          still_step
          still_step
          refine still_val rfl (exec_rwneq (e := e) rfl rfl rfl _) ?_
          try simp only [Act.put, List.getElem_toArray, List.getElem_cons_zero, List.getElem_cons_succ, List.setIfInBounds_toArray, List.set_cons_zero, List.set_cons_succ]
          refine wpStill_nil ?_
          gi_wp2
          exact ⟨Hstep.out.1, Hstep.out.2, .inr (by simp; omega)⟩
      case done =>
        rintro D G W3 hD hGD hi hKD
        have hR := hi.1
        have V3 := HW.out.up hR.below
        have p3 : W3.cell? ⟨w.heap.size, 0, none⟩ = some (.slice au L.length cu) := V3.p.cell (i := 0) rfl
        have m3 : W3.cell? ⟨w.heap.size + 1, 0, none⟩ = some (.int .i64 many) := V3.m.cell (i := 0) rfl
        have t3 : W3.cell? ⟨TV, 0, none⟩ = some (.int .i64 0) := (HI.out.up hR.below).turn.cell (i := 0) rfl
        have HN := Lib.hid (fun v => HI.out.next hR.below hKD (by simp only [World.size_alloc] at hD; omega) v)
        clear V3
        have a1 : W3.cell? ⟨W.heap.size, 0, none⟩ = some (.int .i64 (L.length : Nat)) := hR.cnt.cell (i := 0) rfl
        clear hR hKD
        have hA0 := hi.2
        clear hi
        generalize L.length = A at *
        by_cases h1m : 1 < many
        · have hmx := run_maxR h1m
          have hmn := run_minL (show ¬ many < (A : Int) by omega)
          clear hA0 h1m hL
          go_wp2
          refine Handed.intro 1 (by omega) (HJ.out _ _ _ ?_)
          exact ⟨1, W3.heap.size, D :: Ds, by omega, rfl, rfl, HN.out 1⟩
        · have hmx := run_maxL h1m
          have hmn := run_minL (show ¬ (1 : Int) < (A : Int) by omega)
          clear hA0 h1m hL
          go_wp2
          refine Handed.intro 1 (by omega) (HJ.out _ _ _ ?_)
          exact ⟨1, W3.heap.size, D :: Ds, by omega, rfl, rfl, HN.out 1⟩
      case stop =>
        rintro D c k G W3 hD hGD hk ⟨rfl, hR, hmk, hk0⟩ hKD
        refine wpIn_wide.2 ?_
        have V3 := HW.out.up hR.below
        have p3 : W3.cell? ⟨w.heap.size, 0, none⟩ = some (.slice au L.length cu) := V3.p.cell (i := 0) rfl
        have m3 : W3.cell? ⟨w.heap.size + 1, 0, none⟩ = some (.int .i64 many) := V3.m.cell (i := 0) rfl
        have t3 : W3.cell? ⟨TV, 0, none⟩ = some (.int .i64 0) := (HI.out.up hR.below).turn.cell (i := 0) rfl
        have HN := Lib.hid (fun v => HI.out.next hR.below hKD (by simp only [World.size_alloc] at hD; omega) v)
        clear V3
        have a1 : W3.cell? ⟨W.heap.size, 0, none⟩ = some (.int .i64 ((k : Int) + 1)) := hR.cnt.cell (i := 0) rfl
        have hmk' : many ≤ (k : Int) + 1 := by simpa using hmk
        have hk0' : k = 0 ∨ (k : Int) < many := by rcases hk0 with h | h; exact .inl (by omega); exact .inr (by simp at h; omega)
        have hkA : ((k : Int) + 1) ≤ (L.length : Nat) := by omega
        clear hR hKD hmk hk0
        generalize L.length = A at *
        clear hk
        by_cases h1m : 1 < many
        · obtain rfl : many = (k : Int) + 1 := by omega
          clear hmk' hk0'
          have hmx := run_maxR h1m
          by_cases hAA : (k : Int) + 1 < (A : Int)
          · have hmn := run_minR hAA
            clear h1m hAA hkA hL
            go_wp2
            refine Handed.intro 1 (by omega) (HJ.out _ _ _ ?_)
            exact ⟨1, W3.heap.size, D :: Ds, by omega, rfl, rfl, HN.out 1⟩
          · obtain rfl : A = k + 1 := by omega
            have hmn := run_minL (show ¬ (k : Int) + 1 < (k : Int) + 1 by omega)
            clear h1m hAA hkA hL
            go_wp2
            refine Handed.intro 1 (by omega) (HJ.out _ _ _ ?_)
            exact ⟨1, W3.heap.size, D :: Ds, by omega, rfl, rfl, HN.out 1⟩
        · obtain rfl : k = 0 := by omega
          have hm1 : many ≤ 1 := by omega
          clear hmk' hk0'
          have hmx := run_maxL h1m
          by_cases hAA : (1 : Int) < (A : Int)
          · have hmn := run_minR hAA
            clear h1m hAA hkA hm1 hL
            go_wp2
            refine Handed.intro 1 (by omega) (HJ.out _ _ _ ?_)
            exact ⟨1, W3.heap.size, D :: Ds, by omega, rfl, rfl, HN.out 1⟩
          · obtain rfl : A = 1 := by omega
            have hmn := run_minL (show ¬ (1 : Int) < (1 : Int) by omega)
            clear h1m hAA hkA hm1 hL
            go_wp2
            refine Handed.intro 1 (by omega) (HJ.out _ _ _ ?_)
            exact ⟨1, W3.heap.size, D :: Ds, by omega, rfl, rfl, HN.out 1⟩
    · replace hT : W.cell? ⟨TV, 0, none⟩ = some (.int .i64 1) := hT
      replace HI := Lib.hid (show TuI w1 TV 1 Ds W from HI.out)
      go_wp2
      have hbA := below_alloc W (.cells #[.int .i64 0] 3)
      have hA2 := HA2.out.up hbA
      refine wpIn_wide.1 (wp_range (n := 3) (S := fun q => q = C ∨ q = M') (gf := 39) (lb := #[.pointer (some ⟨C, 0, none⟩)]) rfl enters_seAll1
        (seAll1_x (M := M') (C := C) _ _ hA2.c hA2.m HOK.out HS.out HE.out ⟨.inl rfl, .inr rfl⟩) (Below.refl _ _) (fun _ => rfl)
        (fun q => q = W.heap.size) (fun k h => by simp only [World.size_alloc]; omega) ?hS
        (fun k G W3 => CtR W k G W3)
        (fun k a' G W3 => (∃ VB, a' = { tmps := #[.pointer (some ⟨T, 0, none⟩), tbV (.slice au L.length cu) most, .int .i64 many, u 3, .pointer (some ⟨w.heap.size, 0, none⟩), .pointer (some ⟨w.heap.size + 1, 0, none⟩), .pointer (some ⟨w.heap.size + 1 + 1, 0, none⟩), .func (.func 39) #[] #[.pointer (some ⟨C, 0, none⟩)], .pointer (some ⟨TV, 0, none⟩), .pointer (some ⟨W.heap.size, 0, none⟩), .pointer (some ⟨VB, 0, none⟩), .int .u64 (rwAt L k).2, u 12, u 13, u 14, u 15, u 16, u 17, u 18, u 19, .int .i64 1, .bool true, u 22, u 23, .func (.func 39) #[] #[.pointer (some ⟨C, 0, none⟩)], .bool false, .func (.func 39) #[] #[.pointer (some ⟨C, 0, none⟩)], sgV (rwAt L k).1, .int .u64 (rwAt L k).2, u 29, u 30, u 31, u 32, u 33, u 34, u 35, u 36, u 37, u 38, u 39, u 40, u 41, u 42, u 43, u 44, u 45, u 46, u 47, u 48, u 49, u 50, u 51, u 52, u 53, u 54, u 55, u 56, u 57, u 58, u 59, u 60, u 61, u 62, u 63, u 64, u 65, u 66, u 67, u 68, u 69, u 70, u 71, u 72, u 73, u 74, u 75, u 76, u 77, u 78, u 79, u 80, u 81, u 82, u 83, u 84, u 85, u 86, u 87, u 88, u 89, u 90, u 91, u 92, u 93, u 94, u 95, u 96, u 97, u 98, u 99, u 100, u 101, u 102, u 103, u 104, u 105, u 106, u 107, u 108, u 109, u 110, u 111, u 112, u 113], defers := [] } ∧ RowAt W3 VB (sgC (rwAt L k).1).toArray 38 ∧ G VB) ∧ CtR W k G W3)
        (fun c k G W3 => False)
        ?abI ?abM ?abX ?h0 ?assign ?body ?done ?stop)
      case hS =>
        rintro q (rfl | rfl)
        · exact ⟨by simp only [World.size_alloc]; omega, by omega⟩
        · exact ⟨by simp only [World.size_alloc]; omega, by omega⟩
      case abI => exact fun k G A B h hb => CtR.abide (by simp only [World.size_alloc]; omega) G A B h hb
      case abM =>
        rintro k a' G A B ⟨⟨VB, ha, hV, hG⟩, h⟩ hb
        exact ⟨⟨VB, ha, (hb.same VB hV.lt (fun e => e.2 hG)).trans hV, hG⟩, CtR.abide (by simp only [World.size_alloc]; omega) G A B h hb⟩
      case abX => exact fun c k G A B h hb => h.elim
      case h0 => exact CtR.start W
      case assign =>
        intro l2 k G W3 K3 hk hi hK3
        simp only [seArgs]
        gi_wp2
        refine hK3 _ _ (But.alloc _ _) ?_
        simp only [rwAt_get hk]
        refine ⟨⟨_, rfl, RowAt.new _ _ _, .inr ⟨Nat.le_refl _, by simp⟩⟩, ?_⟩
        exact CtR.alloc hi _
      case body =>
        rintro l2 k a' G W3 hk hl2 _ hGl ⟨⟨VB, rfl, hVB0, hGV⟩, hi⟩
        have hR := hi
        have V3 := HW.out.up hR.below
        obtain ⟨b, off, rfl, hr⟩ := V3.want.rec_at (cells := rwC) (sz := 7) (fun _ => rfl) hk hk
        have Hstep := Lib.hid hR.step
        simp only [rwAt_get hk] at hVB0 ⊢
        have hle2 : ¬ L.length ≤ k := by omega
        have hk2 : (k : Int) ≤ 100000 := by omega
        have hkl : (k : Int) < (L.length : Int) := by omega
        have hkl2 : ¬ (L.length : Int) ≤ (k : Int) := by omega
        generalize L[k] = e at *
        have hVB : RowAt W3.drew VB (sgC e.1).toArray 38 := hVB0
        have hr3 : W3.drew.rangeAt b (off + k * 7) (rwC e) := hr
        have p3 : W3.cell? ⟨w.heap.size, 0, none⟩ = some (.slice (some ⟨b, off, none⟩) L.length cu) := V3.p.cell (i := 0) rfl
        have m3 : W3.cell? ⟨w.heap.size + 1, 0, none⟩ = some (.int .i64 many) := V3.m.cell (i := 0) rfl
        have t3 : W3.cell? ⟨TV, 0, none⟩ = some (.int .i64 1) := (HI.out.up hR.below).turn.cell (i := 0) rfl
        have a1 : W3.cell? ⟨W.heap.size, 0, none⟩ = some (.int .i64 k) := hR.cnt.cell (i := 0) rfl
        have f1 := hR.cnt.fz 0
        have hTK : ¬ TV = W.heap.size := by omega
        have hKT : ¬ W.heap.size = TV := by omega
        have hw5 : ¬ w.heap.size + 1 = W.heap.size := by omega
        have hw6 : ¬ W.heap.size = w.heap.size + 1 := by omega
        clear hR V3 hr hVB0
        gi_wp2
        refine wpIn_round_tail 15 mixesS (by kernel_rfl) (by kernel_rfl) ?_
        simp only [List.take_succ_cons, List.take_zero, List.drop_succ_cons, List.drop_zero]
        still_step
        still_step
        still_step
        still_step
        still_step
        still_step
        still_step
        still_step
        still_step
        still_step
        refine still_load rfl 78 (.tmp 38) rfl b (off + k * 7) rfl (rwC e) _ hr3 Try.underlying78 rfl (by kernel_rfl) ?_
        try simp only [Act.put, List.getElem_toArray, List.getElem_cons_zero, List.getElem_cons_succ, List.setIfInBounds_toArray, List.set_cons_zero, List.set_cons_succ]
        refine still_load rfl 38 (.tmp 10) rfl VB 0 rfl (sgC e.1) _ hVB.range Try.underlying38 rfl (by kernel_rfl) ?_
        try simp only [Act.put, List.getElem_toArray, List.getElem_cons_zero, List.getElem_cons_succ, List.setIfInBounds_toArray, List.set_cons_zero, List.set_cons_succ]
        still_step
        still_step
        refine still_val rfl (exec_rwneq (e := e) rfl rfl rfl _) ?_
        try simp only [Act.put, List.getElem_toArray, List.getElem_cons_zero, List.getElem_cons_succ, List.setIfInBounds_toArray, List.set_cons_zero, List.set_cons_succ]
        refine wpStill_nil ?_
        gi_wp2
        exact ⟨Hstep.out.1, Hstep.out.2⟩
      case done =>
        rintro D G W3 hD hGD hi hKD
        have hR := hi
        have V3 := HW.out.up hR.below
        have p3 : W3.cell? ⟨w.heap.size, 0, none⟩ = some (.slice au L.length cu) := V3.p.cell (i := 0) rfl
        have m3 : W3.cell? ⟨w.heap.size + 1, 0, none⟩ = some (.int .i64 many) := V3.m.cell (i := 0) rfl
        have t3 : W3.cell? ⟨TV, 0, none⟩ = some (.int .i64 1) := (HI.out.up hR.below).turn.cell (i := 0) rfl
        have HN := Lib.hid (fun v => HI.out.next hR.below hKD (by simp only [World.size_alloc] at hD; omega) v)
        clear V3
        have a1 : W3.cell? ⟨W.heap.size, 0, none⟩ = some (.int .i64 (L.length : Nat)) := hR.cnt.cell (i := 0) rfl
        clear hR hKD
        go_wp2
        refine Handed.intro 0 (by omega) (HJ.out _ _ _ ?_)
        exact ⟨2, W3.heap.size, D :: Ds, by omega, rfl, rfl, HN.out 2⟩
      case stop =>
        intro D c k G W3 hD hGD hk hi hKD
        exact hi.elim
    · replace hT : W.cell? ⟨TV, 0, none⟩ = some (.int .i64 2) := hT
      have VV := HW
      have HM := Lib.hid (fun D2 hD2 => (HI.out.marks D2 hD2).1)
      have hlow := Lib.hid (fun D2 hD2 => (HI.out.marks D2 hD2).2)
      have hnd := HI.out.nodup
      obtain ⟨nu, nb, hn⟩ : ∃ nu nb, nxF L = (nu, nb) := ⟨_, _, rfl⟩
      have HNX := Lib.hid (fun (w : World) h => nextAs (T := T) (M := M) (most := most) (E := E) HS.out hn w h)
      have HRN := Lib.hid (fun (w : World) h => rNextAs (v := .slice au L.length cu) (most := most) hn w h)
      clear hn
      go_wp2_with (first
        | (go_at_call 20; refine (HNX.out _ VV.out.tab).mono ?_; rintro en w5 ⟨rfl, hb5⟩; replace VV := Lib.hid (VV.out.up hb5); have p6 := VV.out.p.cell (i := 0) rfl; have p7 := VV.out.p.cell (i := 1) rfl; replace HM := Lib.hid (marks_up HM.out hb5))
        | (go_at_call 34; refine (HRN.out _ VV.out.want).mono ?_; rintro en w6 ⟨rfl, hb6⟩; replace VV := Lib.hid (VV.out.up hb6); replace HM := Lib.hid (marks_up HM.out hb6))
        | (go_at_call 21; refine (seLen_c _ VV.out.tab).mono ?_; rw [← HLn.out]; rintro en w7 ⟨rfl, hb7⟩; replace VV := Lib.hid (VV.out.up hb7); replace HM := Lib.hid (marks_up HM.out hb7); have p8 := VV.out.p.cell (i := 0) (v := .slice au L.length cu) rfl; have p9 := VV.out.p.cell (i := 1) (v := .int .i64 most) rfl; have rf := VV.out.r.fz 0; have rc := VV.out.r.cell (i := 0) (v := .bool false) rfl))
      have V7 := VV.out
      have hmk9 := HM.out
      have hnb : w.heap.size + 1 + 1 ∉ Ds := fun hD2 => by have h1 := hmk9 _ hD2; have h2 := V7.r; unfold RowAt at h2; rw [h1] at h2; cases h2
      refine leaves_marks Ds _ hnd (fun D2 hD2 => ?_) (fun w9 hb9 => ?_)
      · have hne9 : D2 ≠ w.heap.size + 1 + 1 := fun e => hnb (e ▸ hD2)
        exact (Below.heap_setCell _ ⟨w.heap.size + 1 + 1, 0, none⟩ (.bool true) D2 (by simpa using hne9)).trans (hmk9 D2 hD2)
      · have hx4 := V7.r.set 0 (.bool true)
        have hx5 : RowAt w9 (w.heap.size + 1 + 1) #[.bool true] 4 := (hb9.same _ hx4.lt hnb).trans hx4
        have hx5c := hx5.cell (i := 0) (v := .bool true) rfl
        refine ⟨.bool true, by simp [results, Try.results15, go_sem, hx5c], rfl, ?_⟩
        have hB3 := V7.below.setCell (show w.heap.size ≤ (⟨w.heap.size + 1 + 1, 0, none⟩ : Addr).block by simp; omega) (.bool true)
        exact hB3.trans (hb9.below (fun D2 hD2 => by have := hlow.out D2 hD2; omega) hB3.size)
end Go.Proofs.Ytfoncaamhleckaa
