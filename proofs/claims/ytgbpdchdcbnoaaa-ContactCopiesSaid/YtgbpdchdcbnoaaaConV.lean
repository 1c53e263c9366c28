/-
  The contract of is.
-/
import Derived.Test.YtgbpdchdcbnoaaaConU
import Derived.Test.YtgbpdchdcbnoaaaTurn
namespace Go.Proofs.Ytgbpdchdcbnoaaa
open Go.RowKit Vol
set_option linter.unusedSimpArgs false
set_option linter.unusedVariables false
attribute [local go_sem] Oper.semAt_some

/-- What is has at hand. -/
structure IsW (w w1 : World) (B : Nat) (v u : Value) (L : List Ct) (many : Int) (a : Ac) : Prop where
  below : Below w.heap.size w w1
  p : RowAt w1 w.heap.size #[u] 47
  m : RowAt w1 (w.heap.size + 1) #[.int .i64 many] 3
  c : RowAt w1 (w.heap.size + 1 + 1) (acC a).toArray 51
  r : RowAt w1 (w.heap.size + 1 + 1 + 1) #[.bool false] 4
  plan : PlanAt w1 B v L
  want : Sl w1 5 u L.length (L.flatMap ctC)
theorem IsW.up {w w1 w2 : World} {B : Nat} {v u : Value} {L : List Ct} {many : Int} {a : Ac} (h : IsW w w1 B v u L many a) (hb : Below w1.heap.size w1 w2) : IsW w w2 B v u L many a :=
  ⟨below_up h.below hb, h.p.below hb, h.m.below hb, h.c.below hb, h.r.below hb, h.plan.below hb, h.want.up hb⟩
theorem IsW.start {w : World} {B : Nat} {v u : Value} {L : List Ct} (many : Int) (a : Ac) (h : PlanAt w B v L) (hu : Sl w 5 u L.length (L.flatMap ctC)) : IsW w ((((w.alloc (.cells #[u] 47)).alloc (.cells #[.int .i64 many] 3)).alloc (.cells (acC a).toArray 51)).alloc (.cells #[.bool false] 4)) B v u L many a := by
  have hB4 : Below w.heap.size w ((((w.alloc (.cells #[u] 47)).alloc (.cells #[.int .i64 many] 3)).alloc (.cells (acC a).toArray 51)).alloc (.cells #[.bool false] 4)) := (((below_alloc w _).alloc (by simp) _).alloc (by simp; omega) _).alloc (by simp; omega) _
  have h2 := RowAt.new (w.alloc (.cells #[u] 47)) #[.int .i64 many] 3
  rw [World.size_alloc] at h2
  have h3 := RowAt.new ((w.alloc (.cells #[u] 47)).alloc (.cells #[.int .i64 many] 3)) (acC a).toArray 51
  rw [World.size_alloc, World.size_alloc] at h3
  have h4 := RowAt.new (((w.alloc (.cells #[u] 47)).alloc (.cells #[.int .i64 many] 3)).alloc (.cells (acC a).toArray 51)) #[.bool false] 4
  rw [World.size_alloc, World.size_alloc, World.size_alloc] at h4
  exact ⟨hB4, (((RowAt.new w _ _).below (below_alloc _ _)).below (below_alloc _ _)).below (below_alloc _ _), (h2.below (below_alloc _ _)).below (below_alloc _ _), h3.below (below_alloc _ _), h4, h.below hB4, hu.up hB4⟩
theorem exec_ctneq {ρ : Operand → Value} {o : Oper} {x y : Operand} {t : TypeId} (ho : o.op = .binOp .neq 27 x y t) {e : Ct} (hx : ρ x = ctV e) (hy : ρ y = ctV e) (w : World) :
    (execOp ρ o).run Try.prog w = .ok (.value (.bool false)) w := by
  unfold execOp
  simp only [ho, hx, hy]
  have := ct_neql e e w
  simp only [decide_true, Bool.not_true] at this
  simp [go_sem, this]

set_option maxHeartbeats 8000000 in
set_option maxRecDepth 100000 in
theorem is_c {B : Nat} {v u : Value} {L : List Ct} (many : Int) (a : Ac) (w : World) (h : PlanAt w B v L) (hu : Sl w 5 u L.length (L.flatMap ctC)) (hL : L.length ≤ 100000) :
    Calls Try.prog 20 #[.pointer (some ⟨B, 0, none⟩), .agg #[u], .int .i64 many, acV a] w (Ret (.bool true) w) := by
  obtain ⟨au, cu, rfl⟩ := hu.len
  have V4 := IsW.start many a h hu
  refine (callsIn_wide (n := 3)).1 ?_
  refine callsIn_of_wp_marks Try.func20 rfl trivial ?_ rfl
  simp only [Try.ntmps20, List.size_toArray, List.length_cons, List.length_nil, Nat.reduceAdd, Nat.reduceSub, Array.replicate_succ, Array.replicate_zero, List.push_toArray, List.append_toArray, List.nil_append, List.cons_append]
  have he : ∀ (f : FuncId) (caps : Array Value) (w : World), (binOp BinOp.eql 56 (.func (.func f) #[] caps) .nilFunc).run Try.prog w = .ok (.bool false) w := fun _ _ _ => by kernel_rfl
  have he2 : ∀ (f : FuncId) (caps : Array Value) (w : World), (binOp BinOp.eql 90 (.func (.func f) #[] caps) .nilFunc).run Try.prog w = .ok (.bool false) w := fun _ _ _ => by kernel_rfl
  refine wpIn_wide.2 ?_
  go_wp2_with (go_at_call 23; refine (pAll_c _ V4.plan).mono ?_; rintro en w1 ⟨rfl, rfl⟩)
  have hB5 := below_alloc ((((w.alloc (.cells #[.slice au L.length cu] 47)).alloc (.cells #[.int .i64 many] 3)).alloc (.cells (acC a).toArray 51)).alloc (.cells #[.bool false] 4)) (.cells #[v] 65)
  have hA : AllAt (((((w.alloc (.cells #[.slice au L.length cu] 47)).alloc (.cells #[.int .i64 many] 3)).alloc (.cells (acC a).toArray 51)).alloc (.cells #[.bool false] 4)).alloc (.cells #[v] 65)) (w.heap.size + 1 + 1 + 1 + 1) v L.length L := by
    refine ⟨?_, V4.plan.sl.up hB5⟩
    have := cell_new ((((w.alloc (.cells #[.slice au L.length cu] 47)).alloc (.cells #[.int .i64 many] 3)).alloc (.cells (acC a).toArray 51)).alloc (.cells #[.bool false] 4)) v 65
    simp only [World.size_alloc] at this
    exact this
  have V := V4.up hB5
  obtain ⟨wr, hwr⟩ : ∃ wr, ((((w.alloc (.cells #[.slice au L.length cu] 47)).alloc (.cells #[.int .i64 many] 3)).alloc (.cells (acC a).toArray 51)).alloc (.cells #[.bool false] 4)).alloc (.cells #[v] 65) = wr := ⟨_, rfl⟩
  simp only [hwr] at hA V ⊢
  have hsz : wr.heap.size = w.heap.size + 1 + 1 + 1 + 1 + 1 := by rw [← hwr]; simp
  clear V4 hB5 hwr
  have HV := Lib.hid V
  have HA := Lib.hid hA
  clear V hA
  refine wp_loop_ghost_k (fun m a' W => ∃ (tn T : Nat) (Ds : List Nat), tn ≤ 2 ∧ m = 2 - tn ∧ a' = { tmps := #[.pointer (some ⟨B, 0, none⟩), .agg #[.slice au L.length cu], .int .i64 many, acV a, undef, .pointer (some ⟨w.heap.size, 0, none⟩), .pointer (some ⟨w.heap.size + 1, 0, none⟩), .pointer (some ⟨w.heap.size + 1 + 1, 0, none⟩), .pointer (some ⟨w.heap.size + 1 + 1 + 1, 0, none⟩), .func (.func 55) #[] #[.pointer (some ⟨w.heap.size + 1 + 1 + 1 + 1, 0, none⟩)], .pointer (some ⟨T, 0, none⟩), a'.tmps.getD 11 undef, a'.tmps.getD 12 undef, a'.tmps.getD 13 undef, a'.tmps.getD 14 undef, a'.tmps.getD 15 undef, a'.tmps.getD 16 undef, a'.tmps.getD 17 undef, a'.tmps.getD 18 undef, a'.tmps.getD 19 undef, a'.tmps.getD 20 undef, a'.tmps.getD 21 undef, a'.tmps.getD 22 undef, a'.tmps.getD 23 undef, a'.tmps.getD 24 undef, a'.tmps.getD 25 undef, a'.tmps.getD 26 undef, a'.tmps.getD 27 undef, a'.tmps.getD 28 undef, a'.tmps.getD 29 undef, a'.tmps.getD 30 undef, a'.tmps.getD 31 undef, a'.tmps.getD 32 undef, a'.tmps.getD 33 undef, a'.tmps.getD 34 undef, a'.tmps.getD 35 undef, a'.tmps.getD 36 undef, a'.tmps.getD 37 undef, a'.tmps.getD 38 undef, a'.tmps.getD 39 undef, a'.tmps.getD 40 undef, a'.tmps.getD 41 undef, a'.tmps.getD 42 undef, a'.tmps.getD 43 undef, a'.tmps.getD 44 undef, a'.tmps.getD 45 undef, a'.tmps.getD 46 undef, a'.tmps.getD 47 undef, a'.tmps.getD 48 undef, a'.tmps.getD 49 undef, a'.tmps.getD 50 undef, a'.tmps.getD 51 undef, a'.tmps.getD 52 undef, a'.tmps.getD 53 undef, a'.tmps.getD 54 undef, a'.tmps.getD 55 undef, a'.tmps.getD 56 undef, a'.tmps.getD 57 undef, a'.tmps.getD 58 undef, a'.tmps.getD 59 undef, a'.tmps.getD 60 undef, a'.tmps.getD 61 undef, a'.tmps.getD 62 undef, a'.tmps.getD 63 undef, a'.tmps.getD 64 undef, a'.tmps.getD 65 undef, a'.tmps.getD 66 undef, a'.tmps.getD 67 undef, a'.tmps.getD 68 undef, a'.tmps.getD 69 undef, a'.tmps.getD 70 undef, a'.tmps.getD 71 undef, a'.tmps.getD 72 undef, a'.tmps.getD 73 undef, a'.tmps.getD 74 undef, a'.tmps.getD 75 undef, a'.tmps.getD 76 undef, a'.tmps.getD 77 undef, a'.tmps.getD 78 undef, a'.tmps.getD 79 undef, a'.tmps.getD 80 undef, a'.tmps.getD 81 undef, a'.tmps.getD 82 undef, a'.tmps.getD 83 undef, a'.tmps.getD 84 undef, a'.tmps.getD 85 undef, a'.tmps.getD 86 undef, a'.tmps.getD 87 undef, a'.tmps.getD 88 undef, a'.tmps.getD 89 undef, a'.tmps.getD 90 undef, a'.tmps.getD 91 undef, a'.tmps.getD 92 undef, a'.tmps.getD 93 undef, a'.tmps.getD 94 undef, a'.tmps.getD 95 undef, a'.tmps.getD 96 undef, a'.tmps.getD 97 undef, a'.tmps.getD 98 undef, a'.tmps.getD 99 undef, a'.tmps.getD 100 undef, a'.tmps.getD 101 undef, a'.tmps.getD 102 undef, a'.tmps.getD 103 undef, a'.tmps.getD 104 undef, a'.tmps.getD 105 undef, a'.tmps.getD 106 undef, a'.tmps.getD 107 undef, a'.tmps.getD 108 undef, a'.tmps.getD 109 undef, a'.tmps.getD 110 undef, a'.tmps.getD 111 undef, a'.tmps.getD 112 undef, a'.tmps.getD 113 undef, a'.tmps.getD 114 undef, a'.tmps.getD 115 undef, a'.tmps.getD 116 undef, a'.tmps.getD 117 undef, a'.tmps.getD 118 undef, a'.tmps.getD 119 undef, a'.tmps.getD 120 undef, a'.tmps.getD 121 undef, a'.tmps.getD 122 undef, a'.tmps.getD 123 undef, a'.tmps.getD 124 undef, a'.tmps.getD 125 undef, a'.tmps.getD 126 undef, a'.tmps.getD 127 undef, a'.tmps.getD 128 undef, a'.tmps.getD 129 undef, a'.tmps.getD 130 undef, a'.tmps.getD 131 undef, a'.tmps.getD 132 undef, a'.tmps.getD 133 undef, a'.tmps.getD 134 undef, a'.tmps.getD 135 undef, a'.tmps.getD 136 undef, a'.tmps.getD 137 undef, a'.tmps.getD 138 undef, a'.tmps.getD 139 undef, a'.tmps.getD 140 undef, a'.tmps.getD 141 undef, a'.tmps.getD 142 undef, a'.tmps.getD 143 undef, a'.tmps.getD 144 undef, a'.tmps.getD 145 undef, a'.tmps.getD 146 undef, a'.tmps.getD 147 undef, a'.tmps.getD 148 undef, a'.tmps.getD 149 undef, a'.tmps.getD 150 undef, a'.tmps.getD 151 undef, a'.tmps.getD 152 undef, a'.tmps.getD 153 undef, a'.tmps.getD 154 undef, a'.tmps.getD 155 undef, a'.tmps.getD 156 undef], defers := Ds.map markD } ∧ TuI wr T tn Ds W) 2 ?start ?round
  case start =>
    exact ⟨0, wr.heap.size, [], by omega, rfl, by rw [hsz]; rfl, TuI.start wr⟩
  case round =>
    intro m a' W hinv J K hJ hK
    obtain ⟨tn, T, Ds, htn, hm, ha, hI⟩ := hinv
    obtain ⟨u, hu⟩ : ∃ u : Nat → Value, ∀ i, a'.tmps.getD i undef = u i := ⟨_, fun _ => rfl⟩
    simp only [hu] at ha
    clear hu
    subst ha hm
    have HJ := Lib.hid hJ
    clear hJ
    have HW := Lib.hid (HV.out.up hI.below)
    have HA2 := Lib.hid (HA.out.but (O := fun _ => False) (But.of_below hI.below) (fun h => h) (.inr fun _ _ h => h))
    have HI := Lib.hid hI
    have hT := hI.turn.cell (i := 0) rfl
    have fT := hI.turn.fz 0
    have hTl := hI.turn.lt
    have hT0 := hI.low
    have hWs := hI.below.size
    clear hI
    rcases (show tn = 0 ∨ tn = 1 ∨ tn = 2 by omega) with rfl | rfl | rfl
    · replace hT : W.cell? ⟨T, 0, none⟩ = some (.int .i64 0) := hT
      replace HI := Lib.hid (show TuI wr T 0 Ds W from HI.out)
      go_wp2
      have hbA := below_alloc W (.cells #[.int .i64 0] 3)
      have hA2 := HA2.out.but (O := fun _ => False) (But.of_below hbA) (fun h => h) (.inr fun _ _ h => h)
      have hbl := HA2.out.sl.blk (by decide)
      have hC2 : w.heap.size + 1 + 1 + 1 + 1 < W.heap.size := by omega
      refine wpIn_wide.1 (wp_range (n := 3) (S := fun q => q = w.heap.size + 1 + 1 + 1 + 1 ∨ (0 < L.length ∧ v.ownBlock = some q)) (gf := 55) (lb := #[.pointer (some ⟨w.heap.size + 1 + 1 + 1 + 1, 0, none⟩)]) rfl enters_all1
        (all1_x L _ L.length v _ _ hA2 ⟨.inl rfl, (Nat.eq_zero_or_pos L.length).elim .inl fun h => .inr fun k hk => .inr ⟨h, hk⟩⟩) (Below.refl _ _) (fun _ => rfl)
        (fun q => q = W.heap.size) (fun k h => by simp only [World.size_alloc]; omega) ?hS
        (fun k G W3 => CtR W k G W3 ∧ (k = 0 ∨ (k : Int) < many))
        (fun k a' G W3 => (∃ VB, a' = { tmps := #[.pointer (some ⟨B, 0, none⟩), .agg #[.slice au L.length cu], .int .i64 many, acV a, undef, .pointer (some ⟨w.heap.size, 0, none⟩), .pointer (some ⟨w.heap.size + 1, 0, none⟩), .pointer (some ⟨w.heap.size + 1 + 1, 0, none⟩), .pointer (some ⟨w.heap.size + 1 + 1 + 1, 0, none⟩), .func (.func 55) #[] #[.pointer (some ⟨w.heap.size + 1 + 1 + 1 + 1, 0, none⟩)], .pointer (some ⟨T, 0, none⟩), .pointer (some ⟨W.heap.size, 0, none⟩), .int .i64 k, .pointer (some ⟨VB, 0, none⟩), u 14, u 15, u 16, u 17, u 18, u 19, u 20, u 21, u 22, .int .i64 0, .bool true, u 25, u 26, .func (.func 55) #[] #[.pointer (some ⟨w.heap.size + 1 + 1 + 1 + 1, 0, none⟩)], .bool false, .func (.func 55) #[] #[.pointer (some ⟨w.heap.size + 1 + 1 + 1 + 1, 0, none⟩)], .int .i64 k, ctV (ctAt L k), u 32, u 33, u 34, u 35, u 36, u 37, u 38, u 39, u 40, u 41, u 42, u 43, u 44, u 45, u 46, u 47, u 48, u 49, u 50, u 51, u 52, u 53, u 54, u 55, u 56, u 57, u 58, u 59, u 60, u 61, u 62, u 63, u 64, u 65, u 66, u 67, u 68, u 69, u 70, u 71, u 72, u 73, u 74, u 75, u 76, u 77, u 78, u 79, u 80, u 81, u 82, u 83, u 84, u 85, u 86, u 87, u 88, u 89, u 90, u 91, u 92, u 93, u 94, u 95, u 96, u 97, u 98, u 99, u 100, u 101, u 102, u 103, u 104, u 105, u 106, u 107, u 108, u 109, u 110, u 111, u 112, u 113, u 114, u 115, u 116, u 117, u 118, u 119, u 120, u 121, u 122, u 123, u 124, u 125, u 126, u 127, u 128, u 129, u 130, u 131, u 132, u 133, u 134, u 135, u 136, u 137, u 138, u 139, u 140, u 141, u 142, u 143, u 144, u 145, u 146, u 147, u 148, u 149, u 150, u 151, u 152, u 153, u 154, u 155, u 156], defers := [] } ∧ RowAt W3 VB (ctC (ctAt L k)).toArray 27 ∧ G VB) ∧ CtR W k G W3 ∧ (k = 0 ∨ (k : Int) < many))
        (fun c k G W3 => c = .exit 2 ∧ CtR W k G W3 ∧ many ≤ k ∧ (k = 1 ∨ (k : Int) - 1 < many))
        ?abI ?abM ?abX ?h0 ?assign ?body ?done ?stop)
      case hS =>
        rintro q (rfl | ⟨hp, hq⟩)
        · exact ⟨by simp only [World.size_alloc]; omega, by omega⟩
        · rcases hbl with h | h
          · omega
          · have := h q hq; exact ⟨by simp only [World.size_alloc]; omega, by omega⟩
      case abI => exact fun k G A B h hb => ⟨CtR.abide (by simp only [World.size_alloc]; omega) G A B h.1 hb, h.2⟩
      case abM =>
        rintro k a' G A B ⟨⟨VB, ha, hV, hG⟩, h⟩ hb
        exact ⟨⟨VB, ha, (hb.same VB hV.lt (fun e => e.2 hG)).trans hV, hG⟩, ⟨CtR.abide (by simp only [World.size_alloc]; omega) G A B h.1 hb, h.2⟩⟩
      case abX => exact fun c k G A B h hb => ⟨h.1, CtR.abide (by simp only [World.size_alloc]; omega) G A B h.2.1 hb, h.2.2⟩
      case h0 => exact ⟨CtR.start W, .inl rfl⟩
      case assign =>
        intro l2 k G W3 K3 hk hi hK3
        simp only [allArgs]
        gi_wp2
        refine hK3 _ _ (But.alloc _ _) ⟨⟨_, rfl, RowAt.new _ _ _, .inr ⟨Nat.le_refl _, by simp⟩⟩, ?_⟩
        exact ⟨CtR.alloc hi.1 _, hi.2⟩
      case body =>
        rintro l2 k a' G W3 hk hl2 _ hGl ⟨⟨VB, rfl, hVB0, hGV⟩, hi⟩
        have hR := hi.1
        have V3 := HW.out.up hR.below
        obtain ⟨b, off, rfl, hr⟩ := V3.want.rec_at (cells := ctC) (sz := 5) (fun _ => rfl) hk hk
        have Hstep := Lib.hid hR.step
        simp only [ctAt_get hk] at hVB0 ⊢
        have hle2 : ¬ L.length ≤ k := by omega
        have hk2 : (k : Int) ≤ 100000 := by omega
        have hkl : (k : Int) < (L.length : Int) := by omega
        generalize L[k] = e at *
        have hVB : RowAt W3.drew VB (ctC e).toArray 27 := hVB0
        have hr3 : W3.drew.rangeAt b (off + k * 5) (ctC e) := hr
        have p3 : W3.cell? ⟨w.heap.size, 0, none⟩ = some (.slice (some ⟨b, off, none⟩) L.length cu) := V3.p.cell (i := 0) rfl
        have m3 : W3.cell? ⟨w.heap.size + 1, 0, none⟩ = some (.int .i64 many) := V3.m.cell (i := 0) rfl
        have t3 : W3.cell? ⟨T, 0, none⟩ = some (.int .i64 0) := (HI.out.up hR.below).turn.cell (i := 0) rfl
        have a1 : W3.cell? ⟨W.heap.size, 0, none⟩ = some (.int .i64 k) := hR.cnt.cell (i := 0) rfl
        have f1 := hR.cnt.fz 0
        have hTK : ¬ T = W.heap.size := by omega
        have hKT : ¬ W.heap.size = T := by omega
        have hw5 : ¬ w.heap.size + 1 = W.heap.size := by omega
        have hw6 : ¬ W.heap.size = w.heap.size + 1 := by omega
        clear hR V3 hr hVB0
        by_cases hm : many ≤ (k : Int) + 1
        · gi_wp2
          refine wpIn_round_tail 18 mixes (by kernel_rfl) (by kernel_rfl) ?_
          simp only [List.take_succ_cons, List.take_zero, List.drop_succ_cons, List.drop_zero]
          still_step
          still_step
          still_step
          still_step
          still_step
          still_step
          still_step
          still_step
          still_step
          still_step
          still_step
          still_step
          still_step
          still_step
          still_step
          refine still_load rfl 27 (.tmp 46) rfl b (off + k * 5) rfl (ctC e) _ hr3 Try.underlying27 rfl (by kernel_rfl) ?_
          try simp only [Act.put, List.getElem_toArray, List.getElem_cons_zero, List.getElem_cons_succ, List.setIfInBounds_toArray, List.set_cons_zero, List.set_cons_succ]
          refine still_load rfl 27 (.tmp 13) rfl VB 0 rfl (ctC e) _ hVB.range Try.underlying27 rfl (by kernel_rfl) ?_
          try simp only [Act.put, List.getElem_toArray, List.getElem_cons_zero, List.getElem_cons_succ, List.setIfInBounds_toArray, List.set_cons_zero, List.set_cons_succ]
          refine still_val rfl (exec_ctneq (e := e) rfl rfl rfl _) ?_
          try simp only [Act.put, List.getElem_toArray, List.getElem_cons_zero, List.getElem_cons_succ, List.setIfInBounds_toArray, List.set_cons_zero, List.set_cons_succ]
          refine wpStill_nil ?_
          gi_wp2
          exact ⟨Hstep.out.1, rfl, Hstep.out.2, by simpa using hm, by rcases hi.2 with h | h; exact .inl (by omega); exact .inr (by simp; omega)⟩
        · gi_wp2
          refine wpIn_round_tail 18 mixes (by kernel_rfl) (by kernel_rfl) ?_
          simp only [List.take_succ_cons, List.take_zero, List.drop_succ_cons, List.drop_zero]
          still_step
          still_step
          still_step
          still_step
          still_step
          still_step
          still_step
          still_step
          still_step
          still_step
          still_step
          still_step
          still_step
          still_step
          still_step
          refine still_load rfl 27 (.tmp 46) rfl b (off + k * 5) rfl (ctC e) _ hr3 Try.underlying27 rfl (by kernel_rfl) ?_
          try simp only [Act.put, List.getElem_toArray, List.getElem_cons_zero, List.getElem_cons_succ, List.setIfInBounds_toArray, List.set_cons_zero, List.set_cons_succ]
          refine still_load rfl 27 (.tmp 13) rfl VB 0 rfl (ctC e) _ hVB.range Try.underlying27 rfl (by kernel_rfl) ?_
          try simp only [Act.put, List.getElem_toArray, List.getElem_cons_zero, List.getElem_cons_succ, List.setIfInBounds_toArray, List.set_cons_zero, List.set_cons_succ]
          refine still_val rfl (exec_ctneq (e := e) rfl rfl rfl _) ?_
          try simp only [Act.put, List.getElem_toArray, List.getElem_cons_zero, List.getElem_cons_succ, List.setIfInBounds_toArray, List.set_cons_zero, List.set_cons_succ]
          refine wpStill_nil ?_
          gi_wp2
          exact ⟨Hstep.out.1, Hstep.out.2, .inr (by simp; omega)⟩
      case done =>
        rintro D G W3 hD hGD hi hKD
        have hR := hi.1
        have V3 := HW.out.up hR.below
        have p3 : W3.cell? ⟨w.heap.size, 0, none⟩ = some (.slice au L.length cu) := V3.p.cell (i := 0) rfl
        have m3 : W3.cell? ⟨w.heap.size + 1, 0, none⟩ = some (.int .i64 many) := V3.m.cell (i := 0) rfl
        have t3 : W3.cell? ⟨T, 0, none⟩ = some (.int .i64 0) := (HI.out.up hR.below).turn.cell (i := 0) rfl
        have HN := Lib.hid (fun v => HI.out.next hR.below hKD (by simp only [World.size_alloc] at hD; omega) v)
        clear V3
        have a1 : W3.cell? ⟨W.heap.size, 0, none⟩ = some (.int .i64 (L.length : Nat)) := hR.cnt.cell (i := 0) rfl
        clear hR hKD
        have hA0 := hi.2
        clear hi
        generalize L.length = A at *
        by_cases h1m : 1 < many
        · have hmA : ¬ many < (A : Int) := by omega
          have hmA2 : (A : Int) ≤ many := by omega
          clear hA0
          go_wp2
          refine Handed.intro 1 (by omega) (HJ.out _ _ _ ?_)
          exact ⟨1, W3.heap.size, D :: Ds, by omega, rfl, rfl, HN.out 1⟩
        · have hmA : ¬ (1 : Int) < (A : Int) := by omega
          have hmA2 : (A : Int) ≤ 1 := by omega
          have hm1 : many ≤ 1 := by omega
          clear hA0
          go_wp2
          refine Handed.intro 1 (by omega) (HJ.out _ _ _ ?_)
          exact ⟨1, W3.heap.size, D :: Ds, by omega, rfl, rfl, HN.out 1⟩
      case stop =>
        rintro D c k G W3 hD hGD hk ⟨rfl, hR, hmk, hk0⟩ hKD
        refine wpIn_wide.2 ?_
        have V3 := HW.out.up hR.below
        have p3 : W3.cell? ⟨w.heap.size, 0, none⟩ = some (.slice au L.length cu) := V3.p.cell (i := 0) rfl
        have m3 : W3.cell? ⟨w.heap.size + 1, 0, none⟩ = some (.int .i64 many) := V3.m.cell (i := 0) rfl
        have t3 : W3.cell? ⟨T, 0, none⟩ = some (.int .i64 0) := (HI.out.up hR.below).turn.cell (i := 0) rfl
        have HN := Lib.hid (fun v => HI.out.next hR.below hKD (by simp only [World.size_alloc] at hD; omega) v)
        clear V3
        have a1 : W3.cell? ⟨W.heap.size, 0, none⟩ = some (.int .i64 ((k : Int) + 1)) := hR.cnt.cell (i := 0) rfl
        have hmk' : many ≤ (k : Int) + 1 := by simpa using hmk
        have hk0' : k = 0 ∨ (k : Int) < many := by rcases hk0 with h | h; exact .inl (by omega); exact .inr (by simp at h; omega)
        have hkA : ((k : Int) + 1) ≤ (L.length : Nat) := by omega
        clear hR hKD hmk hk0
        generalize L.length = A at *
        clear hk
        by_cases h1m : 1 < many
        · obtain rfl : many = (k : Int) + 1 := by omega
          clear hmk' hk0'
          by_cases hAA : (k : Int) + 1 < (A : Int)
          · have hAA2 : ¬ (A : Int) ≤ (k : Int) + 1 := by omega
            go_wp2
            refine Handed.intro 1 (by omega) (HJ.out _ _ _ ?_)
            exact ⟨1, W3.heap.size, D :: Ds, by omega, rfl, rfl, HN.out 1⟩
          · obtain rfl : A = k + 1 := by omega
            have hAA2 : ¬ (k : Int) + 1 < ((k + 1 : Nat) : Int) := by omega
            go_wp2
            refine Handed.intro 1 (by omega) (HJ.out _ _ _ ?_)
            exact ⟨1, W3.heap.size, D :: Ds, by omega, rfl, rfl, HN.out 1⟩
        · obtain rfl : k = 0 := by omega
          have hm1 : many ≤ 1 := by omega
          clear hmk' hk0'
          by_cases hAA : (1 : Int) < (A : Int)
          · have hAA2 : ¬ (A : Int) ≤ 1 := by omega
            go_wp2
            refine Handed.intro 1 (by omega) (HJ.out _ _ _ ?_)
            exact ⟨1, W3.heap.size, D :: Ds, by omega, rfl, rfl, HN.out 1⟩
          · obtain rfl : A = 1 := by omega
            go_wp2
            refine Handed.intro 1 (by omega) (HJ.out _ _ _ ?_)
            exact ⟨1, W3.heap.size, D :: Ds, by omega, rfl, rfl, HN.out 1⟩
    · replace hT : W.cell? ⟨T, 0, none⟩ = some (.int .i64 1) := hT
      replace HI := Lib.hid (show TuI wr T 1 Ds W from HI.out)
      go_wp2
      have hbA := below_alloc W (.cells #[.int .i64 0] 3)
      have hA2 := HA2.out.but (O := fun _ => False) (But.of_below hbA) (fun h => h) (.inr fun _ _ h => h)
      have hbl := HA2.out.sl.blk (by decide)
      have hC2 : w.heap.size + 1 + 1 + 1 + 1 < W.heap.size := by omega
      refine wpIn_wide.1 (wp_range (n := 3) (S := fun q => q = w.heap.size + 1 + 1 + 1 + 1 ∨ (0 < L.length ∧ v.ownBlock = some q)) (gf := 55) (lb := #[.pointer (some ⟨w.heap.size + 1 + 1 + 1 + 1, 0, none⟩)]) rfl enters_all1
        (all1_x L _ L.length v _ _ hA2 ⟨.inl rfl, (Nat.eq_zero_or_pos L.length).elim .inl fun h => .inr fun k hk => .inr ⟨h, hk⟩⟩) (Below.refl _ _) (fun _ => rfl)
        (fun q => q = W.heap.size) (fun k h => by simp only [World.size_alloc]; omega) ?hS
        (fun k G W3 => CtR W k G W3)
        (fun k a' G W3 => (∃ VB, a' = { tmps := #[.pointer (some ⟨B, 0, none⟩), .agg #[.slice au L.length cu], .int .i64 many, acV a, undef, .pointer (some ⟨w.heap.size, 0, none⟩), .pointer (some ⟨w.heap.size + 1, 0, none⟩), .pointer (some ⟨w.heap.size + 1 + 1, 0, none⟩), .pointer (some ⟨w.heap.size + 1 + 1 + 1, 0, none⟩), .func (.func 55) #[] #[.pointer (some ⟨w.heap.size + 1 + 1 + 1 + 1, 0, none⟩)], .pointer (some ⟨T, 0, none⟩), .pointer (some ⟨W.heap.size, 0, none⟩), .int .i64 k, .pointer (some ⟨VB, 0, none⟩), u 14, u 15, u 16, u 17, u 18, u 19, u 20, u 21, u 22, .int .i64 1, .bool true, u 25, u 26, .func (.func 55) #[] #[.pointer (some ⟨w.heap.size + 1 + 1 + 1 + 1, 0, none⟩)], .bool false, .func (.func 55) #[] #[.pointer (some ⟨w.heap.size + 1 + 1 + 1 + 1, 0, none⟩)], .int .i64 k, ctV (ctAt L k), u 32, u 33, u 34, u 35, u 36, u 37, u 38, u 39, u 40, u 41, u 42, u 43, u 44, u 45, u 46, u 47, u 48, u 49, u 50, u 51, u 52, u 53, u 54, u 55, u 56, u 57, u 58, u 59, u 60, u 61, u 62, u 63, u 64, u 65, u 66, u 67, u 68, u 69, u 70, u 71, u 72, u 73, u 74, u 75, u 76, u 77, u 78, u 79, u 80, u 81, u 82, u 83, u 84, u 85, u 86, u 87, u 88, u 89, u 90, u 91, u 92, u 93, u 94, u 95, u 96, u 97, u 98, u 99, u 100, u 101, u 102, u 103, u 104, u 105, u 106, u 107, u 108, u 109, u 110, u 111, u 112, u 113, u 114, u 115, u 116, u 117, u 118, u 119, u 120, u 121, u 122, u 123, u 124, u 125, u 126, u 127, u 128, u 129, u 130, u 131, u 132, u 133, u 134, u 135, u 136, u 137, u 138, u 139, u 140, u 141, u 142, u 143, u 144, u 145, u 146, u 147, u 148, u 149, u 150, u 151, u 152, u 153, u 154, u 155, u 156], defers := [] } ∧ RowAt W3 VB (ctC (ctAt L k)).toArray 27 ∧ G VB) ∧ CtR W k G W3)
        (fun c k G W3 => False)
        ?abI ?abM ?abX ?h0 ?assign ?body ?done ?stop)
      case hS =>
        rintro q (rfl | ⟨hp, hq⟩)
        · exact ⟨by simp only [World.size_alloc]; omega, by omega⟩
        · rcases hbl with h | h
          · omega
          · have := h q hq; exact ⟨by simp only [World.size_alloc]; omega, by omega⟩
      case abI => exact fun k G A B h hb => CtR.abide (by simp only [World.size_alloc]; omega) G A B h hb
      case abM =>
        rintro k a' G A B ⟨⟨VB, ha, hV, hG⟩, h⟩ hb
        exact ⟨⟨VB, ha, (hb.same VB hV.lt (fun e => e.2 hG)).trans hV, hG⟩, CtR.abide (by simp only [World.size_alloc]; omega) G A B h hb⟩
      case abX => exact fun c k G A B h hb => h.elim
      case h0 => exact CtR.start W
      case assign =>
        intro l2 k G W3 K3 hk hi hK3
        simp only [allArgs]
        gi_wp2
        refine hK3 _ _ (But.alloc _ _) ⟨⟨_, rfl, RowAt.new _ _ _, .inr ⟨Nat.le_refl _, by simp⟩⟩, ?_⟩
        exact CtR.alloc hi _
      case body =>
        rintro l2 k a' G W3 hk hl2 _ hGl ⟨⟨VB, rfl, hVB0, hGV⟩, hi⟩
        have hR := hi
        have V3 := HW.out.up hR.below
        obtain ⟨b, off, rfl, hr⟩ := V3.want.rec_at (cells := ctC) (sz := 5) (fun _ => rfl) hk hk
        have Hstep := Lib.hid hR.step
        simp only [ctAt_get hk] at hVB0 ⊢
        have hle2 : ¬ L.length ≤ k := by omega
        have hk2 : (k : Int) ≤ 100000 := by omega
        have hkl : (k : Int) < (L.length : Int) := by omega
        generalize L[k] = e at *
        have hVB : RowAt W3.drew VB (ctC e).toArray 27 := hVB0
        have hr3 : W3.drew.rangeAt b (off + k * 5) (ctC e) := hr
        have p3 : W3.cell? ⟨w.heap.size, 0, none⟩ = some (.slice (some ⟨b, off, none⟩) L.length cu) := V3.p.cell (i := 0) rfl
        have m3 : W3.cell? ⟨w.heap.size + 1, 0, none⟩ = some (.int .i64 many) := V3.m.cell (i := 0) rfl
        have t3 : W3.cell? ⟨T, 0, none⟩ = some (.int .i64 1) := (HI.out.up hR.below).turn.cell (i := 0) rfl
        have a1 : W3.cell? ⟨W.heap.size, 0, none⟩ = some (.int .i64 k) := hR.cnt.cell (i := 0) rfl
        have f1 := hR.cnt.fz 0
        have hTK : ¬ T = W.heap.size := by omega
        have hKT : ¬ W.heap.size = T := by omega
        have hw5 : ¬ w.heap.size + 1 = W.heap.size := by omega
        have hw6 : ¬ W.heap.size = w.heap.size + 1 := by omega
        clear hR V3 hr hVB0
        gi_wp2
        refine wpIn_round_tail 18 mixes (by kernel_rfl) (by kernel_rfl) ?_
        simp only [List.take_succ_cons, List.take_zero, List.drop_succ_cons, List.drop_zero]
        still_step
        still_step
        still_step
        still_step
        still_step
        still_step
        still_step
        still_step
        still_step
        still_step
        still_step
        still_step
        still_step
        still_step
        still_step
        refine still_load rfl 27 (.tmp 46) rfl b (off + k * 5) rfl (ctC e) _ hr3 Try.underlying27 rfl (by kernel_rfl) ?_
        try simp only [Act.put, List.getElem_toArray, List.getElem_cons_zero, List.getElem_cons_succ, List.setIfInBounds_toArray, List.set_cons_zero, List.set_cons_succ]
        refine still_load rfl 27 (.tmp 13) rfl VB 0 rfl (ctC e) _ hVB.range Try.underlying27 rfl (by kernel_rfl) ?_
        try simp only [Act.put, List.getElem_toArray, List.getElem_cons_zero, List.getElem_cons_succ, List.setIfInBounds_toArray, List.set_cons_zero, List.set_cons_succ]
        refine still_val rfl (exec_ctneq (e := e) rfl rfl rfl _) ?_
        try simp only [Act.put, List.getElem_toArray, List.getElem_cons_zero, List.getElem_cons_succ, List.setIfInBounds_toArray, List.set_cons_zero, List.set_cons_succ]
        refine wpStill_nil ?_
        gi_wp2
        exact ⟨Hstep.out.1, Hstep.out.2⟩
      case done =>
        rintro D G W3 hD hGD hi hKD
        have hR := hi
        have V3 := HW.out.up hR.below
        have p3 : W3.cell? ⟨w.heap.size, 0, none⟩ = some (.slice au L.length cu) := V3.p.cell (i := 0) rfl
        have m3 : W3.cell? ⟨w.heap.size + 1, 0, none⟩ = some (.int .i64 many) := V3.m.cell (i := 0) rfl
        have t3 : W3.cell? ⟨T, 0, none⟩ = some (.int .i64 1) := (HI.out.up hR.below).turn.cell (i := 0) rfl
        have HN := Lib.hid (fun v => HI.out.next hR.below hKD (by simp only [World.size_alloc] at hD; omega) v)
        clear V3
        have a1 : W3.cell? ⟨W.heap.size, 0, none⟩ = some (.int .i64 (L.length : Nat)) := hR.cnt.cell (i := 0) rfl
        clear hR hKD
        go_wp2
        refine Handed.intro 0 (by omega) (HJ.out _ _ _ ?_)
        exact ⟨2, W3.heap.size, D :: Ds, by omega, rfl, rfl, HN.out 2⟩
      case stop =>
        intro D c k G W3 hD hGD hk hi hKD
        exact hi.elim
    · replace hT : W.cell? ⟨T, 0, none⟩ = some (.int .i64 2) := hT
      have V := HW.out
      have p0 := V.p.cell (i := 0) (v := .slice au L.length cu) rfl
      have d2 := V.c.cell (i := 2) (v := .int .u32 a.c.from_) rfl
      have hWR := V.r.lt
      have T1 := Lib.hid True.intro
      go_wp2_with (first
        | (go_at_call 51; refine (rFrom_c L _ L.length a.c.from_ _ V.want hL).mono ?_; rintro en w2 ⟨u2, rfl, hown2, hb2⟩; obtain ⟨a2, cc2, rfl⟩ := own_slice hown2; have V8 := ((V.up hb2).up (below_alloc w2 (.cells #[.slice a2 (fromF L a.c.from_).length cc2] 38))).up (below_alloc _ (.cells #[.int .i64 0] 3)); have d28 := V8.c.cell (i := 2) (v := .int .u32 a.c.from_) rfl)
        | (go_at_call 52; have Tz := T1; clear Tz T1; refine (pFrom_c a.c.from_ _ V8.plan).mono ?_; rintro en w5 ⟨rfl, _, hb5, hz5⟩; have V9 := V8.up hb5; have d29 := V9.c.cell (i := 2) (v := .int .u32 a.c.from_) rfl)
        | (go_at_call 52; refine (pFrom_c a.c.from_ _ V9.plan).mono ?_; rintro en w6 ⟨rfl, hF6, hb6, hz6⟩))
      rw [hz5] at hF6
      simp only [World.size_alloc] at hF6
      have hlst := RowAt.new w2 #[.slice a2 (fromF L a.c.from_).length cc2] 38
      have hu2 := (Sl.of_own hown2).up (below_alloc w2 (.cells #[.slice a2 (fromF L a.c.from_).length cc2] 38))
      have hV2 := (V.up hb2).up (below_alloc w2 (.cells #[.slice a2 (fromF L a.c.from_).length cc2] 38))
      have hI2 := (HI.out.up hb2).up (below_alloc w2 (.cells #[.slice a2 (fromF L a.c.from_).length cc2] 38))
      have hC6 := (CtR.start (w2.alloc (.cells #[.slice a2 (fromF L a.c.from_).length cc2] 38))).up (below_up hb5 hb6)
      have hz2 : (w2.alloc (.cells #[.slice a2 (fromF L a.c.from_).length cc2] 38)).heap.size = w2.heap.size + 1 := by simp
      have hz6' : w6.heap.size = w2.heap.size + 1 + 1 + 3 + 3 := by rw [hz6, hz5]; simp
      obtain ⟨wr2, hwr2⟩ : ∃ W', w2.alloc (.cells #[.slice a2 (fromF L a.c.from_).length cc2] 38) = W' := ⟨_, rfl⟩
      rw [hwr2] at hlst hu2 hV2 hI2 hC6 hz2
      have hW2 := hb2.size
      have hbl := HA2.out.sl.blk (by decide)
      have HV2 := Lib.hid hV2
      have HI2 := Lib.hid hI2
      have Hz6 := Lib.hid hz6'
      have hz6l : w2.heap.size + 1 + 1 + 3 + 2 < w6.heap.size := by omega
      clear hz6 hz5 hz6' hV2 hI2 V8 V9 d28 d29 hwr2 hown2
      refine wpIn_wide.1 (wp_range (n := 3) (S := fun q => q = (w2.heap.size + 1 + 1 + 3 + 2) ∨ q = (w2.heap.size + 1 + 1 + 3) ∨ q = (w2.heap.size + 1 + 1 + 3 + 1) ∨ (0 < L.length ∧ v.ownBlock = some q)) (gf := 72) (lb := #[.pointer (some ⟨w2.heap.size + 1 + 1 + 3 + 2, 0, none⟩), .pointer (some ⟨w2.heap.size + 1 + 1 + 3, 0, none⟩)]) rfl enters_from1
        (from1_x L a.c.from_ _ _ _ L.length v _ w6 hF6 ⟨.inl rfl, .inr (.inl rfl), .inr (.inr (.inl rfl)), (Nat.eq_zero_or_pos L.length).elim .inl fun h => .inr fun k hk => .inr (.inr (.inr ⟨h, hk⟩))⟩) (Below.refl _ _) (fun _ => rfl)
        (fun q => q = wr2.heap.size) (fun k h => by omega) ?hS
        (fun k G W3 => CtR wr2 k G W3 ∧ (k = 0 ∨ (k : Int) < many))
        (fun k a' G W3 => (∃ VB, a' = { tmps := #[.pointer (some ⟨B, 0, none⟩), .agg #[.slice au L.length cu], .int .i64 many, acV a, undef, .pointer (some ⟨w.heap.size, 0, none⟩), .pointer (some ⟨w.heap.size + 1, 0, none⟩), .pointer (some ⟨w.heap.size + 1 + 1, 0, none⟩), .pointer (some ⟨w.heap.size + 1 + 1 + 1, 0, none⟩), .func (.func 55) #[] #[.pointer (some ⟨w.heap.size + 1 + 1 + 1 + 1, 0, none⟩)], .pointer (some ⟨T, 0, none⟩), u 11, u 12, u 13, .pointer (some ⟨w2.heap.size, 0, none⟩), .pointer (some ⟨w2.heap.size + 1, 0, none⟩), .pointer (some ⟨VB, 0, none⟩), u 17, u 18, u 19, u 20, u 21, u 22, .int .i64 2, .bool false, u 25, u 26, u 27, u 28, u 29, u 30, u 31, u 32, u 33, u 34, u 35, u 36, u 37, u 38, u 39, u 40, u 41, u 42, u 43, u 44, u 45, u 46, u 47, u 48, u 49, u 50, u 51, u 52, u 53, u 54, u 55, u 56, u 57, u 58, u 59, u 60, u 61, u 62, u 63, u 64, u 65, u 66, u 67, u 68, u 69, u 70, u 71, u 72, u 73, u 74, u 75, u 76, u 77, u 78, u 79, u 80, u 81, u 82, u 83, .agg #[.slice au L.length cu], .pointer (some ⟨w.heap.size + 1 + 1, 2, none⟩), .pointer (some ⟨w.heap.size + 1 + 1, 2, none⟩), .int .u32 a.c.from_, .slice a2 (fromF L a.c.from_).length cc2, .pointer (some ⟨B, 0, none⟩), .pointer (some ⟨w.heap.size + 1 + 1, 2, none⟩), .pointer (some ⟨w.heap.size + 1 + 1, 2, none⟩), .int .u32 a.c.from_, .func (.func 72) #[] #[.pointer (some ⟨w2.heap.size + 1 + 1 + 2, 0, none⟩), .pointer (some ⟨w2.heap.size + 1 + 1, 0, none⟩)], .bool false, .pointer (some ⟨B, 0, none⟩), .pointer (some ⟨w.heap.size + 1 + 1, 2, none⟩), .pointer (some ⟨w.heap.size + 1 + 1, 2, none⟩), .int .u32 a.c.from_, .func (.func 72) #[] #[.pointer (some ⟨w2.heap.size + 1 + 1 + 3 + 2, 0, none⟩), .pointer (some ⟨w2.heap.size + 1 + 1 + 3, 0, none⟩)], ctV (ctAt (fromF L a.c.from_) k), u 101, u 102, u 103, u 104, u 105, u 106, u 107, u 108, u 109, u 110, u 111, u 112, u 113, u 114, u 115, u 116, u 117, u 118, u 119, u 120, u 121, u 122, u 123, u 124, u 125, u 126, u 127, u 128, u 129, u 130, u 131, u 132, u 133, u 134, u 135, u 136, u 137, u 138, u 139, u 140, u 141, u 142, u 143, u 144, u 145, u 146, u 147, u 148, u 149, u 150, u 151, u 152, u 153, u 154, u 155, u 156], defers := [] } ∧ RowAt W3 VB (ctC (ctAt (fromF L a.c.from_) k)).toArray 27 ∧ G VB) ∧ CtR wr2 k G W3 ∧ (k = 0 ∨ (k : Int) < many))
        (fun c k G W3 => c = .exit 4 ∧ CtR wr2 k G W3 ∧ many ≤ k ∧ (k = 1 ∨ (k : Int) - 1 < many))
        ?abI ?abM ?abX ⟨hC6, .inl rfl⟩ ?assign ?body ?done ?stop)
      case hS =>
        rintro q (rfl | rfl | rfl | ⟨hp, hq⟩)
        · exact ⟨by omega, by omega⟩
        · exact ⟨by omega, by omega⟩
        · exact ⟨by omega, by omega⟩
        · rcases hbl with h | h
          · omega
          · have := h q hq; exact ⟨by omega, by omega⟩
      case abI => exact fun k G A B h hb => ⟨CtR.abide (by omega) G A B h.1 hb, h.2⟩
      case abM =>
        rintro k a' G A B ⟨⟨VB, ha, hV, hG⟩, h⟩ hb
        exact ⟨⟨VB, ha, (hb.same VB hV.lt (fun e => e.2 hG)).trans hV, hG⟩, ⟨CtR.abide (by omega) G A B h.1 hb, h.2⟩⟩
      case abX => exact fun c k G A B h hb => ⟨h.1, CtR.abide (by omega) G A B h.2.1 hb, h.2.2⟩
      case assign =>
        intro l2 k G W3 K3 hk hi hK3
        gi_wp2
        refine hK3 _ _ (But.alloc _ _) ⟨⟨_, rfl, RowAt.new _ _ _, .inr ⟨Nat.le_refl _, by simp⟩⟩, ?_⟩
        exact ⟨CtR.alloc hi.1 _, hi.2⟩
      case body =>
        rintro l2 k a' G W3 hk hl2 _ hGl ⟨⟨VB, rfl, hVB0, hGV⟩, hi⟩
        have hR := hi.1
        have V3 := HV2.out.up hR.below
        obtain ⟨b, off, rfl, hr⟩ := (hu2.up hR.below).rec_at (cells := ctC) (sz := 5) (fun _ => rfl) hk hk
        have hstep := hR.step
        rw [hz2] at hstep
        have Hstep := Lib.hid hstep
        simp only [ctAt_get hk] at hVB0 ⊢
        have hle2 : ¬ (fromF L a.c.from_).length ≤ k := by omega
        have hMl : (fromF L a.c.from_).length ≤ L.length := List.length_filter_le _ _
        have hk2 : (k : Int) ≤ 100000 := by omega
        have hkl : (k : Int) < ((fromF L a.c.from_).length : Int) := by omega
        have l3 : W3.cell? ⟨w2.heap.size, 0, none⟩ = some (.slice (some ⟨b, off, none⟩) (fromF L a.c.from_).length cc2) := (hlst.below hR.below).cell (i := 0) rfl
        generalize (fromF L a.c.from_)[k] = e at *
        have hVB : RowAt W3.drew VB (ctC e).toArray 27 := hVB0
        have hr3 : W3.drew.rangeAt b (off + k * 5) (ctC e) := hr
        have m3 : W3.cell? ⟨w.heap.size + 1, 0, none⟩ = some (.int .i64 many) := V3.m.cell (i := 0) rfl
        have a1 : W3.cell? ⟨w2.heap.size + 1, 0, none⟩ = some (.int .i64 k) := hz2 ▸ hR.cnt.cell (i := 0) rfl
        have f1 : W3.frozen? ⟨w2.heap.size + 1, 0, none⟩ = false := hz2 ▸ hR.cnt.fz 0
        have hw5 : ¬ w.heap.size + 1 = w2.heap.size + 1 := by omega
        have hw6 : ¬ w2.heap.size + 1 = w.heap.size + 1 := by omega
        clear hR V3 hr hVB0 hstep hz2
        generalize (fromF L a.c.from_).length = A at *
        by_cases hm : many ≤ (k : Int) + 1
        · gi_wp2
          refine wpIn_round_tail 11 mixes (by kernel_rfl) (by kernel_rfl) ?_
          simp only [List.take_succ_cons, List.take_zero, List.drop_succ_cons, List.drop_zero]
          still_step
          still_step
          still_step
          still_step
          still_step
          still_step
          still_step
          still_step
          refine still_load rfl 27 (.tmp 108) rfl b (off + k * 5) rfl (ctC e) _ hr3 Try.underlying27 rfl (by kernel_rfl) ?_
          try simp only [Act.put, List.getElem_toArray, List.getElem_cons_zero, List.getElem_cons_succ, List.setIfInBounds_toArray, List.set_cons_zero, List.set_cons_succ]
          refine still_load rfl 27 (.tmp 16) rfl VB 0 rfl (ctC e) _ hVB.range Try.underlying27 rfl (by kernel_rfl) ?_
          try simp only [Act.put, List.getElem_toArray, List.getElem_cons_zero, List.getElem_cons_succ, List.setIfInBounds_toArray, List.set_cons_zero, List.set_cons_succ]
          refine still_val rfl (exec_ctneq (e := e) rfl rfl rfl _) ?_
          try simp only [Act.put, List.getElem_toArray, List.getElem_cons_zero, List.getElem_cons_succ, List.setIfInBounds_toArray, List.set_cons_zero, List.set_cons_succ]
          refine wpStill_nil ?_
          gi_wp2
          exact ⟨Hstep.out.1, rfl, Hstep.out.2, by simpa using hm, by rcases hi.2 with h | h; exact .inl (by omega); exact .inr (by simp; omega)⟩
        · gi_wp2
          refine wpIn_round_tail 11 mixes (by kernel_rfl) (by kernel_rfl) ?_
          simp only [List.take_succ_cons, List.take_zero, List.drop_succ_cons, List.drop_zero]
          still_step
          still_step
          still_step
          still_step
          still_step
          still_step
          still_step
          still_step
          refine still_load rfl 27 (.tmp 108) rfl b (off + k * 5) rfl (ctC e) _ hr3 Try.underlying27 rfl (by kernel_rfl) ?_
          try simp only [Act.put, List.getElem_toArray, List.getElem_cons_zero, List.getElem_cons_succ, List.setIfInBounds_toArray, List.set_cons_zero, List.set_cons_succ]
          refine still_load rfl 27 (.tmp 16) rfl VB 0 rfl (ctC e) _ hVB.range Try.underlying27 rfl (by kernel_rfl) ?_
          try simp only [Act.put, List.getElem_toArray, List.getElem_cons_zero, List.getElem_cons_succ, List.setIfInBounds_toArray, List.set_cons_zero, List.set_cons_succ]
          refine still_val rfl (exec_ctneq (e := e) rfl rfl rfl _) ?_
          try simp only [Act.put, List.getElem_toArray, List.getElem_cons_zero, List.getElem_cons_succ, List.setIfInBounds_toArray, List.set_cons_zero, List.set_cons_succ]
          refine wpStill_nil ?_
          gi_wp2
          exact ⟨Hstep.out.1, Hstep.out.2, .inr (by simp; omega)⟩
      case done =>
        rintro D G W3 hD hGD hi hKD
        have hR := hi.1
        have hDl : w2.heap.size + 1 + 1 + 3 + 2 < D := by omega
        have V3 := HV2.out.up hR.below
        have lst0 := hlst.below hR.below
        have l3 : W3.cell? ⟨w2.heap.size, 0, none⟩ = some (.slice a2 (fromF L a.c.from_).length cc2) := lst0.cell (i := 0) rfl
        have m3 : W3.cell? ⟨w.heap.size + 1, 0, none⟩ = some (.int .i64 many) := V3.m.cell (i := 0) rfl
        have d73 := V3.c.cell (i := 7) (v := .int .u64 a.at_) rfl
        have hI3 := HI2.out.up hR.below
        have hmk0 : ∀ D2 ∈ D :: Ds, W3.heap[D2]? = some (.deferred (some [])) := fun D2 hD2 => by
          rcases List.mem_cons.1 hD2 with rfl | hD2
          · exact hKD
          · exact (hI3.marks D2 hD2).1
        have hnd : (D :: Ds).Nodup := List.nodup_cons.2 ⟨fun hD2 => by have := HI2.out.lt D hD2; omega, hI3.nodup⟩
        have hlow : ∀ D2 ∈ D :: Ds, w.heap.size ≤ D2 := fun D2 hD2 => by
          rcases List.mem_cons.1 hD2 with rfl | hD2
          · omega
          · have := (hI3.marks D2 hD2).2; omega
        clear hI3
        obtain ⟨NX, hNX⟩ : ∃ NX, nextF L a.at_ = NX := ⟨_, rfl⟩
        have cnt0 : RowAt W3 (w2.heap.size + 1) #[.int .i64 ((fromF L a.c.from_).length : Nat)] 3 := hz2 ▸ hR.cnt
        have hA0 := hi.2
        clear hi hR hKD hz2 hC6 hF6 hu2 hlst
        generalize (fromF L a.c.from_).length = A at *
        by_cases h1m : 1 < many
        · have hmA : ¬ many < (A : Int) := by omega
          have hmA2 : (A : Int) ≤ many := by omega
          have hmi : (if many < (A : Int) then many else (A : Int)) = (A : Int) := if_neg hmA
          clear hA0
          go_wp2_with (first
            | (go_at_call 27; refine (pNext_c a.at_ _ V3.plan).mono ?_; rw [hNX]; rintro en w7 ⟨rfl, hb7⟩; have V6 := V3.up hb7; have d76 := V6.c.cell (i := 7) (v := .int .u64 a.at_) rfl; have p6 := V6.p.cell (i := 0) (v := .slice au L.length cu) rfl)
            | (go_at_call 53; refine (rNext_c L _ L.length a.at_ _ V6.want hL).mono ?_; rw [hNX]; rintro en w8 ⟨rfl, hb8⟩; have V7 := V6.up hb8; have cnt3 := (cnt0.below hb7).below hb8; have lst3 := (lst0.below hb7).below hb8))
          have hmk3 := fun D2 hD2 => (hb8.block D2 (Array.getElem?_eq_some_iff.1 ((hb7.block D2 (Array.getElem?_eq_some_iff.1 (hmk0 D2 hD2)).1).trans (hmk0 D2 hD2))).1).trans ((hb7.block D2 (Array.getElem?_eq_some_iff.1 (hmk0 D2 hD2)).1).trans (hmk0 D2 hD2))
          have cn := cnt3.cell (i := 0) (v := .int .i64 _) rfl
          have cl := lst3.cell (i := 0) (v := .slice a2 _ cc2) rfl
          have cm := V7.m.cell (i := 0) (v := .int .i64 _) rfl
          have cw := V7.p.cell (i := 0) (v := .slice au L.length cu) rfl
          have rf := V7.r.fz 0
          have rc := V7.r.cell (i := 0) (v := .bool false) rfl
          have V9 := V7.up (Below.refl w8.heap.size w8).drew
          refine wp_still_tail 25 (by kernel_rfl) (by kernel_rfl) ?_
          simp only [List.take_succ_cons, List.take_zero, List.drop_succ_cons, List.drop_zero]
          still_step
          still_step
          still_step
          still_step
          still_step
          still_step
          still_step
          still_step
          still_step
          still_step
          still_step
          still_step
          still_step
          still_step
          still_step
          still_step
          still_step
          still_step
          still_step
          still_call ((pLen_c _ V9.plan).mono fun e w'' h => ⟨h.1, h.2.symm⟩)
          still_step
          still_step
          still_step
          still_step
          still_step
          refine wpStill_nil ?_
          have hx4 := V7.r.set 0 (.bool true)
          go_wp2
          refine leaves_marks (D :: Ds) _ hnd (fun D2 hD2 => ?_) (fun w9 hb9 => ?_)
          · have hm := hmk3 D2 hD2
            have hne : D2 ≠ w.heap.size + 1 + 1 + 1 := fun e => by have h1 := V7.r; rw [← e] at h1; unfold RowAt at h1; rw [hm] at h1; cases h1
            exact (Below.heap_setCell w8 ⟨w.heap.size + 1 + 1 + 1, 0, none⟩ (.bool true) D2 (by simpa using hne)).trans hm
          · have hne : w.heap.size + 1 + 1 + 1 ∉ D :: Ds := fun hD2 => by have hm := hmk3 _ hD2; have h1 := V7.r; unfold RowAt at h1; rw [hm] at h1; cases h1
            have hx5 : RowAt w9 (w.heap.size + 1 + 1 + 1) #[.bool true] 4 := (hb9.same _ hx4.lt hne).trans hx4
            have hx5c := hx5.cell (i := 0) (v := .bool true) rfl
            refine ⟨.bool true, by simp [results, Try.results20, go_sem, hx5c], rfl, ?_⟩
            have hB3 := (V7.below.setCell (show w.heap.size ≤ (⟨w.heap.size + 1 + 1 + 1, 0, none⟩ : Addr).block by simp; omega) (.bool true)).drew
            exact hB3.trans (hb9.below (fun D2 hD2 => hlow D2 hD2) hB3.size)
        · have hmA : ¬ (1 : Int) < (A : Int) := by omega
          have hmA2 : (A : Int) ≤ 1 := by omega
          have hm1 : many ≤ 1 := by omega
          have hmx : (if (1 : Int) < many then many else 1) = 1 := if_neg h1m
          have hmi : (if (1 : Int) < (A : Int) then (1 : Int) else (A : Int)) = (A : Int) := if_neg hmA
          clear hA0
          go_wp2_with (first
            | (go_at_call 27; refine (pNext_c a.at_ _ V3.plan).mono ?_; rw [hNX]; rintro en w7 ⟨rfl, hb7⟩; have V6 := V3.up hb7; have d76 := V6.c.cell (i := 7) (v := .int .u64 a.at_) rfl; have p6 := V6.p.cell (i := 0) (v := .slice au L.length cu) rfl)
            | (go_at_call 53; refine (rNext_c L _ L.length a.at_ _ V6.want hL).mono ?_; rw [hNX]; rintro en w8 ⟨rfl, hb8⟩; have V7 := V6.up hb8; have cnt3 := (cnt0.below hb7).below hb8; have lst3 := (lst0.below hb7).below hb8))
          have hmk3 := fun D2 hD2 => (hb8.block D2 (Array.getElem?_eq_some_iff.1 ((hb7.block D2 (Array.getElem?_eq_some_iff.1 (hmk0 D2 hD2)).1).trans (hmk0 D2 hD2))).1).trans ((hb7.block D2 (Array.getElem?_eq_some_iff.1 (hmk0 D2 hD2)).1).trans (hmk0 D2 hD2))
          have cn := cnt3.cell (i := 0) (v := .int .i64 _) rfl
          have cl := lst3.cell (i := 0) (v := .slice a2 _ cc2) rfl
          have cm := V7.m.cell (i := 0) (v := .int .i64 _) rfl
          have cw := V7.p.cell (i := 0) (v := .slice au L.length cu) rfl
          have rf := V7.r.fz 0
          have rc := V7.r.cell (i := 0) (v := .bool false) rfl
          have V9 := V7.up (Below.refl w8.heap.size w8).drew
          refine wp_still_tail 25 (by kernel_rfl) (by kernel_rfl) ?_
          simp only [List.take_succ_cons, List.take_zero, List.drop_succ_cons, List.drop_zero]
          still_step
          still_step
          still_step
          still_step
          still_step
          still_step
          still_step
          still_step
          still_step
          still_step
          still_step
          still_step
          still_step
          still_step
          still_step
          still_step
          still_step
          still_step
          still_step
          still_call ((pLen_c _ V9.plan).mono fun e w'' h => ⟨h.1, h.2.symm⟩)
          still_step
          still_step
          still_step
          still_step
          still_step
          refine wpStill_nil ?_
          have hx4 := V7.r.set 0 (.bool true)
          go_wp2
          refine leaves_marks (D :: Ds) _ hnd (fun D2 hD2 => ?_) (fun w9 hb9 => ?_)
          · have hm := hmk3 D2 hD2
            have hne : D2 ≠ w.heap.size + 1 + 1 + 1 := fun e => by have h1 := V7.r; rw [← e] at h1; unfold RowAt at h1; rw [hm] at h1; cases h1
            exact (Below.heap_setCell w8 ⟨w.heap.size + 1 + 1 + 1, 0, none⟩ (.bool true) D2 (by simpa using hne)).trans hm
          · have hne : w.heap.size + 1 + 1 + 1 ∉ D :: Ds := fun hD2 => by have hm := hmk3 _ hD2; have h1 := V7.r; unfold RowAt at h1; rw [hm] at h1; cases h1
            have hx5 : RowAt w9 (w.heap.size + 1 + 1 + 1) #[.bool true] 4 := (hb9.same _ hx4.lt hne).trans hx4
            have hx5c := hx5.cell (i := 0) (v := .bool true) rfl
            refine ⟨.bool true, by simp [results, Try.results20, go_sem, hx5c], rfl, ?_⟩
            have hB3 := (V7.below.setCell (show w.heap.size ≤ (⟨w.heap.size + 1 + 1 + 1, 0, none⟩ : Addr).block by simp; omega) (.bool true)).drew
            exact hB3.trans (hb9.below (fun D2 hD2 => hlow D2 hD2) hB3.size)
      case stop =>
        rintro D c k G W3 hD hGD hk ⟨rfl, hR, hmk', hk0⟩ hKD
        refine wpIn_wide.2 ?_
        have hDl : w2.heap.size + 1 + 1 + 3 + 2 < D := by omega
        have V3 := HV2.out.up hR.below
        have lst0 := hlst.below hR.below
        have l3 : W3.cell? ⟨w2.heap.size, 0, none⟩ = some (.slice a2 (fromF L a.c.from_).length cc2) := lst0.cell (i := 0) rfl
        have m3 : W3.cell? ⟨w.heap.size + 1, 0, none⟩ = some (.int .i64 many) := V3.m.cell (i := 0) rfl
        have d73 := V3.c.cell (i := 7) (v := .int .u64 a.at_) rfl
        have hI3 := HI2.out.up hR.below
        have hmk0 : ∀ D2 ∈ D :: Ds, W3.heap[D2]? = some (.deferred (some [])) := fun D2 hD2 => by
          rcases List.mem_cons.1 hD2 with rfl | hD2
          · exact hKD
          · exact (hI3.marks D2 hD2).1
        have hnd : (D :: Ds).Nodup := List.nodup_cons.2 ⟨fun hD2 => by have := HI2.out.lt D hD2; omega, hI3.nodup⟩
        have hlow : ∀ D2 ∈ D :: Ds, w.heap.size ≤ D2 := fun D2 hD2 => by
          rcases List.mem_cons.1 hD2 with rfl | hD2
          · omega
          · have := (hI3.marks D2 hD2).2; omega
        clear hI3
        obtain ⟨NX, hNX⟩ : ∃ NX, nextF L a.at_ = NX := ⟨_, rfl⟩
        have cnt0 : RowAt W3 (w2.heap.size + 1) #[.int .i64 ((k : Int) + 1)] 3 := hz2 ▸ hR.cnt
        have hmk2 : many ≤ (k : Int) + 1 := by simpa using hmk'
        have hk0' : k = 0 ∨ (k : Int) < many := by rcases hk0 with h | h; exact .inl (by omega); exact .inr (by simp at h; omega)
        clear hR hKD hmk' hk0 hz2 hC6 hF6 hu2 hlst
        generalize (fromF L a.c.from_).length = A at *
        have hkA : ((k : Int) + 1) ≤ (A : Nat) := by omega
        clear hk
        by_cases h1m : 1 < many
        · obtain rfl : many = (k : Int) + 1 := by omega
          clear hmk2 hk0'
          by_cases hAA : (k : Int) + 1 < (A : Int)
          · have hAA2 : ¬ (A : Int) ≤ (k : Int) + 1 := by omega
            go_wp2_with (first
              | (go_at_call 27; refine (pNext_c a.at_ _ V3.plan).mono ?_; rw [hNX]; rintro en w7 ⟨rfl, hb7⟩; have V6 := V3.up hb7; have d76 := V6.c.cell (i := 7) (v := .int .u64 a.at_) rfl; have p6 := V6.p.cell (i := 0) (v := .slice au L.length cu) rfl)
              | (go_at_call 53; refine (rNext_c L _ L.length a.at_ _ V6.want hL).mono ?_; rw [hNX]; rintro en w8 ⟨rfl, hb8⟩; have V7 := V6.up hb8; have cnt3 := (cnt0.below hb7).below hb8; have lst3 := (lst0.below hb7).below hb8))
            have hmk3 := fun D2 hD2 => (hb8.block D2 (Array.getElem?_eq_some_iff.1 ((hb7.block D2 (Array.getElem?_eq_some_iff.1 (hmk0 D2 hD2)).1).trans (hmk0 D2 hD2))).1).trans ((hb7.block D2 (Array.getElem?_eq_some_iff.1 (hmk0 D2 hD2)).1).trans (hmk0 D2 hD2))
            have cn := cnt3.cell (i := 0) (v := .int .i64 _) rfl
            have cl := lst3.cell (i := 0) (v := .slice a2 _ cc2) rfl
            have cm := V7.m.cell (i := 0) (v := .int .i64 _) rfl
            have cw := V7.p.cell (i := 0) (v := .slice au L.length cu) rfl
            have rf := V7.r.fz 0
            have rc := V7.r.cell (i := 0) (v := .bool false) rfl
            have V9 := V7.up (Below.refl w8.heap.size w8).drew
            refine wp_still_tail 25 (by kernel_rfl) (by kernel_rfl) ?_
            simp only [List.take_succ_cons, List.take_zero, List.drop_succ_cons, List.drop_zero]
            still_step
            still_step
            still_step
            still_step
            still_step
            still_step
            still_step
            still_step
            still_step
            still_step
            still_step
            still_step
            still_step
            still_step
            still_step
            still_step
            still_step
            still_step
            still_step
            still_call ((pLen_c _ V9.plan).mono fun e w'' h => ⟨h.1, h.2.symm⟩)
            still_step
            still_step
            still_step
            still_step
            still_step
            refine wpStill_nil ?_
            have hx4 := V7.r.set 0 (.bool true)
            go_wp2
            refine leaves_marks (D :: Ds) _ hnd (fun D2 hD2 => ?_) (fun w9 hb9 => ?_)
            · have hm := hmk3 D2 hD2
              have hne : D2 ≠ w.heap.size + 1 + 1 + 1 := fun e => by have h1 := V7.r; rw [← e] at h1; unfold RowAt at h1; rw [hm] at h1; cases h1
              exact (Below.heap_setCell w8 ⟨w.heap.size + 1 + 1 + 1, 0, none⟩ (.bool true) D2 (by simpa using hne)).trans hm
            · have hne : w.heap.size + 1 + 1 + 1 ∉ D :: Ds := fun hD2 => by have hm := hmk3 _ hD2; have h1 := V7.r; unfold RowAt at h1; rw [hm] at h1; cases h1
              have hx5 : RowAt w9 (w.heap.size + 1 + 1 + 1) #[.bool true] 4 := (hb9.same _ hx4.lt hne).trans hx4
              have hx5c := hx5.cell (i := 0) (v := .bool true) rfl
              refine ⟨.bool true, by simp [results, Try.results20, go_sem, hx5c], rfl, ?_⟩
              have hB3 := (V7.below.setCell (show w.heap.size ≤ (⟨w.heap.size + 1 + 1 + 1, 0, none⟩ : Addr).block by simp; omega) (.bool true)).drew
              exact hB3.trans (hb9.below (fun D2 hD2 => hlow D2 hD2) hB3.size)
          · obtain rfl : A = k + 1 := by omega
            have hAA2 : ¬ (k : Int) + 1 < ((k + 1 : Nat) : Int) := by omega
            go_wp2_with (first
              | (go_at_call 27; refine (pNext_c a.at_ _ V3.plan).mono ?_; rw [hNX]; rintro en w7 ⟨rfl, hb7⟩; have V6 := V3.up hb7; have d76 := V6.c.cell (i := 7) (v := .int .u64 a.at_) rfl; have p6 := V6.p.cell (i := 0) (v := .slice au L.length cu) rfl)
              | (go_at_call 53; refine (rNext_c L _ L.length a.at_ _ V6.want hL).mono ?_; rw [hNX]; rintro en w8 ⟨rfl, hb8⟩; have V7 := V6.up hb8; have cnt3 := (cnt0.below hb7).below hb8; have lst3 := (lst0.below hb7).below hb8))
            have hmk3 := fun D2 hD2 => (hb8.block D2 (Array.getElem?_eq_some_iff.1 ((hb7.block D2 (Array.getElem?_eq_some_iff.1 (hmk0 D2 hD2)).1).trans (hmk0 D2 hD2))).1).trans ((hb7.block D2 (Array.getElem?_eq_some_iff.1 (hmk0 D2 hD2)).1).trans (hmk0 D2 hD2))
            have cn := cnt3.cell (i := 0) (v := .int .i64 _) rfl
            have cl := lst3.cell (i := 0) (v := .slice a2 _ cc2) rfl
            have cm := V7.m.cell (i := 0) (v := .int .i64 _) rfl
            have cw := V7.p.cell (i := 0) (v := .slice au L.length cu) rfl
            have rf := V7.r.fz 0
            have rc := V7.r.cell (i := 0) (v := .bool false) rfl
            have V9 := V7.up (Below.refl w8.heap.size w8).drew
            refine wp_still_tail 25 (by kernel_rfl) (by kernel_rfl) ?_
            simp only [List.take_succ_cons, List.take_zero, List.drop_succ_cons, List.drop_zero]
            still_step
            still_step
            still_step
            still_step
            still_step
            still_step
            still_step
            still_step
            still_step
            still_step
            still_step
            still_step
            still_step
            still_step
            still_step
            still_step
            still_step
            still_step
            still_step
            still_call ((pLen_c _ V9.plan).mono fun e w'' h => ⟨h.1, h.2.symm⟩)
            still_step
            still_step
            still_step
            still_step
            still_step
            refine wpStill_nil ?_
            have hx4 := V7.r.set 0 (.bool true)
            go_wp2
            refine leaves_marks (D :: Ds) _ hnd (fun D2 hD2 => ?_) (fun w9 hb9 => ?_)
            · have hm := hmk3 D2 hD2
              have hne : D2 ≠ w.heap.size + 1 + 1 + 1 := fun e => by have h1 := V7.r; rw [← e] at h1; unfold RowAt at h1; rw [hm] at h1; cases h1
              exact (Below.heap_setCell w8 ⟨w.heap.size + 1 + 1 + 1, 0, none⟩ (.bool true) D2 (by simpa using hne)).trans hm
            · have hne : w.heap.size + 1 + 1 + 1 ∉ D :: Ds := fun hD2 => by have hm := hmk3 _ hD2; have h1 := V7.r; unfold RowAt at h1; rw [hm] at h1; cases h1
              have hx5 : RowAt w9 (w.heap.size + 1 + 1 + 1) #[.bool true] 4 := (hb9.same _ hx4.lt hne).trans hx4
              have hx5c := hx5.cell (i := 0) (v := .bool true) rfl
              refine ⟨.bool true, by simp [results, Try.results20, go_sem, hx5c], rfl, ?_⟩
              have hB3 := (V7.below.setCell (show w.heap.size ≤ (⟨w.heap.size + 1 + 1 + 1, 0, none⟩ : Addr).block by simp; omega) (.bool true)).drew
              exact hB3.trans (hb9.below (fun D2 hD2 => hlow D2 hD2) hB3.size)
        · obtain rfl : k = 0 := by omega
          have hm1 : many ≤ 1 := by omega
          have hmx : (if (1 : Int) < many then many else 1) = 1 := if_neg h1m
          clear hmk2 hk0'
          by_cases hAA : (1 : Int) < (A : Int)
          · have hAA2 : ¬ (A : Int) ≤ 1 := by omega
            go_wp2_with (first
              | (go_at_call 27; refine (pNext_c a.at_ _ V3.plan).mono ?_; rw [hNX]; rintro en w7 ⟨rfl, hb7⟩; have V6 := V3.up hb7; have d76 := V6.c.cell (i := 7) (v := .int .u64 a.at_) rfl; have p6 := V6.p.cell (i := 0) (v := .slice au L.length cu) rfl)
              | (go_at_call 53; refine (rNext_c L _ L.length a.at_ _ V6.want hL).mono ?_; rw [hNX]; rintro en w8 ⟨rfl, hb8⟩; have V7 := V6.up hb8; have cnt3 := (cnt0.below hb7).below hb8; have lst3 := (lst0.below hb7).below hb8))
            have hmk3 := fun D2 hD2 => (hb8.block D2 (Array.getElem?_eq_some_iff.1 ((hb7.block D2 (Array.getElem?_eq_some_iff.1 (hmk0 D2 hD2)).1).trans (hmk0 D2 hD2))).1).trans ((hb7.block D2 (Array.getElem?_eq_some_iff.1 (hmk0 D2 hD2)).1).trans (hmk0 D2 hD2))
            have cn := cnt3.cell (i := 0) (v := .int .i64 _) rfl
            have cl := lst3.cell (i := 0) (v := .slice a2 _ cc2) rfl
            have cm := V7.m.cell (i := 0) (v := .int .i64 _) rfl
            have cw := V7.p.cell (i := 0) (v := .slice au L.length cu) rfl
            have rf := V7.r.fz 0
            have rc := V7.r.cell (i := 0) (v := .bool false) rfl
            have V9 := V7.up (Below.refl w8.heap.size w8).drew
            refine wp_still_tail 25 (by kernel_rfl) (by kernel_rfl) ?_
            simp only [List.take_succ_cons, List.take_zero, List.drop_succ_cons, List.drop_zero]
            still_step
            still_step
            still_step
            still_step
            still_step
            still_step
            still_step
            still_step
            still_step
            still_step
            still_step
            still_step
            still_step
            still_step
            still_step
            still_step
            still_step
            still_step
            still_step
            still_call ((pLen_c _ V9.plan).mono fun e w'' h => ⟨h.1, h.2.symm⟩)
            still_step
            still_step
            still_step
            still_step
            still_step
            refine wpStill_nil ?_
            have hx4 := V7.r.set 0 (.bool true)
            go_wp2
            refine leaves_marks (D :: Ds) _ hnd (fun D2 hD2 => ?_) (fun w9 hb9 => ?_)
            · have hm := hmk3 D2 hD2
              have hne : D2 ≠ w.heap.size + 1 + 1 + 1 := fun e => by have h1 := V7.r; rw [← e] at h1; unfold RowAt at h1; rw [hm] at h1; cases h1
              exact (Below.heap_setCell w8 ⟨w.heap.size + 1 + 1 + 1, 0, none⟩ (.bool true) D2 (by simpa using hne)).trans hm
            · have hne : w.heap.size + 1 + 1 + 1 ∉ D :: Ds := fun hD2 => by have hm := hmk3 _ hD2; have h1 := V7.r; unfold RowAt at h1; rw [hm] at h1; cases h1
              have hx5 : RowAt w9 (w.heap.size + 1 + 1 + 1) #[.bool true] 4 := (hb9.same _ hx4.lt hne).trans hx4
              have hx5c := hx5.cell (i := 0) (v := .bool true) rfl
              refine ⟨.bool true, by simp [results, Try.results20, go_sem, hx5c], rfl, ?_⟩
              have hB3 := (V7.below.setCell (show w.heap.size ≤ (⟨w.heap.size + 1 + 1 + 1, 0, none⟩ : Addr).block by simp; omega) (.bool true)).drew
              exact hB3.trans (hb9.below (fun D2 hD2 => hlow D2 hD2) hB3.size)
          · obtain rfl : A = 1 := by omega
            go_wp2_with (first
              | (go_at_call 27; refine (pNext_c a.at_ _ V3.plan).mono ?_; rw [hNX]; rintro en w7 ⟨rfl, hb7⟩; have V6 := V3.up hb7; have d76 := V6.c.cell (i := 7) (v := .int .u64 a.at_) rfl; have p6 := V6.p.cell (i := 0) (v := .slice au L.length cu) rfl)
              | (go_at_call 53; refine (rNext_c L _ L.length a.at_ _ V6.want hL).mono ?_; rw [hNX]; rintro en w8 ⟨rfl, hb8⟩; have V7 := V6.up hb8; have cnt3 := (cnt0.below hb7).below hb8; have lst3 := (lst0.below hb7).below hb8))
            have hmk3 := fun D2 hD2 => (hb8.block D2 (Array.getElem?_eq_some_iff.1 ((hb7.block D2 (Array.getElem?_eq_some_iff.1 (hmk0 D2 hD2)).1).trans (hmk0 D2 hD2))).1).trans ((hb7.block D2 (Array.getElem?_eq_some_iff.1 (hmk0 D2 hD2)).1).trans (hmk0 D2 hD2))
            have cn := cnt3.cell (i := 0) (v := .int .i64 _) rfl
            have cl := lst3.cell (i := 0) (v := .slice a2 _ cc2) rfl
            have cm := V7.m.cell (i := 0) (v := .int .i64 _) rfl
            have cw := V7.p.cell (i := 0) (v := .slice au L.length cu) rfl
            have rf := V7.r.fz 0
            have rc := V7.r.cell (i := 0) (v := .bool false) rfl
            have V9 := V7.up (Below.refl w8.heap.size w8).drew
            refine wp_still_tail 25 (by kernel_rfl) (by kernel_rfl) ?_
            simp only [List.take_succ_cons, List.take_zero, List.drop_succ_cons, List.drop_zero]
            still_step
            still_step
            still_step
            still_step
            still_step
            still_step
            still_step
            still_step
            still_step
            still_step
            still_step
            still_step
            still_step
            still_step
            still_step
            still_step
            still_step
            still_step
            still_step
            still_call ((pLen_c _ V9.plan).mono fun e w'' h => ⟨h.1, h.2.symm⟩)
            still_step
            still_step
            still_step
            still_step
            still_step
            refine wpStill_nil ?_
            have hx4 := V7.r.set 0 (.bool true)
            go_wp2
            refine leaves_marks (D :: Ds) _ hnd (fun D2 hD2 => ?_) (fun w9 hb9 => ?_)
            · have hm := hmk3 D2 hD2
              have hne : D2 ≠ w.heap.size + 1 + 1 + 1 := fun e => by have h1 := V7.r; rw [← e] at h1; unfold RowAt at h1; rw [hm] at h1; cases h1
              exact (Below.heap_setCell w8 ⟨w.heap.size + 1 + 1 + 1, 0, none⟩ (.bool true) D2 (by simpa using hne)).trans hm
            · have hne : w.heap.size + 1 + 1 + 1 ∉ D :: Ds := fun hD2 => by have hm := hmk3 _ hD2; have h1 := V7.r; unfold RowAt at h1; rw [hm] at h1; cases h1
              have hx5 : RowAt w9 (w.heap.size + 1 + 1 + 1) #[.bool true] 4 := (hb9.same _ hx4.lt hne).trans hx4
              have hx5c := hx5.cell (i := 0) (v := .bool true) rfl
              refine ⟨.bool true, by simp [results, Try.results20, go_sem, hx5c], rfl, ?_⟩
              have hB3 := (V7.below.setCell (show w.heap.size ≤ (⟨w.heap.size + 1 + 1 + 1, 0, none⟩ : Addr).block by simp; omega) (.bool true)).drew
              exact hB3.trans (hb9.below (fun D2 hD2 => hlow D2 hD2) hB3.size)
end Go.Proofs.Ytgbpdchdcbnoaaa
