/-
  The contract of uints.
-/
import Derived.Test.YteakpppabgbpeaaMemJ
import Derived.Test.YteakpppabgbpeaaTurn
namespace Go.Proofs.Yteakpppabgbpeaa
open Go.RowKit Mem
set_option linter.unusedSimpArgs false
set_option linter.unusedVariables false
attribute [local go_sem] Oper.semAt_some

/-- What uints has at hand. -/
structure UnW (w w1 : World) (u : Value) (U : List Int) (C : Nat) (v : Value) (many : Int) : Prop where
  below : Below w.heap.size w w1
  p : RowAt w1 w.heap.size #[u] 73
  m : RowAt w1 (w.heap.size + 1) #[.int .i64 many] 3
  r : RowAt w1 (w.heap.size + 1 + 1) #[.bool false] 4
  ov : OvAt w1 C v U.length 1 (U.map (Value.int .u32))
  want : Sl w1 1 u U.length (U.map (Value.int .u32))
theorem UnW.up {w w1 w2 : World} {u : Value} {U : List Int} {C : Nat} {v : Value} {many : Int} (h : UnW w w1 u U C v many) (hb : Below w1.heap.size w1 w2) : UnW w w2 u U C v many :=
  ⟨below_up h.below hb, h.p.below hb, h.m.below hb, h.r.below hb, h.ov.up hb, h.want.up hb⟩
theorem UnW.start {w : World} {u : Value} {U : List Int} {C : Nat} {v : Value} (many : Int) (h : OvAt w C v U.length 1 (U.map (Value.int .u32))) (hu : Sl w 1 u U.length (U.map (Value.int .u32))) : UnW w (((w.alloc (.cells #[u] 73)).alloc (.cells #[.int .i64 many] 3)).alloc (.cells #[.bool false] 4)) u U C v many := by
  have hB : Below w.heap.size w (((w.alloc (.cells #[u] 73)).alloc (.cells #[.int .i64 many] 3)).alloc (.cells #[.bool false] 4)) := ((below_alloc w _).alloc (by simp) _).alloc (by simp; omega) _
  have h2 := RowAt.new (w.alloc (.cells #[u] 73)) #[.int .i64 many] 3
  rw [World.size_alloc] at h2
  have h3 := RowAt.new ((w.alloc (.cells #[u] 73)).alloc (.cells #[.int .i64 many] 3)) #[.bool false] 4
  rw [World.size_alloc, World.size_alloc] at h3
  exact ⟨hB, ((RowAt.new w _ _).below (below_alloc _ _)).below (below_alloc _ _), h2.below (below_alloc _ _), h3, h.up hB, hu.up hB⟩

theorem run_maxR {x y : Int} (h : x < y) : ∀ ts t (w : World), (Builtin.max_ ts t #[.int .i64 x, .int .i64 y]).run Try.prog w = .ok (.int .i64 y) w := fun ts t w => by rw [run_max_int2, if_pos h]
theorem run_maxL {x y : Int} (h : ¬ x < y) : ∀ ts t (w : World), (Builtin.max_ ts t #[.int .i64 x, .int .i64 y]).run Try.prog w = .ok (.int .i64 x) w := fun ts t w => by rw [run_max_int2, if_neg h]
theorem run_minR {x y : Int} (h : y < x) : ∀ ts t (w : World), (Builtin.min_ ts t #[.int .i64 x, .int .i64 y]).run Try.prog w = .ok (.int .i64 y) w := fun ts t w => by rw [run_min_int2, if_pos h]
theorem run_minL {x y : Int} (h : ¬ y < x) : ∀ ts t (w : World), (Builtin.min_ ts t #[.int .i64 x, .int .i64 y]).run Try.prog w = .ok (.int .i64 x) w := fun ts t w => by rw [run_min_int2, if_neg h]

set_option maxHeartbeats 8000000 in
set_option maxRecDepth 100000 in
theorem uints_c {C : Nat} {v u : Value} {U : List Int} (many : Int) (w : World) (h : OvAt w C v U.length 1 (U.map (Value.int .u32))) (hu : Sl w 1 u U.length (U.map (Value.int .u32))) (hL : U.length ≤ 100000) :
    Calls Try.prog 40 #[.func (.func 54) #[] #[.pointer (some ⟨C, 0, none⟩)], u, .int .i64 many] w (Ret (.bool true) w) := by
  obtain ⟨au, cu, rfl⟩ := hu.len
  have V4 := UnW.start many h hu
  have hCl := World.block_lt_of_cell? w _ h.var
  have hbl := h.sl.blk (by decide)
  refine (callsIn_wide (n := 3)).1 ?_
  refine callsIn_of_wp_marks Try.func40 rfl trivial ?_ rfl
  simp only [Try.ntmps40, List.size_toArray, List.length_cons, List.length_nil, Nat.reduceAdd, Nat.reduceSub, Array.replicate_succ, Array.replicate_zero, List.push_toArray, List.append_toArray, List.nil_append, List.cons_append]
  have he : ∀ (f : FuncId) (caps : Array Value) (w : World), (binOp BinOp.eql 49 (.func (.func f) #[] caps) .nilFunc).run Try.prog w = .ok (.bool false) w := fun _ _ _ => by kernel_rfl
  refine wpIn_wide.2 ?_
  go_wp2
  obtain ⟨wr, hwr⟩ : ∃ wr, (((w.alloc (.cells #[.slice au U.length cu] 73)).alloc (.cells #[.int .i64 many] 3)).alloc (.cells #[.bool false] 4)) = wr := ⟨_, rfl⟩
  simp only [hwr] at V4 ⊢
  have hsz : wr.heap.size = w.heap.size + 1 + 1 + 1 := by rw [← hwr]; simp
  have HV := Lib.hid V4
  clear V4 hwr h hu
  refine wp_loop_ghost_k (fun m a' W => ∃ (tn T : Nat) (Ds : List Nat), tn ≤ 2 ∧ m = 2 - tn ∧ a' = { tmps := #[.func (.func 54) #[] #[.pointer (some ⟨C, 0, none⟩)], .slice au U.length cu, .int .i64 many, a'.tmps.getD 3 undef, .pointer (some ⟨w.heap.size, 0, none⟩), .pointer (some ⟨w.heap.size + 1, 0, none⟩), .pointer (some ⟨w.heap.size + 1 + 1, 0, none⟩), .pointer (some ⟨T, 0, none⟩), a'.tmps.getD 8 undef, a'.tmps.getD 9 undef, a'.tmps.getD 10 undef, a'.tmps.getD 11 undef, a'.tmps.getD 12 undef, a'.tmps.getD 13 undef, a'.tmps.getD 14 undef, a'.tmps.getD 15 undef, a'.tmps.getD 16 undef, a'.tmps.getD 17 undef, a'.tmps.getD 18 undef, a'.tmps.getD 19 undef, a'.tmps.getD 20 undef, a'.tmps.getD 21 undef, a'.tmps.getD 22 undef, a'.tmps.getD 23 undef, a'.tmps.getD 24 undef, a'.tmps.getD 25 undef, a'.tmps.getD 26 undef, a'.tmps.getD 27 undef, a'.tmps.getD 28 undef, a'.tmps.getD 29 undef, a'.tmps.getD 30 undef, a'.tmps.getD 31 undef, a'.tmps.getD 32 undef, a'.tmps.getD 33 undef, a'.tmps.getD 34 undef, a'.tmps.getD 35 undef, a'.tmps.getD 36 undef, a'.tmps.getD 37 undef, a'.tmps.getD 38 undef, a'.tmps.getD 39 undef, a'.tmps.getD 40 undef, a'.tmps.getD 41 undef, a'.tmps.getD 42 undef, a'.tmps.getD 43 undef, a'.tmps.getD 44 undef, a'.tmps.getD 45 undef, a'.tmps.getD 46 undef, a'.tmps.getD 47 undef, a'.tmps.getD 48 undef, a'.tmps.getD 49 undef, a'.tmps.getD 50 undef, a'.tmps.getD 51 undef, a'.tmps.getD 52 undef, a'.tmps.getD 53 undef, a'.tmps.getD 54 undef, a'.tmps.getD 55 undef, a'.tmps.getD 56 undef, a'.tmps.getD 57 undef, a'.tmps.getD 58 undef, a'.tmps.getD 59 undef, a'.tmps.getD 60 undef], defers := Ds.map markD } ∧ TuI wr T tn Ds W) 2 ?start ?round
  case start =>
    exact ⟨0, wr.heap.size, [], by omega, rfl, by rw [hsz]; rfl, TuI.start wr⟩
  case round =>
    intro m a' W hinv J K hJ hK
    obtain ⟨tn, T, Ds, htn, hm, ha, hI⟩ := hinv
    obtain ⟨u, hu⟩ : ∃ u : Nat → Value, ∀ i, a'.tmps.getD i undef = u i := ⟨_, fun _ => rfl⟩
    simp only [hu] at ha
    clear hu
    subst ha hm
    have HJ := Lib.hid hJ
    clear hJ
    have HW := Lib.hid (HV.out.up hI.below)
    have HI := Lib.hid hI
    have hT := hI.turn.cell (i := 0) rfl
    have fT := hI.turn.fz 0
    have hTl := hI.turn.lt
    have hT0 := hI.low
    have hWs := hI.below.size
    clear hI
    rcases (show tn = 0 ∨ tn = 1 ∨ tn = 2 by omega) with rfl | rfl | rfl
    · replace hT : W.cell? ⟨T, 0, none⟩ = some (.int .i64 0) := hT
      replace HI := Lib.hid (show TuI wr T 0 Ds W from HI.out)
      go_wp2
      have hbA := below_alloc W (.cells #[.int .i64 0] 3)
      have hA2 := HW.out.ov.up hbA
      refine wpIn_wide.1 (wp_range (n := 3) (S := fun q => q = C ∨ (0 < U.length ∧ v.ownBlock = some q)) (gf := 54) (lb := #[.pointer (some ⟨C, 0, none⟩)]) rfl enters_overU
        (overU_x U C U.length v _ _ hA2 ⟨.inl rfl, (Nat.eq_zero_or_pos U.length).elim .inl fun h => .inr fun k hk => .inr ⟨h, hk⟩⟩) (Below.refl _ _) (fun _ => rfl)
        (fun q => q = W.heap.size) (fun k h => by simp only [World.size_alloc]; omega) ?hS
        (fun k G W3 => CtR W k G W3 ∧ (k = 0 ∨ (k : Int) < many))
        (fun k a' G W3 => a' = { tmps := #[.func (.func 54) #[] #[.pointer (some ⟨C, 0, none⟩)], .slice au U.length cu, .int .i64 many, u 3, .pointer (some ⟨w.heap.size, 0, none⟩), .pointer (some ⟨w.heap.size + 1, 0, none⟩), .pointer (some ⟨w.heap.size + 1 + 1, 0, none⟩), .pointer (some ⟨T, 0, none⟩), .pointer (some ⟨W.heap.size, 0, none⟩), .int .u32 (uAt U k), .int .i64 0, .bool true, u 12, u 13, .func (.func 54) #[] #[.pointer (some ⟨C, 0, none⟩)], .bool false, .func (.func 54) #[] #[.pointer (some ⟨C, 0, none⟩)], .int .u32 (uAt U k), u 18, u 19, u 20, u 21, u 22, u 23, u 24, u 25, u 26, u 27, u 28, u 29, u 30, u 31, u 32, u 33, u 34, u 35, u 36, u 37, u 38, u 39, u 40, u 41, u 42, u 43, u 44, u 45, u 46, u 47, u 48, u 49, u 50, u 51, u 52, u 53, u 54, u 55, u 56, u 57, u 58, u 59, u 60], defers := [] } ∧ CtR W k G W3 ∧ (k = 0 ∨ (k : Int) < many))
        (fun c k G W3 => c = .exit 2 ∧ CtR W k G W3 ∧ many ≤ k ∧ (k = 1 ∨ (k : Int) - 1 < many))
        ?abI ?abM ?abX ?h0 ?assign ?body ?done ?stop)
      case hS =>
        rintro q (rfl | ⟨hp, hq⟩)
        · exact ⟨by simp only [World.size_alloc]; omega, by omega⟩
        · rcases hbl with h | h
          · omega
          · have := h q hq; exact ⟨by simp only [World.size_alloc]; omega, by omega⟩
      case abI => exact fun k G A B h hb => ⟨CtR.abide (by simp only [World.size_alloc]; omega) G A B h.1 hb, h.2⟩
      case abM => exact fun k a' G A B h hb => ⟨h.1, ⟨CtR.abide (by simp only [World.size_alloc]; omega) G A B h.2.1 hb, h.2.2⟩⟩
      case abX => exact fun c k G A B h hb => ⟨h.1, CtR.abide (by simp only [World.size_alloc]; omega) G A B h.2.1 hb, h.2.2⟩
      case h0 => exact ⟨CtR.start W, .inl rfl⟩
      case assign =>
        intro l2 k G W3 K3 hk hi hK3
        gi_wp2
        exact hK3 _ _ (But.refl _ _) (by rw [newG_same rfl]; exact ⟨rfl, hi⟩)
      case body =>
        rintro l2 k a' G W3 hk hl2 _ hGl ⟨rfl, hi⟩
        have hR := hi.1
        have V3 := HW.out.up hR.below
        obtain ⟨b, off, rfl, hr⟩ := V3.want.cellAt (k := k) (by omega) (by omega)
        have hcj : (U.map (Value.int .u32))[k]? = some (.int .u32 (uAt U k)) := by rw [uAt_get hk]; simp [hk]
        rw [hcj] at hr
        have Hstep := Lib.hid hR.stepQ
        have hle2 : ¬ U.length ≤ k := by omega
        have hk2 : (k : Int) ≤ 100000 := by omega
        have hkl : (k : Int) < (U.length : Int) := by omega
        have hkl2 : ¬ (U.length : Int) ≤ (k : Int) := by omega
        generalize uAt U k = e at *
        have p3 : W3.cell? ⟨w.heap.size, 0, none⟩ = some (.slice (some ⟨b, off, none⟩) U.length cu) := V3.p.cell (i := 0) rfl
        have m3 : W3.cell? ⟨w.heap.size + 1, 0, none⟩ = some (.int .i64 many) := V3.m.cell (i := 0) rfl
        have t3 : W3.cell? ⟨T, 0, none⟩ = some (.int .i64 0) := (HI.out.up hR.below).turn.cell (i := 0) rfl
        have a1 : W3.cell? ⟨W.heap.size, 0, none⟩ = some (.int .i64 k) := hR.cnt.cell (i := 0) rfl
        have f1 := hR.cnt.fz 0
        have hTK : ¬ T = W.heap.size := by omega
        have hKT : ¬ W.heap.size = T := by omega
        have hw5 : ¬ w.heap.size + 1 = W.heap.size := by omega
        have hw6 : ¬ W.heap.size = w.heap.size + 1 := by omega
        clear hR V3 hcj
        by_cases hm : many ≤ (k : Int) + 1
        · gi_wp2
          exact ⟨Hstep.out.1, rfl, Hstep.out.2, by simpa using hm, by rcases hi.2 with h | h; exact .inl (by omega); exact .inr (by simp; omega)⟩
        · gi_wp2
          exact ⟨Hstep.out.1, Hstep.out.2, .inr (by simp; omega)⟩
      case done =>
        rintro D G W3 hD hGD hi hKD
        have hR := hi.1
        have V3 := HW.out.up hR.below
        have p3 : W3.cell? ⟨w.heap.size, 0, none⟩ = some (.slice au U.length cu) := V3.p.cell (i := 0) rfl
        have m3 : W3.cell? ⟨w.heap.size + 1, 0, none⟩ = some (.int .i64 many) := V3.m.cell (i := 0) rfl
        have t3 : W3.cell? ⟨T, 0, none⟩ = some (.int .i64 0) := (HI.out.up hR.below).turn.cell (i := 0) rfl
        have HN := Lib.hid (fun v => HI.out.next hR.below hKD (by simp only [World.size_alloc] at hD; omega) v)
        clear V3
        have a1 : W3.cell? ⟨W.heap.size, 0, none⟩ = some (.int .i64 (U.length : Nat)) := hR.cnt.cell (i := 0) rfl
        clear hR hKD
        have hA0 := hi.2
        clear hi
        generalize U.length = A at *
        by_cases h1m : 1 < many
        · have hmx := run_maxR h1m
          have hmn := run_minL (show ¬ many < (A : Int) by omega)
          clear hA0 h1m hL
          go_wp2
          refine Handed.intro 1 (by omega) (HJ.out _ _ _ ?_)
          exact ⟨1, W3.heap.size, D :: Ds, by omega, rfl, rfl, HN.out 1⟩
        · have hmx := run_maxL h1m
          have hmn := run_minL (show ¬ (1 : Int) < (A : Int) by omega)
          clear hA0 h1m hL
          go_wp2
          refine Handed.intro 1 (by omega) (HJ.out _ _ _ ?_)
          exact ⟨1, W3.heap.size, D :: Ds, by omega, rfl, rfl, HN.out 1⟩
      case stop =>
        rintro D c k G W3 hD hGD hk ⟨rfl, hR, hmk, hk0⟩ hKD
        refine wpIn_wide.2 ?_
        have V3 := HW.out.up hR.below
        have p3 : W3.cell? ⟨w.heap.size, 0, none⟩ = some (.slice au U.length cu) := V3.p.cell (i := 0) rfl
        have m3 : W3.cell? ⟨w.heap.size + 1, 0, none⟩ = some (.int .i64 many) := V3.m.cell (i := 0) rfl
        have t3 : W3.cell? ⟨T, 0, none⟩ = some (.int .i64 0) := (HI.out.up hR.below).turn.cell (i := 0) rfl
        have HN := Lib.hid (fun v => HI.out.next hR.below hKD (by simp only [World.size_alloc] at hD; omega) v)
        clear V3
        have a1 : W3.cell? ⟨W.heap.size, 0, none⟩ = some (.int .i64 ((k : Int) + 1)) := hR.cnt.cell (i := 0) rfl
        have hmk' : many ≤ (k : Int) + 1 := by simpa using hmk
        have hk0' : k = 0 ∨ (k : Int) < many := by rcases hk0 with h | h; exact .inl (by omega); exact .inr (by simp at h; omega)
        have hkA : ((k : Int) + 1) ≤ (U.length : Nat) := by omega
        clear hR hKD hmk hk0
        generalize U.length = A at *
        clear hk
        by_cases h1m : 1 < many
        · obtain rfl : many = (k : Int) + 1 := by omega
          clear hmk' hk0'
          have hmx := run_maxR h1m
          by_cases hAA : (k : Int) + 1 < (A : Int)
          · have hmn := run_minR hAA
            clear h1m hAA hkA hL
            go_wp2
            refine Handed.intro 1 (by omega) (HJ.out _ _ _ ?_)
            exact ⟨1, W3.heap.size, D :: Ds, by omega, rfl, rfl, HN.out 1⟩
          · obtain rfl : A = k + 1 := by omega
            have hmn := run_minL (show ¬ (k : Int) + 1 < (k : Int) + 1 by omega)
            clear h1m hAA hkA hL
            go_wp2
            refine Handed.intro 1 (by omega) (HJ.out _ _ _ ?_)
            exact ⟨1, W3.heap.size, D :: Ds, by omega, rfl, rfl, HN.out 1⟩
        · obtain rfl : k = 0 := by omega
          have hm1 : many ≤ 1 := by omega
          clear hmk' hk0'
          have hmx := run_maxL h1m
          by_cases hAA : (1 : Int) < (A : Int)
          · have hmn := run_minR hAA
            clear h1m hAA hkA hm1 hL
            go_wp2
            refine Handed.intro 1 (by omega) (HJ.out _ _ _ ?_)
            exact ⟨1, W3.heap.size, D :: Ds, by omega, rfl, rfl, HN.out 1⟩
          · obtain rfl : A = 1 := by omega
            have hmn := run_minL (show ¬ (1 : Int) < (1 : Int) by omega)
            clear h1m hAA hkA hm1 hL
            go_wp2
            refine Handed.intro 1 (by omega) (HJ.out _ _ _ ?_)
            exact ⟨1, W3.heap.size, D :: Ds, by omega, rfl, rfl, HN.out 1⟩
    · replace hT : W.cell? ⟨T, 0, none⟩ = some (.int .i64 1) := hT
      replace HI := Lib.hid (show TuI wr T 1 Ds W from HI.out)
      go_wp2
      have hbA := below_alloc W (.cells #[.int .i64 0] 3)
      have hA2 := HW.out.ov.up hbA
      refine wpIn_wide.1 (wp_range (n := 3) (S := fun q => q = C ∨ (0 < U.length ∧ v.ownBlock = some q)) (gf := 54) (lb := #[.pointer (some ⟨C, 0, none⟩)]) rfl enters_overU
        (overU_x U C U.length v _ _ hA2 ⟨.inl rfl, (Nat.eq_zero_or_pos U.length).elim .inl fun h => .inr fun k hk => .inr ⟨h, hk⟩⟩) (Below.refl _ _) (fun _ => rfl)
        (fun q => q = W.heap.size) (fun k h => by simp only [World.size_alloc]; omega) ?hS
        (fun k G W3 => CtR W k G W3)
        (fun k a' G W3 => a' = { tmps := #[.func (.func 54) #[] #[.pointer (some ⟨C, 0, none⟩)], .slice au U.length cu, .int .i64 many, u 3, .pointer (some ⟨w.heap.size, 0, none⟩), .pointer (some ⟨w.heap.size + 1, 0, none⟩), .pointer (some ⟨w.heap.size + 1 + 1, 0, none⟩), .pointer (some ⟨T, 0, none⟩), .pointer (some ⟨W.heap.size, 0, none⟩), .int .u32 (uAt U k), .int .i64 1, .bool true, u 12, u 13, .func (.func 54) #[] #[.pointer (some ⟨C, 0, none⟩)], .bool false, .func (.func 54) #[] #[.pointer (some ⟨C, 0, none⟩)], .int .u32 (uAt U k), u 18, u 19, u 20, u 21, u 22, u 23, u 24, u 25, u 26, u 27, u 28, u 29, u 30, u 31, u 32, u 33, u 34, u 35, u 36, u 37, u 38, u 39, u 40, u 41, u 42, u 43, u 44, u 45, u 46, u 47, u 48, u 49, u 50, u 51, u 52, u 53, u 54, u 55, u 56, u 57, u 58, u 59, u 60], defers := [] } ∧ CtR W k G W3)
        (fun c k G W3 => False)
        ?abI ?abM ?abX ?h0 ?assign ?body ?done ?stop)
      case hS =>
        rintro q (rfl | ⟨hp, hq⟩)
        · exact ⟨by simp only [World.size_alloc]; omega, by omega⟩
        · rcases hbl with h | h
          · omega
          · have := h q hq; exact ⟨by simp only [World.size_alloc]; omega, by omega⟩
      case abI => exact fun k G A B h hb => CtR.abide (by simp only [World.size_alloc]; omega) G A B h hb
      case abM => exact fun k a' G A B h hb => ⟨h.1, CtR.abide (by simp only [World.size_alloc]; omega) G A B h.2 hb⟩
      case abX => exact fun c k G A B h hb => h.elim
      case h0 => exact CtR.start W
      case assign =>
        intro l2 k G W3 K3 hk hi hK3
        gi_wp2
        exact hK3 _ _ (But.refl _ _) (by rw [newG_same rfl]; exact ⟨rfl, hi⟩)
      case body =>
        rintro l2 k a' G W3 hk hl2 _ hGl ⟨rfl, hi⟩
        have hR := hi
        have V3 := HW.out.up hR.below
        obtain ⟨b, off, rfl, hr⟩ := V3.want.cellAt (k := k) (by omega) (by omega)
        have hcj : (U.map (Value.int .u32))[k]? = some (.int .u32 (uAt U k)) := by rw [uAt_get hk]; simp [hk]
        rw [hcj] at hr
        have Hstep := Lib.hid hR.stepQ
        have hle2 : ¬ U.length ≤ k := by omega
        have hk2 : (k : Int) ≤ 100000 := by omega
        have hkl : (k : Int) < (U.length : Int) := by omega
        have hkl2 : ¬ (U.length : Int) ≤ (k : Int) := by omega
        generalize uAt U k = e at *
        have p3 : W3.cell? ⟨w.heap.size, 0, none⟩ = some (.slice (some ⟨b, off, none⟩) U.length cu) := V3.p.cell (i := 0) rfl
        have m3 : W3.cell? ⟨w.heap.size + 1, 0, none⟩ = some (.int .i64 many) := V3.m.cell (i := 0) rfl
        have t3 : W3.cell? ⟨T, 0, none⟩ = some (.int .i64 1) := (HI.out.up hR.below).turn.cell (i := 0) rfl
        have a1 : W3.cell? ⟨W.heap.size, 0, none⟩ = some (.int .i64 k) := hR.cnt.cell (i := 0) rfl
        have f1 := hR.cnt.fz 0
        have hTK : ¬ T = W.heap.size := by omega
        have hKT : ¬ W.heap.size = T := by omega
        have hw5 : ¬ w.heap.size + 1 = W.heap.size := by omega
        have hw6 : ¬ W.heap.size = w.heap.size + 1 := by omega
        clear hR V3 hcj
        gi_wp2
        exact ⟨Hstep.out.1, Hstep.out.2⟩
      case done =>
        rintro D G W3 hD hGD hi hKD
        have hR := hi
        have V3 := HW.out.up hR.below
        have p3 : W3.cell? ⟨w.heap.size, 0, none⟩ = some (.slice au U.length cu) := V3.p.cell (i := 0) rfl
        have m3 : W3.cell? ⟨w.heap.size + 1, 0, none⟩ = some (.int .i64 many) := V3.m.cell (i := 0) rfl
        have t3 : W3.cell? ⟨T, 0, none⟩ = some (.int .i64 1) := (HI.out.up hR.below).turn.cell (i := 0) rfl
        have HN := Lib.hid (fun v => HI.out.next hR.below hKD (by simp only [World.size_alloc] at hD; omega) v)
        clear V3
        have a1 : W3.cell? ⟨W.heap.size, 0, none⟩ = some (.int .i64 (U.length : Nat)) := hR.cnt.cell (i := 0) rfl
        clear hR hKD
        go_wp2
        refine Handed.intro 0 (by omega) (HJ.out _ _ _ ?_)
        exact ⟨2, W3.heap.size, D :: Ds, by omega, rfl, rfl, HN.out 2⟩
      case stop =>
        intro D c k G W3 hD hGD hk hi hKD
        exact hi.elim
    · replace hT : W.cell? ⟨T, 0, none⟩ = some (.int .i64 2) := hT
      have V7 := HW.out
      have hmk := fun D2 hD2 => (HI.out.marks D2 hD2)
      have hnd := HI.out.nodup
      have hrl := V7.r.lt
      have rc := V7.r.cell (i := 0) (v := .bool false) rfl
      have rf := V7.r.fz 0
      have hnb : w.heap.size + 1 + 1 ∉ Ds := fun hD2 => by have h1 := (hmk _ hD2).1; have h2 := V7.r; unfold RowAt at h2; rw [h1] at h2; cases h2
      go_wp2
      refine leaves_marks Ds _ hnd (fun D2 hD2 => ?_) (fun w9 hb9 => ?_)
      · have hne : D2 ≠ w.heap.size + 1 + 1 := fun e => hnb (e ▸ hD2)
        exact (Below.heap_setCell W ⟨w.heap.size + 1 + 1, 0, none⟩ (.bool true) D2 (by simpa using hne)).trans (hmk D2 hD2).1
      · have hx4 := V7.r.set 0 (.bool true)
        have hx5 : RowAt w9 (w.heap.size + 1 + 1) #[.bool true] 4 := (hb9.same _ hx4.lt hnb).trans hx4
        have hx5c := hx5.cell (i := 0) (v := .bool true) rfl
        refine ⟨.bool true, by simp [results, Try.results40, go_sem, hx5c], rfl, ?_⟩
        have hB3 := V7.below.setCell (show w.heap.size ≤ (⟨w.heap.size + 1 + 1, 0, none⟩ : Addr).block by simp; omega) (.bool true)
        exact hB3.trans (hb9.below (fun D2 hD2 => by have := (hmk D2 hD2).2; omega) hB3.size)
end Go.Proofs.Yteakpppabgbpeaa
