/-
  ClockSorted: the walk.
-/
import Derived.Test.YtnccbeiaohmnpaaSpanE
import Derived.Test.YtnccbeiaohmnpaaSpanF
import Derived.Test.YtnccbeiaohmnpaaBrk
import Derived.Test.YtnccbeiaohmnpaaTurn
import Derived.Test.YtnccbeiaohmnpaaClockW
namespace Go.Proofs.Ytnccbeiaohmnpaa
open Go.RowKit Srt
set_option linter.unusedSimpArgs false
set_option linter.unusedVariables false
attribute [local go_sem] Oper.semAt_some
theorem sMixes : Try.prog.follows .mixedOrders = true := by kernel_rfl
/-- The law's own first blocks: how many, the result. -/
structure OwS (w wr : World) (many : Int) : Prop where
  below : Below w.heap.size w wr
  num : RowAt wr w.heap.size #[.int .i64 many] 3
  res : RowAt wr (w.heap.size + 1) #[.bool false] 4
theorem OwS.up {w wr w2 : World} {many : Int} (h : OwS w wr many) (hb : Below wr.heap.size wr w2) : OwS w w2 many := ⟨below_up h.below hb, h.num.below hb, h.res.below hb⟩
theorem OwS.start (w : World) (many : Int) : OwS w ((w.alloc (.cells #[.int .i64 many] 3)).alloc (.cells #[.bool false] 4)) many := by
  have h2 := RowAt.new (w.alloc (.cells #[.int .i64 many] 3)) #[.bool false] 4
  rw [World.size_alloc] at h2
  exact ⟨(below_alloc w _).alloc (by simp) _, (RowAt.new w _ _).below (below_alloc _ _), h2⟩
set_option maxHeartbeats 1000000 in
set_option maxRecDepth 100000 in
theorem clockSorted_big (v : Value) (n : Nat) (many : Int) (w : World) (cs : List Value) (hv : Sl w 2 v n cs) (hn : 40 < n) :
    Calls Try.prog 6 #[v, .int .i64 many] w (Ret (.bool true) w) := by
  obtain ⟨a, c, rfl⟩ := hv.len
  have hle : (40 : Int) < (n : Int) := by omega
  have O1 := OwS.start w many
  go_enter Try.func6, Try.ntmps6
  go_wp2_with (go_at_call 15; refine (works_c _).mono ?_; rintro en wx ⟨rfl, hbx⟩; have O2 := O1.up hbx; have hx3c := O2.res.cell (i := 0) rfl; have hx3f := O2.res.fz 0)
  have hx4 := O2.res.set 0 (.bool true)
  have hx5c := RowAt.cell (i := 0) (v := .bool true) hx4 rfl
  exact bodyPost_ret (v := .bool true) (by simp [results, Try.results6, go_sem, hx5c]) rfl ⟨rfl, O2.below.setCell (show w.heap.size ≤ (⟨w.heap.size + 1, 0, none⟩ : Addr).block by simp) (.bool true)⟩
set_option maxRecDepth 100000 in
theorem exec_spneq {ρ : Operand → Value} {o : Oper} {x y : Operand} {t : TypeId} (ho : o.op = .binOp .neq 24 x y t) {e : Int × Int} (hx : ρ x = spV e) (hy : ρ y = spV e) (w : World) :
    (execOp ρ o).run Try.prog w = .ok (.value (.bool false)) w := by
  unfold execOp
  simp only [ho, hx, hy]
  simp [go_sem]
set_option maxHeartbeats 4000000 in
set_option maxRecDepth 100000 in
theorem clockSorted_c (l : List (Int × Int)) (v : Value) (n : Nat) (many : Int) (w : World) (hv : Sl w 2 v n (l.flatMap spC)) (hn : n ≤ 40) :
    Calls Try.prog 6 #[v, .int .i64 many] w (Ret (.bool true) w) := by
  obtain ⟨a, c, rfl⟩ := hv.len
  have hle : ¬ (40 : Int) < (n : Int) := by omega
  have O1 := OwS.start w many
  have hv1 := hv.up O1.below
  have he : ∀ (f : FuncId) (caps : Array Value) (w : World), (binOp BinOp.eql 44 (.func (.func f) #[] caps) .nilFunc).run Try.prog w = .ok (.bool false) w := fun _ _ _ => by kernel_rfl
  have hFl : (l.filter fun x => Clk.rightB x.1 x.2).length ≤ l.length := List.length_filter_le _ _
  have HFL := Lib.hid (And.intro hFl (Sl.recs (cells := spC) (sz := 2) (fun _ => rfl) (by decide) hv))
  clear hFl
  refine (callsIn_wide (n := 3)).1 ?_
  refine callsIn_of_wp_marks Try.func6 rfl trivial ?_ rfl
  simp only [Try.ntmps6, List.size_toArray, List.length_cons, List.length_nil, Nat.reduceAdd, Nat.reduceSub, Array.replicate_succ, Array.replicate_zero, List.push_toArray, List.append_toArray, List.nil_append, List.cons_append]
  refine wpIn_wide.2 ?_
  go_wp2_with (first
    | (go_at_call 25; refine (rSorted_c l _ n _ hv1 (by omega)).mono ?_; rintro en w1 ⟨v1, m1, L, rfl, hown, hp1, hs1, hb1⟩; have O2 := O1.up hb1; obtain ⟨aw, cw, rfl⟩ := own_slice hown; have want0 : SoAt (w1.alloc (.cells #[.slice aw m1 cw] 41)) w1.heap.size (.slice aw m1 cw) m1 L := ⟨cell_new w1 _ _, (Sl.of_own hown).up (below_alloc _ _)⟩; have O3 := O2.up (below_alloc w1 (.cells #[.slice aw m1 cw] 41)); have hv3 := hv.up O3.below; clear O1 O2 hb1 hown hv1)
    | (go_at_call 26; refine (clkSorted_c l _ n _ hv3 (by omega)).mono ?_; rintro en w2 ⟨X, v2, m2, L2, rfl, hso, hp2, hs2, hb2, hX2, hvb⟩; obtain rfl : L2 = L := unique spTO hs2 hs1 (hp2.trans hp1.symm); have O4 := O3.up hb2; have want1 := want0.up hb2; have hwx : w1.heap.size < w2.heap.size := (by have := hb2.size; simp at this; omega); have hXl := World.block_lt_of_cell? w2 _ hso.var; clear O3 hv3 hs2 hp2 hb2 want0))
  obtain rfl : m1 = m2 := by
    have h1 := Sl.recs (cells := spC) (sz := 2) (fun _ => rfl) (by decide) want1.sl
    have h2 := Sl.recs (cells := spC) (sz := 2) (fun _ => rfl) (by decide) hso.sl
    omega
  have HLn := Lib.hid (Sl.recs (cells := spC) (sz := 2) (fun _ => rfl) (by decide) hso.sl)
  have hm40 : m1 ≤ 40 := by have h1 := HLn.out; have h2 := hp1.length_eq; have h3 := HFL.out; omega
  clear hp1 hs1 hv
  have HSO := Lib.hid hso
  have HWA := Lib.hid want1
  have HO := Lib.hid O4
  have hx2' : w1.heap.size + 1 ≤ X := by simpa using hX2
  have hvb' : m1 = 0 ∨ ∀ k, v2.ownBlock = some k → k < w2.heap.size := hso.sl.blk (by decide)
  have hO4s := O4.below.size
  have hO4r := O4.res.lt
  clear hso want1 O4 hX2 hvb
  refine wp_loop_ghost_k (fun q a' W => ∃ (tn T : Nat) (Ds : List Nat), tn ≤ 2 ∧ q = 2 - tn ∧ a' = { tmps := #[.slice a n c, .int .i64 many, a'.tmps.getD 2 undef, .pointer (some ⟨w.heap.size, 0, none⟩), .pointer (some ⟨w.heap.size + 1, 0, none⟩), .pointer (some ⟨w1.heap.size, 0, none⟩), .func (.func 43) #[] #[.pointer (some ⟨X, 0, none⟩)], .pointer (some ⟨T, 0, none⟩), a'.tmps.getD 8 undef, a'.tmps.getD 9 undef, .slice a n c, .int .i64 n, .bool false, a'.tmps.getD 13 undef, .slice a n c, .slice aw m1 cw, .slice a n c, .func (.func 43) #[] #[.pointer (some ⟨X, 0, none⟩)], a'.tmps.getD 18 undef, a'.tmps.getD 19 undef, a'.tmps.getD 20 undef, a'.tmps.getD 21 undef, a'.tmps.getD 22 undef, a'.tmps.getD 23 undef, a'.tmps.getD 24 undef, a'.tmps.getD 25 undef, a'.tmps.getD 26 undef, a'.tmps.getD 27 undef, a'.tmps.getD 28 undef, a'.tmps.getD 29 undef, a'.tmps.getD 30 undef, a'.tmps.getD 31 undef, a'.tmps.getD 32 undef, a'.tmps.getD 33 undef, a'.tmps.getD 34 undef, a'.tmps.getD 35 undef, a'.tmps.getD 36 undef, a'.tmps.getD 37 undef, a'.tmps.getD 38 undef, a'.tmps.getD 39 undef, a'.tmps.getD 40 undef, a'.tmps.getD 41 undef, a'.tmps.getD 42 undef, a'.tmps.getD 43 undef, a'.tmps.getD 44 undef, a'.tmps.getD 45 undef, a'.tmps.getD 46 undef, a'.tmps.getD 47 undef, a'.tmps.getD 48 undef, a'.tmps.getD 49 undef, a'.tmps.getD 50 undef, a'.tmps.getD 51 undef, a'.tmps.getD 52 undef, a'.tmps.getD 53 undef, a'.tmps.getD 54 undef, a'.tmps.getD 55 undef, a'.tmps.getD 56 undef, a'.tmps.getD 57 undef, a'.tmps.getD 58 undef, a'.tmps.getD 59 undef, a'.tmps.getD 60 undef, a'.tmps.getD 61 undef, a'.tmps.getD 62 undef, a'.tmps.getD 63 undef, a'.tmps.getD 64 undef, a'.tmps.getD 65 undef, a'.tmps.getD 66 undef, a'.tmps.getD 67 undef, a'.tmps.getD 68 undef, a'.tmps.getD 69 undef], defers := Ds.map markD } ∧ TuI w2 T tn Ds W) 2 ⟨0, w2.heap.size, [], by omega, rfl, rfl, TuI.start w2⟩ ?round
  case round =>
    intro q a' W hinv J K hJ hK
    obtain ⟨tn, T, Ds, htn, hm, ha, hI⟩ := hinv
    obtain ⟨u, hu⟩ : ∃ u : Nat → Value, ∀ i, a'.tmps.getD i undef = u i := ⟨_, fun _ => rfl⟩
    simp only [hu] at ha
    clear hu
    subst ha hm
    have HJ := Lib.hid hJ
    clear hJ
    have O5 := HO.out.up hI.below
    have W5 := HWA.out.up hI.below
    have S5 := HSO.out.up hI.below
    have HI := Lib.hid hI
    have hT := hI.turn.cell (i := 0) rfl
    have fT := hI.turn.fz 0
    have hTl := hI.turn.lt
    have hT0 := hI.low
    have hWs := hI.below.size
    clear hI
    rcases (show tn = 0 ∨ tn = 1 ∨ tn = 2 by omega) with rfl | rfl | rfl
    · replace hT : W.cell? ⟨T, 0, none⟩ = some (.int .i64 0) := hT
      replace HI := Lib.hid (show TuI w2 T 0 Ds W from HI.out)
      go_wp2
      have hS2 := S5.up (below_alloc W (.cells #[.int .i64 0] 3))
      refine wpIn_wide.1 (wp_range_brk (n := 3) (S := fun q => q = X ∨ (0 < m1 ∧ v2.ownBlock = some q)) (gf := 43) (lb := #[.pointer (some ⟨X, 0, none⟩)]) rfl enters_s3
        (sorted3_x L2 X m1 v2 _ _ hS2 ⟨.inl rfl, (Nat.eq_zero_or_pos m1).elim .inl fun h => .inr fun k hk => .inr ⟨h, hk⟩⟩) (Below.refl _ _) (fun _ => rfl)
        (fun q => q = W.heap.size) (fun k h => by simp only [World.size_alloc]; omega) ?hS
        (fun k G W3 => CtR W k G W3 ∧ (k = 0 ∨ (k : Int) < many))
        (fun k a' G W3 => (∃ V, a' = { tmps := #[.slice a n c, .int .i64 many, u 2, .pointer (some ⟨w.heap.size, 0, none⟩), .pointer (some ⟨w.heap.size + 1, 0, none⟩), .pointer (some ⟨w1.heap.size, 0, none⟩), .func (.func 43) #[] #[.pointer (some ⟨X, 0, none⟩)], .pointer (some ⟨T, 0, none⟩), .pointer (some ⟨W.heap.size, 0, none⟩), .pointer (some ⟨V, 0, none⟩), .slice a n c, .int .i64 n, .bool false, u 13, .slice a n c, .slice aw m1 cw, .slice a n c, .func (.func 43) #[] #[.pointer (some ⟨X, 0, none⟩)], .int .i64 0, .bool true, u 20, u 21, .func (.func 43) #[] #[.pointer (some ⟨X, 0, none⟩)], .bool false, .func (.func 43) #[] #[.pointer (some ⟨X, 0, none⟩)], spV (spAt L2 k), u 26, u 27, u 28, u 29, u 30, u 31, u 32, u 33, u 34, u 35, u 36, u 37, u 38, u 39, u 40, u 41, u 42, u 43, u 44, u 45, u 46, u 47, u 48, u 49, u 50, u 51, u 52, u 53, u 54, u 55, u 56, u 57, u 58, u 59, u 60, u 61, u 62, u 63, u 64, u 65, u 66, u 67, u 68, u 69], defers := [] } ∧ RowAt W3 V (spC (spAt L2 k)).toArray 24 ∧ G V) ∧ CtR W k G W3 ∧ (k = 0 ∨ (k : Int) < many))
        (fun k G W3 => CtR W k G W3 ∧ many ≤ (k : Int) ∧ 1 ≤ k ∧ (k = 1 ∨ (k : Int) - 1 < many))
        ?abI ?abM ?abX ⟨CtR.start W, .inl rfl⟩ ?assign ?body ?done)
      case hS =>
        rintro q (rfl | ⟨hp, hq⟩)
        · exact ⟨by simp only [World.size_alloc]; omega, by omega⟩
        · rcases hvb' with h | h
          · omega
          · have := h q hq
            exact ⟨by simp only [World.size_alloc]; omega, by omega⟩
      case abI => exact fun k G A B h hb => ⟨CtR.abide (by simp only [World.size_alloc]; omega) G A B h.1 hb, h.2⟩
      case abM =>
        rintro k a' G A B ⟨⟨V, ha, hV, hG⟩, h⟩ hb
        exact ⟨⟨V, ha, (hb.same V hV.lt (fun e => e.2 hG)).trans hV, hG⟩, ⟨CtR.abide (by simp only [World.size_alloc]; omega) G A B h.1 hb, h.2⟩⟩
      case abX => exact fun k G A B h hb => ⟨CtR.abide (by simp only [World.size_alloc]; omega) G A B h.1 hb, h.2⟩
      case assign =>
        intro l2 k G W3 K3 hk hi hK3
        simp only [spArgs]
        gi_wp2
        refine hK3 _ _ (But.alloc _ _) ⟨⟨_, rfl, RowAt.new _ _ _, .inr ⟨Nat.le_refl _, by simp⟩⟩, ?_⟩
        exact ⟨CtR.alloc hi.1 _, hi.2⟩
      case body =>
        rintro l2 k a' G W3 hk hl2 _ hGl ⟨⟨V, rfl, hV, hGV⟩, hi⟩
        have hR : CtR W k G W3 := hi.1
        have hkl : k < L2.length := by rw [HLn.out]; exact hk
        have O6 := O5.up hR.below
        have W6 := W5.up hR.below
        obtain ⟨b, off, rfl, hr⟩ := W6.sl.rec_at (cells := spC) (sz := 2) (fun _ => rfl) hk hkl
        have hstep := hR.step
        simp only [spAt_get hkl] at hV ⊢
        generalize L2[k] = e at *
        have hV3 : RowAt W3.drew V (spC e).toArray 24 := hV
        have hr3 : W3.drew.rangeAt b (off + k * 2) (spC e) := hr
        have x5 := W6.var
        have x3 := O6.num.cell (i := 0) (v := .int .i64 many) rfl
        have a1 : W3.cell? ⟨W.heap.size, 0, none⟩ = some (.int .i64 k) := hR.cnt.cell (i := 0) rfl
        have f1 := hR.cnt.fz 0
        have aT := cell_up hR.below hT
        have hTK : ¬ T = W.heap.size := by omega
        have hKT : ¬ W.heap.size = T := by omega
        have hw5 : ¬ w.heap.size = W.heap.size := by omega
        have hw6 : ¬ W.heap.size = w.heap.size := by omega
        have hle2 : ¬ m1 ≤ k := by omega
        have hle3 : ¬ (m1 : Int) ≤ (k : Int) := by omega
        have hkm : (k : Int) < (m1 : Int) := by omega
        have hkn : (k : Int) ≤ 60 := by omega
        have Hstep := Lib.hid hstep
        clear hstep hR O6 W6 hr hV
        by_cases hmq : many ≤ (k : Int) + 1
        · gi_wp2
          refine wpIn_round_tail 11 sMixes (by kernel_rfl) (by kernel_rfl) ?_
          simp only [List.take_succ_cons, List.take_zero, List.drop_succ_cons, List.drop_zero]
          still_step
          still_step
          still_step
          still_step
          still_step
          refine still_load rfl 24 (.tmp 9) rfl V 0 rfl (spC e) _ hV3.range Try.underlying24 rfl (by kernel_rfl) ?_
          try simp only [Act.put, List.getElem_toArray, List.getElem_cons_zero, List.getElem_cons_succ, List.setIfInBounds_toArray, List.set_cons_zero, List.set_cons_succ]
          still_step
          still_step
          still_step
          refine still_load rfl 24 (.tmp 34) rfl b (off + k * 2) rfl (spC e) _ hr3 Try.underlying24 rfl (by kernel_rfl) ?_
          try simp only [Act.put, List.getElem_toArray, List.getElem_cons_zero, List.getElem_cons_succ, List.setIfInBounds_toArray, List.set_cons_zero, List.set_cons_succ]
          refine still_val rfl (exec_spneq (e := e) rfl rfl rfl _) ?_
          try simp only [Act.put, List.getElem_toArray, List.getElem_cons_zero, List.getElem_cons_succ, List.setIfInBounds_toArray, List.set_cons_zero, List.set_cons_succ]
          refine wpStill_nil ?_
          gi_wp2
          exact ⟨Hstep.out.1, rfl, Hstep.out.2, by omega, by omega, by rcases hi.2 with h | h; exact .inl (by omega); exact .inr (by omega)⟩
        · gi_wp2
          refine wpIn_round_tail 11 sMixes (by kernel_rfl) (by kernel_rfl) ?_
          simp only [List.take_succ_cons, List.take_zero, List.drop_succ_cons, List.drop_zero]
          still_step
          still_step
          still_step
          still_step
          still_step
          refine still_load rfl 24 (.tmp 9) rfl V 0 rfl (spC e) _ hV3.range Try.underlying24 rfl (by kernel_rfl) ?_
          try simp only [Act.put, List.getElem_toArray, List.getElem_cons_zero, List.getElem_cons_succ, List.setIfInBounds_toArray, List.set_cons_zero, List.set_cons_succ]
          still_step
          still_step
          still_step
          refine still_load rfl 24 (.tmp 34) rfl b (off + k * 2) rfl (spC e) _ hr3 Try.underlying24 rfl (by kernel_rfl) ?_
          try simp only [Act.put, List.getElem_toArray, List.getElem_cons_zero, List.getElem_cons_succ, List.setIfInBounds_toArray, List.set_cons_zero, List.set_cons_succ]
          refine still_val rfl (exec_spneq (e := e) rfl rfl rfl _) ?_
          try simp only [Act.put, List.getElem_toArray, List.getElem_cons_zero, List.getElem_cons_succ, List.setIfInBounds_toArray, List.set_cons_zero, List.set_cons_succ]
          refine wpStill_nil ?_
          gi_wp2
          exact ⟨Hstep.out.1, Hstep.out.2, .inr (by omega)⟩
      case done =>
        rintro D G W3 k hD hGD hcase hKD
        have hR : CtR W k G W3 := hcase.elim (fun h => h.2.1) (fun h => h.2.1)
        have hmin : (k : Int) = min (m1 : Int) (max 1 many) := by
          rcases hcase with ⟨h1, _, h2⟩ | ⟨h1, _, h2, h3, h4⟩
          · omega
          · omega
        have O6 := O5.up hR.below
        have W6 := W5.up hR.below
        have x5 := W6.var
        have x3 := O6.num.cell (i := 0) (v := .int .i64 many) rfl
        have a1 : W3.cell? ⟨W.heap.size, 0, none⟩ = some (.int .i64 k) := hR.cnt.cell (i := 0) rfl
        have aT := cell_up hR.below hT
        have HN := Lib.hid (fun v => HI.out.next hR.below hKD (by simp at hD; omega) v)
        obtain ⟨mx, hmx⟩ : ∃ m : Int, (if (1 : Int) < many then many else 1) = m := ⟨_, rfl⟩
        have hmax := max_int2 1 many
        have hmn := min_int2 (m1 : Int) mx
        rw [hmx] at hmax
        rw [show (if mx < (m1 : Int) then mx else (m1 : Int)) = (k : Int) by
          rw [hmin, ← hmx]
          split <;> split <;> omega] at hmn
        clear hcase hmin hmx hR O6 W6 hKD
        go_wp2
        refine Handed.intro 1 (by omega) (HJ.out _ _ _ ?_)
        exact ⟨1, W3.heap.size, D :: Ds, by omega, rfl, rfl, HN.out 1⟩
    · replace hT : W.cell? ⟨T, 0, none⟩ = some (.int .i64 1) := hT
      replace HI := Lib.hid (show TuI w2 T 1 Ds W from HI.out)
      go_wp2
      have hS2 := S5.up (below_alloc W (.cells #[.int .i64 0] 3))
      refine wpIn_wide.1 (wp_range_brk (n := 3) (S := fun q => q = X ∨ (0 < m1 ∧ v2.ownBlock = some q)) (gf := 43) (lb := #[.pointer (some ⟨X, 0, none⟩)]) rfl enters_s3
        (sorted3_x L2 X m1 v2 _ _ hS2 ⟨.inl rfl, (Nat.eq_zero_or_pos m1).elim .inl fun h => .inr fun k hk => .inr ⟨h, hk⟩⟩) (Below.refl _ _) (fun _ => rfl)
        (fun q => q = W.heap.size) (fun k h => by simp only [World.size_alloc]; omega) ?hS
        (fun k G W3 => CtR W k G W3)
        (fun k a' G W3 => (∃ V, a' = { tmps := #[.slice a n c, .int .i64 many, u 2, .pointer (some ⟨w.heap.size, 0, none⟩), .pointer (some ⟨w.heap.size + 1, 0, none⟩), .pointer (some ⟨w1.heap.size, 0, none⟩), .func (.func 43) #[] #[.pointer (some ⟨X, 0, none⟩)], .pointer (some ⟨T, 0, none⟩), .pointer (some ⟨W.heap.size, 0, none⟩), .pointer (some ⟨V, 0, none⟩), .slice a n c, .int .i64 n, .bool false, u 13, .slice a n c, .slice aw m1 cw, .slice a n c, .func (.func 43) #[] #[.pointer (some ⟨X, 0, none⟩)], .int .i64 1, .bool true, u 20, u 21, .func (.func 43) #[] #[.pointer (some ⟨X, 0, none⟩)], .bool false, .func (.func 43) #[] #[.pointer (some ⟨X, 0, none⟩)], spV (spAt L2 k), u 26, u 27, u 28, u 29, u 30, u 31, u 32, u 33, u 34, u 35, u 36, u 37, u 38, u 39, u 40, u 41, u 42, u 43, u 44, u 45, u 46, u 47, u 48, u 49, u 50, u 51, u 52, u 53, u 54, u 55, u 56, u 57, u 58, u 59, u 60, u 61, u 62, u 63, u 64, u 65, u 66, u 67, u 68, u 69], defers := [] } ∧ RowAt W3 V (spC (spAt L2 k)).toArray 24 ∧ G V) ∧ CtR W k G W3)
        (fun k G W3 => False)
        ?abI ?abM ?abX (CtR.start W) ?assign ?body ?done)
      case hS =>
        rintro q (rfl | ⟨hp, hq⟩)
        · exact ⟨by simp only [World.size_alloc]; omega, by omega⟩
        · rcases hvb' with h | h
          · omega
          · have := h q hq
            exact ⟨by simp only [World.size_alloc]; omega, by omega⟩
      case abI => exact fun k G A B h hb => CtR.abide (by simp only [World.size_alloc]; omega) G A B h hb
      case abM =>
        rintro k a' G A B ⟨⟨V, ha, hV, hG⟩, h⟩ hb
        exact ⟨⟨V, ha, (hb.same V hV.lt (fun e => e.2 hG)).trans hV, hG⟩, CtR.abide (by simp only [World.size_alloc]; omega) G A B h hb⟩
      case abX => exact fun k G A B h hb => h.elim
      case assign =>
        intro l2 k G W3 K3 hk hi hK3
        simp only [spArgs]
        gi_wp2
        refine hK3 _ _ (But.alloc _ _) ⟨⟨_, rfl, RowAt.new _ _ _, .inr ⟨Nat.le_refl _, by simp⟩⟩, ?_⟩
        exact CtR.alloc hi _
      case body =>
        rintro l2 k a' G W3 hk hl2 _ hGl ⟨⟨V, rfl, hV, hGV⟩, hi⟩
        have hR : CtR W k G W3 := hi
        have hkl : k < L2.length := by rw [HLn.out]; exact hk
        have O6 := O5.up hR.below
        have W6 := W5.up hR.below
        obtain ⟨b, off, rfl, hr⟩ := W6.sl.rec_at (cells := spC) (sz := 2) (fun _ => rfl) hk hkl
        have hstep := hR.step
        simp only [spAt_get hkl] at hV ⊢
        generalize L2[k] = e at *
        have hV3 : RowAt W3.drew V (spC e).toArray 24 := hV
        have hr3 : W3.drew.rangeAt b (off + k * 2) (spC e) := hr
        have x5 := W6.var
        have x3 := O6.num.cell (i := 0) (v := .int .i64 many) rfl
        have a1 : W3.cell? ⟨W.heap.size, 0, none⟩ = some (.int .i64 k) := hR.cnt.cell (i := 0) rfl
        have f1 := hR.cnt.fz 0
        have aT := cell_up hR.below hT
        have hTK : ¬ T = W.heap.size := by omega
        have hKT : ¬ W.heap.size = T := by omega
        have hw5 : ¬ w.heap.size = W.heap.size := by omega
        have hw6 : ¬ W.heap.size = w.heap.size := by omega
        have hle2 : ¬ m1 ≤ k := by omega
        have hle3 : ¬ (m1 : Int) ≤ (k : Int) := by omega
        have hkm : (k : Int) < (m1 : Int) := by omega
        have hkn : (k : Int) ≤ 60 := by omega
        have Hstep := Lib.hid hstep
        clear hstep hR O6 W6 hr hV
        gi_wp2
        refine wpIn_round_tail 11 sMixes (by kernel_rfl) (by kernel_rfl) ?_
        simp only [List.take_succ_cons, List.take_zero, List.drop_succ_cons, List.drop_zero]
        still_step
        still_step
        still_step
        still_step
        still_step
        refine still_load rfl 24 (.tmp 9) rfl V 0 rfl (spC e) _ hV3.range Try.underlying24 rfl (by kernel_rfl) ?_
        try simp only [Act.put, List.getElem_toArray, List.getElem_cons_zero, List.getElem_cons_succ, List.setIfInBounds_toArray, List.set_cons_zero, List.set_cons_succ]
        still_step
        still_step
        still_step
        refine still_load rfl 24 (.tmp 34) rfl b (off + k * 2) rfl (spC e) _ hr3 Try.underlying24 rfl (by kernel_rfl) ?_
        try simp only [Act.put, List.getElem_toArray, List.getElem_cons_zero, List.getElem_cons_succ, List.setIfInBounds_toArray, List.set_cons_zero, List.set_cons_succ]
        refine still_val rfl (exec_spneq (e := e) rfl rfl rfl _) ?_
        try simp only [Act.put, List.getElem_toArray, List.getElem_cons_zero, List.getElem_cons_succ, List.setIfInBounds_toArray, List.set_cons_zero, List.set_cons_succ]
        refine wpStill_nil ?_
        gi_wp2
        exact ⟨Hstep.out.1, Hstep.out.2⟩
      case done =>
        rintro D G W3 k hD hGD hcase hKD
        have hR : CtR W k G W3 := hcase.elim (fun h => h.2) (fun h => h.2.elim)
        obtain rfl : k = m1 := hcase.elim (fun h => h.1) (fun h => h.2.elim)
        have O6 := O5.up hR.below
        have W6 := W5.up hR.below
        have x5 := W6.var
        have x3 := O6.num.cell (i := 0) (v := .int .i64 many) rfl
        have a1 : W3.cell? ⟨W.heap.size, 0, none⟩ = some (.int .i64 k) := hR.cnt.cell (i := 0) rfl
        have aT := cell_up hR.below hT
        have HN := Lib.hid (fun v => HI.out.next hR.below hKD (by simp at hD; omega) v)
        clear hcase hR O6 W6 hKD
        go_wp2
        refine Handed.intro 0 (by omega) (HJ.out _ _ _ ?_)
        exact ⟨2, W3.heap.size, D :: Ds, by omega, rfl, rfl, HN.out 2⟩
    · replace hT : W.cell? ⟨T, 0, none⟩ = some (.int .i64 2) := hT
      go_wp2_with (go_at_call 15; refine (works_c _).mono ?_; rintro en wx ⟨rfl, hbx⟩; have O6 := O5.up hbx; have hx3c := O6.res.cell (i := 0) rfl; have hx3f := O6.res.fz 0)
      have hx4 := O6.res.set 0 (.bool true)
      have hDm : ∀ D ∈ Ds, D ≠ w.heap.size + 1 := fun D hD => by have := (HI.out.marks D hD).2; omega
      refine leaves_marks Ds _ HI.out.nodup (fun D hD => ?_) (fun w9 hb9 => ?_)
      · have hm := HI.out.marks D hD
        have hDlt : D < W.heap.size := (Array.getElem?_eq_some_iff.1 hm.1).1
        rw [Below.heap_setCell _ _ _ _ (by simpa using hDm D hD)]
        exact (hbx.block D hDlt).trans hm.1
      · have hx5 := (hb9.same _ hx4.lt (fun hD => hDm _ hD rfl)).trans hx4
        have hx5c := RowAt.cell (i := 0) (v := .bool true) hx5 rfl
        refine ⟨.bool true, by simp [results, Try.results6, go_sem, hx5c], rfl, ?_⟩
        have hB3 := O6.below.setCell (show w.heap.size ≤ (⟨w.heap.size + 1, 0, none⟩ : Addr).block by simp) (.bool true)
        exact hB3.trans (hb9.below (fun D hD => by have := (HI.out.marks D hD).2; omega) hB3.size)
end Go.Proofs.Ytnccbeiaohmnpaa
