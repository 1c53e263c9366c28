/-
  The reference's New, Ahead, At, Next, Same, Prune.
-/
import Derived.Test.YtfoncaamhleckaaSeP
import Derived.Test.YtfoncaamhleckaaSeI
import Derived.Test.YtfoncaamhleckaaSeJ
namespace Go.Proofs.Ytfoncaamhleckaa
open Go.RowKit Go.Maps Trc Sn
set_option linter.unusedSimpArgs false
set_option linter.unusedVariables false

abbrev rwC (p : Sg × Int) : List Value := [.int .u32 p.1.n.node, .int .u32 p.1.n.service, .int .u64 p.1.n.time, .int .u32 p.1.n.seq, .bool p.1.b, .int .u8 p.1.c, .int .u64 p.2]
theorem slR : SlT Try.prog 47 78 7 40 := SlT.mk' Try.underlying47 (z := .agg #[.int .u32 0, .int .u32 0, .int .u64 0, .int .u32 0, .bool false, .int .u8 0, .int .u64 0]) (by kernel_rfl) rfl (by decide)
theorem one_rw (l : List (Sg × Int)) : ∀ u ∈ l.flatMap rwC, u.oneCell' = true := fun u hu => by
  obtain ⟨x, _, h⟩ := List.mem_flatMap.1 hu
  simp only [List.mem_cons, List.mem_nil_iff, or_false] at h
  rcases h with rfl | rfl | rfl | rfl | rfl | rfl | rfl <;> rfl
theorem rw_sight {w : World} {b o : Nat} {p : Sg × Int} (h : w.rangeAt b o (rwC p)) : w.rangeAt b o (sgC p.1) := fun j v hj => h j v (by show (sgC p.1 ++ [.int .u64 p.2])[j]? = some v; rw [List.getElem?_append_left (List.getElem?_eq_some_iff.1 hj).1]; exact hj)
abbrev tbV (v : Value) (most : Int) : Value := .agg #[v, .int .i64 most]
set_option maxRecDepth 100000 in
theorem rNew_yes (most : Int) (h0 : 0 ≤ most) (h1 : most ≤ 4096) (w : World) : Calls Try.prog 13 #[.int .i64 most] w (Ret (.tuple #[tbV (.slice none 0 0) most, .bool true]) w) := by
  have h2 : ¬ most < 0 := by omega
  have h3 : ¬ most > 4096 := by omega
  have R0 := RowAt.new w #[.slice none 0 0, .int .i64 0] 49
  have r0 := R0.cell (i := 0) rfl
  have r1 := R0.cell (i := 1) rfl
  have f0 := R0.fz 0
  have f1 := R0.fz 1
  go_enter Try.func13, Try.ntmps13
  go_wp2
  exact bodyPost_ret (v := .tuple #[tbV (.slice none 0 0) most, .bool true]) (by simp [results, Try.results13, go_sem]) rfl ⟨rfl, below_alloc w _⟩
set_option maxRecDepth 100000 in
theorem rNew_no (most : Int) (h : most < 0 ∨ 4096 < most) (w : World) : Calls Try.prog 13 #[.int .i64 most] w (Ret (.tuple #[tbV (.slice none 0 0) 0, .bool false]) w) := by
  go_enter Try.func13, Try.ntmps13
  by_cases h0 : most < 0
  · go_wp2
    exact bodyPost_ret (v := .tuple #[tbV (.slice none 0 0) 0, .bool false]) (by simp [results, Try.results13, go_sem]) rfl ⟨rfl, below_alloc w _⟩
  · have h1 : most > 4096 := by omega
    go_wp2
    exact bodyPost_ret (v := .tuple #[tbV (.slice none 0 0) 0, .bool false]) (by simp [results, Try.results13, go_sem]) rfl ⟨rfl, below_alloc w _⟩
namespace Sn
def ltB (x y : Sg) : Bool := decide (nmCmp x.n y.n < 0) || decide (nmCmp x.n y.n = 0) && (if x.b = y.b then decide (x.c < y.c) else y.b)
theorem ltB_iff (x y : Sg) : ltB x y = true ↔ ltS x y := by
  have hn := nmCmp_cases x.n y.n
  have h1 := bI_b x.b
  have h2 := bI_b y.b
  unfold ltB ltS
  generalize nmCmp x.n y.n = n at *
  rcases h1 with ⟨e1, q1⟩ | ⟨e1, q1⟩ <;> rcases h2 with ⟨e2, q2⟩ | ⟨e2, q2⟩ <;> rw [q1, q2, e1, e2] <;> simp <;> omega
end Sn
set_option maxHeartbeats 1000000 in
set_option maxRecDepth 100000 in
theorem rAhead_c (x y : Sg) (hx : x.wf) (hy : y.wf) (w : World) : Calls Try.prog 38 #[sgV x, sgV y] w (Ret (.bool (ltB x y)) w) := by
  have X0 := (RowAt.new w (sgC x).toArray 38).alloc (.cells (sgC y).toArray 38)
  have Y0 := RowAt.new (w.alloc (.cells (sgC x).toArray 38)) (sgC y).toArray 38
  rw [World.size_alloc] at Y0
  have hb2 : Below w.heap.size w ((w.alloc (.cells (sgC x).toArray 38)).alloc (.cells (sgC y).toArray 38)) := (below_alloc w _).alloc (by simp) _
  have HO := Lib.hid (fun w => rOrder_c x.n y.n hx.1 hy.1 w)
  obtain ⟨r, hr⟩ : ∃ r, ltB x y = r := ⟨_, rfl⟩
  have HR := Lib.hid hr
  rw [hr]
  obtain ⟨n, hn⟩ : ∃ n, nmCmp x.n y.n = n := ⟨_, rfl⟩
  unfold ltB at HR
  rw [hn] at HO HR
  have xr := X0
  have X1 := sg_nmK X0
  have Y1 := sg_nmK Y0
  clear hr hn hx hy
  obtain ⟨⟨a, b, c, d⟩, e, f⟩ := x
  obtain ⟨⟨a', b', c', d'⟩, e', f'⟩ := y
  simp only at HR
  have XX := Lib.hid X0
  have YY := Lib.hid Y0
  clear X0 Y0 xr
  by_cases h0 : n = 0
  · subst h0
    have h3 : r = if e = e' then decide (f < f') else e' := by rw [← HR.out]; simp
    cases e <;> cases e' <;> simp only [if_true, reduceIte, Bool.false_eq_true, Bool.true_eq_false] at h3 <;> subst h3 <;>
    · go_enter Try.func38, Try.ntmps38
      go_wp2_with (first
        | (refine wpList_load_mid rfl 36 (.tmp 6) rfl w.heap.size 0 rfl (nmC ⟨a, b, c, d⟩) _ X1 Try.underlying36 rfl (by kernel_rfl) ?_)
        | (refine wpList_load_mid rfl 36 (.tmp 8) rfl (w.heap.size + 1) 0 rfl (nmC ⟨a', b', c', d'⟩) _ Y1 Try.underlying36 rfl (by kernel_rfl) ?_)
        | (go_at_call 48; refine (HO.out _).mono ?_; rintro en w4 ⟨rfl, hb4⟩; have x4 := (XX.out.below hb4).cell (i := 4) rfl; have x5 := (XX.out.below hb4).cell (i := 5) rfl; have y4 := (YY.out.below hb4).cell (i := 4) rfl; have y5 := (YY.out.below hb4).cell (i := 5) rfl))
      go_ret
      exact ⟨rfl, below_up hb2 hb4⟩
  · have h3 : r = decide (n < 0) := by rw [← HR.out]; simp [h0]
    subst h3
    have h1 : (n == 0) = false := by simp [h0]
    go_enter Try.func38, Try.ntmps38
    go_wp2_with (first
      | (refine wpList_load_mid rfl 36 (.tmp 6) rfl w.heap.size 0 rfl (nmC ⟨a, b, c, d⟩) _ X1 Try.underlying36 rfl (by kernel_rfl) ?_)
      | (refine wpList_load_mid rfl 36 (.tmp 8) rfl (w.heap.size + 1) 0 rfl (nmC ⟨a', b', c', d'⟩) _ Y1 Try.underlying36 rfl (by kernel_rfl) ?_)
      | (go_at_call 48; refine (HO.out _).mono ?_; rintro en w4 ⟨rfl, hb4⟩))
    go_ret
    exact ⟨rfl, below_up hb2 hb4⟩
theorem sg_eql (x y : Sg) (w : World) : (binOp .eql 38 (sgV x) (sgV y)).run Try.prog w = .ok (.bool (decide (x = y))) w := by
  obtain ⟨⟨a, b, c, d⟩, e, f⟩ := x
  obtain ⟨⟨a', b', c', d'⟩, e', f'⟩ := y
  by_cases h0 : a = a'
  · subst h0
    by_cases h1 : b = b'
    · subst h1
      by_cases h2 : c = c'
      · subst h2
        by_cases h3 : d = d'
        · subst h3
          by_cases h4 : e = e'
          · subst h4
            by_cases h5 : f = f'
            · subst h5
              simp [go_sem]
            · simp [go_sem, h5]
          · simp [go_sem, h4]
        · simp [go_sem, h3]
      · simp [go_sem, h2]
    · simp [go_sem, h1]
  · simp [go_sem, h0]
theorem rw_eql (x y : Sg × Int) (w : World) : (binOp .eql 78 (.agg (rwC x).toArray) (.agg (rwC y).toArray)).run Try.prog w = .ok (.bool (decide (x = y))) w := by
  obtain ⟨⟨⟨a, b, c, d⟩, e, f⟩, g⟩ := x
  obtain ⟨⟨⟨a', b', c', d'⟩, e', f'⟩, g'⟩ := y
  by_cases h0 : a = a'
  · subst h0
    by_cases h1 : b = b'
    · subst h1
      by_cases h2 : c = c'
      · subst h2
        by_cases h3 : d = d'
        · subst h3
          by_cases h4 : e = e'
          · subst h4
            by_cases h5 : f = f'
            · subst h5
              by_cases h6 : g = g'
              · subst h6
                simp [go_sem]
              · simp [go_sem, h6]
            · simp [go_sem, h5]
          · simp [go_sem, h4]
        · simp [go_sem, h3]
      · simp [go_sem, h2]
    · simp [go_sem, h1]
  · simp [go_sem, h0]
theorem rw_neq (x y : Sg × Int) (w : World) : (binOp .neq 78 (.agg (rwC x).toArray) (.agg (rwC y).toArray)).run Try.prog w = .ok (.bool (!decide (x = y))) w := by
  obtain ⟨⟨⟨a, b, c, d⟩, e, f⟩, g⟩ := x
  obtain ⟨⟨⟨a', b', c', d'⟩, e', f'⟩, g'⟩ := y
  by_cases h0 : a = a'
  · subst h0
    by_cases h1 : b = b'
    · subst h1
      by_cases h2 : c = c'
      · subst h2
        by_cases h3 : d = d'
        · subst h3
          by_cases h4 : e = e'
          · subst h4
            by_cases h5 : f = f'
            · subst h5
              by_cases h6 : g = g'
              · subst h6
                simp [go_sem]
              · simp [go_sem, h6]
            · simp [go_sem, h5]
          · simp [go_sem, h4]
        · simp [go_sem, h3]
      · simp [go_sem, h2]
    · simp [go_sem, h1]
  · simp [go_sem, h0]
namespace Sn
def atN (L : List (Sg × Int)) (s : Sg) : Nat := L.findIdx fun p => decide (p.1 = s)
/-- The place of a sight. -/
def atF (L : List (Sg × Int)) (s : Sg) : Int := if hasB L s = true then (atN L s : Int) else -1
theorem atF_at {L : List (Sg × Int)} {s : Sg} {k : Nat} (hk : k < L.length) (h : ∀ j, j < k → ∀ hj : j < L.length, ¬ L[j].1 = s) (h2 : L[k].1 = s) : atF L s = (k : Int) := by
  have h3 : hasB L s = true := hasB_iff.2 (List.mem_map.2 ⟨L[k], List.getElem_mem hk, h2⟩)
  have h4 : atN L s = k := by
    unfold atN
    rw [List.findIdx_eq hk]
    exact ⟨decide_eq_true h2, fun j hj => decide_eq_false (h j hj (by omega))⟩
  unfold atF
  rw [if_pos h3, h4]
theorem atF_end {L : List (Sg × Int)} {s : Sg} (h : ∀ j, ∀ hj : j < L.length, ¬ L[j].1 = s) : atF L s = -1 := by
  have h3 : hasB L s = false := by
    rw [Bool.eq_false_iff]
    intro hh
    obtain ⟨p, hp, hps⟩ := List.mem_map.1 (hasB_iff.1 hh)
    obtain ⟨j, hj, rfl⟩ := List.getElem_of_mem hp
    exact h j hj hps
  unfold atF
  rw [h3]; rfl
theorem atN_lt {L : List (Sg × Int)} {s : Sg} (h : hasB L s = true) : ∃ hk : atN L s < L.length, L[atN L s].1 = s := by
  obtain ⟨p, hp, hps⟩ := List.mem_map.1 (hasB_iff.1 h)
  have hk : atN L s < L.length := List.findIdx_lt_length_of_exists ⟨p, hp, decide_eq_true hps⟩
  refine ⟨hk, ?_⟩
  have := List.findIdx_getElem (p := fun p : Sg × Int => decide (p.1 = s)) (xs := L) (w := hk)
  exact of_decide_eq_true this
theorem nxF_snd : ∀ L : List (Sg × Int), (nxF L).2 = decide (0 < L.length) := by
  have h : ∀ (us : List Int) (a : Int × Bool), (us.foldl nxS a).2 = (a.2 || decide (0 < us.length)) := by
    intro us
    induction us with
    | nil => intro a; simp
    | cons u us ih =>
      intro a
      rw [List.foldl_cons, ih]
      have : (nxS a u).2 = true := by unfold nxS; split; (rename_i h; exact h.1); rfl
      rw [this]; simp
  intro L
  unfold nxF
  rw [h]; simp
end Sn
set_option maxHeartbeats 2000000 in
set_option maxRecDepth 100000 in
theorem rAt_c (L : List (Sg × Int)) (v : Value) (n : Nat) (most : Int) (s : Sg) (w : World) (hv : Sl w 7 v n (L.flatMap rwC)) :
    Calls Try.prog 32 #[tbV v most, sgV s] w (Ret (.int .i64 (atF L s)) w) := by
  have Hln := Lib.hid (Sl.recs (cells := rwC) (sz := 7) (fun _ => rfl) (by decide) hv)
  have hn := hv.n_max
  obtain ⟨av, cv, rfl⟩ := hv.len
  have P0 := (RowAt.new w #[.slice av n cv, .int .i64 most] 49).alloc (.cells (sgC s).toArray 38)
  have S0 := RowAt.new (w.alloc (.cells #[.slice av n cv, .int .i64 most] 49)) (sgC s).toArray 38
  rw [World.size_alloc] at S0
  have hb2 : Below w.heap.size w ((w.alloc (.cells #[.slice av n cv, .int .i64 most] 49)).alloc (.cells (sgC s).toArray 38)) := (below_alloc w _).alloc (by simp) _
  obtain ⟨r, hr⟩ : ∃ r, atF L s = r := ⟨_, rfl⟩
  have HR := Lib.hid hr
  rw [hr]
  clear hr
  obtain ⟨W0, hW0⟩ : ∃ W0, ((w.alloc (.cells #[.slice av n cv, .int .i64 most] 49)).alloc (.cells (sgC s).toArray 38)) = W0 := ⟨_, rfl⟩
  rw [hW0] at P0 S0 hb2
  have HB2 := Lib.hid hb2
  clear hb2
  go_enter Try.func32, Try.ntmps32
  go_wp2
  clear hW0
  go_loopw [5] (fun i wr => ∃ k : Nat, k ≤ n ∧ i = .int .i64 k ∧ RowKit.Hid (∀ j, j < k → ∀ hj : j < L.length, ¬ L[j].1 = s) ∧ Below W0.heap.size W0 wr) (fun i _ => n - (intOf i).toNat)
  case atStart => exact ⟨0, Nat.zero_le _, rfl, Lib.hid (fun j hj => by omega), Below.refl _ _⟩
  case round =>
    obtain ⟨k, hk, rfl, Hno, hB⟩ := hrel
    have c0 := (P0.below hB).cell (i := 0) (v := .slice av n cv) rfl
    by_cases hlt : k < n
    · have hlt' : k < L.length := by rw [Hln.out]; exact hlt
      have hkn : (k : Int) < (n : Int) := by omega
      obtain ⟨b, off, rfl, hr⟩ := ((hv.up HB2.out).up hB).rec_at (cells := rwC) (sz := 7) (fun _ => rfl) hlt hlt'
      have Hres := Lib.hid (fun h : L[k].1 = s => (show (k : Int) = r from (atF_at hlt' Hno.out h).symm.trans HR.out))
      have Hstep := Lib.hid (fun (h : ¬ L[k].1 = s) j (hj : j < k + 1) (hj' : j < L.length) => (show ¬ L[j].1 = s from by
        rcases Nat.lt_or_ge j k with h' | h'
        · exact Hno.out j h' hj'
        · obtain rfl : j = k := by omega
          exact h))
      generalize L[k] = p at *
      have hq := sg_eql p.1 s
      obtain ⟨bo, hbo⟩ : ∃ bo, decide (p.1 = s) = bo := ⟨_, rfl⟩
      have HBO := Lib.hid hbo
      rw [hbo] at hq
      have hrS := rw_sight hr
      clear hbo hr
      go_wp2
      refine wp_region_pt (fun _ => False) (.q 0 (.q 1 (.q 2 (.q 3 (.q 4 (.q 5 (.q 6 (.q 7 .done)))))))) (by kernel_rfl) (by kernel_rfl) (by kernel_rfl) (by decide) (fun _ _ d _ _ h => by cases d <;> exact h) (fun Wd hBd => ?_)
      try simp only [Act.put, List.getElem_toArray, List.getElem_cons_zero, List.getElem_cons_succ, List.setIfInBounds_toArray, List.set_cons_zero, List.set_cons_succ]
      have hB1 := below_up hB hBd
      have c1 := (P0.below hB1).cell (i := 0) (v := .slice (some ⟨b, off, none⟩) n cv) rfl
      have S1 := S0.below hB1
      have hrSD := rangeAt_up hBd hrS
      refine pt_q (v := ?_) rfl (by rfl) ?_ ?_
      rotate_left
      · intro w' hBw'
        first | (go_simp; done) | (go_simp; with_reducible rfl)
      try simp only [Act.put, List.getElem_toArray, List.getElem_cons_zero, List.getElem_cons_succ, List.setIfInBounds_toArray, List.set_cons_zero, List.set_cons_succ]
      refine pt_q (v := ?_) rfl (by rfl) ?_ ?_
      rotate_left
      · intro w' hBw'
        have qL := hBw'.cell c1 (fun e => e)
        first | (go_simp; done) | (go_simp; with_reducible rfl)
      try simp only [Act.put, List.getElem_toArray, List.getElem_cons_zero, List.getElem_cons_succ, List.setIfInBounds_toArray, List.set_cons_zero, List.set_cons_succ]
      refine pt_q (v := ?_) rfl (by rfl) ?_ ?_
      rotate_left
      · intro w' hBw'
        first | (go_simp; done) | (go_simp; with_reducible rfl)
      try simp only [Act.put, List.getElem_toArray, List.getElem_cons_zero, List.getElem_cons_succ, List.setIfInBounds_toArray, List.set_cons_zero, List.set_cons_succ]
      refine pt_q (v := ?_) rfl (by rfl) ?_ ?_
      rotate_left
      · intro w' hBw'
        first | (go_simp; done) | (go_simp; with_reducible rfl)
      try simp only [Act.put, List.getElem_toArray, List.getElem_cons_zero, List.getElem_cons_succ, List.setIfInBounds_toArray, List.set_cons_zero, List.set_cons_succ]
      refine pt_q (v := ?_) rfl (by rfl) ?_ ?_
      rotate_left
      · intro w' hBw'
        first | (go_simp; done) | (go_simp; with_reducible rfl)
      try simp only [Act.put, List.getElem_toArray, List.getElem_cons_zero, List.getElem_cons_succ, List.setIfInBounds_toArray, List.set_cons_zero, List.set_cons_succ]
      refine pt_load rfl (by rfl) 38 (.tmp 17) rfl b (off + k * 7) rfl (sgC p.1) _ hrSD (fun e => e) Try.underlying38 rfl (by kernel_rfl) ?_
      try simp only [Act.put, List.getElem_toArray, List.getElem_cons_zero, List.getElem_cons_succ, List.setIfInBounds_toArray, List.set_cons_zero, List.set_cons_succ]
      refine pt_load rfl (by rfl) 38 (.tmp 3) rfl (w.heap.size + 1) 0 rfl (sgC s) _ S1.range (fun e => e) Try.underlying38 rfl (by kernel_rfl) ?_
      try simp only [Act.put, List.getElem_toArray, List.getElem_cons_zero, List.getElem_cons_succ, List.setIfInBounds_toArray, List.set_cons_zero, List.set_cons_succ]
      refine pt_q (v := ?_) rfl (by rfl) ?_ ?_
      rotate_left
      · intro w' hBw'
        first | (go_simp; done) | (go_simp; with_reducible rfl)
      try simp only [Act.put, List.getElem_toArray, List.getElem_cons_zero, List.getElem_cons_succ, List.setIfInBounds_toArray, List.set_cons_zero, List.set_cons_succ]
      refine pt_done ?_
      cases bo with
      | true =>
        have hrr := Hres.out (of_decide_eq_true HBO.out)
        go_wp2
        go_ret
        exact ⟨by first | exact retI rfl | exact retI hrr, below_up HB2.out hB1⟩
      | false =>
        go_wp2
        go_roundw
        case rel => exact ⟨k + 1, by omega, by go_num, Lib.hid (Hstep.out (of_decide_eq_false HBO.out)), hB1⟩
        case measure => simp [intOf]; omega
    · obtain hkn : ¬ (k : Int) < (n : Int) := by omega
      have hrr : (-1 : Int) = r := (atF_end (fun j hj => Hno.out j (by have := Hln.out; omega) hj)).symm.trans HR.out
      go_wp2
      go_ret
      exact ⟨by first | exact retI rfl | exact retI hrr, below_up HB2.out hB⟩
set_option maxHeartbeats 2000000 in
set_option maxRecDepth 100000 in
theorem rNext_c (L : List (Sg × Int)) (v : Value) (n : Nat) (most : Int) (w : World) (hv : Sl w 7 v n (L.flatMap rwC)) :
    Calls Try.prog 34 #[tbV v most] w (Ret (.tuple #[.int .u64 (nxF L).1, .bool (nxF L).2]) w) := by
  have Hln := Lib.hid (Sl.recs (cells := rwC) (sz := 7) (fun _ => rfl) (by decide) hv)
  have hn := hv.n_max
  obtain ⟨av, cv, rfl⟩ := hv.len
  have P0 := RowAt.new w #[.slice av n cv, .int .i64 most] 49
  have hb2 := below_alloc w (.cells #[.slice av n cv, .int .i64 most] 49)
  have HS := Lib.hid (nxF_snd L)
  obtain ⟨W0, hW0⟩ : ∃ W0, (w.alloc (.cells #[.slice av n cv, .int .i64 most] 49)) = W0 := ⟨_, rfl⟩
  rw [hW0] at P0 hb2
  have HB2 := Lib.hid hb2
  clear hb2
  go_enter Try.func34, Try.ntmps34
  go_wp2
  clear hW0
  go_loopw [4, 5] (fun m i wr => ∃ (k : Nat) (u : Int), k ≤ n ∧ m = .int .u64 u ∧ i = .int .i64 k ∧ RowKit.Hid (u = (nxF (L.take k)).1) ∧ Below W0.heap.size W0 wr) (fun _ i _ => n - (intOf i).toNat)
  case atStart => exact ⟨0, 0, Nat.zero_le _, rfl, rfl, Lib.hid rfl, Below.refl _ _⟩
  case round =>
    obtain ⟨k, u, hk, rfl, rfl, HU, hB⟩ := hrel
    have c0 := (P0.below hB).cell (i := 0) (v := .slice av n cv) rfl
    by_cases hlt : k < n
    · have hlt' : k < L.length := by rw [Hln.out]; exact hlt
      have hkn : (k : Int) < (n : Int) := by omega
      obtain ⟨b, off, rfl, hr⟩ := ((hv.up HB2.out).up hB).rec_at (cells := rwC) (sz := 7) (fun _ => rfl) hlt hlt'
      have HX := Lib.hid (nxF_succ hlt')
      have HY := Lib.hid (nxF_snd (L.take k))
      have HTl := Lib.hid (show (L.take k).length = k by rw [List.length_take]; omega)
      obtain ⟨a2, ha2⟩ : ∃ a, nxF (L.take (k + 1)) = a := ⟨_, rfl⟩
      obtain ⟨a1, ha1⟩ : ∃ a, nxF (L.take k) = a := ⟨_, rfl⟩
      have hA2 := Lib.hid (show a2 = nxF (L.take (k + 1)) from ha2.symm)
      have hA1 := Lib.hid (show a1 = nxF (L.take k) from ha1.symm)
      rw [ha2, ha1] at HX
      rw [ha1] at HY
      clear ha1 ha2
      generalize L[k] = p at *
      have r6 := hr 6 (.int .u64 p.2) rfl
      by_cases h0 : k = 0
      · have h0' : ((k : Int) == 0) = true := by simp [h0]
        have hu2 : p.2 = a2.1 := by rw [HX.out]; unfold nxS; rw [if_neg (by rw [HY.out, HTl.out, h0]; simp)]
        have HU2 := Lib.hid hu2
        clear hu2 h0
        go_wp2
        go_roundw
        case rel => exact ⟨k + 1, _, by omega, rfl, by go_num, Lib.hid (by rw [← hA2.out]; exact HU2.out), hB⟩
        case measure => simp [intOf]; omega
      · have h0' : ((k : Int) == 0) = false := by simp [h0]
        have hu1 : u = a1.1 := HU.out.trans (by rw [hA1.out])
        by_cases hlu : p.2 < u
        · have hu2 : p.2 = a2.1 := by rw [HX.out]; unfold nxS; rw [if_neg (by rw [← hu1]; omega)]
          have HU2 := Lib.hid hu2
          clear hu2 hu1
          go_wp2
          go_roundw
          case rel => exact ⟨k + 1, _, by omega, rfl, by go_num, Lib.hid (by rw [← hA2.out]; exact HU2.out), hB⟩
          case measure => simp [intOf]; omega
        · have hu2 : u = a2.1 := by rw [HX.out]; unfold nxS; rw [if_pos ⟨by rw [HY.out, HTl.out]; exact decide_eq_true (by omega), by rw [← hu1]; exact hlu⟩]; exact hu1
          have HU2 := Lib.hid hu2
          clear hu2 hu1
          go_wp2
          go_roundw
          case rel => exact ⟨k + 1, _, by omega, rfl, by go_num, Lib.hid (by rw [← hA2.out]; exact HU2.out), hB⟩
          case measure => simp [intOf]; omega
    · obtain hkn : ¬ (k : Int) < (n : Int) := by omega
      have hall : L.take k = L := List.take_of_length_le (by rw [Hln.out]; omega)
      have hu := HU.out
      rw [hall] at hu
      have hb : decide ((n : Int) > 0) = (nxF L).2 := by rw [HS.out, Hln.out]; by_cases h : 0 < n <;> simp [h] <;> omega
      have HBB := Lib.hid hb
      have HUU := Lib.hid hu
      clear hb hu hall
      go_wp2
      refine wp_region_pt (fun _ => False) (.q 0 (.q 1 (.q 2 (.q 3 (.q 4 (.q 5 (.q 6 .done))))))) (by kernel_rfl) (by kernel_rfl) (by kernel_rfl) (by decide) (fun _ _ d _ _ h => by cases d <;> exact h) (fun Wd hBd => ?_)
      try simp only [Act.put, List.getElem_toArray, List.getElem_cons_zero, List.getElem_cons_succ, List.setIfInBounds_toArray, List.set_cons_zero, List.set_cons_succ]
      have hB1 := below_up hB hBd
      have c1 := (P0.below hB1).cell (i := 0) (v := .slice av n cv) rfl
      refine pt_q (v := ?_) rfl (by rfl) ?_ ?_
      rotate_left
      · intro w' hBw'
        first | (go_simp; done) | (go_simp; with_reducible rfl)
      try simp only [Act.put, List.getElem_toArray, List.getElem_cons_zero, List.getElem_cons_succ, List.setIfInBounds_toArray, List.set_cons_zero, List.set_cons_succ]
      refine pt_q (v := ?_) rfl (by rfl) ?_ ?_
      rotate_left
      · intro w' hBw'
        first | (go_simp; done) | (go_simp; with_reducible rfl)
      try simp only [Act.put, List.getElem_toArray, List.getElem_cons_zero, List.getElem_cons_succ, List.setIfInBounds_toArray, List.set_cons_zero, List.set_cons_succ]
      refine pt_q (v := ?_) rfl (by rfl) ?_ ?_
      rotate_left
      · intro w' hBw'
        have qL := hBw'.cell c1 (fun e => e)
        first | (go_simp; done) | (go_simp; with_reducible rfl)
      try simp only [Act.put, List.getElem_toArray, List.getElem_cons_zero, List.getElem_cons_succ, List.setIfInBounds_toArray, List.set_cons_zero, List.set_cons_succ]
      refine pt_q (v := ?_) rfl (by rfl) ?_ ?_
      rotate_left
      · intro w' hBw'
        first | (go_simp; done) | (go_simp; with_reducible rfl)
      try simp only [Act.put, List.getElem_toArray, List.getElem_cons_zero, List.getElem_cons_succ, List.setIfInBounds_toArray, List.set_cons_zero, List.set_cons_succ]
      refine pt_q (v := ?_) rfl (by rfl) ?_ ?_
      rotate_left
      · intro w' hBw'
        first | (go_simp; done) | (go_simp; with_reducible rfl)
      try simp only [Act.put, List.getElem_toArray, List.getElem_cons_zero, List.getElem_cons_succ, List.setIfInBounds_toArray, List.set_cons_zero, List.set_cons_succ]
      refine pt_q (v := ?_) rfl (by rfl) ?_ ?_
      rotate_left
      · intro w' hBw'
        first | (go_simp; done) | (go_simp; with_reducible rfl)
      try simp only [Act.put, List.getElem_toArray, List.getElem_cons_zero, List.getElem_cons_succ, List.setIfInBounds_toArray, List.set_cons_zero, List.set_cons_succ]
      refine pt_q (v := ?_) rfl (by rfl) ?_ ?_
      rotate_left
      · intro w' hBw'
        first | (go_simp; done) | (go_simp; with_reducible rfl)
      try simp only [Act.put, List.getElem_toArray, List.getElem_cons_zero, List.getElem_cons_succ, List.setIfInBounds_toArray, List.set_cons_zero, List.set_cons_succ]
      refine pt_done ?_
      go_wp2
      refine bodyPost_ret (v := .tuple #[.int .u64 u, .bool (decide ((n : Int) > 0))]) (by simp [results, Try.results34, go_sem]) rfl ⟨by rw [HUU.out, HBB.out], below_up HB2.out hB1⟩
/-- Are two tables the same? -/
def Sn.sameT (L1 L2 : List (Sg × Int)) (m1 m2 : Int) : Bool := decide (L1 = L2) && decide (m1 = m2)
set_option maxHeartbeats 2000000 in
set_option maxRecDepth 100000 in
theorem rSame_c (L1 L2 : List (Sg × Int)) (v1 v2 : Value) (n1 n2 : Nat) (m1 m2 : Int) (w : World) (hv1 : Sl w 7 v1 n1 (L1.flatMap rwC)) (hv2 : Sl w 7 v2 n2 (L2.flatMap rwC)) :
    Calls Try.prog 18 #[tbV v1 m1, tbV v2 m2] w (Ret (.bool (sameT L1 L2 m1 m2)) w) := by
  have Hl1 := Lib.hid (Sl.recs (cells := rwC) (sz := 7) (fun _ => rfl) (by decide) hv1)
  have Hl2 := Lib.hid (Sl.recs (cells := rwC) (sz := 7) (fun _ => rfl) (by decide) hv2)
  have hn1 := hv1.n_max
  have hn2 := hv2.n_max
  obtain ⟨a1, c1, rfl⟩ := hv1.len
  obtain ⟨a2, c2, rfl⟩ := hv2.len
  have P0 := (RowAt.new w #[.slice a1 n1 c1, .int .i64 m1] 49).alloc (.cells #[.slice a2 n2 c2, .int .i64 m2] 49)
  have Q0 := RowAt.new (w.alloc (.cells #[.slice a1 n1 c1, .int .i64 m1] 49)) #[.slice a2 n2 c2, .int .i64 m2] 49
  rw [World.size_alloc] at Q0
  have hb2 : Below w.heap.size w ((w.alloc (.cells #[.slice a1 n1 c1, .int .i64 m1] 49)).alloc (.cells #[.slice a2 n2 c2, .int .i64 m2] 49)) := (below_alloc w _).alloc (by simp) _
  obtain ⟨r, hr⟩ : ∃ r, sameT L1 L2 m1 m2 = r := ⟨_, rfl⟩
  have HR := Lib.hid hr
  rw [hr]
  clear hr
  by_cases hn : n1 = n2
  · by_cases hm : m1 = m2
    · subst hn
      subst hm
      have HR2 := Lib.hid (show r = decide (L1 = L2) by rw [← HR.out]; unfold sameT; simp)
      obtain ⟨W0, hW0⟩ : ∃ W0, ((w.alloc (.cells #[.slice a1 n1 c1, .int .i64 m1] 49)).alloc (.cells #[.slice a2 n1 c2, .int .i64 m1] 49)) = W0 := ⟨_, rfl⟩
      rw [hW0] at P0 Q0 hb2
      have HB2 := Lib.hid hb2
      have p0 := P0.cell (i := 0) (v := .slice a1 n1 c1) rfl
      have p1 := P0.cell (i := 1) (v := .int .i64 m1) rfl
      have q0 := Q0.cell (i := 0) (v := .slice a2 n1 c2) rfl
      have q1 := Q0.cell (i := 1) (v := .int .i64 m1) rfl
      clear hb2
      go_enter Try.func18, Try.ntmps18
      go_wp2
      clear hW0
      go_loopw [5] (fun i wr => ∃ k : Nat, k ≤ n1 ∧ i = .int .i64 k ∧ RowKit.Hid (∀ j, j < k → L1[j]? = L2[j]?) ∧ Below W0.heap.size W0 wr) (fun i _ => n1 - (intOf i).toNat)
      case atStart => exact ⟨0, Nat.zero_le _, rfl, Lib.hid (fun j hj => by omega), Below.refl _ _⟩
      case round =>
        obtain ⟨k, hk, rfl, Heq, hB⟩ := hrel
        have c0 := (P0.below hB).cell (i := 0) (v := .slice a1 n1 c1) rfl
        by_cases hlt : k < n1
        · have hlt1 : k < L1.length := by rw [Hl1.out]; exact hlt
          have hlt2 : k < L2.length := by rw [Hl2.out]; exact hlt
          have hkn : (k : Int) < (n1 : Int) := by omega
          obtain ⟨b, off, rfl, hr⟩ := ((hv1.up HB2.out).up hB).rec_at (cells := rwC) (sz := 7) (fun _ => rfl) hlt hlt1
          obtain ⟨b', off', rfl, hr'⟩ := ((hv2.up HB2.out).up hB).rec_at (cells := rwC) (sz := 7) (fun _ => rfl) hlt hlt2
          have hq := rw_neq L1[k] L2[k]
          have Hno := Lib.hid (fun h : ¬ L1[k] = L2[k] => (show r = false by rw [HR2.out, decide_eq_false_iff_not]; intro e; apply h; subst e; rfl))
          have Hstep := Lib.hid (fun (h : L1[k] = L2[k]) j (hj : j < k + 1) => (show L1[j]? = L2[j]? from by
            rcases Nat.lt_or_ge j k with h' | h'
            · exact Heq.out j h'
            · obtain rfl : j = k := by omega
              rw [List.getElem?_eq_getElem hlt1, List.getElem?_eq_getElem hlt2, h]))
          generalize L1[k] = p at *
          generalize L2[k] = q at *
          obtain ⟨bo, hbo⟩ : ∃ bo, decide (p = q) = bo := ⟨_, rfl⟩
          have HBO := Lib.hid hbo
          rw [hbo] at hq
          clear hbo
          go_wp2
          refine wp_region_pt (fun _ => False) (.q 0 (.q 1 (.q 2 (.q 3 (.q 4 (.q 5 (.q 6 (.q 7 (.q 8 (.q 9 (.q 10 .done))))))))))) (by kernel_rfl) (by kernel_rfl) (by kernel_rfl) (by decide) (fun _ _ d _ _ h => by cases d <;> exact h) (fun Wd hBd => ?_)
          try simp only [Act.put, List.getElem_toArray, List.getElem_cons_zero, List.getElem_cons_succ, List.setIfInBounds_toArray, List.set_cons_zero, List.set_cons_succ]
          have hB1 := below_up hB hBd
          have c3 := (P0.below hB1).cell (i := 0) (v := .slice (some ⟨b, off, none⟩) n1 c1) rfl
          have c4 := (Q0.below hB1).cell (i := 0) (v := .slice (some ⟨b', off', none⟩) n1 c2) rfl
          refine pt_q (v := ?_) rfl (by rfl) ?_ ?_
          rotate_left
          · intro w' hBw'
            first | (go_simp; done) | (go_simp; with_reducible rfl)
          try simp only [Act.put, List.getElem_toArray, List.getElem_cons_zero, List.getElem_cons_succ, List.setIfInBounds_toArray, List.set_cons_zero, List.set_cons_succ]
          refine pt_q (v := ?_) rfl (by rfl) ?_ ?_
          rotate_left
          · intro w' hBw'
            have qL := hBw'.cell c3 (fun e => e)
            first | (go_simp; done) | (go_simp; with_reducible rfl)
          try simp only [Act.put, List.getElem_toArray, List.getElem_cons_zero, List.getElem_cons_succ, List.setIfInBounds_toArray, List.set_cons_zero, List.set_cons_succ]
          refine pt_q (v := ?_) rfl (by rfl) ?_ ?_
          rotate_left
          · intro w' hBw'
            first | (go_simp; done) | (go_simp; with_reducible rfl)
          try simp only [Act.put, List.getElem_toArray, List.getElem_cons_zero, List.getElem_cons_succ, List.setIfInBounds_toArray, List.set_cons_zero, List.set_cons_succ]
          refine pt_q (v := ?_) rfl (by rfl) ?_ ?_
          rotate_left
          · intro w' hBw'
            first | (go_simp; done) | (go_simp; with_reducible rfl)
          try simp only [Act.put, List.getElem_toArray, List.getElem_cons_zero, List.getElem_cons_succ, List.setIfInBounds_toArray, List.set_cons_zero, List.set_cons_succ]
          refine pt_load rfl (by rfl) 78 (.tmp 30) rfl b (off + k * 7) rfl (rwC p) _ (rangeAt_up hBd hr) (fun e => e) Try.underlying78 rfl (by kernel_rfl) ?_
          try simp only [Act.put, List.getElem_toArray, List.getElem_cons_zero, List.getElem_cons_succ, List.setIfInBounds_toArray, List.set_cons_zero, List.set_cons_succ]
          refine pt_q (v := ?_) rfl (by rfl) ?_ ?_
          rotate_left
          · intro w' hBw'
            first | (go_simp; done) | (go_simp; with_reducible rfl)
          try simp only [Act.put, List.getElem_toArray, List.getElem_cons_zero, List.getElem_cons_succ, List.setIfInBounds_toArray, List.set_cons_zero, List.set_cons_succ]
          refine pt_q (v := ?_) rfl (by rfl) ?_ ?_
          rotate_left
          · intro w' hBw'
            have qL := hBw'.cell c4 (fun e => e)
            first | (go_simp; done) | (go_simp; with_reducible rfl)
          try simp only [Act.put, List.getElem_toArray, List.getElem_cons_zero, List.getElem_cons_succ, List.setIfInBounds_toArray, List.set_cons_zero, List.set_cons_succ]
          refine pt_q (v := ?_) rfl (by rfl) ?_ ?_
          rotate_left
          · intro w' hBw'
            first | (go_simp; done) | (go_simp; with_reducible rfl)
          try simp only [Act.put, List.getElem_toArray, List.getElem_cons_zero, List.getElem_cons_succ, List.setIfInBounds_toArray, List.set_cons_zero, List.set_cons_succ]
          refine pt_q (v := ?_) rfl (by rfl) ?_ ?_
          rotate_left
          · intro w' hBw'
            first | (go_simp; done) | (go_simp; with_reducible rfl)
          try simp only [Act.put, List.getElem_toArray, List.getElem_cons_zero, List.getElem_cons_succ, List.setIfInBounds_toArray, List.set_cons_zero, List.set_cons_succ]
          refine pt_load rfl (by rfl) 78 (.tmp 35) rfl b' (off' + k * 7) rfl (rwC q) _ (rangeAt_up hBd hr') (fun e => e) Try.underlying78 rfl (by kernel_rfl) ?_
          try simp only [Act.put, List.getElem_toArray, List.getElem_cons_zero, List.getElem_cons_succ, List.setIfInBounds_toArray, List.set_cons_zero, List.set_cons_succ]
          refine pt_q (v := ?_) rfl (by rfl) ?_ ?_
          rotate_left
          · intro w' hBw'
            first | (go_simp; done) | (go_simp; with_reducible rfl)
          try simp only [Act.put, List.getElem_toArray, List.getElem_cons_zero, List.getElem_cons_succ, List.setIfInBounds_toArray, List.set_cons_zero, List.set_cons_succ]
          refine pt_done ?_
          cases bo with
          | false =>
            have hrr := Hno.out (of_decide_eq_false HBO.out)
            go_wp2
            go_ret
            exact ⟨retB hrr.symm, below_up HB2.out hB1⟩
          | true =>
            go_wp2
            go_roundw
            case rel => exact ⟨k + 1, by omega, by go_num, Lib.hid (Hstep.out (of_decide_eq_true HBO.out)), hB1⟩
            case measure => simp [intOf]; omega
        · have hkn : ¬ (k : Int) < (n1 : Int) := by omega
          have hrr : r = true := by
            rw [HR2.out, decide_eq_true_eq]
            refine List.ext_getElem? fun j => ?_
            by_cases hj : j < k
            · exact Heq.out j hj
            · rw [List.getElem?_eq_none (by have := Hl1.out; omega), List.getElem?_eq_none (by have := Hl2.out; omega)]
          go_wp2
          go_ret
          exact ⟨by first | exact retB rfl | exact retB hrr.symm, below_up HB2.out hB⟩
    · subst hn
      have hrr : r = false := by rw [← HR.out]; unfold sameT; simp [hm]
      subst hrr
      go_enter Try.func18, Try.ntmps18
      go_wp2
      go_ret
      exact ⟨rfl, hb2⟩
  · have hrr : r = false := by
      rw [← HR.out]; unfold sameT
      rw [Bool.and_eq_false_iff]; left
      rw [decide_eq_false_iff_not]; intro e
      have h1 := Hl1.out
      rw [e, Hl2.out] at h1
      exact hn h1.symm
    subst hrr
    have hnI : ¬ (n1 : Int) = (n2 : Int) := by omega
    go_enter Try.func18, Try.ntmps18
    go_wp2
    go_ret
    exact ⟨rfl, hb2⟩
/-- What the reference's Prune leaves. -/
def Sn.RPr (L : List (Sg × Int)) (most at_ : Int) (w : World) (en : Ending) (w' : World) : Prop :=
  ∃ v' : Value, en = .returned (.tuple #[tbV v' most, .int .i64 ((L.length : Int) - (left L at_).length)]) ∧ Sl w' 7 v' (left L at_).length ((left L at_).flatMap rwC) ∧ Below w.heap.size w w' ∧ ∀ k, v'.ownBlock = some k → w.heap.size ≤ k ∧ k < w'.heap.size
theorem Sn.left_succ {L : List (Sg × Int)} {k : Nat} (at_ : Int) (h : k < L.length) : left (L.take (k + 1)) at_ = left (L.take k) at_ ++ (if at_ < L[k].2 then [L[k]] else []) := by
  unfold left
  rw [List.take_succ_eq_append_getElem h, List.filter_append]
  by_cases h : at_ < L[k].2 <;> simp [h]
theorem slR1 (w : World) (k : Nat) (hk : k = w.heap.size) (p : Sg × Int) : Sl (w.alloc (.cells (rwC p).toArray 78)) 7 (.slice (some ⟨k, 0, none⟩) 1 1) 1 (rwC p) := sl_lit w k hk 7 1 (rwC p) 78 rfl (by decide)
set_option maxHeartbeats 4000000 in
set_option maxRecDepth 100000 in
theorem rPrune_c (L : List (Sg × Int)) (v : Value) (n : Nat) (most at_ : Int) (w : World) (hv : Sl w 7 v n (L.flatMap rwC)) (hN : n ≤ 5000) :
    Calls Try.prog 31 #[tbV v most, .int .u64 at_] w (RPr L most at_ w) := by
  have Hln := Lib.hid (Sl.recs (cells := rwC) (sz := 7) (fun _ => rfl) (by decide) hv)
  have hn := hv.n_max
  obtain ⟨av, cv, rfl⟩ := hv.len
  have P0 := (RowAt.new w #[.slice av n cv, .int .i64 most] 49).alloc (.cells #[.slice none 0 0, .int .i64 0] 49)
  have Q0 := RowAt.new (w.alloc (.cells #[.slice av n cv, .int .i64 most] 49)) #[.slice none 0 0, .int .i64 0] 49
  rw [World.size_alloc] at Q0
  have hb2 : Below w.heap.size w ((w.alloc (.cells #[.slice av n cv, .int .i64 most] 49)).alloc (.cells #[.slice none 0 0, .int .i64 0] 49)) := (below_alloc w _).alloc (by simp) _
  have hz2 : ((w.alloc (.cells #[.slice av n cv, .int .i64 most] 49)).alloc (.cells #[.slice none 0 0, .int .i64 0] 49)).heap.size = w.heap.size + 2 := by simp
  obtain ⟨W0, hW0⟩ : ∃ W0, ((w.alloc (.cells #[.slice av n cv, .int .i64 most] 49)).alloc (.cells #[.slice none 0 0, .int .i64 0] 49)) = W0 := ⟨_, rfl⟩
  rw [hW0] at P0 Q0 hb2 hz2
  have HB2 := Lib.hid hb2
  have hw0 := hb2.size
  clear hb2
  go_enter Try.func31, Try.ntmps31
  go_wp2
  clear hW0
  go_loopw [6, 7] (fun o i wr => ∃ k : Nat, k ≤ n ∧ i = .int .i64 k ∧ wr.ownsRow W0.heap.size 78 7 o (left (L.take k) at_).length ((left (L.take k) at_).flatMap rwC) ∧ Below W0.heap.size W0 wr) (fun _ i _ => n - (intOf i).toNat)
  case atStart => exact ⟨0, Nat.zero_le _, rfl, World.ownsRow_nil _ _ _ _, Below.refl _ _⟩
  case round =>
    obtain ⟨k, hk, rfl, hrow, hB⟩ := hrel
    have c0 := (P0.below hB).cell (i := 0) (v := .slice av n cv) rfl
    by_cases hlt : k < n
    · have hlt' : k < L.length := by rw [Hln.out]; exact hlt
      have hkn : (k : Int) < (n : Int) := by omega
      obtain ⟨b, off, rfl, hr⟩ := ((hv.up HB2.out).up hB).rec_at (cells := rwC) (sz := 7) (fun _ => rfl) hlt hlt'
      have HSu := Lib.hid (left_succ at_ hlt')
      have hlen : (left (L.take k) at_).length ≤ k := Nat.le_trans (List.length_filter_le _ _) (List.length_take_le k L)
      generalize L[k] = p at *
      have r6 := hr 6 (.int .u64 p.2) rfl
      have hs1 := hB.size
      by_cases hgt : at_ < p.2
      · have HS2 := Lib.hid (show left (L.take (k + 1)) at_ = left (L.take k) at_ ++ [p] by rw [HSu.out, if_pos hgt])
        obtain ⟨K, hK⟩ : ∃ K, left (L.take k) at_ = K := ⟨_, rfl⟩
        rw [hK] at HS2 hrow hlen
        clear hK HSu
        obtain ⟨ao, co, rfl⟩ := own_slice hrow
        go_wp2_with (first
          | (refine wpList_load_mid rfl 78 (.tmp 28) rfl b (off + k * 7) rfl (rwC p) _ hr Try.underlying78 rfl (by kernel_rfl) ?_)
          | (at_builtin; refine wpList_app_at rfl _ _ 47 rfl slR W0.heap.size rfl (hrow.alloc _) rfl (slR1 _ _ rfl _) (by simp [Value.oneCell']) (by simp [maxLen]; omega) (by omega) (by simp; omega) ?_; intro v' w3 hown' hgrow _ hat; have hB3 := grown_below (hB.alloc hB.size _) hgrow (fun q hq => (own_of_some hrow hq).1)))
        go_roundw
        case rel => exact ⟨k + 1, by omega, by go_num, by rw [HS2.out]; simpa using hown', hB3⟩
        case measure => simp [intOf]; omega
      · have HS2 := Lib.hid (show left (L.take (k + 1)) at_ = left (L.take k) at_ by rw [HSu.out, if_neg hgt, List.append_nil])
        go_wp2
        go_roundw
        case rel => exact ⟨k + 1, by omega, by go_num, by rw [HS2.out]; exact hrow, hB⟩
        case measure => simp [intOf]; omega
    · obtain hkn : ¬ (k : Int) < (n : Int) := by omega
      have hall : L.take k = L := List.take_of_length_le (by rw [Hln.out]; omega)
      rw [hall] at hrow
      obtain ⟨m, hm⟩ : ∃ m, (left L at_).length = m := ⟨_, rfl⟩
      rw [hm] at hrow
      obtain ⟨ao, co, rfl⟩ := own_slice hrow
      have P1 := P0.below hB
      have Q1 := Q0.below hB
      have p1 := P1.cell (i := 1) (v := .int .i64 most) rfl
      have fp := P1.fz 0
      have HM := Lib.hid hm
      have hmk : m ≤ n := by rw [← hm, ← Hln.out]; exact List.length_filter_le _ _
      have hrng : IntKind.i64.wrap ((n : Int) - (m : Int)) = (n : Int) - (m : Int) := by rw [IntKind.wrap_i64]; omega
      have P2 := P1.set 0 (.slice ao m co)
      have Q2 := Q1.other (a := ⟨w.heap.size, 0, none⟩) (by show w.heap.size + 1 ≠ w.heap.size; omega) (.slice ao m co)
      have g0 := P2.cell (i := 0) (v := .slice ao m co) rfl
      have g1 := P2.cell (i := 1) (v := .int .i64 most) rfl
      have q0 := Q2.cell (i := 0) (v := .slice none 0 0) rfl
      have q1 := Q2.cell (i := 1) (v := .int .i64 0) rfl
      have fq0 := Q2.fz 0
      have fq1 := Q2.fz 1
      have hbs : But (fun j => j = w.heap.size) wr (wr.setCell ⟨w.heap.size, 0, none⟩ (.slice ao m co)) := But.setCell _ _ _ (.inl rfl)
      have hown := own_but hrow hbs (fun j hj e => by have := (own_of_some hrow hj).1; omega)
      have HW := Lib.hid hown
      have HBB := Lib.hid (below_up HB2.out hB)
      have hbS := Lib.hid hbs
      clear hall hrow hm hbs hown
      go_wp2_with (refine wpList_put_row rfl 49 (.tmp 4) (.tmp 40) rfl (w.heap.size + 1) [.slice ao m co, .int .i64 most] rfl rfl Q2 rfl (by kernel_rfl) rfl ?_; intro wE ZE bE)
      have z0 := ZE.cell (i := 0) rfl
      have z1 := ZE.cell (i := 1) rfl
      have hgo := fun q (hq : (Value.slice ao m co).ownBlock = some q) => own_of_some HW.out hq
      have hbE : Below w.heap.size w wE := (HBB.out.trans (hbS.out.below (fun j e => by omega) HBB.out.size)).trans (bE.below (fun j e => by omega) (by have := HBB.out.size; simp; omega))
      have hsE := (Sl.of_own HW.out).but bE (.inr fun q hq e => by have := (hgo q hq).1; omega)
      refine bodyPost_ret (v := .tuple #[tbV (.slice ao m co) most, .int .i64 ((n : Int) - m)]) (by simp [results, Try.results31, go_sem, z0, z1, hrng]) rfl ⟨.slice ao m co, by rw [HM.out, Hln.out], by rw [HM.out]; exact hsE, hbE, fun q hq => ?_⟩
      have h1 := hgo q hq
      have h2 := bE.size
      exact ⟨by omega, by omega⟩
end Go.Proofs.Ytfoncaamhleckaa
