/-
  The reference: New.
-/
import Derived.Test.YtekpjbablcoahaaDiskT
namespace Go.Proofs.Ytekpjbablcoahaa
open Go.RowKit Go.Maps Dk
set_option linter.unusedSimpArgs false
set_option linter.unusedVariables false

set_option maxRecDepth 100000 in
theorem rNewBad_c (n : Int) (h : n < 1 ∨ 4096 < n) (w : World) : Calls Try.prog 17 #[.int .i64 n] w (Ret (.tuple #[.agg #[.slice none 0 0, .slice none 0 0, .int .i64 0], .bool false]) w) := by
  by_cases k1 : n < 1
  · have d1 : decide (n < 1) = true := decide_eq_true k1
    go_enter Try.func17, Try.ntmps17
    go_wp2
    refine bodyPost_ret (v := .tuple #[.agg #[.slice none 0 0, .slice none 0 0, .int .i64 0], .bool false]) (by simp [results, Try.results17, go_sem]) rfl ⟨rfl, ?_⟩
    all_goals (repeat (first | exact Below.refl _ _ | refine Below.setCell ?_ (by simp <;> omega) _ | refine Below.alloc ?_ (by simp <;> omega) _))
  · have k2 : 4096 < n := by omega
    have d1 : decide (n < 1) = false := decide_eq_false k1
    go_enter Try.func17, Try.ntmps17
    go_wp2
    refine bodyPost_ret (v := .tuple #[.agg #[.slice none 0 0, .slice none 0 0, .int .i64 0], .bool false]) (by simp [results, Try.results17, go_sem]) rfl ⟨rfl, ?_⟩
    all_goals (repeat (first | exact Below.refl _ _ | refine Below.setCell ?_ (by simp <;> omega) _ | refine Below.alloc ?_ (by simp <;> omega) _))
theorem sl_str1 (w : World) (s : Sec) : Sl (w.alloc (.cells #[strV s] 9)) 1 (.slice (some ⟨w.heap.size, 0, none⟩) 1 1) 1 ([s].map strV) := by
  refine ⟨rfl, .inr ⟨_, 0, 1, rfl, Nat.le_refl _, by decide, fun j u hj => ?_⟩⟩
  rw [Nat.zero_add]
  exact (RowAt.new w _ _).cell (by simpa using hj)
set_option maxHeartbeats 2000000 in
set_option maxRecDepth 100000 in
theorem rNew_c (n : Nat) (h1 : 1 ≤ n) (h2 : n ≤ 4096) (w : World) : Calls Try.prog 17 #[.int .i64 (n : Int)] w (fun en w' => ∃ v, en = .returned (.tuple #[v, .bool true]) ∧ RefAt w' v ⟨List.replicate n zsec, [], -1⟩ ∧ Below w.heap.size w w') := by
  have d1 : decide ((n : Int) < 1) = false := decide_eq_false (by omega)
  have k1 : 1 ≤ (n : Int) := by omega
  have k2 : (n : Int) ≤ 4096 := by omega
  go_enter Try.func17, Try.ntmps17
  go_wp2
  have hb2 : Below w.heap.size w ((w.alloc (.cells #[.slice none 0 0, .slice none 0 0, .int .i64 0] 47)).alloc (.cells #[.slice none 0 0, .slice none 0 0, .int .i64 (-1)] 47)) := (below_alloc w _).alloc (by simp) _
  have hR0 : RowAt ((w.alloc (.cells #[.slice none 0 0, .slice none 0 0, .int .i64 0] 47)).alloc (.cells #[.slice none 0 0, .slice none 0 0, .int .i64 (-1)] 47)) w.heap.size #[.slice none 0 0, .slice none 0 0, .int .i64 0] 47 := (RowAt.new w _ _).alloc _
  have hD0 : RowAt ((w.alloc (.cells #[.slice none 0 0, .slice none 0 0, .int .i64 0] 47)).alloc (.cells #[.slice none 0 0, .slice none 0 0, .int .i64 (-1)] 47)) (w.heap.size + 1) #[.slice none 0 0, .slice none 0 0, .int .i64 (-1)] 47 := by
    have := RowAt.new (w.alloc (.cells #[.slice none 0 0, .slice none 0 0, .int .i64 0] 47)) #[.slice none 0 0, .slice none 0 0, .int .i64 (-1)] 47
    rwa [World.size_alloc] at this
  go_loopw [5] (fun i wr => ∃ (k : Nat) (lv : Value), k ≤ n ∧ i = .int .i64 k ∧ wr.ownsRow (w.heap.size + 1 + 1) 9 1 lv k ((List.replicate k zsec).map strV) ∧ RowAt wr (w.heap.size + 1) #[lv, .slice none 0 0, .int .i64 (-1)] 47 ∧ RowAt wr w.heap.size #[.slice none 0 0, .slice none 0 0, .int .i64 0] 47 ∧ Below w.heap.size w wr) (fun i _ => n - (intOf i).toNat)
  case atStart => exact ⟨0, .slice none 0 0, Nat.zero_le _, rfl, World.ownsRow_nil _ _ _ _, hD0, hR0, hb2⟩
  case round =>
    obtain ⟨k, lv, hk, rfl, hown, hD, hR, hB⟩ := hrel
    clear hR0 hD0 hb2
    obtain ⟨la, lc, rfl⟩ := own_slice hown
    by_cases hlt : k < n
    · have hki : (k : Int) < (n : Int) := by omega
      have hDl := hD.lt
      go_wp2
      refine wp_region_pz (fun i => w.heap.size + 1 + 1 ≤ i) 7 (.q 0 (.q 1 (.c 2 (.c 3 (.c 4 (.c 5 (.q 6 .done))))))) (by kernel_rfl) (by kernel_rfl) (by kernel_rfl) (by decide) (fun _ _ d _ _ h => by cases d <;> exact h) (fun Wd hBd => ?_)
      try simp only [Act.put, List.getElem_toArray, List.getElem_cons_zero, List.getElem_cons_succ, List.setIfInBounds_toArray, List.set_cons_zero, List.set_cons_succ]
      have hownd := own_up hown hBd
      have RDd := hD.below hBd
      have c0d := RDd.cell (i := 0) rfl
      have hownb := hBd.size
      have hmk := make64
      refine pt_q (v := ?_) rfl (by rfl) ?_ ?_
      rotate_left
      · intro w' hBw'
        have p0 := hBw'.cell c0d (by omega)
        first | (go_simp; done) | (go_simp; with_reducible rfl)
      try simp only [Act.put, List.getElem_toArray, List.getElem_cons_zero, List.getElem_cons_succ, List.setIfInBounds_toArray, List.set_cons_zero, List.set_cons_succ]
      refine pt_q (v := ?_) rfl (by rfl) ?_ ?_
      rotate_left
      · intro w' hBw'
        have p0 := hBw'.cell c0d (by omega)
        first | (go_simp; done) | (go_simp; with_reducible rfl)
      try simp only [Act.put, List.getElem_toArray, List.getElem_cons_zero, List.getElem_cons_succ, List.setIfInBounds_toArray, List.set_cons_zero, List.set_cons_succ]
      refine pt_c ?_
      refine pt_step rfl (by rfl) (fun K hK => ?_)
      go_simp
      have hm1 := below_alloc Wd (.cells (by8 noughts).toArray 5)
      have F1 : Sl (Wd.alloc (.cells (by8 noughts).toArray 5)) 1 (.slice (some ⟨Wd.heap.size, 0, none⟩) 64 64) 64 (by8 zsec.1) := sl_of_row (s := zsec) (RowAt.new Wd (by8 noughts).toArray 5)
      have hcv := run_str (P := Try.prog) Try.underlying33 Try.underlying5 Try.underlying9 F1
      refine hK.out _ _ (But.of_below hm1) ?_
      clear hK K
      try simp only [Act.put, List.getElem_toArray, List.getElem_cons_zero, List.getElem_cons_succ, List.setIfInBounds_toArray, List.set_cons_zero, List.set_cons_succ]
      refine pt_c ?_
      refine pt_step rfl (by rfl) (fun K hK => ?_)
      go_simp
      refine hK.out _ _ (But.refl _ _) ?_
      clear hK K
      try simp only [Act.put, List.getElem_toArray, List.getElem_cons_zero, List.getElem_cons_succ, List.setIfInBounds_toArray, List.set_cons_zero, List.set_cons_succ]
      clear hcv
      refine pt_c ?_
      refine pt_step rfl (by rfl) (fun K hK => ?_)
      go_simp
      have hm2 := below_alloc (Wd.alloc (.cells (by8 noughts).toArray 5)) (.cells #[strV zsec] 9)
      have F2 : Sl ((Wd.alloc (.cells (by8 noughts).toArray 5)).alloc (.cells #[strV zsec] 9)) 1 (.slice (some ⟨Wd.heap.size + 1, 0, none⟩) 1 1) 1 ([zsec].map strV) := by have := sl_str1 (Wd.alloc (.cells (by8 noughts).toArray 5)) zsec; rwa [World.size_alloc] at this
      refine hK.out _ _ (But.of_below hm2) ?_
      clear hK K
      try simp only [Act.put, List.getElem_toArray, List.getElem_cons_zero, List.getElem_cons_succ, List.setIfInBounds_toArray, List.set_cons_zero, List.set_cons_succ]
      refine pt_c ?_
      refine pt_app2 rfl (by rfl) (.tmp 20) (.tmp 23) 44 rfl slStr (w.heap.size + 1 + 1) rfl (own_up (own_up hownd hm1) hm2) rfl F2 (one_str [zsec]) (by simp only [maxLen]; omega) (by omega) (by have := hownb; simp only [World.size_alloc]; omega) (fun k hk => hk) (fun v2 w2 hown2 hb2 => ?_)
      try simp only [Act.put, List.getElem_toArray, List.getElem_cons_zero, List.getElem_cons_succ, List.setIfInBounds_toArray, List.set_cons_zero, List.set_cons_succ]
      obtain ⟨va, vc, rfl⟩ := own_slice hown2
      have hbt : But (fun i => w.heap.size + 1 + 1 ≤ i) Wd w2 := (But.of_below (below_up hm1 hm2)).trans (hb2.mono fun i _ e => (own_of_some (own_up (own_up hownd hm1) hm2) e).1)
      have RD2 := (hbt.same _ RDd.lt (by omega)).trans RDd
      have cA := RowAt.cell RD2 (i := 0) rfl
      have fA := RowAt.fz RD2 0
      refine pt_q (v := ?_) rfl (by rfl) ?_ ?_
      rotate_left
      · intro w' hBw'
        first | (go_simp; done) | (go_simp; with_reducible rfl)
      try simp only [Act.put, List.getElem_toArray, List.getElem_cons_zero, List.getElem_cons_succ, List.setIfInBounds_toArray, List.set_cons_zero, List.set_cons_succ]
      refine pz_last rfl (by rfl) (fun K hK => ?_)
      go_simp
      refine hK.out _ _ ?_
      clear hK K
      try simp only [Act.put, List.getElem_toArray, List.getElem_cons_zero, List.getElem_cons_succ, List.setIfInBounds_toArray, List.set_cons_zero, List.set_cons_succ]
      have hbs : But (fun i => i = w.heap.size + 1) w2 (w2.setCell ⟨w.heap.size + 1, 0, none⟩ (.slice va (k + 1) vc)) := But.setCell _ _ _ (.inl rfl)
      have RN := RowAt.set RD2 0 (.slice va (k + 1) vc)
      have oN := own_but hown2 hbs (fun q hq e => by have := (own_of_some hown2 hq).1; omega)
      have hw1 := hR.lt
      have hRd := hR.below hBd
      have hBt := below_up hB hBd
      have hball : But (fun i => w.heap.size + 1 ≤ i) Wd (w2.setCell ⟨w.heap.size + 1, 0, none⟩ (.slice va (k + 1) vc)) := (hbt.mono fun i _ e => by omega).trans (hbs.mono fun i _ e => by omega)
      have hRN := (hball.same _ hRd.lt (by omega)).trans hRd
      have hBN : Below w.heap.size w (w2.setCell ⟨w.heap.size + 1, 0, none⟩ (.slice va (k + 1) vc)) := hBt.trans (hball.below (fun i e => by omega) hBt.size)
      have oN' : (w2.setCell ⟨w.heap.size + 1, 0, none⟩ (.slice va (k + 1) vc)).ownsRow (w.heap.size + 1 + 1) 9 1 (.slice va (k + 1) vc) (k + 1) ((List.replicate (k + 1) zsec).map strV) := by
        rw [List.replicate_succ', List.map_append]; exact oN
      have HN := Lib.hid (And.intro oN' (And.intro RN (And.intro hRN hBN)))
      clear hbs RN oN hw1 hRd hBt hball hRN hBN oN' RD2 cA fA hown2 hb2 hbt hown hD hR hB hownd RDd c0d hownb hBd F1 F2 hm1 hm2
      go_wp2
      go_roundw
      case rel => exact ⟨k + 1, _, by omega, by go_num, HN.out.1, HN.out.2.1, HN.out.2.2.1, HN.out.2.2.2⟩
      case measure => simp [intOf]; omega
    · obtain rfl : k = n := by omega
      have c0 := hD.cell (i := 0) rfl
      have c1 := hD.cell (i := 1) rfl
      have c2 := hD.cell (i := 2) rfl
      have q0 := hR.cell (i := 0) rfl
      have q1 := hR.cell (i := 1) rfl
      have q2 := hR.cell (i := 2) rfl
      have f0 := hR.fz 0
      have f1 := hR.fz 1
      have f2 := hR.fz 2
      have hkn : decide ((k : Int) < (k : Int)) = false := by simp
      go_wp2
      have bF : But (fun i => i = w.heap.size) wr (((wr.setCell ⟨w.heap.size, 0, none⟩ (.slice la k lc)).setCell ⟨w.heap.size, 1, none⟩ (.slice none 0 0)).setCell ⟨w.heap.size, 2, none⟩ (.int .i64 (-1))) :=
        ((But.setCell (O := fun i => i = w.heap.size) _ ⟨w.heap.size, 0, none⟩ _ (.inl rfl)).trans (But.setCell (O := fun i => i = w.heap.size) _ ⟨w.heap.size, 1, none⟩ _ (.inl rfl))).trans (But.setCell (O := fun i => i = w.heap.size) _ ⟨w.heap.size, 2, none⟩ _ (.inl rfl))
      have o5 := own_but hown bF (fun q hq e => by have := (own_of_some hown hq).1; omega)
      have s5 := Sl.of_own o5
      refine bodyPost_ret (v := .tuple #[.agg #[.slice la k lc, .slice none 0 0, .int .i64 (-1)], .bool true]) (by simp [results, Try.results17, go_sem, q0, q1, q2]) rfl ⟨_, rfl, ?_, hB.trans (bF.below (fun q e => by omega) hB.size)⟩
      refine RefAt.mk' (r := ⟨List.replicate k zsec, [], -1⟩) ?_ (Sl.nil _ _)
      rw [List.length_replicate]; exact s5
end Go.Proofs.Ytekpjbablcoahaa
