/-
  SeenHolds: the law's walk.
-/
import Derived.Test.YtfoncaamhleckaaSeK
import Derived.Test.YtfoncaamhleckaaSeP
namespace Go.Proofs.Ytfoncaamhleckaa
open Go.RowKit Go.Maps Trc Sn
set_option linter.unusedSimpArgs false
set_option linter.unusedVariables false

set_option maxHeartbeats 8000000 in
set_option maxRecDepth 100000 in
theorem seenHolds_law (l : List Ac) (v : Value) (n : Nat) (at_ : Int) (w : World) (hv : Sl w 8 v n (l.flatMap acC)) (hwf : ∀ a ∈ l, a.s.wf) :
    Calls Try.prog 3 #[v, .int .u64 at_] w (Ret (.bool true) w) := by
  have HWF := Lib.hid hwf
  have Hln := Lib.hid (Sl.recs (cells := acC) (sz := 8) (fun _ => rfl) (by decide) hv)
  obtain ⟨a, c, rfl⟩ := hv.len
  clear hwf
  by_cases hn : n > 40
  · have hnI : (n : Int) > 40 := by omega
    go_enter Try.func3, Try.ntmps3
    go_wp2_with (go_at_call 6; refine (seWorks_c _).mono ?_; rintro en w1 ⟨rfl, hb⟩)
    go_ret
    exact ⟨rfl, hb⟩
  · have hnI : ¬ (n : Int) > 40 := by omega
    have hmk := fun w => run_makeMap (P := Try.prog) 30 w
    have T0 := Lib.hid True.intro
    go_enter Try.func3, Try.ntmps3
    go_wp2_with (first
      | (go_at_call 7; first
        | (have T1 := T0; clear T1 T0; refine (seNew_yes 100 (by decide) (by decide) _).mono ?_; rintro en w1 ⟨T1, M1, rfl, hT1, hT1g, hM1g, hb1⟩; have hT1b0 := And.intro hT1.var.lt hT1.map.lt)
        | (refine (seNew_yes 100 (by decide) (by decide) _).mono ?_; rintro en w2 ⟨T2, M2, rfl, hT2, hT2g, hM2g, hb2⟩; replace hT1 := hT1.below hb2; have hb3 := below_alloc w2 (.map #[] 0); have hF := MapAt.new (P := Try.prog) (k := 38) w2; have hT3 := hT1.below hb3; have hT4 := hT2.below hb3))
      | (go_at_call 8; refine (num_c _ _).mono ?_; rintro en ws ⟨rfl, rfl⟩))
    have hs1 := hb1.size
    have hs2 := hb2.size
    have hT1v := hT1.var.lt
    have hM1v := hT1.map.lt
    have hT2v := hT2.var.lt
    have hM2v := hT2.map.lt
    have hT1b : T1 < w1.heap.size ∧ M1 < w1.heap.size := ⟨hT1b0.1, hT1b0.2⟩
    have HB3 := Lib.hid (below_up (below_up hb1 hb2) hb3)
    clear hb1 hb2 hb3 hT1 hT2 hmk hT1b0
    go_loopw [10] (fun i wr => ∃ k : Nat, k ≤ n ∧ i = .int .i64 k ∧ Tab wr T1 M1 100 (eAll (l.take k)) ∧ Tab wr T2 M2 100 [] ∧ SMap wr w2.heap.size (eAll (l.take k)) ∧ Below w.heap.size w wr) (fun i _ => n - (intOf i).toNat)
    case atStart => exact ⟨0, Nat.zero_le _, rfl, hT3, hT4, hF, HB3.out⟩
    case round =>
      obtain ⟨k, hk, rfl, hA, hZ, hG, hB⟩ := hrel
      by_cases hlt : k < n
      · have hlt' : k < l.length := by rw [Hln.out]; exact hlt
        have hkn : (k : Int) < (n : Int) := by omega
        obtain ⟨b, off, rfl, hr⟩ := (hv.up hB).rec_at (cells := acC) (sz := 8) (fun _ => rfl) hlt hlt'
        have hbl : b < w.heap.size := by
          have h0 := hv.rec_at (cells := acC) (sz := 8) (fun _ => rfl) hlt hlt'
          obtain ⟨b', off', he, hr'⟩ := h0
          simp only [Value.slice.injEq, Option.some.injEq, Addr.mk.injEq] at he
          obtain ⟨⟨rfl, rfl, _⟩, _⟩ := he
          exact World.block_lt_of_cell? w _ (hr' 0 (.int .i64 l[k].what) rfl)
        have hwf := HWF.out l[k] (List.getElem_mem hlt')
        have Hsuc := Lib.hid (eAll_succ hlt')
        have hEo := eAll_ok l k (by omega)
        have hEl : (eAll (l.take k)).length ≤ k := Nat.le_trans hEo.len (by simp; omega)
        obtain ⟨E', hE'⟩ : ∃ x, eAll (l.take (k + 1)) = x := ⟨_, rfl⟩
        have HE3 := Lib.hid hE'
        rw [hE'] at Hsuc
        clear hE'
        generalize eAll (l.take k) = E at *
        generalize l[k] = ac at *
        obtain ⟨wh, s, u⟩ := ac
        simp only at hwf Hsuc
        have hrS := ac_sight hr
        have hr7 := hr 7 (.int .u64 u) rfl
        have hl := slook hG hwf true
        simp only [if_true] at hl
        have hcs := seeE_cases E s u (by omega)
        have HB := Lib.hid hB
        clear hB hEo
        rcases hcs with hc | ⟨hc, hh⟩ | ⟨hc, hh⟩
        · have HE1 := Lib.hid (show seeL 100 E s u = E by unfold seeL; rw [hc, if_neg (by decide)])
          have HE2 := Lib.hid (Hsuc.out.trans HE1.out)
          clear Hsuc
          cases hh : hasB E s with
          | false =>
            rw [hh] at hl
            go_wp2_with (first
                  | (refine wpList_load_mid rfl 38 (.tmp 55) rfl b (off + k * 8 + 1) (by kernel_rfl) (sgC s) _ hrS Try.underlying38 rfl (by kernel_rfl) ?_)
                  | (refine wpList_look rfl 30 (.tmp 51) (.tmp 56) true rfl (mv := .map (some w2.heap.size)) (iv := sgV s) (by kernel_rfl) (by kernel_rfl) hl ?_))
            refine wp_region_ptL ((· = M1)) (.q 0 (.q 1 (.q 2 (.q 3 (.q 4 (.q 5 (.q 6 (.q 7 (.q 8 (.q 9 (.q 10 (.c 11 (.q 12 .done))))))))))))) (by kernel_rfl) (by kernel_rfl) (by kernel_rfl) (by decide) (fun _ _ d _ _ h => by cases d <;> exact h) (fun OPS HOP Wd hBd => ?_)
            try simp only [Act.put, List.getElem_toArray, List.getElem_cons_zero, List.getElem_cons_succ, List.setIfInBounds_toArray, List.set_cons_zero, List.set_cons_succ]
            have hrSD := rangeAt_up hBd hrS
            have hr7D := cell_up hBd hr7
            have hAD := hA.below hBd
            have hZD := hZ.below hBd
            have hGD := hG.heap (hBd.block _ hG.lt)
            have HBD := Lib.hid (below_up HB.out hBd)
            have HBD' := Lib.hid hBd
            clear hBd
            refine pt_q (v := ?_) (by rw [← HOP.out]; simp only [List.getElem?_toArray, List.getElem?_cons_zero, List.getElem?_cons_succ]; rfl) (by rw [← HOP.out]; kernel_rfl) ?_ ?_
            rotate_left
            · intro w' hBw'
              first | (go_simp; done) | (go_simp; with_reducible rfl)
            try simp only [Act.put, List.getElem_toArray, List.getElem_cons_zero, List.getElem_cons_succ, List.setIfInBounds_toArray, List.set_cons_zero, List.set_cons_succ]
            refine pt_q (v := ?_) (by rw [← HOP.out]; simp only [List.getElem?_toArray, List.getElem?_cons_zero, List.getElem?_cons_succ]; rfl) (by rw [← HOP.out]; kernel_rfl) ?_ ?_
            rotate_left
            · intro w' hBw'
              first | (go_simp; done) | (go_simp; with_reducible rfl)
            try simp only [Act.put, List.getElem_toArray, List.getElem_cons_zero, List.getElem_cons_succ, List.setIfInBounds_toArray, List.set_cons_zero, List.set_cons_succ]
            refine pt_q (v := ?_) (by rw [← HOP.out]; simp only [List.getElem?_toArray, List.getElem?_cons_zero, List.getElem?_cons_succ]; rfl) (by rw [← HOP.out]; kernel_rfl) ?_ ?_
            rotate_left
            · intro w' hBw'
              first | (go_simp; done) | (go_simp; with_reducible rfl)
            try simp only [Act.put, List.getElem_toArray, List.getElem_cons_zero, List.getElem_cons_succ, List.setIfInBounds_toArray, List.set_cons_zero, List.set_cons_succ]
            refine pt_q (v := ?_) (by rw [← HOP.out]; simp only [List.getElem?_toArray, List.getElem?_cons_zero, List.getElem?_cons_succ]; rfl) (by rw [← HOP.out]; kernel_rfl) ?_ ?_
            rotate_left
            · intro w' hBw'
              first | (go_simp; done) | (go_simp; with_reducible rfl)
            try simp only [Act.put, List.getElem_toArray, List.getElem_cons_zero, List.getElem_cons_succ, List.setIfInBounds_toArray, List.set_cons_zero, List.set_cons_succ]
            refine pt_q (v := ?_) (by rw [← HOP.out]; simp only [List.getElem?_toArray, List.getElem?_cons_zero, List.getElem?_cons_succ]; rfl) (by rw [← HOP.out]; kernel_rfl) ?_ ?_
            rotate_left
            · intro w' hBw'
              first | (go_simp; done) | (go_simp; with_reducible rfl)
            try simp only [Act.put, List.getElem_toArray, List.getElem_cons_zero, List.getElem_cons_succ, List.setIfInBounds_toArray, List.set_cons_zero, List.set_cons_succ]
            refine pt_load (by rw [← HOP.out]; simp only [List.getElem?_toArray, List.getElem?_cons_zero, List.getElem?_cons_succ]; rfl) (by rw [← HOP.out]; kernel_rfl) 38 (.tmp 64) rfl b (off + k * 8 + 1) (by kernel_rfl) (sgC s) _ hrSD (by omega) Try.underlying38 rfl (by kernel_rfl) ?_
            try simp only [Act.put, List.getElem_toArray, List.getElem_cons_zero, List.getElem_cons_succ, List.setIfInBounds_toArray, List.set_cons_zero, List.set_cons_succ]
            refine pt_q (v := ?_) (by rw [← HOP.out]; simp only [List.getElem?_toArray, List.getElem?_cons_zero, List.getElem?_cons_succ]; rfl) (by rw [← HOP.out]; kernel_rfl) ?_ ?_
            rotate_left
            · intro w' hBw'
              first | (go_simp; done) | (go_simp; with_reducible rfl)
            try simp only [Act.put, List.getElem_toArray, List.getElem_cons_zero, List.getElem_cons_succ, List.setIfInBounds_toArray, List.set_cons_zero, List.set_cons_succ]
            refine pt_q (v := ?_) (by rw [← HOP.out]; simp only [List.getElem?_toArray, List.getElem?_cons_zero, List.getElem?_cons_succ]; rfl) (by rw [← HOP.out]; kernel_rfl) ?_ ?_
            rotate_left
            · intro w' hBw'
              first | (go_simp; done) | (go_simp; with_reducible rfl)
            try simp only [Act.put, List.getElem_toArray, List.getElem_cons_zero, List.getElem_cons_succ, List.setIfInBounds_toArray, List.set_cons_zero, List.set_cons_succ]
            refine pt_q (v := ?_) (by rw [← HOP.out]; simp only [List.getElem?_toArray, List.getElem?_cons_zero, List.getElem?_cons_succ]; rfl) (by rw [← HOP.out]; kernel_rfl) ?_ ?_
            rotate_left
            · intro w' hBw'
              first | (go_simp; done) | (go_simp; with_reducible rfl)
            try simp only [Act.put, List.getElem_toArray, List.getElem_cons_zero, List.getElem_cons_succ, List.setIfInBounds_toArray, List.set_cons_zero, List.set_cons_succ]
            refine pt_q (v := ?_) (by rw [← HOP.out]; simp only [List.getElem?_toArray, List.getElem?_cons_zero, List.getElem?_cons_succ]; rfl) (by rw [← HOP.out]; kernel_rfl) ?_ ?_
            rotate_left
            · intro w' hBw'
              first | (go_simp; done) | (go_simp; with_reducible rfl)
            try simp only [Act.put, List.getElem_toArray, List.getElem_cons_zero, List.getElem_cons_succ, List.setIfInBounds_toArray, List.set_cons_zero, List.set_cons_succ]
            refine pt_q (v := ?_) (by rw [← HOP.out]; simp only [List.getElem?_toArray, List.getElem?_cons_zero, List.getElem?_cons_succ]; rfl) (by rw [← HOP.out]; kernel_rfl) ?_ ?_
            rotate_left
            · intro w' hBw'
              have qL := hBw'.cell hr7D (by omega)
              first | (go_simp; done) | (go_simp; with_reducible rfl)
            try simp only [Act.put, List.getElem_toArray, List.getElem_cons_zero, List.getElem_cons_succ, List.setIfInBounds_toArray, List.set_cons_zero, List.set_cons_succ]
            refine pt_c ?_
            refine pt_step (by rw [← HOP.out]; simp only [List.getElem?_toArray, List.getElem?_cons_zero, List.getElem?_cons_succ]; rfl) (by rw [← HOP.out]; kernel_rfl) (fun K hK => ?_)
            go_simp
            refine (seeAs (e := 2) (E' := E) s hwf u hc HE1.out _ hAD).mono ?_
            rintro en w7 ⟨rfl, hA7, hb7⟩
            go_wp2_with fail
            refine hK.out _ _ hb7 ?_
            clear hK K
            try simp only [Act.put, List.getElem_toArray, List.getElem_cons_zero, List.getElem_cons_succ, List.setIfInBounds_toArray, List.set_cons_zero, List.set_cons_succ]
            refine pt_q (v := ?_) (by rw [← HOP.out]; simp only [List.getElem?_toArray, List.getElem?_cons_zero, List.getElem?_cons_succ]; rfl) (by rw [← HOP.out]; kernel_rfl) ?_ ?_
            rotate_left
            · intro w' hBw'
              first | (go_simp; done) | (go_simp; with_reducible rfl)
            try simp only [Act.put, List.getElem_toArray, List.getElem_cons_zero, List.getElem_cons_succ, List.setIfInBounds_toArray, List.set_cons_zero, List.set_cons_succ]
            refine pt_done ?_
            have hZ7 := hZD.but hb7 (by omega) (by omega)
            have hG7 : SMap w7 w2.heap.size E := hGD.heap (hb7.same _ hGD.lt (by omega))
            have HB7 := Lib.hid (HBD.out.trans (hb7.below (fun j e => by omega) HBD.out.size))
            have HB7' := Lib.hid hb7
            clear hA hZ hG hb7 hAD hZD hGD
            go_wp2_with (go_at_call 8; refine (num_c _ _).mono ?_; rintro en ws ⟨rfl, rfl⟩)
            exact ⟨⟨k + 1, by omega, by go_num, by rw [HE3.out, HE2.out]; exact hA7, hZ7, by rw [HE3.out, HE2.out]; exact hG7, HB7.out⟩, by first | (simp [intOf]; done) | (simp [intOf]; omega)⟩
          | true =>
            rw [hh] at hl
            go_wp2_with (first
                  | (refine wpList_load_mid rfl 38 (.tmp 55) rfl b (off + k * 8 + 1) (by kernel_rfl) (sgC s) _ hrS Try.underlying38 rfl (by kernel_rfl) ?_)
                  | (refine wpList_look rfl 30 (.tmp 51) (.tmp 56) true rfl (mv := .map (some w2.heap.size)) (iv := sgV s) (by kernel_rfl) (by kernel_rfl) hl ?_))
            refine wp_region_ptL ((· = M1)) (.q 0 (.q 1 (.q 2 (.q 3 (.q 4 (.q 5 (.q 6 (.q 7 (.q 8 (.q 9 (.q 10 (.c 11 (.q 12 .done))))))))))))) (by kernel_rfl) (by kernel_rfl) (by kernel_rfl) (by decide) (fun _ _ d _ _ h => by cases d <;> exact h) (fun OPS HOP Wd hBd => ?_)
            try simp only [Act.put, List.getElem_toArray, List.getElem_cons_zero, List.getElem_cons_succ, List.setIfInBounds_toArray, List.set_cons_zero, List.set_cons_succ]
            have hrSD := rangeAt_up hBd hrS
            have hr7D := cell_up hBd hr7
            have hAD := hA.below hBd
            have hZD := hZ.below hBd
            have hGD := hG.heap (hBd.block _ hG.lt)
            have HBD := Lib.hid (below_up HB.out hBd)
            have HBD' := Lib.hid hBd
            clear hBd
            refine pt_q (v := ?_) (by rw [← HOP.out]; simp only [List.getElem?_toArray, List.getElem?_cons_zero, List.getElem?_cons_succ]; rfl) (by rw [← HOP.out]; kernel_rfl) ?_ ?_
            rotate_left
            · intro w' hBw'
              first | (go_simp; done) | (go_simp; with_reducible rfl)
            try simp only [Act.put, List.getElem_toArray, List.getElem_cons_zero, List.getElem_cons_succ, List.setIfInBounds_toArray, List.set_cons_zero, List.set_cons_succ]
            refine pt_q (v := ?_) (by rw [← HOP.out]; simp only [List.getElem?_toArray, List.getElem?_cons_zero, List.getElem?_cons_succ]; rfl) (by rw [← HOP.out]; kernel_rfl) ?_ ?_
            rotate_left
            · intro w' hBw'
              first | (go_simp; done) | (go_simp; with_reducible rfl)
            try simp only [Act.put, List.getElem_toArray, List.getElem_cons_zero, List.getElem_cons_succ, List.setIfInBounds_toArray, List.set_cons_zero, List.set_cons_succ]
            refine pt_q (v := ?_) (by rw [← HOP.out]; simp only [List.getElem?_toArray, List.getElem?_cons_zero, List.getElem?_cons_succ]; rfl) (by rw [← HOP.out]; kernel_rfl) ?_ ?_
            rotate_left
            · intro w' hBw'
              first | (go_simp; done) | (go_simp; with_reducible rfl)
            try simp only [Act.put, List.getElem_toArray, List.getElem_cons_zero, List.getElem_cons_succ, List.setIfInBounds_toArray, List.set_cons_zero, List.set_cons_succ]
            refine pt_q (v := ?_) (by rw [← HOP.out]; simp only [List.getElem?_toArray, List.getElem?_cons_zero, List.getElem?_cons_succ]; rfl) (by rw [← HOP.out]; kernel_rfl) ?_ ?_
            rotate_left
            · intro w' hBw'
              first | (go_simp; done) | (go_simp; with_reducible rfl)
            try simp only [Act.put, List.getElem_toArray, List.getElem_cons_zero, List.getElem_cons_succ, List.setIfInBounds_toArray, List.set_cons_zero, List.set_cons_succ]
            refine pt_q (v := ?_) (by rw [← HOP.out]; simp only [List.getElem?_toArray, List.getElem?_cons_zero, List.getElem?_cons_succ]; rfl) (by rw [← HOP.out]; kernel_rfl) ?_ ?_
            rotate_left
            · intro w' hBw'
              first | (go_simp; done) | (go_simp; with_reducible rfl)
            try simp only [Act.put, List.getElem_toArray, List.getElem_cons_zero, List.getElem_cons_succ, List.setIfInBounds_toArray, List.set_cons_zero, List.set_cons_succ]
            refine pt_load (by rw [← HOP.out]; simp only [List.getElem?_toArray, List.getElem?_cons_zero, List.getElem?_cons_succ]; rfl) (by rw [← HOP.out]; kernel_rfl) 38 (.tmp 64) rfl b (off + k * 8 + 1) (by kernel_rfl) (sgC s) _ hrSD (by omega) Try.underlying38 rfl (by kernel_rfl) ?_
            try simp only [Act.put, List.getElem_toArray, List.getElem_cons_zero, List.getElem_cons_succ, List.setIfInBounds_toArray, List.set_cons_zero, List.set_cons_succ]
            refine pt_q (v := ?_) (by rw [← HOP.out]; simp only [List.getElem?_toArray, List.getElem?_cons_zero, List.getElem?_cons_succ]; rfl) (by rw [← HOP.out]; kernel_rfl) ?_ ?_
            rotate_left
            · intro w' hBw'
              first | (go_simp; done) | (go_simp; with_reducible rfl)
            try simp only [Act.put, List.getElem_toArray, List.getElem_cons_zero, List.getElem_cons_succ, List.setIfInBounds_toArray, List.set_cons_zero, List.set_cons_succ]
            refine pt_q (v := ?_) (by rw [← HOP.out]; simp only [List.getElem?_toArray, List.getElem?_cons_zero, List.getElem?_cons_succ]; rfl) (by rw [← HOP.out]; kernel_rfl) ?_ ?_
            rotate_left
            · intro w' hBw'
              first | (go_simp; done) | (go_simp; with_reducible rfl)
            try simp only [Act.put, List.getElem_toArray, List.getElem_cons_zero, List.getElem_cons_succ, List.setIfInBounds_toArray, List.set_cons_zero, List.set_cons_succ]
            refine pt_q (v := ?_) (by rw [← HOP.out]; simp only [List.getElem?_toArray, List.getElem?_cons_zero, List.getElem?_cons_succ]; rfl) (by rw [← HOP.out]; kernel_rfl) ?_ ?_
            rotate_left
            · intro w' hBw'
              first | (go_simp; done) | (go_simp; with_reducible rfl)
            try simp only [Act.put, List.getElem_toArray, List.getElem_cons_zero, List.getElem_cons_succ, List.setIfInBounds_toArray, List.set_cons_zero, List.set_cons_succ]
            refine pt_q (v := ?_) (by rw [← HOP.out]; simp only [List.getElem?_toArray, List.getElem?_cons_zero, List.getElem?_cons_succ]; rfl) (by rw [← HOP.out]; kernel_rfl) ?_ ?_
            rotate_left
            · intro w' hBw'
              first | (go_simp; done) | (go_simp; with_reducible rfl)
            try simp only [Act.put, List.getElem_toArray, List.getElem_cons_zero, List.getElem_cons_succ, List.setIfInBounds_toArray, List.set_cons_zero, List.set_cons_succ]
            refine pt_q (v := ?_) (by rw [← HOP.out]; simp only [List.getElem?_toArray, List.getElem?_cons_zero, List.getElem?_cons_succ]; rfl) (by rw [← HOP.out]; kernel_rfl) ?_ ?_
            rotate_left
            · intro w' hBw'
              have qL := hBw'.cell hr7D (by omega)
              first | (go_simp; done) | (go_simp; with_reducible rfl)
            try simp only [Act.put, List.getElem_toArray, List.getElem_cons_zero, List.getElem_cons_succ, List.setIfInBounds_toArray, List.set_cons_zero, List.set_cons_succ]
            refine pt_c ?_
            refine pt_step (by rw [← HOP.out]; simp only [List.getElem?_toArray, List.getElem?_cons_zero, List.getElem?_cons_succ]; rfl) (by rw [← HOP.out]; kernel_rfl) (fun K hK => ?_)
            go_simp
            refine (seeAs (e := 2) (E' := E) s hwf u hc HE1.out _ hAD).mono ?_
            rintro en w7 ⟨rfl, hA7, hb7⟩
            go_wp2_with fail
            refine hK.out _ _ hb7 ?_
            clear hK K
            try simp only [Act.put, List.getElem_toArray, List.getElem_cons_zero, List.getElem_cons_succ, List.setIfInBounds_toArray, List.set_cons_zero, List.set_cons_succ]
            refine pt_q (v := ?_) (by rw [← HOP.out]; simp only [List.getElem?_toArray, List.getElem?_cons_zero, List.getElem?_cons_succ]; rfl) (by rw [← HOP.out]; kernel_rfl) ?_ ?_
            rotate_left
            · intro w' hBw'
              first | (go_simp; done) | (go_simp; with_reducible rfl)
            try simp only [Act.put, List.getElem_toArray, List.getElem_cons_zero, List.getElem_cons_succ, List.setIfInBounds_toArray, List.set_cons_zero, List.set_cons_succ]
            refine pt_done ?_
            have hZ7 := hZD.but hb7 (by omega) (by omega)
            have hG7 : SMap w7 w2.heap.size E := hGD.heap (hb7.same _ hGD.lt (by omega))
            have HB7 := Lib.hid (HBD.out.trans (hb7.below (fun j e => by omega) HBD.out.size))
            have HB7' := Lib.hid hb7
            clear hA hZ hG hb7 hAD hZD hGD
            go_wp2_with (go_at_call 8; refine (num_c _ _).mono ?_; rintro en ws ⟨rfl, rfl⟩)
            exact ⟨⟨k + 1, by omega, by go_num, by rw [HE3.out, HE2.out]; exact hA7, hZ7, by rw [HE3.out, HE2.out]; exact hG7, HB7.out⟩, by first | (simp [intOf]; done) | (simp [intOf]; omega)⟩
        · have HE1 := Lib.hid (show seeL 100 E s u = E by unfold seeL; rw [hc, if_neg (by decide)])
          have HE2 := Lib.hid (Hsuc.out.trans HE1.out)
          clear Hsuc
          rw [hh] at hl
          go_wp2_with (first
              | (refine wpList_load_mid rfl 38 (.tmp 55) rfl b (off + k * 8 + 1) (by kernel_rfl) (sgC s) _ hrS Try.underlying38 rfl (by kernel_rfl) ?_)
              | (refine wpList_look rfl 30 (.tmp 51) (.tmp 56) true rfl (mv := .map (some w2.heap.size)) (iv := sgV s) (by kernel_rfl) (by kernel_rfl) hl ?_))
          refine wp_region_ptL ((· = M1)) (.q 0 (.q 1 (.q 2 (.q 3 (.q 4 (.q 5 (.q 6 (.q 7 (.q 8 (.q 9 (.q 10 (.c 11 (.q 12 .done))))))))))))) (by kernel_rfl) (by kernel_rfl) (by kernel_rfl) (by decide) (fun _ _ d _ _ h => by cases d <;> exact h) (fun OPS HOP Wd hBd => ?_)
          try simp only [Act.put, List.getElem_toArray, List.getElem_cons_zero, List.getElem_cons_succ, List.setIfInBounds_toArray, List.set_cons_zero, List.set_cons_succ]
          have hrSD := rangeAt_up hBd hrS
          have hr7D := cell_up hBd hr7
          have hAD := hA.below hBd
          have hZD := hZ.below hBd
          have hGD := hG.heap (hBd.block _ hG.lt)
          have HBD := Lib.hid (below_up HB.out hBd)
          have HBD' := Lib.hid hBd
          clear hBd
          refine pt_q (v := ?_) (by rw [← HOP.out]; simp only [List.getElem?_toArray, List.getElem?_cons_zero, List.getElem?_cons_succ]; rfl) (by rw [← HOP.out]; kernel_rfl) ?_ ?_
          rotate_left
          · intro w' hBw'
            first | (go_simp; done) | (go_simp; with_reducible rfl)
          try simp only [Act.put, List.getElem_toArray, List.getElem_cons_zero, List.getElem_cons_succ, List.setIfInBounds_toArray, List.set_cons_zero, List.set_cons_succ]
          refine pt_q (v := ?_) (by rw [← HOP.out]; simp only [List.getElem?_toArray, List.getElem?_cons_zero, List.getElem?_cons_succ]; rfl) (by rw [← HOP.out]; kernel_rfl) ?_ ?_
          rotate_left
          · intro w' hBw'
            first | (go_simp; done) | (go_simp; with_reducible rfl)
          try simp only [Act.put, List.getElem_toArray, List.getElem_cons_zero, List.getElem_cons_succ, List.setIfInBounds_toArray, List.set_cons_zero, List.set_cons_succ]
          refine pt_q (v := ?_) (by rw [← HOP.out]; simp only [List.getElem?_toArray, List.getElem?_cons_zero, List.getElem?_cons_succ]; rfl) (by rw [← HOP.out]; kernel_rfl) ?_ ?_
          rotate_left
          · intro w' hBw'
            first | (go_simp; done) | (go_simp; with_reducible rfl)
          try simp only [Act.put, List.getElem_toArray, List.getElem_cons_zero, List.getElem_cons_succ, List.setIfInBounds_toArray, List.set_cons_zero, List.set_cons_succ]
          refine pt_q (v := ?_) (by rw [← HOP.out]; simp only [List.getElem?_toArray, List.getElem?_cons_zero, List.getElem?_cons_succ]; rfl) (by rw [← HOP.out]; kernel_rfl) ?_ ?_
          rotate_left
          · intro w' hBw'
            first | (go_simp; done) | (go_simp; with_reducible rfl)
          try simp only [Act.put, List.getElem_toArray, List.getElem_cons_zero, List.getElem_cons_succ, List.setIfInBounds_toArray, List.set_cons_zero, List.set_cons_succ]
          refine pt_q (v := ?_) (by rw [← HOP.out]; simp only [List.getElem?_toArray, List.getElem?_cons_zero, List.getElem?_cons_succ]; rfl) (by rw [← HOP.out]; kernel_rfl) ?_ ?_
          rotate_left
          · intro w' hBw'
            first | (go_simp; done) | (go_simp; with_reducible rfl)
          try simp only [Act.put, List.getElem_toArray, List.getElem_cons_zero, List.getElem_cons_succ, List.setIfInBounds_toArray, List.set_cons_zero, List.set_cons_succ]
          refine pt_load (by rw [← HOP.out]; simp only [List.getElem?_toArray, List.getElem?_cons_zero, List.getElem?_cons_succ]; rfl) (by rw [← HOP.out]; kernel_rfl) 38 (.tmp 64) rfl b (off + k * 8 + 1) (by kernel_rfl) (sgC s) _ hrSD (by omega) Try.underlying38 rfl (by kernel_rfl) ?_
          try simp only [Act.put, List.getElem_toArray, List.getElem_cons_zero, List.getElem_cons_succ, List.setIfInBounds_toArray, List.set_cons_zero, List.set_cons_succ]
          refine pt_q (v := ?_) (by rw [← HOP.out]; simp only [List.getElem?_toArray, List.getElem?_cons_zero, List.getElem?_cons_succ]; rfl) (by rw [← HOP.out]; kernel_rfl) ?_ ?_
          rotate_left
          · intro w' hBw'
            first | (go_simp; done) | (go_simp; with_reducible rfl)
          try simp only [Act.put, List.getElem_toArray, List.getElem_cons_zero, List.getElem_cons_succ, List.setIfInBounds_toArray, List.set_cons_zero, List.set_cons_succ]
          refine pt_q (v := ?_) (by rw [← HOP.out]; simp only [List.getElem?_toArray, List.getElem?_cons_zero, List.getElem?_cons_succ]; rfl) (by rw [← HOP.out]; kernel_rfl) ?_ ?_
          rotate_left
          · intro w' hBw'
            first | (go_simp; done) | (go_simp; with_reducible rfl)
          try simp only [Act.put, List.getElem_toArray, List.getElem_cons_zero, List.getElem_cons_succ, List.setIfInBounds_toArray, List.set_cons_zero, List.set_cons_succ]
          refine pt_q (v := ?_) (by rw [← HOP.out]; simp only [List.getElem?_toArray, List.getElem?_cons_zero, List.getElem?_cons_succ]; rfl) (by rw [← HOP.out]; kernel_rfl) ?_ ?_
          rotate_left
          · intro w' hBw'
            first | (go_simp; done) | (go_simp; with_reducible rfl)
          try simp only [Act.put, List.getElem_toArray, List.getElem_cons_zero, List.getElem_cons_succ, List.setIfInBounds_toArray, List.set_cons_zero, List.set_cons_succ]
          refine pt_q (v := ?_) (by rw [← HOP.out]; simp only [List.getElem?_toArray, List.getElem?_cons_zero, List.getElem?_cons_succ]; rfl) (by rw [← HOP.out]; kernel_rfl) ?_ ?_
          rotate_left
          · intro w' hBw'
            first | (go_simp; done) | (go_simp; with_reducible rfl)
          try simp only [Act.put, List.getElem_toArray, List.getElem_cons_zero, List.getElem_cons_succ, List.setIfInBounds_toArray, List.set_cons_zero, List.set_cons_succ]
          refine pt_q (v := ?_) (by rw [← HOP.out]; simp only [List.getElem?_toArray, List.getElem?_cons_zero, List.getElem?_cons_succ]; rfl) (by rw [← HOP.out]; kernel_rfl) ?_ ?_
          rotate_left
          · intro w' hBw'
            have qL := hBw'.cell hr7D (by omega)
            first | (go_simp; done) | (go_simp; with_reducible rfl)
          try simp only [Act.put, List.getElem_toArray, List.getElem_cons_zero, List.getElem_cons_succ, List.setIfInBounds_toArray, List.set_cons_zero, List.set_cons_succ]
          refine pt_c ?_
          refine pt_step (by rw [← HOP.out]; simp only [List.getElem?_toArray, List.getElem?_cons_zero, List.getElem?_cons_succ]; rfl) (by rw [← HOP.out]; kernel_rfl) (fun K hK => ?_)
          go_simp
          refine (seeAs (e := 150) (E' := E) s hwf u hc HE1.out _ hAD).mono ?_
          rintro en w7 ⟨rfl, hA7, hb7⟩
          go_wp2_with fail
          refine hK.out _ _ hb7 ?_
          clear hK K
          try simp only [Act.put, List.getElem_toArray, List.getElem_cons_zero, List.getElem_cons_succ, List.setIfInBounds_toArray, List.set_cons_zero, List.set_cons_succ]
          refine pt_q (v := ?_) (by rw [← HOP.out]; simp only [List.getElem?_toArray, List.getElem?_cons_zero, List.getElem?_cons_succ]; rfl) (by rw [← HOP.out]; kernel_rfl) ?_ ?_
          rotate_left
          · intro w' hBw'
            first | (go_simp; done) | (go_simp; with_reducible rfl)
          try simp only [Act.put, List.getElem_toArray, List.getElem_cons_zero, List.getElem_cons_succ, List.setIfInBounds_toArray, List.set_cons_zero, List.set_cons_succ]
          refine pt_done ?_
          have hZ7 := hZD.but hb7 (by omega) (by omega)
          have hG7 : SMap w7 w2.heap.size E := hGD.heap (hb7.same _ hGD.lt (by omega))
          have HB7 := Lib.hid (HBD.out.trans (hb7.below (fun j e => by omega) HBD.out.size))
          have HB7' := Lib.hid hb7
          clear hA hZ hG hb7 hAD hZD hGD
          go_wp2_with (go_at_call 8; refine (num_c _ _).mono ?_; rintro en ws ⟨rfl, rfl⟩)
          exact ⟨⟨k + 1, by omega, by go_num, by rw [HE3.out, HE2.out]; exact hA7, hZ7, by rw [HE3.out, HE2.out]; exact hG7, HB7.out⟩, by first | (simp [intOf]; done) | (simp [intOf]; omega)⟩
        · have HE1 := Lib.hid (show seeL 100 E s u = E ++ [(s, u)] by unfold seeL; rw [hc, if_pos rfl])
          have HE2 := Lib.hid (Hsuc.out.trans HE1.out)
          clear Hsuc
          rw [hh] at hl
          go_wp2_with (first
              | (refine wpList_load_mid rfl 38 (.tmp 55) rfl b (off + k * 8 + 1) (by kernel_rfl) (sgC s) _ hrS Try.underlying38 rfl (by kernel_rfl) ?_)
              | (refine wpList_look rfl 30 (.tmp 51) (.tmp 56) true rfl (mv := .map (some w2.heap.size)) (iv := sgV s) (by kernel_rfl) (by kernel_rfl) hl ?_))
          refine wp_region_ptL ((· = M1)) (.q 0 (.q 1 (.q 2 (.q 3 (.q 4 (.q 5 (.q 6 (.q 7 (.q 8 (.q 9 (.q 10 (.c 11 (.q 12 .done))))))))))))) (by kernel_rfl) (by kernel_rfl) (by kernel_rfl) (by decide) (fun _ _ d _ _ h => by cases d <;> exact h) (fun OPS HOP Wd hBd => ?_)
          try simp only [Act.put, List.getElem_toArray, List.getElem_cons_zero, List.getElem_cons_succ, List.setIfInBounds_toArray, List.set_cons_zero, List.set_cons_succ]
          have hrSD := rangeAt_up hBd hrS
          have hr7D := cell_up hBd hr7
          have hAD := hA.below hBd
          have hZD := hZ.below hBd
          have hGD := hG.heap (hBd.block _ hG.lt)
          have HBD := Lib.hid (below_up HB.out hBd)
          have HBD' := Lib.hid hBd
          clear hBd
          refine pt_q (v := ?_) (by rw [← HOP.out]; simp only [List.getElem?_toArray, List.getElem?_cons_zero, List.getElem?_cons_succ]; rfl) (by rw [← HOP.out]; kernel_rfl) ?_ ?_
          rotate_left
          · intro w' hBw'
            first | (go_simp; done) | (go_simp; with_reducible rfl)
          try simp only [Act.put, List.getElem_toArray, List.getElem_cons_zero, List.getElem_cons_succ, List.setIfInBounds_toArray, List.set_cons_zero, List.set_cons_succ]
          refine pt_q (v := ?_) (by rw [← HOP.out]; simp only [List.getElem?_toArray, List.getElem?_cons_zero, List.getElem?_cons_succ]; rfl) (by rw [← HOP.out]; kernel_rfl) ?_ ?_
          rotate_left
          · intro w' hBw'
            first | (go_simp; done) | (go_simp; with_reducible rfl)
          try simp only [Act.put, List.getElem_toArray, List.getElem_cons_zero, List.getElem_cons_succ, List.setIfInBounds_toArray, List.set_cons_zero, List.set_cons_succ]
          refine pt_q (v := ?_) (by rw [← HOP.out]; simp only [List.getElem?_toArray, List.getElem?_cons_zero, List.getElem?_cons_succ]; rfl) (by rw [← HOP.out]; kernel_rfl) ?_ ?_
          rotate_left
          · intro w' hBw'
            first | (go_simp; done) | (go_simp; with_reducible rfl)
          try simp only [Act.put, List.getElem_toArray, List.getElem_cons_zero, List.getElem_cons_succ, List.setIfInBounds_toArray, List.set_cons_zero, List.set_cons_succ]
          refine pt_q (v := ?_) (by rw [← HOP.out]; simp only [List.getElem?_toArray, List.getElem?_cons_zero, List.getElem?_cons_succ]; rfl) (by rw [← HOP.out]; kernel_rfl) ?_ ?_
          rotate_left
          · intro w' hBw'
            first | (go_simp; done) | (go_simp; with_reducible rfl)
          try simp only [Act.put, List.getElem_toArray, List.getElem_cons_zero, List.getElem_cons_succ, List.setIfInBounds_toArray, List.set_cons_zero, List.set_cons_succ]
          refine pt_q (v := ?_) (by rw [← HOP.out]; simp only [List.getElem?_toArray, List.getElem?_cons_zero, List.getElem?_cons_succ]; rfl) (by rw [← HOP.out]; kernel_rfl) ?_ ?_
          rotate_left
          · intro w' hBw'
            first | (go_simp; done) | (go_simp; with_reducible rfl)
          try simp only [Act.put, List.getElem_toArray, List.getElem_cons_zero, List.getElem_cons_succ, List.setIfInBounds_toArray, List.set_cons_zero, List.set_cons_succ]
          refine pt_load (by rw [← HOP.out]; simp only [List.getElem?_toArray, List.getElem?_cons_zero, List.getElem?_cons_succ]; rfl) (by rw [← HOP.out]; kernel_rfl) 38 (.tmp 64) rfl b (off + k * 8 + 1) (by kernel_rfl) (sgC s) _ hrSD (by omega) Try.underlying38 rfl (by kernel_rfl) ?_
          try simp only [Act.put, List.getElem_toArray, List.getElem_cons_zero, List.getElem_cons_succ, List.setIfInBounds_toArray, List.set_cons_zero, List.set_cons_succ]
          refine pt_q (v := ?_) (by rw [← HOP.out]; simp only [List.getElem?_toArray, List.getElem?_cons_zero, List.getElem?_cons_succ]; rfl) (by rw [← HOP.out]; kernel_rfl) ?_ ?_
          rotate_left
          · intro w' hBw'
            first | (go_simp; done) | (go_simp; with_reducible rfl)
          try simp only [Act.put, List.getElem_toArray, List.getElem_cons_zero, List.getElem_cons_succ, List.setIfInBounds_toArray, List.set_cons_zero, List.set_cons_succ]
          refine pt_q (v := ?_) (by rw [← HOP.out]; simp only [List.getElem?_toArray, List.getElem?_cons_zero, List.getElem?_cons_succ]; rfl) (by rw [← HOP.out]; kernel_rfl) ?_ ?_
          rotate_left
          · intro w' hBw'
            first | (go_simp; done) | (go_simp; with_reducible rfl)
          try simp only [Act.put, List.getElem_toArray, List.getElem_cons_zero, List.getElem_cons_succ, List.setIfInBounds_toArray, List.set_cons_zero, List.set_cons_succ]
          refine pt_q (v := ?_) (by rw [← HOP.out]; simp only [List.getElem?_toArray, List.getElem?_cons_zero, List.getElem?_cons_succ]; rfl) (by rw [← HOP.out]; kernel_rfl) ?_ ?_
          rotate_left
          · intro w' hBw'
            first | (go_simp; done) | (go_simp; with_reducible rfl)
          try simp only [Act.put, List.getElem_toArray, List.getElem_cons_zero, List.getElem_cons_succ, List.setIfInBounds_toArray, List.set_cons_zero, List.set_cons_succ]
          refine pt_q (v := ?_) (by rw [← HOP.out]; simp only [List.getElem?_toArray, List.getElem?_cons_zero, List.getElem?_cons_succ]; rfl) (by rw [← HOP.out]; kernel_rfl) ?_ ?_
          rotate_left
          · intro w' hBw'
            first | (go_simp; done) | (go_simp; with_reducible rfl)
          try simp only [Act.put, List.getElem_toArray, List.getElem_cons_zero, List.getElem_cons_succ, List.setIfInBounds_toArray, List.set_cons_zero, List.set_cons_succ]
          refine pt_q (v := ?_) (by rw [← HOP.out]; simp only [List.getElem?_toArray, List.getElem?_cons_zero, List.getElem?_cons_succ]; rfl) (by rw [← HOP.out]; kernel_rfl) ?_ ?_
          rotate_left
          · intro w' hBw'
            have qL := hBw'.cell hr7D (by omega)
            first | (go_simp; done) | (go_simp; with_reducible rfl)
          try simp only [Act.put, List.getElem_toArray, List.getElem_cons_zero, List.getElem_cons_succ, List.setIfInBounds_toArray, List.set_cons_zero, List.set_cons_succ]
          refine pt_c ?_
          refine pt_step (by rw [← HOP.out]; simp only [List.getElem?_toArray, List.getElem?_cons_zero, List.getElem?_cons_succ]; rfl) (by rw [← HOP.out]; kernel_rfl) (fun K hK => ?_)
          go_simp
          refine (seeAs (e := 0) (E' := E ++ [(s, u)]) s hwf u hc HE1.out _ hAD).mono ?_
          rintro en w7 ⟨rfl, hA7, hb7⟩
          go_wp2_with fail
          refine hK.out _ _ hb7 ?_
          clear hK K
          try simp only [Act.put, List.getElem_toArray, List.getElem_cons_zero, List.getElem_cons_succ, List.setIfInBounds_toArray, List.set_cons_zero, List.set_cons_succ]
          refine pt_q (v := ?_) (by rw [← HOP.out]; simp only [List.getElem?_toArray, List.getElem?_cons_zero, List.getElem?_cons_succ]; rfl) (by rw [← HOP.out]; kernel_rfl) ?_ ?_
          rotate_left
          · intro w' hBw'
            first | (go_simp; done) | (go_simp; with_reducible rfl)
          try simp only [Act.put, List.getElem_toArray, List.getElem_cons_zero, List.getElem_cons_succ, List.setIfInBounds_toArray, List.set_cons_zero, List.set_cons_succ]
          refine pt_done ?_
          have hZ7 := hZD.but hb7 (by omega) (by omega)
          have hG7 : SMap w7 w2.heap.size E := hGD.heap (hb7.same _ hGD.lt (by omega))
          have HB7 := Lib.hid (HBD.out.trans (hb7.below (fun j e => by omega) HBD.out.size))
          have HB7' := Lib.hid hb7
          clear hA hZ hG hb7 hAD hZD hGD
          go_wp2_with (go_at_call 8; refine (num_c _ _).mono ?_; rintro en ws ⟨rfl, rfl⟩)
          refine wp_region_ptL ((· = w2.heap.size)) (.q 0 (.q 1 (.q 2 (.q 3 (.q 4 (.q 5 (.q 6 (.q 7 (.q 8 (.q 9 (.q 10 (.c 11 .done)))))))))))) (by kernel_rfl) (by kernel_rfl) (by kernel_rfl) (by decide) (fun _ _ d _ _ h => by cases d <;> exact h) (fun OPS HOP Wd hBd => ?_)
          try simp only [Act.put, List.getElem_toArray, List.getElem_cons_zero, List.getElem_cons_succ, List.setIfInBounds_toArray, List.set_cons_zero, List.set_cons_succ]
          have hb7 := HB7'.out
          have hbX := hBd
          have hrSE : Wd.rangeAt b (off + k * 8 + 1) (sgC s) := rangeAt_up hbX (fun j v hj => hb7.cell (hrSD j v hj) (by omega))
          have hr7E := cell_up hbX (hb7.cell hr7D (by omega))
          have hA9 := hA7.below hbX
          have hZ9 := hZ7.below hbX
          have hG9 := hG7.heap (hbX.block _ hG7.lt)
          have HB9 := Lib.hid (below_up HB7.out hbX)
          obtain ⟨w9, hrun, hm9, hb9⟩ := sput hG9 hwf hh u
          clear hBd hbX hA7 hZ7 hG7 hb7
          refine pt_q (v := ?_) (by rw [← HOP.out]; simp only [List.getElem?_toArray, List.getElem?_cons_zero, List.getElem?_cons_succ]; rfl) (by rw [← HOP.out]; kernel_rfl) ?_ ?_
          rotate_left
          · intro w' hBw'
            first | (go_simp; done) | (go_simp; with_reducible rfl)
          try simp only [Act.put, List.getElem_toArray, List.getElem_cons_zero, List.getElem_cons_succ, List.setIfInBounds_toArray, List.set_cons_zero, List.set_cons_succ]
          refine pt_q (v := ?_) (by rw [← HOP.out]; simp only [List.getElem?_toArray, List.getElem?_cons_zero, List.getElem?_cons_succ]; rfl) (by rw [← HOP.out]; kernel_rfl) ?_ ?_
          rotate_left
          · intro w' hBw'
            first | (go_simp; done) | (go_simp; with_reducible rfl)
          try simp only [Act.put, List.getElem_toArray, List.getElem_cons_zero, List.getElem_cons_succ, List.setIfInBounds_toArray, List.set_cons_zero, List.set_cons_succ]
          refine pt_q (v := ?_) (by rw [← HOP.out]; simp only [List.getElem?_toArray, List.getElem?_cons_zero, List.getElem?_cons_succ]; rfl) (by rw [← HOP.out]; kernel_rfl) ?_ ?_
          rotate_left
          · intro w' hBw'
            first | (go_simp; done) | (go_simp; with_reducible rfl)
          try simp only [Act.put, List.getElem_toArray, List.getElem_cons_zero, List.getElem_cons_succ, List.setIfInBounds_toArray, List.set_cons_zero, List.set_cons_succ]
          refine pt_q (v := ?_) (by rw [← HOP.out]; simp only [List.getElem?_toArray, List.getElem?_cons_zero, List.getElem?_cons_succ]; rfl) (by rw [← HOP.out]; kernel_rfl) ?_ ?_
          rotate_left
          · intro w' hBw'
            first | (go_simp; done) | (go_simp; with_reducible rfl)
          try simp only [Act.put, List.getElem_toArray, List.getElem_cons_zero, List.getElem_cons_succ, List.setIfInBounds_toArray, List.set_cons_zero, List.set_cons_succ]
          refine pt_q (v := ?_) (by rw [← HOP.out]; simp only [List.getElem?_toArray, List.getElem?_cons_zero, List.getElem?_cons_succ]; rfl) (by rw [← HOP.out]; kernel_rfl) ?_ ?_
          rotate_left
          · intro w' hBw'
            first | (go_simp; done) | (go_simp; with_reducible rfl)
          try simp only [Act.put, List.getElem_toArray, List.getElem_cons_zero, List.getElem_cons_succ, List.setIfInBounds_toArray, List.set_cons_zero, List.set_cons_succ]
          refine pt_load (by rw [← HOP.out]; simp only [List.getElem?_toArray, List.getElem?_cons_zero, List.getElem?_cons_succ]; rfl) (by rw [← HOP.out]; kernel_rfl) 38 (.tmp 109) rfl b (off + k * 8 + 1) (by kernel_rfl) (sgC s) _ hrSE (by omega) Try.underlying38 rfl (by kernel_rfl) ?_
          try simp only [Act.put, List.getElem_toArray, List.getElem_cons_zero, List.getElem_cons_succ, List.setIfInBounds_toArray, List.set_cons_zero, List.set_cons_succ]
          refine pt_q (v := ?_) (by rw [← HOP.out]; simp only [List.getElem?_toArray, List.getElem?_cons_zero, List.getElem?_cons_succ]; rfl) (by rw [← HOP.out]; kernel_rfl) ?_ ?_
          rotate_left
          · intro w' hBw'
            first | (go_simp; done) | (go_simp; with_reducible rfl)
          try simp only [Act.put, List.getElem_toArray, List.getElem_cons_zero, List.getElem_cons_succ, List.setIfInBounds_toArray, List.set_cons_zero, List.set_cons_succ]
          refine pt_q (v := ?_) (by rw [← HOP.out]; simp only [List.getElem?_toArray, List.getElem?_cons_zero, List.getElem?_cons_succ]; rfl) (by rw [← HOP.out]; kernel_rfl) ?_ ?_
          rotate_left
          · intro w' hBw'
            first | (go_simp; done) | (go_simp; with_reducible rfl)
          try simp only [Act.put, List.getElem_toArray, List.getElem_cons_zero, List.getElem_cons_succ, List.setIfInBounds_toArray, List.set_cons_zero, List.set_cons_succ]
          refine pt_q (v := ?_) (by rw [← HOP.out]; simp only [List.getElem?_toArray, List.getElem?_cons_zero, List.getElem?_cons_succ]; rfl) (by rw [← HOP.out]; kernel_rfl) ?_ ?_
          rotate_left
          · intro w' hBw'
            first | (go_simp; done) | (go_simp; with_reducible rfl)
          try simp only [Act.put, List.getElem_toArray, List.getElem_cons_zero, List.getElem_cons_succ, List.setIfInBounds_toArray, List.set_cons_zero, List.set_cons_succ]
          refine pt_q (v := ?_) (by rw [← HOP.out]; simp only [List.getElem?_toArray, List.getElem?_cons_zero, List.getElem?_cons_succ]; rfl) (by rw [← HOP.out]; kernel_rfl) ?_ ?_
          rotate_left
          · intro w' hBw'
            first | (go_simp; done) | (go_simp; with_reducible rfl)
          try simp only [Act.put, List.getElem_toArray, List.getElem_cons_zero, List.getElem_cons_succ, List.setIfInBounds_toArray, List.set_cons_zero, List.set_cons_succ]
          refine pt_q (v := ?_) (by rw [← HOP.out]; simp only [List.getElem?_toArray, List.getElem?_cons_zero, List.getElem?_cons_succ]; rfl) (by rw [← HOP.out]; kernel_rfl) ?_ ?_
          rotate_left
          · intro w' hBw'
            have qL := hBw'.cell hr7E (by omega)
            first | (go_simp; done) | (go_simp; with_reducible rfl)
          try simp only [Act.put, List.getElem_toArray, List.getElem_cons_zero, List.getElem_cons_succ, List.setIfInBounds_toArray, List.set_cons_zero, List.set_cons_succ]
          refine pt_c ?_
          refine pt_put (by rw [← HOP.out]; simp only [List.getElem?_toArray, List.getElem?_cons_zero, List.getElem?_cons_succ]; rfl) (by rw [← HOP.out]; kernel_rfl) 30 (.tmp 105) (.tmp 110) (.tmp 115) rfl (mv := .map (some w2.heap.size)) (xv := sgV s) (yv := .int .u64 u) (by kernel_rfl) (by kernel_rfl) (by kernel_rfl) hrun hb9 ?_
          try simp only [Act.put, List.getElem_toArray, List.getElem_cons_zero, List.getElem_cons_succ, List.setIfInBounds_toArray, List.set_cons_zero, List.set_cons_succ]
          refine pt_done ?_
          have hA10 := hA9.but hb9 (by omega) (by omega)
          have hZ10 := hZ9.but hb9 (by omega) (by omega)
          have HB10 := Lib.hid (HB9.out.trans (hb9.below (fun j e => by omega) HB9.out.size))
          go_wp2
          exact ⟨⟨k + 1, by omega, by go_num, by rw [HE3.out, HE2.out]; exact hA10, hZ10, by rw [HE3.out, HE2.out]; exact hm9, HB10.out⟩, by first | (simp [intOf]; done) | (simp [intOf]; omega)⟩
      · have hkn2 : ¬ (k : Int) < (n : Int) := by omega
        have hall : l.take k = l := List.take_of_length_le (by rw [Hln.out]; omega)
        rw [hall] at hA hG
        have HEo := Lib.hid (show EOk l (eAll l) by have := eAll_ok l k (by rw [Hln.out]; exact hk); rwa [hall] at this)
        have HEl := Lib.hid (show (eAll l).length < 100 by have := HEo.out.len; have := Hln.out; omega)
        generalize eAll l = E at *
        clear hall hT3 hT4 hF
        go_wp2
        go_loopw [14] (fun i wr => ∃ (j : Nat) (z : Int), j ≤ n ∧ i = .int .i64 z ∧ RowKit.Hid (z = (j : Int) - 1) ∧ Tab wr T1 M1 100 E ∧ Tab wr T2 M2 100 (oAll E (l.drop j)) ∧ SMap wr w2.heap.size E ∧ Below w.heap.size w wr) (fun i _ => (intOf i + 1).toNat)
        case atStart => exact ⟨n, _, Nat.le_refl _, by first | rfl | go_num, Lib.hid rfl, hA, by rw [List.drop_of_length_le (by rw [Hln.out]; exact Nat.le_refl _)]; exact hZ, hG, hB⟩
        case round =>
          obtain ⟨j, z, hj, rfl, Hz, hA1, hZ1, hG1, hB1⟩ := hrel
          rcases j with _ | m
          · obtain rfl : z = -1 := by have := Hz.out; omega
            have HO := Lib.hid (oAll_ok HEo.out HEl.out l)
            rw [List.drop_zero] at hZ1
            generalize oAll E l = O at *
            have HEQ := Lib.hid (eq_all HEo.out HO.out)
            have HB2 := Lib.hid hB1
            have hsm := seSame_c _ hA1 hZ1
            rw [HEQ.out] at hsm
            simp only [decide_true, Bool.and_true] at hsm
            clear hA hZ hG hB hB1 Hz hZ1 hlt hkn2
            go_wp2_with (first
              | (go_at_call 10; refine hsm.mono ?_; rintro en w8 ⟨rfl, hb8⟩; have hA8 := hA1.below hb8; have hG8 : SMap w8 w2.heap.size E := hG1.heap (hb8.block _ hG1.lt); have HB8 := Lib.hid (below_up HB2.out hb8); have hpr := sePrune_c at_ w8 hA8; clear hA1 hG1 hb8 hsm)
              | (go_at_call 11; refine hpr.mono ?_; rintro en w9 ⟨rfl, hA9, hb9⟩; have hG9 : SMap w9 w2.heap.size E := hG8.heap (hb9.same _ hG8.lt (by omega)); have HB9 := Lib.hid (HB8.out.trans (hb9.below (fun j e => by omega) HB8.out.size)); clear hb9 hpr hA8 hG8))
            obtain ⟨qe, hqe⟩ : ∃ q : Int, (E.length : Int) - (left E at_).length = q := ⟨_, rfl⟩
            have HQE := Lib.hid hqe
            rw [hqe]
            clear hqe
            have HEL2 := Lib.hid (show E.length ≤ 4096 by have := HEl.out; omega)
            go_loopw [19, 20] (fun g i wr => ∃ (k : Nat) (q : Int), k ≤ n ∧ g = .int .i64 q ∧ i = .int .i64 k ∧ RowKit.Hid (q = (E.length : Int) - (gAll E at_ (l.take k)).length ∧ 0 ≤ q ∧ q ≤ 4096) ∧ Tab wr T1 M1 100 (left E at_) ∧ SMap wr w2.heap.size (gAll E at_ (l.take k)) ∧ Below w.heap.size w wr) (fun _ i _ => n - (intOf i).toNat)
            case atStart => exact ⟨0, 0, Nat.zero_le _, rfl, rfl, Lib.hid ⟨by rw [List.take_zero, gAll_start]; omega, by omega, by omega⟩, hA9, by rw [List.take_zero, gAll_start]; exact hG9, HB9.out⟩
            case round =>
              obtain ⟨k, q, hk, rfl, rfl, HQ, hA, hG, hB⟩ := hrel
              by_cases hlt : k < n
              · have hlt' : k < l.length := by rw [Hln.out]; exact hlt
                have hkn : (k : Int) < (n : Int) := by omega
                obtain ⟨b, off, rfl, hr⟩ := (hv.up hB).rec_at (cells := acC) (sz := 8) (fun _ => rfl) hlt hlt'
                have hwf := HWF.out l[k] (List.getElem_mem hlt')
                have HTK := Lib.hid (show l.take (k + 1) = l.take k ++ [l[k]] from List.take_succ_eq_append_getElem hlt')
                have HQL := Lib.hid (show (gAll E at_ (l.take k)).length ≤ E.length from List.length_filter_le _ _)
                obtain ⟨ac, hac⟩ : ∃ x, l[k] = x := ⟨_, rfl⟩
                rw [hac] at hr hwf HTK
                clear hac
                obtain ⟨wh, s, u⟩ := ac
                simp only at hwf
                have hrS := ac_sight hr
                have hl := slook hG hwf true
                simp only [if_true] at hl
                have HB := Lib.hid hB
                clear hB
                cases hh : hasB (gAll E at_ (l.take k)) s with
                | false =>
                  have HS := Lib.hid (gAll_stay HEo.out (at_ := at_) (bs := l.take k) ⟨wh, s, u⟩ (fun h => by simp only at h; rw [hh] at h; cases h))
                  rw [hh] at hl
                  have hhas := seHas_c s hwf _ hA
                  generalize lk (gAll E at_ (l.take k)) s = x1 at *
                  generalize lk (left E at_) s = x2 at *
                  generalize hasB (left E at_) s = x3 at *
                  go_wp2_with (first
                    | (refine wpList_load_mid rfl 38 (.tmp 163) rfl b (off + k * 8 + 1) (by kernel_rfl) (sgC s) _ hrS Try.underlying38 rfl (by kernel_rfl) ?_)
                    | (refine wpList_load_mid rfl 38 (.tmp 173) rfl b (off + k * 8 + 1) (by kernel_rfl) (sgC s) _ hrS Try.underlying38 rfl (by kernel_rfl) ?_)
                    | (refine wpList_look rfl 30 (.tmp 159) (.tmp 164) true rfl (mv := .map (some w2.heap.size)) (iv := sgV s) (by kernel_rfl) (by kernel_rfl) hl ?_)
                    | (go_at_call 12; refine hhas.mono ?_; rintro en w7 ⟨rfl, hb7⟩))
                  exact ⟨⟨k + 1, q, by omega, rfl, by go_num, by rw [HTK.out, HS.out]; exact HQ, hA.below hb7, by rw [HTK.out, HS.out]; exact hG.heap (hb7.block _ hG.lt), below_up HB.out hb7⟩, by first | (simp [intOf]; done) | (simp [intOf]; omega)⟩
                | true =>
                  obtain ⟨g1, g2, g3⟩ := gAll_lk HEo.out hh
                  rw [hh, g1] at hl
                  have hhas := seHas_c s hwf _ hA
                  rw [g3] at hhas
                  have HG2 := Lib.hid g2
                  clear g1 g2 g3
                  obtain ⟨u2, hu2⟩ : ∃ x, lk E s = x := ⟨_, rfl⟩
                  have HU2 := Lib.hid hu2
                  rw [hu2] at hl hhas HG2
                  clear hu2
                  generalize lk (left E at_) s = x2 at *
                  by_cases hle : u2 ≤ at_
                  · have hgt : ¬ at_ < u2 := by omega
                    rw [decide_eq_false hgt] at hhas
                    obtain ⟨A, B, hAB⟩ := List.append_of_mem HG2.out
                    have HS := Lib.hid (gAll_gone HEo.out (at_ := at_) (bs := l.take k) ⟨wh, s, u⟩ (by show lk E s ≤ at_; rw [HU2.out]; exact hle) (by show _ = A ++ (s, lk E s) :: B; rw [HU2.out]; exact hAB))
                    have HLA := Lib.hid (show (gAll E at_ (l.take k)).length = A.length + B.length + 1 by rw [hAB]; simp; omega)
                    have hG' := hG
                    rw [hAB] at hG'
                    have hq0 := HQ.out.2.1
                    have hq1 : q < 4096 := by have h1 := HQ.out.1; have h2 := HLA.out; have h3 := HEL2.out; omega
                    clear hAB hG
                    go_wp2_with (first
                      | (refine wpList_load_mid rfl 38 (.tmp 163) rfl b (off + k * 8 + 1) (by kernel_rfl) (sgC s) _ hrS Try.underlying38 rfl (by kernel_rfl) ?_)
                      | (refine wpList_load_mid rfl 38 (.tmp 173) rfl b (off + k * 8 + 1) (by kernel_rfl) (sgC s) _ hrS Try.underlying38 rfl (by kernel_rfl) ?_)
                      | (refine wpList_load_mid rfl 38 (.tmp 198) rfl b (off + k * 8 + 1) (by kernel_rfl) (sgC s) _ hrS7 Try.underlying38 rfl (by kernel_rfl) ?_)
                      | (refine wpList_look rfl 30 (.tmp 159) (.tmp 164) true rfl (mv := .map (some w2.heap.size)) (iv := sgV s) (by kernel_rfl) (by kernel_rfl) hl ?_)
                      | (refine wpList_del rfl 30 38 (.tmp 194) (.tmp 199) rfl (mv := .map (some w2.heap.size)) (xv := sgV s) (by kernel_rfl) (by kernel_rfl) hdel ?_)
                      | (go_at_call 12; refine hhas.mono ?_; rintro en w7 ⟨rfl, hb7⟩; have hrS7 := rangeAt_up hb7 hrS; have hG7 := hG'.heap (hb7.block _ hG'.lt); obtain ⟨w10, hdel, hm10, hb10⟩ := sdel (p := (s, u2)) hG7 hwf 38 0; have hA10 := (hA.below hb7).but hb10 (by omega) (by omega); have HB10 := Lib.hid ((below_up HB.out hb7).trans (hb10.below (fun j e => by omega) (below_up HB.out hb7).size)); clear hA hG' hb10))
                    exact ⟨⟨k + 1, q + 1, by omega, by go_num, by go_num, Lib.hid ⟨by rw [HTK.out, HS.out]; have h1 := HQ.out.1; have h2 := HLA.out; rw [List.length_append]; omega, by omega, by omega⟩, hA10, by rw [HTK.out, HS.out]; exact hm10, HB10.out⟩, by first | (simp [intOf]; done) | (simp [intOf]; omega)⟩
                  · have hgt : at_ < u2 := by omega
                    rw [decide_eq_true hgt] at hhas
                    have HS := Lib.hid (gAll_stay HEo.out (at_ := at_) (bs := l.take k) ⟨wh, s, u⟩ (fun h => by show ¬ lk E s ≤ at_; rw [HU2.out]; exact hle))
                    go_wp2_with (first
                      | (refine wpList_load_mid rfl 38 (.tmp 163) rfl b (off + k * 8 + 1) (by kernel_rfl) (sgC s) _ hrS Try.underlying38 rfl (by kernel_rfl) ?_)
                      | (refine wpList_load_mid rfl 38 (.tmp 173) rfl b (off + k * 8 + 1) (by kernel_rfl) (sgC s) _ hrS Try.underlying38 rfl (by kernel_rfl) ?_)
                      | (refine wpList_look rfl 30 (.tmp 159) (.tmp 164) true rfl (mv := .map (some w2.heap.size)) (iv := sgV s) (by kernel_rfl) (by kernel_rfl) hl ?_)
                      | (go_at_call 12; refine hhas.mono ?_; rintro en w7 ⟨rfl, hb7⟩))
                    exact ⟨⟨k + 1, q, by omega, rfl, by go_num, by rw [HTK.out, HS.out]; exact HQ, hA.below hb7, by rw [HTK.out, HS.out]; exact hG.heap (hb7.block _ hG.lt), below_up HB.out hb7⟩, by first | (simp [intOf]; done) | (simp [intOf]; omega)⟩
              · have hkn : ¬ (k : Int) < (n : Int) := by omega
                have hall : l.take k = l := List.take_of_length_le (by rw [Hln.out]; omega)
                have h1 := HQ.out.1
                rw [hall, gAll_end HEo.out, HQE.out] at h1
                subst h1
                have HB := Lib.hid hB
                clear hA hG hB hall
                go_wp2_with (first
                  | (go_at_call 8; refine (num_c _ _).mono ?_; rintro en ws ⟨rfl, rfl⟩)
                  | (go_at_call 6; refine (seWorks_c _).mono ?_; rintro en wz ⟨rfl, hbz⟩))
                go_ret
                exact ⟨rfl, below_up HB.out hbz⟩
          · obtain rfl : z = (m : Int) := by have := Hz.out; omega
            have hlt : m < n := by omega
            have hlt' : m < l.length := by rw [Hln.out]; exact hlt
            have hmn : (m : Int) < (n : Int) := by omega
            obtain ⟨b, off, rfl, hr⟩ := (hv.up hB1).rec_at (cells := acC) (sz := 8) (fun _ => rfl) hlt hlt'
            have hwf := HWF.out l[m] (List.getElem_mem hlt')
            have Hsuc := Lib.hid (oAll_drop (E := E) hlt')
            have HO := Lib.hid (oAll_ok HEo.out HEl.out (l.drop (m + 1)))
            generalize oAll E (l.drop (m + 1)) = O at *
            obtain ⟨O', hO'⟩ : ∃ x, oAll E (l.drop m) = x := ⟨_, rfl⟩
            have HO3 := Lib.hid hO'
            rw [hO'] at Hsuc
            clear hO'
            generalize l[m] = ac at *
            obtain ⟨wh, s, u⟩ := ac
            simp only at hwf Hsuc
            have hrS := ac_sight hr
            have hl := slook hG1 hwf true
            simp only [if_true] at hl
            have HB := Lib.hid hB1
            have HZ := Lib.hid Hz
            clear hA hZ hG hB hB1 Hz
            cases hh : hasB E s with
            | false =>
              have HO' := Lib.hid (show O' = O by rw [Hsuc.out]; unfold oStep; rw [hh]; rfl)
              rw [hh] at hl
              go_wp2_with (first
                | (refine wpList_load_mid rfl 38 (.tmp 128) rfl b (off + m * 8 + 1) (by kernel_rfl) (sgC s) _ hrS Try.underlying38 rfl (by kernel_rfl) ?_)
                | (refine wpList_look rfl 30 (.tmp 124) (.tmp 129) true rfl (mv := .map (some w2.heap.size)) (iv := sgV s) (by kernel_rfl) (by kernel_rfl) hl ?_))
              exact ⟨⟨m, (m : Int) - 1, by omega, by go_num, Lib.hid rfl, hA1, by rw [HO3.out, HO'.out]; exact hZ1, hG1, HB.out⟩, by first | (simp [intOf]; done) | (simp [intOf]; omega)⟩
            | true =>
              have HO' := Lib.hid (show O' = seeL 100 O s (lk E s) by rw [Hsuc.out]; unfold oStep; rw [hh]; rfl)
              rw [hh] at hl
              generalize lk E s = u2 at *
              go_wp2_with (first
                | (refine wpList_load_mid rfl 38 (.tmp 128) rfl b (off + m * 8 + 1) (by kernel_rfl) (sgC s) _ hrS Try.underlying38 rfl (by kernel_rfl) ?_)
                | (refine wpList_load_mid rfl 38 (.tmp 138) rfl b (off + m * 8 + 1) (by kernel_rfl) (sgC s) _ hrS Try.underlying38 rfl (by kernel_rfl) ?_)
                | (refine wpList_look rfl 30 (.tmp 124) (.tmp 129) true rfl (mv := .map (some w2.heap.size)) (iv := sgV s) (by kernel_rfl) (by kernel_rfl) hl ?_)
                | (go_at_call 9; refine (see_c s hwf u2 _ hZ1).mono ?_; rintro en w7 ⟨rfl, hZ7, hb7⟩))
              have hA7 := hA1.but hb7 (by omega) (by omega)
              have hG7 : SMap w7 w2.heap.size E := hG1.heap (hb7.same _ hG1.lt (by omega))
              have HB7 := Lib.hid (HB.out.trans (hb7.below (fun j e => by omega) HB.out.size))
              clear hb7
              exact ⟨⟨m, (m : Int) - 1, by omega, by go_num, Lib.hid rfl, hA7, by rw [HO3.out, HO'.out]; exact hZ7, hG7, HB7.out⟩, by first | (simp [intOf]; done) | (simp [intOf]; omega)⟩
end Go.Proofs.Ytfoncaamhleckaa
