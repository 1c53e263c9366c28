/-
  Contracts of slices.Equal at what waits; of Same.
-/
import Derived.Test.YtekpjbablcoahaaDiskL
namespace Go.Proofs.Ytekpjbablcoahaa
open Go.RowKit Go.Maps Dk
set_option linter.unusedSimpArgs false
set_option linter.unusedVariables false

theorem exec_putneq (p q : Int × Sec) {ρ : Operand → Value} {o : Oper} {x y : Operand} {t : TypeId} (ho : o.op = .binOp .neq 78 x y t) (hx : ρ x = putV p) (hy : ρ y = putV q) (w : World) :
    (execOp ρ o).run Try.prog w = .ok (.value (.bool (!decide (p = q)))) w := by
  unfold execOp
  simp only [ho, hx, hy]
  have h := put_neql p q w
  have hg : (eqGuard .neq 78 x y (putV p) (putV q)).run Try.prog w = .ok () w := run_eqGuard_agg w .neq 78 x y _ _ (by kernel_rfl)
  simp only [Sem.run_bind, hg, Result.andThen_ok, h]
  rfl
theorem exec_secneq (p q : Sec) {ρ : Operand → Value} {o : Oper} {x y : Operand} {t : TypeId} (ho : o.op = .binOp .neq 76 x y t) (hx : ρ x = secV p) (hy : ρ y = secV q) (w : World) :
    (execOp ρ o).run Try.prog w = .ok (.value (.bool (!decide (p = q)))) w := by
  unfold execOp
  simp only [ho, hx, hy]
  have h := sec_neql p q w
  have hg : (eqGuard .neq 76 x y (secV p) (secV q)).run Try.prog w = .ok () w := run_eqGuard_agg w .neq 76 x y _ _ (by kernel_rfl)
  simp only [Sem.run_bind, hg, Result.andThen_ok, h]
  rfl
theorem exec_cteq {l m : Int} {b : Bool} {ρ : Operand → Value} {o : Oper} {x y : Operand} {t : TypeId} (ho : o.op = .binOp .eql 66 x y t) (hx : ρ x = .agg #[.int .i64 l]) (hy : ρ y = .agg #[.int .i64 m]) (hb : decide (l = m) = b) (w : World) :
    (execOp ρ o).run Try.prog w = .ok (.value (.bool b)) w := by
  subst hb
  unfold execOp
  simp only [ho, hx, hy]
  by_cases h : l = m
  · subst h; simp [go_sem]
  · simp [go_sem, h]
theorem exec_inteq {l m : Int} {b : Bool} {ρ : Operand → Value} {o : Oper} {x y : Operand} {t : TypeId} (ho : o.op = .binOp .eql 3 x y t) (hx : ρ x = .int .i64 l) (hy : ρ y = .int .i64 m) (hb : decide (l = m) = b) (w : World) :
    (execOp ρ o).run Try.prog w = .ok (.value (.bool b)) w := by
  subst hb
  unfold execOp
  simp only [ho, hx, hy]
  by_cases h : l = m
  · subst h; simp [go_sem]
  · simp [go_sem, h]
set_option maxHeartbeats 4000000 in
set_option maxRecDepth 100000 in
theorem dEqual_c (l m : List (Int × Sec)) (v u : Value) (n k : Nat) (w : World) (hv : Sl w 65 v n (l.flatMap putC)) (hu : Sl w 65 u k (m.flatMap putC)) :
    Calls Try.prog 38 #[v, u] w (Ret (.bool (decide (l = m))) w) := by
  have hln : l.length = n := Sl.recs (cells := putC) (sz := 65) (fun p => putC_len p) (by decide) hv
  have hmk : m.length = k := Sl.recs (cells := putC) (sz := 65) (fun p => putC_len p) (by decide) hu
  have hnm := hv.n_max
  obtain ⟨a, c, rfl⟩ := hv.len
  obtain ⟨a', c', rfl⟩ := hu.len
  by_cases hnk : n = k
  · subst hnk
    have Hln := Lib.hid hln; clear hln
    have Hmk := Lib.hid hmk; clear hmk
    go_enter Try.func38, Try.ntmps38
    go_wp2
    go_loopw [13] (fun i wr => ∃ j : Nat, j ≤ n ∧ i = .int .i64 j ∧ l.take j = m.take j ∧ Below w.heap.size w wr) (fun i _ => n - (intOf i).toNat)
    case atStart => exact ⟨0, Nat.zero_le _, rfl, rfl, Below.refl _ _⟩
    case round =>
      obtain ⟨j, hj, rfl, hpre, hB⟩ := hrel
      have Hpre := Lib.hid hpre; clear hpre
      by_cases hlt : j < n
      · have h1 : j < l.length := by rw [Hln.out]; exact hlt
        have h2 : j < m.length := by rw [Hmk.out]; exact hlt
        obtain ⟨b, off, rfl, hr⟩ := (hv.up hB).rec_at (cells := putC) (sz := 65) (fun p => putC_len p) hlt h1
        obtain ⟨b', off', rfl, hr'⟩ := (hu.up hB).rec_at (cells := putC) (sz := 65) (fun p => putC_len p) hlt h2
        have hj0 : (0 : Int) ≤ ↑j := by omega
        have hjn : (↑j : Int) < ↑n := by omega
        obtain ⟨p, hp⟩ : ∃ p, l[j] = p := ⟨_, rfl⟩
        obtain ⟨q, hq⟩ : ∃ q, m[j] = q := ⟨_, rfl⟩
        rw [hp] at hr
        rw [hq] at hr'
        have Hp := Lib.hid hp
        have Hq := Lib.hid hq
        clear hp hq
        go_wp2
        refine wp_still_tail 8 (by kernel_rfl) (by kernel_rfl) ?_
        simp only [List.take_succ_cons, List.take_zero, List.drop_succ_cons, List.drop_zero]
        still_step
        still_step
        still_step
        refine still_load rfl 78 (.tmp 18) rfl b (off + j * 65) rfl (putC p) _ (rangeAt_up (below_drew wr) hr) Try.underlying78 rfl (put_info p) ?_
        still_step
        still_step
        still_step
        refine still_load rfl 78 (.tmp 22) rfl b' (off' + j * 65) rfl (putC q) _ (rangeAt_up (below_drew wr) hr') Try.underlying78 rfl (put_info q) ?_
        refine wpStill_nil ?_
        refine wpList_valG (by rfl) (exec_putneq p q rfl rfl rfl _) ?_
        by_cases he : p = q
        · have He := Lib.hid he
          rw [decide_eq_true he]
          clear he
          go_wp2
          go_roundw
          case rel => exact ⟨j + 1, by omega, by go_num, by rw [List.take_succ_eq_append_getElem h1, List.take_succ_eq_append_getElem h2, Hpre.out, Hp.out, Hq.out, He.out], below_up hB (below_drew wr)⟩
          case measure => simp [intOf]; omega
        · have hne : l ≠ m := by
            intro h; subst h
            exact he (by rw [← Hp.out, ← Hq.out])
          have Hne := Lib.hid hne
          rw [decide_eq_false he]
          clear he hne
          go_wp2
          go_ret
          exact ⟨retB (Eq.symm (decide_eq_false Hne.out)), below_up hB (below_drew wr)⟩
      · obtain rfl : j = n := by omega
        have hlm : l = m := by
          have := Hpre.out
          rwa [List.take_of_length_le (by rw [Hln.out]; omega), List.take_of_length_le (by rw [Hmk.out]; omega)] at this
        have Hlm := Lib.hid hlm; clear hlm
        go_wp2
        go_ret
        exact ⟨retB (Eq.symm (decide_eq_true Hlm.out)), hB⟩
  · have hne : l ≠ m := by intro h; subst h; omega
    have Hne := Lib.hid hne; clear hne
    have hd : ((n : Int) != (k : Int)) = true := by simp; omega
    have hd2 : (n != k) = true := by simp; omega
    clear hnk
    go_enter Try.func38, Try.ntmps38
    go_wp2
    go_ret
    exact ⟨retB (Eq.symm (decide_eq_false Hne.out)), Below.refl _ _⟩

/-- Are two disks the same? -/
def Dk.sameB (a b : Disk) : Bool := ((List.range a.many.toNat).all fun i => decide (lie a.E (i : Int) = lie b.E (i : Int))) && (decide (a.many = b.many) && (decide (a.left = b.left) && decide (a.W = b.W)))
set_option maxRecDepth 100000 in
theorem dSameNil_c {B M : Nat} {u : Value} {d : Disk} (w : World) (h : DiskAt w B M u d) : Calls Try.prog 14 #[.pointer (some ⟨B, 0, none⟩), .pointer none] w fun en w' => en = .returned (.bool false) ∧ w = w' := by
  go_enter Try.func14, Try.ntmps14
  go_wp2_with (go_at_call 35; first | ((with_reducible refine (dNone_c _ h).mono ?_); rintro en w1 ⟨rfl, rfl⟩) | ((with_reducible refine (dNoneNil_c _).mono ?_); rintro en w1 ⟨rfl, rfl⟩))
  go_ret
  exact ⟨rfl, rfl⟩
set_option maxRecDepth 100000 in
theorem dSameNN_c (w : World) : Calls Try.prog 14 #[.pointer none, .pointer none] w fun en w' => en = .returned (.bool true) ∧ w = w' := by
  go_enter Try.func14, Try.ntmps14
  go_wp2_with (go_at_call 35; ((with_reducible refine (dNoneNil_c _).mono ?_); rintro en w1 ⟨rfl, rfl⟩))
  go_ret
  exact ⟨rfl, rfl⟩
set_option maxRecDepth 100000 in
theorem dSameZN_c {B : Nat} (w : World) (hc : w.cell? ⟨B, 2, none⟩ = some (.map none)) : Calls Try.prog 14 #[.pointer (some ⟨B, 0, none⟩), .pointer none] w fun en w' => en = .returned (.bool true) ∧ w = w' := by
  go_enter Try.func14, Try.ntmps14
  go_wp2_with (go_at_call 35; first | ((with_reducible refine (dNoneZ_c _ hc).mono ?_); rintro en w1 ⟨rfl, rfl⟩) | ((with_reducible refine (dNoneNil_c _).mono ?_); rintro en w1 ⟨rfl, rfl⟩))
  go_ret
  exact ⟨rfl, rfl⟩

set_option maxHeartbeats 8000000 in
set_option maxRecDepth 100000 in
theorem dSame_c {B M B2 M2 : Nat} {u u2 : Value} {d d2 : Disk} (w : World) (h1 : DiskAt w B M u d) (h2 : DiskAt w B2 M2 u2 d2) (hm0 : 0 ≤ d.many) (hm1 : d.many ≤ 1000000) :
    Calls Try.prog 14 #[.pointer (some ⟨B, 0, none⟩), .pointer (some ⟨B2, 0, none⟩)] w (Ret (.bool (sameB d d2)) w) := by
  obtain ⟨a, c, rfl⟩ := h1.sl.len
  obtain ⟨a2, c2, rfl⟩ := h2.sl.len
  obtain ⟨n, hn⟩ : ∃ n : Nat, d.many = n := ⟨d.many.toNat, by omega⟩
  have hmany := h1.var.cell (i := 1) (v := .int .i64 d.many) rfl
  rw [hn] at hmany
  have hn1 : n ≤ 1000000 := by omega
  have HN := Lib.hid hn
  clear hn hm0 hm1
  go_enter Try.func14, Try.ntmps14
  go_wp2_with (go_at_call 35; first | ((with_reducible refine (dNone_c _ h1).mono ?_); rintro en w1 ⟨rfl, rfl⟩) | ((with_reducible refine (dNone_c _ h2).mono ?_); rintro en w1 ⟨rfl, rfl⟩))
  go_loopw [22] (fun i wr => ∃ j : Nat, j ≤ n ∧ i = .int .i64 j ∧ (∀ i : Nat, i < j → lie d.E (i : Int) = lie d2.E (i : Int)) ∧ Below w.heap.size w wr) (fun i _ => n - (intOf i).toNat)
  case atStart => exact ⟨0, Nat.zero_le _, rfl, fun i hi => by omega, Below.refl _ _⟩
  case round =>
    obtain ⟨j, hj, rfl, hpre, hB⟩ := hrel
    have HBr := Lib.hid hB
    have Hpre := Lib.hid hpre
    clear hB hpre
    by_cases hlt : j < n
    · have hjn : (↑j : Int) < ↑n := by omega
      have hwf : (Lit.int .i64 (j : Int)).wf = true := by simp [Lit.wf, IntKind.min, IntKind.max, IntKind.signed, IntKind.bits]; omega
      go_wp2
      refine wp_region_pi [(0, false), (1, false), (2, false), (3, false), (4, false), (5, false), (6, false), (7, false), (8, false), (9, false), (10, false), (11, false), (12, false)] (by kernel_rfl) (by kernel_rfl) (by kernel_rfl) rfl (fun _ _ d _ _ h => by cases d <;> exact h) (fun Wd hBd => ?_)
      try simp only [Act.put, List.getElem_toArray, List.getElem_cons_zero, List.getElem_cons_succ, List.setIfInBounds_toArray, List.set_cons_zero, List.set_cons_succ]
      have V1 : ∀ w', Below Wd.heap.size Wd w' → DiskAt w' B M (.slice a d.W.length c) d := fun w' hb => (h1.below (below_up HBr.out (below_up hBd hb)))
      have V2 : ∀ w', Below Wd.heap.size Wd w' → DiskAt w' B2 M2 (.slice a2 d2.W.length c2) d2 := fun w' hb => (h2.below (below_up HBr.out (below_up hBd hb)))
      have k2 : ∀ w', Below Wd.heap.size Wd w' → w'.cell? ⟨B, 2, none⟩ = some (.map (some M)) := fun w' hb => (V1 w' hb).var.cell (i := 2) rfl
      have q2 : ∀ w', Below Wd.heap.size Wd w' → w'.cell? ⟨B2, 2, none⟩ = some (.map (some M2)) := fun w' hb => (V2 w' hb).var.cell (i := 2) rfl
      have l1 : ∀ w', Below Wd.heap.size Wd w' → (Instr.lookup 67 (.map (some M)) (.int .i64 (j : Int)) false).run Try.prog w' = .ok (secV (lie d.E j)) w' := fun w' hb => dlook (V1 w' hb).map hwf
      have l2 : ∀ w', Below Wd.heap.size Wd w' → (Instr.lookup 67 (.map (some M2)) (.int .i64 (j : Int)) false).run Try.prog w' = .ok (secV (lie d2.E j)) w' := fun w' hb => dlook (V2 w' hb).map hwf
      refine pi_q (v := ?_) rfl (by rfl) ?_ ?_
      rotate_left
      · intro w' hBw'
        first | (go_simp; done) | (go_simp; with_reducible rfl)
      try simp only [Act.put, List.getElem_toArray, List.getElem_cons_zero, List.getElem_cons_succ, List.setIfInBounds_toArray, List.set_cons_zero, List.set_cons_succ]
      refine pi_q (v := ?_) rfl (by rfl) ?_ ?_
      rotate_left
      · intro w' hBw'
        first | (go_simp; done) | (go_simp; with_reducible rfl)
      try simp only [Act.put, List.getElem_toArray, List.getElem_cons_zero, List.getElem_cons_succ, List.setIfInBounds_toArray, List.set_cons_zero, List.set_cons_succ]
      refine pi_q (v := ?_) rfl (by rfl) ?_ ?_
      rotate_left
      · intro w' hBw'
        first | (go_simp; done) | (go_simp; with_reducible rfl)
      try simp only [Act.put, List.getElem_toArray, List.getElem_cons_zero, List.getElem_cons_succ, List.setIfInBounds_toArray, List.set_cons_zero, List.set_cons_succ]
      refine pi_q (v := ?_) rfl (by rfl) ?_ ?_
      rotate_left
      · intro w' hBw'
        first | (go_simp; done) | (go_simp; with_reducible rfl)
      try simp only [Act.put, List.getElem_toArray, List.getElem_cons_zero, List.getElem_cons_succ, List.setIfInBounds_toArray, List.set_cons_zero, List.set_cons_succ]
      refine pi_q (v := ?_) rfl (by rfl) ?_ ?_
      rotate_left
      · intro w' hBw'
        first | (go_simp; done) | (go_simp; with_reducible rfl)
      try simp only [Act.put, List.getElem_toArray, List.getElem_cons_zero, List.getElem_cons_succ, List.setIfInBounds_toArray, List.set_cons_zero, List.set_cons_succ]
      refine pi_q (v := ?_) rfl (by rfl) ?_ ?_
      rotate_left
      · intro w' hBw'
        first | (go_simp; done) | (go_simp; with_reducible rfl)
      try simp only [Act.put, List.getElem_toArray, List.getElem_cons_zero, List.getElem_cons_succ, List.setIfInBounds_toArray, List.set_cons_zero, List.set_cons_succ]
      refine pi_q (v := ?_) rfl (by rfl) ?_ ?_
      rotate_left
      · intro w' hBw'
        first | (go_simp; done) | (go_simp; with_reducible rfl)
      try simp only [Act.put, List.getElem_toArray, List.getElem_cons_zero, List.getElem_cons_succ, List.setIfInBounds_toArray, List.set_cons_zero, List.set_cons_succ]
      refine pi_q (v := ?_) rfl (by rfl) ?_ ?_
      rotate_left
      · intro w' hBw'
        first | (go_simp; done) | (go_simp; with_reducible rfl)
      try simp only [Act.put, List.getElem_toArray, List.getElem_cons_zero, List.getElem_cons_succ, List.setIfInBounds_toArray, List.set_cons_zero, List.set_cons_succ]
      refine pi_q (v := ?_) rfl (by rfl) ?_ ?_
      rotate_left
      · intro w' hBw'
        first | (go_simp; done) | (go_simp; with_reducible rfl)
      try simp only [Act.put, List.getElem_toArray, List.getElem_cons_zero, List.getElem_cons_succ, List.setIfInBounds_toArray, List.set_cons_zero, List.set_cons_succ]
      refine pi_q (v := ?_) rfl (by rfl) ?_ ?_
      rotate_left
      · intro w' hBw'
        first | (go_simp; done) | (go_simp; with_reducible rfl)
      try simp only [Act.put, List.getElem_toArray, List.getElem_cons_zero, List.getElem_cons_succ, List.setIfInBounds_toArray, List.set_cons_zero, List.set_cons_succ]
      refine pi_q (v := ?_) rfl (by rfl) ?_ ?_
      rotate_left
      · intro w' hBw'
        first | (go_simp; done) | (go_simp; with_reducible rfl)
      try simp only [Act.put, List.getElem_toArray, List.getElem_cons_zero, List.getElem_cons_succ, List.setIfInBounds_toArray, List.set_cons_zero, List.set_cons_succ]
      refine pi_q (v := ?_) rfl (by rfl) ?_ ?_
      rotate_left
      · intro w' hBw'
        first | (go_simp; done) | (go_simp; with_reducible rfl)
      try simp only [Act.put, List.getElem_toArray, List.getElem_cons_zero, List.getElem_cons_succ, List.setIfInBounds_toArray, List.set_cons_zero, List.set_cons_succ]
      refine pi_q (v := .bool (!decide (lie d.E j = lie d2.E j))) rfl (by rfl) (fun w' _ => exec_secneq _ _ rfl rfl rfl w') ?_
      try simp only [Act.put, List.getElem_toArray, List.getElem_cons_zero, List.getElem_cons_succ, List.setIfInBounds_toArray, List.set_cons_zero, List.set_cons_succ]
      refine pi_nil ?_
      by_cases he : lie d.E (j : Int) = lie d2.E (j : Int)
      · rw [decide_eq_true he]
        have He := Lib.hid he
        clear he
        go_wp2
        go_roundw
        case rel => exact ⟨j + 1, by omega, by go_num, fun i hi => by
          by_cases hij : i = j
          · subst hij; exact He.out
          · exact Hpre.out i (by omega), below_up HBr.out hBd⟩
        case measure => simp [intOf]; omega
      · have hs : sameB d d2 = false := by
          unfold sameB
          rw [Bool.and_eq_false_iff]
          left
          rw [List.all_eq_false]
          exact ⟨j, by rw [List.mem_range, HN.out]; omega, by simp [he]⟩
        rw [decide_eq_false he]
        have Hs := Lib.hid hs
        clear he hs
        go_wp2
        go_ret
        exact ⟨retB Hs.out.symm, below_up HBr.out hBd⟩
    · obtain rfl : j = n := by omega
      have hall : sameB d d2 = (decide (d.many = d2.many) && (decide (d.left = d2.left) && decide (d.W = d2.W))) := by
        unfold sameB
        rw [List.all_eq_true.2 (fun i hi => by rw [List.mem_range, HN.out] at hi; exact decide_eq_true (Hpre.out i (by omega))), Bool.true_and]
      have Hall := Lib.hid hall
      have HNX := Lib.hid (show d.many = (j : Int) from HN.out)
      clear hall hmany
      by_cases hm : d.many = d2.many
      · have Hm := Lib.hid (decide_eq_true hm)
        by_cases hl : d.left = d2.left
        · have Hl := Lib.hid (decide_eq_true hl)
          clear hm hl
          go_wp2
          refine wp_region_pi [(0, false), (1, false), (2, false), (3, false), (4, false), (5, false), (6, false), (7, false), (8, false), (9, false), (10, false), (11, false), (12, false), (13, false), (14, false), (15, false), (16, false), (17, false), (18, false), (19, false), (20, false), (21, false), (22, false), (23, false), (24, false), (25, false), (26, false), (27, false), (28, false), (29, true), (30, false), (31, false)] (by kernel_rfl) (by kernel_rfl) (by kernel_rfl) rfl (fun _ _ d _ _ h => by cases d <;> exact h) (fun Wd hBd => ?_)
          try simp only [Act.put, List.getElem_toArray, List.getElem_cons_zero, List.getElem_cons_succ, List.setIfInBounds_toArray, List.set_cons_zero, List.set_cons_succ]
          have V1 : ∀ w', Below Wd.heap.size Wd w' → DiskAt w' B M (.slice a d.W.length c) d := fun w' hb => (h1.below (below_up HBr.out (below_up hBd hb)))
          have V2 : ∀ w', Below Wd.heap.size Wd w' → DiskAt w' B2 M2 (.slice a2 d2.W.length c2) d2 := fun w' hb => (h2.below (below_up HBr.out (below_up hBd hb)))
          have k0 : ∀ w', Below Wd.heap.size Wd w' → w'.cell? ⟨B, 0, none⟩ = some (.int .i64 d.left) := fun w' hb => (V1 w' hb).var.cell (i := 0) rfl
          have k1 : ∀ w', Below Wd.heap.size Wd w' → w'.cell? ⟨B, 1, none⟩ = some (.int .i64 d.many) := fun w' hb => (V1 w' hb).var.cell (i := 1) rfl
          have k3 : ∀ w', Below Wd.heap.size Wd w' → w'.cell? ⟨B, 3, none⟩ = some (.slice a d.W.length c) := fun w' hb => (V1 w' hb).var.cell (i := 3) rfl
          have q0 : ∀ w', Below Wd.heap.size Wd w' → w'.cell? ⟨B2, 0, none⟩ = some (.int .i64 d2.left) := fun w' hb => (V2 w' hb).var.cell (i := 0) rfl
          have q1 : ∀ w', Below Wd.heap.size Wd w' → w'.cell? ⟨B2, 1, none⟩ = some (.int .i64 d2.many) := fun w' hb => (V2 w' hb).var.cell (i := 1) rfl
          have q3 : ∀ w', Below Wd.heap.size Wd w' → w'.cell? ⟨B2, 3, none⟩ = some (.slice a2 d2.W.length c2) := fun w' hb => (V2 w' hb).var.cell (i := 3) rfl
          refine pi_q (v := ?_) rfl (by rfl) ?_ ?_
          rotate_left
          · intro w' hBw'
            first | (go_simp; done) | (go_simp; with_reducible rfl)
          try simp only [Act.put, List.getElem_toArray, List.getElem_cons_zero, List.getElem_cons_succ, List.setIfInBounds_toArray, List.set_cons_zero, List.set_cons_succ]
          refine pi_q (v := ?_) rfl (by rfl) ?_ ?_
          rotate_left
          · intro w' hBw'
            first | (go_simp; done) | (go_simp; with_reducible rfl)
          try simp only [Act.put, List.getElem_toArray, List.getElem_cons_zero, List.getElem_cons_succ, List.setIfInBounds_toArray, List.set_cons_zero, List.set_cons_succ]
          refine pi_q (v := ?_) rfl (by rfl) ?_ ?_
          rotate_left
          · intro w' hBw'
            first | (go_simp; done) | (go_simp; with_reducible rfl)
          try simp only [Act.put, List.getElem_toArray, List.getElem_cons_zero, List.getElem_cons_succ, List.setIfInBounds_toArray, List.set_cons_zero, List.set_cons_succ]
          refine pi_q (v := ?_) rfl (by rfl) ?_ ?_
          rotate_left
          · intro w' hBw'
            first | (go_simp; done) | (go_simp; with_reducible rfl)
          try simp only [Act.put, List.getElem_toArray, List.getElem_cons_zero, List.getElem_cons_succ, List.setIfInBounds_toArray, List.set_cons_zero, List.set_cons_succ]
          refine pi_q (v := ?_) rfl (by rfl) ?_ ?_
          rotate_left
          · intro w' hBw'
            first | (go_simp; done) | (go_simp; with_reducible rfl)
          try simp only [Act.put, List.getElem_toArray, List.getElem_cons_zero, List.getElem_cons_succ, List.setIfInBounds_toArray, List.set_cons_zero, List.set_cons_succ]
          refine pi_q (v := ?_) rfl (by rfl) ?_ ?_
          rotate_left
          · intro w' hBw'
            first | (go_simp; done) | (go_simp; with_reducible rfl)
          try simp only [Act.put, List.getElem_toArray, List.getElem_cons_zero, List.getElem_cons_succ, List.setIfInBounds_toArray, List.set_cons_zero, List.set_cons_succ]
          refine pi_q (v := ?_) rfl (by rfl) ?_ ?_
          rotate_left
          · intro w' hBw'
            first | (go_simp; done) | (go_simp; with_reducible rfl)
          try simp only [Act.put, List.getElem_toArray, List.getElem_cons_zero, List.getElem_cons_succ, List.setIfInBounds_toArray, List.set_cons_zero, List.set_cons_succ]
          refine pi_q (v := ?_) rfl (by rfl) ?_ ?_
          rotate_left
          · intro w' hBw'
            first | (go_simp; done) | (go_simp; with_reducible rfl)
          try simp only [Act.put, List.getElem_toArray, List.getElem_cons_zero, List.getElem_cons_succ, List.setIfInBounds_toArray, List.set_cons_zero, List.set_cons_succ]
          refine pi_q (v := .bool true) rfl (by rfl) (fun w' _ => exec_inteq rfl rfl rfl Hm.out w') ?_
          try simp only [Act.put, List.getElem_toArray, List.getElem_cons_zero, List.getElem_cons_succ, List.setIfInBounds_toArray, List.set_cons_zero, List.set_cons_succ]
          refine pi_q (v := ?_) rfl (by rfl) ?_ ?_
          rotate_left
          · intro w' hBw'
            first | (go_simp; done) | (go_simp; with_reducible rfl)
          try simp only [Act.put, List.getElem_toArray, List.getElem_cons_zero, List.getElem_cons_succ, List.setIfInBounds_toArray, List.set_cons_zero, List.set_cons_succ]
          refine pi_q (v := ?_) rfl (by rfl) ?_ ?_
          rotate_left
          · intro w' hBw'
            first | (go_simp; done) | (go_simp; with_reducible rfl)
          try simp only [Act.put, List.getElem_toArray, List.getElem_cons_zero, List.getElem_cons_succ, List.setIfInBounds_toArray, List.set_cons_zero, List.set_cons_succ]
          refine pi_q (v := ?_) rfl (by rfl) ?_ ?_
          rotate_left
          · intro w' hBw'
            first | (go_simp; done) | (go_simp; with_reducible rfl)
          try simp only [Act.put, List.getElem_toArray, List.getElem_cons_zero, List.getElem_cons_succ, List.setIfInBounds_toArray, List.set_cons_zero, List.set_cons_succ]
          refine pi_q (v := ?_) rfl (by rfl) ?_ ?_
          rotate_left
          · intro w' hBw'
            first | (go_simp; done) | (go_simp; with_reducible rfl)
          try simp only [Act.put, List.getElem_toArray, List.getElem_cons_zero, List.getElem_cons_succ, List.setIfInBounds_toArray, List.set_cons_zero, List.set_cons_succ]
          refine pi_q (v := ?_) rfl (by rfl) ?_ ?_
          rotate_left
          · intro w' hBw'
            first | (go_simp; done) | (go_simp; with_reducible rfl)
          try simp only [Act.put, List.getElem_toArray, List.getElem_cons_zero, List.getElem_cons_succ, List.setIfInBounds_toArray, List.set_cons_zero, List.set_cons_succ]
          refine pi_q (v := ?_) rfl (by rfl) ?_ ?_
          rotate_left
          · intro w' hBw'
            first | (go_simp; done) | (go_simp; with_reducible rfl)
          try simp only [Act.put, List.getElem_toArray, List.getElem_cons_zero, List.getElem_cons_succ, List.setIfInBounds_toArray, List.set_cons_zero, List.set_cons_succ]
          refine pi_q (v := ?_) rfl (by rfl) ?_ ?_
          rotate_left
          · intro w' hBw'
            first | (go_simp; done) | (go_simp; with_reducible rfl)
          try simp only [Act.put, List.getElem_toArray, List.getElem_cons_zero, List.getElem_cons_succ, List.setIfInBounds_toArray, List.set_cons_zero, List.set_cons_succ]
          refine pi_q (v := ?_) rfl (by rfl) ?_ ?_
          rotate_left
          · intro w' hBw'
            first | (go_simp; done) | (go_simp; with_reducible rfl)
          try simp only [Act.put, List.getElem_toArray, List.getElem_cons_zero, List.getElem_cons_succ, List.setIfInBounds_toArray, List.set_cons_zero, List.set_cons_succ]
          refine pi_q (v := ?_) rfl (by rfl) ?_ ?_
          rotate_left
          · intro w' hBw'
            first | (go_simp; done) | (go_simp; with_reducible rfl)
          try simp only [Act.put, List.getElem_toArray, List.getElem_cons_zero, List.getElem_cons_succ, List.setIfInBounds_toArray, List.set_cons_zero, List.set_cons_succ]
          refine pi_q (v := .bool true) rfl (by rfl) (fun w' _ => exec_cteq rfl rfl rfl Hl.out w') ?_
          try simp only [Act.put, List.getElem_toArray, List.getElem_cons_zero, List.getElem_cons_succ, List.setIfInBounds_toArray, List.set_cons_zero, List.set_cons_succ]
          refine pi_q (v := ?_) rfl (by rfl) ?_ ?_
          rotate_left
          · intro w' hBw'
            first | (go_simp; done) | (go_simp; with_reducible rfl)
          try simp only [Act.put, List.getElem_toArray, List.getElem_cons_zero, List.getElem_cons_succ, List.setIfInBounds_toArray, List.set_cons_zero, List.set_cons_succ]
          refine pi_q (v := ?_) rfl (by rfl) ?_ ?_
          rotate_left
          · intro w' hBw'
            first | (go_simp; done) | (go_simp; with_reducible rfl)
          try simp only [Act.put, List.getElem_toArray, List.getElem_cons_zero, List.getElem_cons_succ, List.setIfInBounds_toArray, List.set_cons_zero, List.set_cons_succ]
          refine pi_q (v := ?_) rfl (by rfl) ?_ ?_
          rotate_left
          · intro w' hBw'
            first | (go_simp; done) | (go_simp; with_reducible rfl)
          try simp only [Act.put, List.getElem_toArray, List.getElem_cons_zero, List.getElem_cons_succ, List.setIfInBounds_toArray, List.set_cons_zero, List.set_cons_succ]
          refine pi_q (v := ?_) rfl (by rfl) ?_ ?_
          rotate_left
          · intro w' hBw'
            first | (go_simp; done) | (go_simp; with_reducible rfl)
          try simp only [Act.put, List.getElem_toArray, List.getElem_cons_zero, List.getElem_cons_succ, List.setIfInBounds_toArray, List.set_cons_zero, List.set_cons_succ]
          refine pi_q (v := ?_) rfl (by rfl) ?_ ?_
          rotate_left
          · intro w' hBw'
            first | (go_simp; done) | (go_simp; with_reducible rfl)
          try simp only [Act.put, List.getElem_toArray, List.getElem_cons_zero, List.getElem_cons_succ, List.setIfInBounds_toArray, List.set_cons_zero, List.set_cons_succ]
          refine pi_q (v := ?_) rfl (by rfl) ?_ ?_
          rotate_left
          · intro w' hBw'
            first | (go_simp; done) | (go_simp; with_reducible rfl)
          try simp only [Act.put, List.getElem_toArray, List.getElem_cons_zero, List.getElem_cons_succ, List.setIfInBounds_toArray, List.set_cons_zero, List.set_cons_succ]
          refine pi_q (v := ?_) rfl (by rfl) ?_ ?_
          rotate_left
          · intro w' hBw'
            first | (go_simp; done) | (go_simp; with_reducible rfl)
          try simp only [Act.put, List.getElem_toArray, List.getElem_cons_zero, List.getElem_cons_succ, List.setIfInBounds_toArray, List.set_cons_zero, List.set_cons_succ]
          refine pi_q (v := ?_) rfl (by rfl) ?_ ?_
          rotate_left
          · intro w' hBw'
            first | (go_simp; done) | (go_simp; with_reducible rfl)
          try simp only [Act.put, List.getElem_toArray, List.getElem_cons_zero, List.getElem_cons_succ, List.setIfInBounds_toArray, List.set_cons_zero, List.set_cons_succ]
          refine pi_q (v := ?_) rfl (by rfl) ?_ ?_
          rotate_left
          · intro w' hBw'
            first | (go_simp; done) | (go_simp; with_reducible rfl)
          try simp only [Act.put, List.getElem_toArray, List.getElem_cons_zero, List.getElem_cons_succ, List.setIfInBounds_toArray, List.set_cons_zero, List.set_cons_succ]
          refine pi_q (v := ?_) rfl (by rfl) ?_ ?_
          rotate_left
          · intro w' hBw'
            first | (go_simp; done) | (go_simp; with_reducible rfl)
          try simp only [Act.put, List.getElem_toArray, List.getElem_cons_zero, List.getElem_cons_succ, List.setIfInBounds_toArray, List.set_cons_zero, List.set_cons_succ]
          refine pi_c rfl (by rfl) (fun K hK => ?_)
          go_simp
          refine (dEqual_c d.W d2.W _ _ _ _ _ (V1 Wd (Below.refl _ _)).sl (V2 Wd (Below.refl _ _)).sl).mono ?_
          rintro en w2 ⟨rfl, hb2⟩
          refine hK.out _ _ hb2 ?_
          clear hK K
          try simp only [Act.put, List.getElem_toArray, List.getElem_cons_zero, List.getElem_cons_succ, List.setIfInBounds_toArray, List.set_cons_zero, List.set_cons_succ]
          refine pi_q (v := ?_) rfl (by rfl) ?_ ?_
          rotate_left
          · intro w' hBw'
            first | (go_simp; done) | (go_simp; with_reducible rfl)
          try simp only [Act.put, List.getElem_toArray, List.getElem_cons_zero, List.getElem_cons_succ, List.setIfInBounds_toArray, List.set_cons_zero, List.set_cons_succ]
          refine pi_q (v := ?_) rfl (by rfl) ?_ ?_
          rotate_left
          · intro w' hBw'
            first | (go_simp; done) | (go_simp; with_reducible rfl)
          try simp only [Act.put, List.getElem_toArray, List.getElem_cons_zero, List.getElem_cons_succ, List.setIfInBounds_toArray, List.set_cons_zero, List.set_cons_succ]
          refine pi_nil ?_
          go_wp2
          go_ret
          exact ⟨retB (by rw [Hall.out, Hm.out, Hl.out]; rfl), below_up HBr.out (below_up hBd hb2)⟩
        · have Hl := Lib.hid (decide_eq_false hl)
          clear hm hl
          go_wp2
          refine wp_region_pi [(0, false), (1, false), (2, false), (3, false), (4, false), (5, false), (6, false), (7, false), (8, false), (9, false), (10, false), (11, false), (12, false), (13, false), (14, false), (15, false), (16, false), (17, false), (18, false), (19, false), (20, false), (21, false), (22, false), (23, false), (24, false), (25, false), (26, false), (27, false), (28, false), (29, false), (30, false), (31, false)] (by kernel_rfl) (by kernel_rfl) (by kernel_rfl) rfl (fun _ _ d _ _ h => by cases d <;> exact h) (fun Wd hBd => ?_)
          try simp only [Act.put, List.getElem_toArray, List.getElem_cons_zero, List.getElem_cons_succ, List.setIfInBounds_toArray, List.set_cons_zero, List.set_cons_succ]
          have V1 : ∀ w', Below Wd.heap.size Wd w' → DiskAt w' B M (.slice a d.W.length c) d := fun w' hb => (h1.below (below_up HBr.out (below_up hBd hb)))
          have V2 : ∀ w', Below Wd.heap.size Wd w' → DiskAt w' B2 M2 (.slice a2 d2.W.length c2) d2 := fun w' hb => (h2.below (below_up HBr.out (below_up hBd hb)))
          have k0 : ∀ w', Below Wd.heap.size Wd w' → w'.cell? ⟨B, 0, none⟩ = some (.int .i64 d.left) := fun w' hb => (V1 w' hb).var.cell (i := 0) rfl
          have k1 : ∀ w', Below Wd.heap.size Wd w' → w'.cell? ⟨B, 1, none⟩ = some (.int .i64 d.many) := fun w' hb => (V1 w' hb).var.cell (i := 1) rfl
          have k3 : ∀ w', Below Wd.heap.size Wd w' → w'.cell? ⟨B, 3, none⟩ = some (.slice a d.W.length c) := fun w' hb => (V1 w' hb).var.cell (i := 3) rfl
          have q0 : ∀ w', Below Wd.heap.size Wd w' → w'.cell? ⟨B2, 0, none⟩ = some (.int .i64 d2.left) := fun w' hb => (V2 w' hb).var.cell (i := 0) rfl
          have q1 : ∀ w', Below Wd.heap.size Wd w' → w'.cell? ⟨B2, 1, none⟩ = some (.int .i64 d2.many) := fun w' hb => (V2 w' hb).var.cell (i := 1) rfl
          have q3 : ∀ w', Below Wd.heap.size Wd w' → w'.cell? ⟨B2, 3, none⟩ = some (.slice a2 d2.W.length c2) := fun w' hb => (V2 w' hb).var.cell (i := 3) rfl
          refine pi_q (v := ?_) rfl (by rfl) ?_ ?_
          rotate_left
          · intro w' hBw'
            first | (go_simp; done) | (go_simp; with_reducible rfl)
          try simp only [Act.put, List.getElem_toArray, List.getElem_cons_zero, List.getElem_cons_succ, List.setIfInBounds_toArray, List.set_cons_zero, List.set_cons_succ]
          refine pi_q (v := ?_) rfl (by rfl) ?_ ?_
          rotate_left
          · intro w' hBw'
            first | (go_simp; done) | (go_simp; with_reducible rfl)
          try simp only [Act.put, List.getElem_toArray, List.getElem_cons_zero, List.getElem_cons_succ, List.setIfInBounds_toArray, List.set_cons_zero, List.set_cons_succ]
          refine pi_q (v := ?_) rfl (by rfl) ?_ ?_
          rotate_left
          · intro w' hBw'
            first | (go_simp; done) | (go_simp; with_reducible rfl)
          try simp only [Act.put, List.getElem_toArray, List.getElem_cons_zero, List.getElem_cons_succ, List.setIfInBounds_toArray, List.set_cons_zero, List.set_cons_succ]
          refine pi_q (v := ?_) rfl (by rfl) ?_ ?_
          rotate_left
          · intro w' hBw'
            first | (go_simp; done) | (go_simp; with_reducible rfl)
          try simp only [Act.put, List.getElem_toArray, List.getElem_cons_zero, List.getElem_cons_succ, List.setIfInBounds_toArray, List.set_cons_zero, List.set_cons_succ]
          refine pi_q (v := ?_) rfl (by rfl) ?_ ?_
          rotate_left
          · intro w' hBw'
            first | (go_simp; done) | (go_simp; with_reducible rfl)
          try simp only [Act.put, List.getElem_toArray, List.getElem_cons_zero, List.getElem_cons_succ, List.setIfInBounds_toArray, List.set_cons_zero, List.set_cons_succ]
          refine pi_q (v := ?_) rfl (by rfl) ?_ ?_
          rotate_left
          · intro w' hBw'
            first | (go_simp; done) | (go_simp; with_reducible rfl)
          try simp only [Act.put, List.getElem_toArray, List.getElem_cons_zero, List.getElem_cons_succ, List.setIfInBounds_toArray, List.set_cons_zero, List.set_cons_succ]
          refine pi_q (v := ?_) rfl (by rfl) ?_ ?_
          rotate_left
          · intro w' hBw'
            first | (go_simp; done) | (go_simp; with_reducible rfl)
          try simp only [Act.put, List.getElem_toArray, List.getElem_cons_zero, List.getElem_cons_succ, List.setIfInBounds_toArray, List.set_cons_zero, List.set_cons_succ]
          refine pi_q (v := ?_) rfl (by rfl) ?_ ?_
          rotate_left
          · intro w' hBw'
            first | (go_simp; done) | (go_simp; with_reducible rfl)
          try simp only [Act.put, List.getElem_toArray, List.getElem_cons_zero, List.getElem_cons_succ, List.setIfInBounds_toArray, List.set_cons_zero, List.set_cons_succ]
          refine pi_q (v := .bool true) rfl (by rfl) (fun w' _ => exec_inteq rfl rfl rfl Hm.out w') ?_
          try simp only [Act.put, List.getElem_toArray, List.getElem_cons_zero, List.getElem_cons_succ, List.setIfInBounds_toArray, List.set_cons_zero, List.set_cons_succ]
          refine pi_q (v := ?_) rfl (by rfl) ?_ ?_
          rotate_left
          · intro w' hBw'
            first | (go_simp; done) | (go_simp; with_reducible rfl)
          try simp only [Act.put, List.getElem_toArray, List.getElem_cons_zero, List.getElem_cons_succ, List.setIfInBounds_toArray, List.set_cons_zero, List.set_cons_succ]
          refine pi_q (v := ?_) rfl (by rfl) ?_ ?_
          rotate_left
          · intro w' hBw'
            first | (go_simp; done) | (go_simp; with_reducible rfl)
          try simp only [Act.put, List.getElem_toArray, List.getElem_cons_zero, List.getElem_cons_succ, List.setIfInBounds_toArray, List.set_cons_zero, List.set_cons_succ]
          refine pi_q (v := ?_) rfl (by rfl) ?_ ?_
          rotate_left
          · intro w' hBw'
            first | (go_simp; done) | (go_simp; with_reducible rfl)
          try simp only [Act.put, List.getElem_toArray, List.getElem_cons_zero, List.getElem_cons_succ, List.setIfInBounds_toArray, List.set_cons_zero, List.set_cons_succ]
          refine pi_q (v := ?_) rfl (by rfl) ?_ ?_
          rotate_left
          · intro w' hBw'
            first | (go_simp; done) | (go_simp; with_reducible rfl)
          try simp only [Act.put, List.getElem_toArray, List.getElem_cons_zero, List.getElem_cons_succ, List.setIfInBounds_toArray, List.set_cons_zero, List.set_cons_succ]
          refine pi_q (v := ?_) rfl (by rfl) ?_ ?_
          rotate_left
          · intro w' hBw'
            first | (go_simp; done) | (go_simp; with_reducible rfl)
          try simp only [Act.put, List.getElem_toArray, List.getElem_cons_zero, List.getElem_cons_succ, List.setIfInBounds_toArray, List.set_cons_zero, List.set_cons_succ]
          refine pi_q (v := ?_) rfl (by rfl) ?_ ?_
          rotate_left
          · intro w' hBw'
            first | (go_simp; done) | (go_simp; with_reducible rfl)
          try simp only [Act.put, List.getElem_toArray, List.getElem_cons_zero, List.getElem_cons_succ, List.setIfInBounds_toArray, List.set_cons_zero, List.set_cons_succ]
          refine pi_q (v := ?_) rfl (by rfl) ?_ ?_
          rotate_left
          · intro w' hBw'
            first | (go_simp; done) | (go_simp; with_reducible rfl)
          try simp only [Act.put, List.getElem_toArray, List.getElem_cons_zero, List.getElem_cons_succ, List.setIfInBounds_toArray, List.set_cons_zero, List.set_cons_succ]
          refine pi_q (v := ?_) rfl (by rfl) ?_ ?_
          rotate_left
          · intro w' hBw'
            first | (go_simp; done) | (go_simp; with_reducible rfl)
          try simp only [Act.put, List.getElem_toArray, List.getElem_cons_zero, List.getElem_cons_succ, List.setIfInBounds_toArray, List.set_cons_zero, List.set_cons_succ]
          refine pi_q (v := ?_) rfl (by rfl) ?_ ?_
          rotate_left
          · intro w' hBw'
            first | (go_simp; done) | (go_simp; with_reducible rfl)
          try simp only [Act.put, List.getElem_toArray, List.getElem_cons_zero, List.getElem_cons_succ, List.setIfInBounds_toArray, List.set_cons_zero, List.set_cons_succ]
          refine pi_q (v := .bool false) rfl (by rfl) (fun w' _ => exec_cteq rfl rfl rfl Hl.out w') ?_
          try simp only [Act.put, List.getElem_toArray, List.getElem_cons_zero, List.getElem_cons_succ, List.setIfInBounds_toArray, List.set_cons_zero, List.set_cons_succ]
          refine pi_q (v := ?_) rfl (by rfl) ?_ ?_
          rotate_left
          · intro w' hBw'
            first | (go_simp; done) | (go_simp; with_reducible rfl)
          try simp only [Act.put, List.getElem_toArray, List.getElem_cons_zero, List.getElem_cons_succ, List.setIfInBounds_toArray, List.set_cons_zero, List.set_cons_succ]
          refine pi_q (v := ?_) rfl (by rfl) ?_ ?_
          rotate_left
          · intro w' hBw'
            first | (go_simp; done) | (go_simp; with_reducible rfl)
          try simp only [Act.put, List.getElem_toArray, List.getElem_cons_zero, List.getElem_cons_succ, List.setIfInBounds_toArray, List.set_cons_zero, List.set_cons_succ]
          refine pi_no rfl (by rfl) ?_
          try simp only [Act.put, List.getElem_toArray, List.getElem_cons_zero, List.getElem_cons_succ, List.setIfInBounds_toArray, List.set_cons_zero, List.set_cons_succ]
          refine pi_no rfl (by rfl) ?_
          try simp only [Act.put, List.getElem_toArray, List.getElem_cons_zero, List.getElem_cons_succ, List.setIfInBounds_toArray, List.set_cons_zero, List.set_cons_succ]
          refine pi_no rfl (by rfl) ?_
          try simp only [Act.put, List.getElem_toArray, List.getElem_cons_zero, List.getElem_cons_succ, List.setIfInBounds_toArray, List.set_cons_zero, List.set_cons_succ]
          refine pi_no rfl (by rfl) ?_
          try simp only [Act.put, List.getElem_toArray, List.getElem_cons_zero, List.getElem_cons_succ, List.setIfInBounds_toArray, List.set_cons_zero, List.set_cons_succ]
          refine pi_no rfl (by rfl) ?_
          try simp only [Act.put, List.getElem_toArray, List.getElem_cons_zero, List.getElem_cons_succ, List.setIfInBounds_toArray, List.set_cons_zero, List.set_cons_succ]
          refine pi_no rfl (by rfl) ?_
          try simp only [Act.put, List.getElem_toArray, List.getElem_cons_zero, List.getElem_cons_succ, List.setIfInBounds_toArray, List.set_cons_zero, List.set_cons_succ]
          refine pi_no rfl (by rfl) ?_
          try simp only [Act.put, List.getElem_toArray, List.getElem_cons_zero, List.getElem_cons_succ, List.setIfInBounds_toArray, List.set_cons_zero, List.set_cons_succ]
          refine pi_no rfl (by rfl) ?_
          try simp only [Act.put, List.getElem_toArray, List.getElem_cons_zero, List.getElem_cons_succ, List.setIfInBounds_toArray, List.set_cons_zero, List.set_cons_succ]
          refine pi_no rfl (by rfl) ?_
          try simp only [Act.put, List.getElem_toArray, List.getElem_cons_zero, List.getElem_cons_succ, List.setIfInBounds_toArray, List.set_cons_zero, List.set_cons_succ]
          refine pi_q (v := ?_) rfl (by rfl) ?_ ?_
          rotate_left
          · intro w' hBw'
            first | (go_simp; done) | (go_simp; with_reducible rfl)
          try simp only [Act.put, List.getElem_toArray, List.getElem_cons_zero, List.getElem_cons_succ, List.setIfInBounds_toArray, List.set_cons_zero, List.set_cons_succ]
          refine pi_q (v := ?_) rfl (by rfl) ?_ ?_
          rotate_left
          · intro w' hBw'
            first | (go_simp; done) | (go_simp; with_reducible rfl)
          try simp only [Act.put, List.getElem_toArray, List.getElem_cons_zero, List.getElem_cons_succ, List.setIfInBounds_toArray, List.set_cons_zero, List.set_cons_succ]
          refine pi_nil ?_
          go_wp2
          go_ret
          exact ⟨retB (by rw [Hall.out, Hm.out, Hl.out]; rfl), below_up HBr.out hBd⟩
      · have Hm := Lib.hid (decide_eq_false hm)
        clear hm
        go_wp2
        refine wp_region_pi [(0, false), (1, false), (2, false), (3, false), (4, false), (5, false), (6, false), (7, false), (8, false), (9, false), (10, false), (11, false), (12, false), (13, false), (14, false), (15, false), (16, false), (17, false), (18, false), (19, false), (20, false), (21, false), (22, false), (23, false), (24, false), (25, false), (26, false), (27, false), (28, false), (29, false), (30, false), (31, false)] (by kernel_rfl) (by kernel_rfl) (by kernel_rfl) rfl (fun _ _ d _ _ h => by cases d <;> exact h) (fun Wd hBd => ?_)
        try simp only [Act.put, List.getElem_toArray, List.getElem_cons_zero, List.getElem_cons_succ, List.setIfInBounds_toArray, List.set_cons_zero, List.set_cons_succ]
        have V1 : ∀ w', Below Wd.heap.size Wd w' → DiskAt w' B M (.slice a d.W.length c) d := fun w' hb => (h1.below (below_up HBr.out (below_up hBd hb)))
        have V2 : ∀ w', Below Wd.heap.size Wd w' → DiskAt w' B2 M2 (.slice a2 d2.W.length c2) d2 := fun w' hb => (h2.below (below_up HBr.out (below_up hBd hb)))
        have k0 : ∀ w', Below Wd.heap.size Wd w' → w'.cell? ⟨B, 0, none⟩ = some (.int .i64 d.left) := fun w' hb => (V1 w' hb).var.cell (i := 0) rfl
        have k1 : ∀ w', Below Wd.heap.size Wd w' → w'.cell? ⟨B, 1, none⟩ = some (.int .i64 d.many) := fun w' hb => (V1 w' hb).var.cell (i := 1) rfl
        have k3 : ∀ w', Below Wd.heap.size Wd w' → w'.cell? ⟨B, 3, none⟩ = some (.slice a d.W.length c) := fun w' hb => (V1 w' hb).var.cell (i := 3) rfl
        have q0 : ∀ w', Below Wd.heap.size Wd w' → w'.cell? ⟨B2, 0, none⟩ = some (.int .i64 d2.left) := fun w' hb => (V2 w' hb).var.cell (i := 0) rfl
        have q1 : ∀ w', Below Wd.heap.size Wd w' → w'.cell? ⟨B2, 1, none⟩ = some (.int .i64 d2.many) := fun w' hb => (V2 w' hb).var.cell (i := 1) rfl
        have q3 : ∀ w', Below Wd.heap.size Wd w' → w'.cell? ⟨B2, 3, none⟩ = some (.slice a2 d2.W.length c2) := fun w' hb => (V2 w' hb).var.cell (i := 3) rfl
        refine pi_q (v := ?_) rfl (by rfl) ?_ ?_
        rotate_left
        · intro w' hBw'
          first | (go_simp; done) | (go_simp; with_reducible rfl)
        try simp only [Act.put, List.getElem_toArray, List.getElem_cons_zero, List.getElem_cons_succ, List.setIfInBounds_toArray, List.set_cons_zero, List.set_cons_succ]
        refine pi_q (v := ?_) rfl (by rfl) ?_ ?_
        rotate_left
        · intro w' hBw'
          first | (go_simp; done) | (go_simp; with_reducible rfl)
        try simp only [Act.put, List.getElem_toArray, List.getElem_cons_zero, List.getElem_cons_succ, List.setIfInBounds_toArray, List.set_cons_zero, List.set_cons_succ]
        refine pi_q (v := ?_) rfl (by rfl) ?_ ?_
        rotate_left
        · intro w' hBw'
          first | (go_simp; done) | (go_simp; with_reducible rfl)
        try simp only [Act.put, List.getElem_toArray, List.getElem_cons_zero, List.getElem_cons_succ, List.setIfInBounds_toArray, List.set_cons_zero, List.set_cons_succ]
        refine pi_q (v := ?_) rfl (by rfl) ?_ ?_
        rotate_left
        · intro w' hBw'
          first | (go_simp; done) | (go_simp; with_reducible rfl)
        try simp only [Act.put, List.getElem_toArray, List.getElem_cons_zero, List.getElem_cons_succ, List.setIfInBounds_toArray, List.set_cons_zero, List.set_cons_succ]
        refine pi_q (v := ?_) rfl (by rfl) ?_ ?_
        rotate_left
        · intro w' hBw'
          first | (go_simp; done) | (go_simp; with_reducible rfl)
        try simp only [Act.put, List.getElem_toArray, List.getElem_cons_zero, List.getElem_cons_succ, List.setIfInBounds_toArray, List.set_cons_zero, List.set_cons_succ]
        refine pi_q (v := ?_) rfl (by rfl) ?_ ?_
        rotate_left
        · intro w' hBw'
          first | (go_simp; done) | (go_simp; with_reducible rfl)
        try simp only [Act.put, List.getElem_toArray, List.getElem_cons_zero, List.getElem_cons_succ, List.setIfInBounds_toArray, List.set_cons_zero, List.set_cons_succ]
        refine pi_q (v := ?_) rfl (by rfl) ?_ ?_
        rotate_left
        · intro w' hBw'
          first | (go_simp; done) | (go_simp; with_reducible rfl)
        try simp only [Act.put, List.getElem_toArray, List.getElem_cons_zero, List.getElem_cons_succ, List.setIfInBounds_toArray, List.set_cons_zero, List.set_cons_succ]
        refine pi_q (v := ?_) rfl (by rfl) ?_ ?_
        rotate_left
        · intro w' hBw'
          first | (go_simp; done) | (go_simp; with_reducible rfl)
        try simp only [Act.put, List.getElem_toArray, List.getElem_cons_zero, List.getElem_cons_succ, List.setIfInBounds_toArray, List.set_cons_zero, List.set_cons_succ]
        refine pi_q (v := .bool false) rfl (by rfl) (fun w' _ => exec_inteq rfl rfl rfl Hm.out w') ?_
        try simp only [Act.put, List.getElem_toArray, List.getElem_cons_zero, List.getElem_cons_succ, List.setIfInBounds_toArray, List.set_cons_zero, List.set_cons_succ]
        refine pi_q (v := ?_) rfl (by rfl) ?_ ?_
        rotate_left
        · intro w' hBw'
          first | (go_simp; done) | (go_simp; with_reducible rfl)
        try simp only [Act.put, List.getElem_toArray, List.getElem_cons_zero, List.getElem_cons_succ, List.setIfInBounds_toArray, List.set_cons_zero, List.set_cons_succ]
        refine pi_no rfl (by rfl) ?_
        try simp only [Act.put, List.getElem_toArray, List.getElem_cons_zero, List.getElem_cons_succ, List.setIfInBounds_toArray, List.set_cons_zero, List.set_cons_succ]
        refine pi_no rfl (by rfl) ?_
        try simp only [Act.put, List.getElem_toArray, List.getElem_cons_zero, List.getElem_cons_succ, List.setIfInBounds_toArray, List.set_cons_zero, List.set_cons_succ]
        refine pi_no rfl (by rfl) ?_
        try simp only [Act.put, List.getElem_toArray, List.getElem_cons_zero, List.getElem_cons_succ, List.setIfInBounds_toArray, List.set_cons_zero, List.set_cons_succ]
        refine pi_no rfl (by rfl) ?_
        try simp only [Act.put, List.getElem_toArray, List.getElem_cons_zero, List.getElem_cons_succ, List.setIfInBounds_toArray, List.set_cons_zero, List.set_cons_succ]
        refine pi_no rfl (by rfl) ?_
        try simp only [Act.put, List.getElem_toArray, List.getElem_cons_zero, List.getElem_cons_succ, List.setIfInBounds_toArray, List.set_cons_zero, List.set_cons_succ]
        refine pi_no rfl (by rfl) ?_
        try simp only [Act.put, List.getElem_toArray, List.getElem_cons_zero, List.getElem_cons_succ, List.setIfInBounds_toArray, List.set_cons_zero, List.set_cons_succ]
        refine pi_no rfl (by rfl) ?_
        try simp only [Act.put, List.getElem_toArray, List.getElem_cons_zero, List.getElem_cons_succ, List.setIfInBounds_toArray, List.set_cons_zero, List.set_cons_succ]
        refine pi_no rfl (by rfl) ?_
        try simp only [Act.put, List.getElem_toArray, List.getElem_cons_zero, List.getElem_cons_succ, List.setIfInBounds_toArray, List.set_cons_zero, List.set_cons_succ]
        refine pi_no rfl (by rfl) ?_
        try simp only [Act.put, List.getElem_toArray, List.getElem_cons_zero, List.getElem_cons_succ, List.setIfInBounds_toArray, List.set_cons_zero, List.set_cons_succ]
        refine pi_q (v := ?_) rfl (by rfl) ?_ ?_
        rotate_left
        · intro w' hBw'
          first | (go_simp; done) | (go_simp; with_reducible rfl)
        try simp only [Act.put, List.getElem_toArray, List.getElem_cons_zero, List.getElem_cons_succ, List.setIfInBounds_toArray, List.set_cons_zero, List.set_cons_succ]
        refine pi_q (v := ?_) rfl (by rfl) ?_ ?_
        rotate_left
        · intro w' hBw'
          first | (go_simp; done) | (go_simp; with_reducible rfl)
        try simp only [Act.put, List.getElem_toArray, List.getElem_cons_zero, List.getElem_cons_succ, List.setIfInBounds_toArray, List.set_cons_zero, List.set_cons_succ]
        refine pi_no rfl (by rfl) ?_
        try simp only [Act.put, List.getElem_toArray, List.getElem_cons_zero, List.getElem_cons_succ, List.setIfInBounds_toArray, List.set_cons_zero, List.set_cons_succ]
        refine pi_no rfl (by rfl) ?_
        try simp only [Act.put, List.getElem_toArray, List.getElem_cons_zero, List.getElem_cons_succ, List.setIfInBounds_toArray, List.set_cons_zero, List.set_cons_succ]
        refine pi_no rfl (by rfl) ?_
        try simp only [Act.put, List.getElem_toArray, List.getElem_cons_zero, List.getElem_cons_succ, List.setIfInBounds_toArray, List.set_cons_zero, List.set_cons_succ]
        refine pi_no rfl (by rfl) ?_
        try simp only [Act.put, List.getElem_toArray, List.getElem_cons_zero, List.getElem_cons_succ, List.setIfInBounds_toArray, List.set_cons_zero, List.set_cons_succ]
        refine pi_no rfl (by rfl) ?_
        try simp only [Act.put, List.getElem_toArray, List.getElem_cons_zero, List.getElem_cons_succ, List.setIfInBounds_toArray, List.set_cons_zero, List.set_cons_succ]
        refine pi_no rfl (by rfl) ?_
        try simp only [Act.put, List.getElem_toArray, List.getElem_cons_zero, List.getElem_cons_succ, List.setIfInBounds_toArray, List.set_cons_zero, List.set_cons_succ]
        refine pi_no rfl (by rfl) ?_
        try simp only [Act.put, List.getElem_toArray, List.getElem_cons_zero, List.getElem_cons_succ, List.setIfInBounds_toArray, List.set_cons_zero, List.set_cons_succ]
        refine pi_no rfl (by rfl) ?_
        try simp only [Act.put, List.getElem_toArray, List.getElem_cons_zero, List.getElem_cons_succ, List.setIfInBounds_toArray, List.set_cons_zero, List.set_cons_succ]
        refine pi_no rfl (by rfl) ?_
        try simp only [Act.put, List.getElem_toArray, List.getElem_cons_zero, List.getElem_cons_succ, List.setIfInBounds_toArray, List.set_cons_zero, List.set_cons_succ]
        refine pi_q (v := ?_) rfl (by rfl) ?_ ?_
        rotate_left
        · intro w' hBw'
          first | (go_simp; done) | (go_simp; with_reducible rfl)
        try simp only [Act.put, List.getElem_toArray, List.getElem_cons_zero, List.getElem_cons_succ, List.setIfInBounds_toArray, List.set_cons_zero, List.set_cons_succ]
        refine pi_q (v := ?_) rfl (by rfl) ?_ ?_
        rotate_left
        · intro w' hBw'
          first | (go_simp; done) | (go_simp; with_reducible rfl)
        try simp only [Act.put, List.getElem_toArray, List.getElem_cons_zero, List.getElem_cons_succ, List.setIfInBounds_toArray, List.set_cons_zero, List.set_cons_succ]
        refine pi_nil ?_
        go_wp2
        go_ret
        exact ⟨retB (by rw [Hall.out, Hm.out]; rfl), below_up HBr.out hBd⟩
end Go.Proofs.Ytekpjbablcoahaa
