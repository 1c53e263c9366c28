/-
  The law DiskHolds' walk.
-/
import Derived.Test.YtekpjbablcoahaaDiskNA
import Derived.Test.YtekpjbablcoahaaDiskO
namespace Go.Proofs.Ytekpjbablcoahaa
open Go.RowKit Go.Maps Dk
set_option linter.unusedSimpArgs false
set_option linter.unusedVariables false

theorem run_alloc_five (a : Act) (w : World) (o : Oper) (ho : o.op = .alloc 30) : (execOp a.eval o).run Try.prog w = .ok (.value (.pointer (some ⟨w.heap.size, 0, none⟩))) (w.alloc (.cells (by8 (List.replicate 5 0)).toArray 30)) := by
  have hz : (Try.t30).zero = some (.agg (by8 (List.replicate 5 0)).toArray) := by kernel_rfl
  unfold execOp
  rw [ho]
  simp [go_sem, zeroValue, hz]
theorem exec_streql (s t : Sec) {ρ : Operand → Value} {o : Oper} {x y : Operand} {ty : TypeId} (ho : o.op = .binOp .eql 9 x y ty) (hx : ρ x = .string ⟨s.1.toArray⟩) (hy : ρ y = .string ⟨t.1.toArray⟩) (w : World) :
    (execOp ρ o).run Try.prog w = .ok (.value (.bool (decide (s = t)))) w := by
  by_cases h : s = t
  · subst h
    rw [decide_eq_true rfl]
    exact exec_streq ho hx hy w
  · have hne : ¬ s.1 = t.1 := fun e => h (Subtype.ext e)
    unfold execOp
    simp only [ho, hx, hy]
    simp [go_sem, h, hne]
theorem exec_inteqH {l m : Int} {b : Bool} {ρ : Operand → Value} {o : Oper} {x y : Operand} {t : TypeId} (ho : o.op = .binOp .eql 3 x y t) (hx : ρ x = .int .i64 l) (hy : ρ y = .int .i64 m) (hb : decide (l = m) = b) (w : World) :
    (execOp ρ o).run Try.prog w = .ok (.value (.bool b)) w := exec_inteq ho hx hy hb w
/-- The argument's parts, in a world. -/
structure HoArg (w : World) (v1 v2 v3 : Value) (n1 n2 n3 : Nat) (l1 l2 : List (UInt8 × UInt8)) (keep : List Bool) : Prop where
  s1 : Sl w 2 v1 n1 (l1.flatMap prC)
  s2 : Sl w 2 v2 n2 (l2.flatMap prC)
  s3 : Sl w 1 v3 n3 (keep.map Value.bool)
theorem HoArg.below {w w' : World} {v1 v2 v3 : Value} {n1 n2 n3 : Nat} {l1 l2 : List (UInt8 × UInt8)} {keep : List Bool} (h : HoArg w v1 v2 v3 n1 n2 n3 l1 l2 keep) (hb : Below w.heap.size w w') : HoArg w' v1 v2 v3 n1 n2 n3 l1 l2 keep := ⟨h.s1.up hb, h.s2.up hb, h.s3.up hb⟩

/-- What holds on the way: the disk, the array of what was. -/
structure HoI (w : World) (B M A : Nat) (d : Disk) (was : List UInt8) (wr : World) : Prop where
  below : Below w.heap.size w wr
  disk : ∃ u, DiskAt wr B M u d
  was : RowAt wr A (by8 was).toArray 30
  neB : A ≠ B
  neM : A ≠ M
theorem HoI.up {w wr wr' : World} {B M A : Nat} {d : Disk} {was : List UInt8} (h : HoI w B M A d was wr) (hb : Below wr.heap.size wr wr') : HoI w B M A d was wr' :=
  ⟨below_up h.below hb, let ⟨u, hu⟩ := h.disk; ⟨u, hu.below hb⟩, h.was.below hb, h.neB, h.neM⟩
theorem HoI.but {w wr wr' : World} {B M A : Nat} {d d' : Disk} {was : List UInt8} (h : HoI w B M A d was wr) (hB : w.heap.size ≤ B) (hM : w.heap.size ≤ M) (hd : ∃ u, DiskAt wr' B M u d') (hb : But (fun i => i = B ∨ i = M) wr wr') : HoI w B M A d' was wr' :=
  ⟨h.below.trans (hb.below (fun k e => by omega) h.below.size), hd, (hb.same A h.was.lt (fun e => e.elim h.neB h.neM)).trans h.was, h.neB, h.neM⟩
theorem by8_set (l : List UInt8) (i : Nat) (y : UInt8) : by8 (l.set i y) = (by8 l).set i (.int .u8 (y.toNat : Int)) := by unfold by8; rw [List.map_set]
theorem HoI.store {w wr wr' : World} {B M A : Nat} {d : Disk} {was : List UInt8} {i : Nat} {y : UInt8} (h : HoI w B M A d was wr) (hA : w.heap.size ≤ A) (hr : RowAt wr' A ((by8 was).toArray.setIfInBounds i (.int .u8 (y.toNat : Int))) 30) (hb : But (· = A) wr wr') (hl : was.length < 65 := by simp [wasF_len]) : HoI w B M A d (was.set i y) wr' := by
  obtain ⟨u, hu⟩ := h.disk
  refine ⟨h.below.trans (hb.below (fun k e => by omega) h.below.size), ⟨u, hu.but hb (fun e => h.neB e.symm) (fun e => h.neM e.symm) ((hu.sl.apart65 h.was (by simp [by8_len]; omega)).imp id fun h k hk => h k hk)⟩, ?_, h.neB, h.neM⟩
  rw [by8_set]
  rwa [List.setIfInBounds_toArray] at hr
set_option maxHeartbeats 8000000 in
set_option maxRecDepth 100000 in
theorem diskHolds_c (dWorks_c : ∀ w : World, Calls Try.prog 6 #[] w (Ret (.bool true) w)) (v1 v2 v3 : Value) (n1 n2 n3 : Nat) (l1 l2 : List (UInt8 × UInt8)) (keep : List Bool) (w : World) (h : HoArg w v1 v2 v3 n1 n2 n3 l1 l2 keep) (h1 : n1 ≤ 30) (h2 : n2 ≤ 30) (h3 : n3 ≤ 60) :
    Calls Try.prog 3 #[v1, v2, v3] w (Ret (.bool true) w) := by
  have hl1 : l1.length = n1 := Sl.recs (cells := prC) (sz := 2) (fun _ => rfl) (by decide) h.s1
  have hl2 : l2.length = n2 := Sl.recs (cells := prC) (sz := 2) (fun _ => rfl) (by decide) h.s2
  obtain ⟨a1, c1, rfl⟩ := h.s1.len
  obtain ⟨a2, c2, rfl⟩ := h.s2.len
  obtain ⟨a3, c3, rfl⟩ := h.s3.len
  have HL1 := Lib.hid hl1
  have HL2 := Lib.hid hl2
  have HH := Lib.hid h
  have g1 : (n1 : Int) ≤ 30 := by omega
  have g2 : (n2 : Int) ≤ 30 := by omega
  have g3 : (n3 : Int) ≤ 60 := by omega
  clear hl1 hl2 h
  go_enter Try.func3, Try.ntmps3
  go_wp2_with fail
  go_at_call 7
  refine (dNew_c 5 (by decide) (by decide) _).mono ?_
  rintro en w1 ⟨rfl, V, hq⟩
  obtain ⟨B, hB⟩ : ∃ B, w.heap.size + 1 = B := ⟨_, rfl⟩
  obtain ⟨M, hM⟩ : ∃ M, w.heap.size = M := ⟨_, rfl⟩
  have hBl : w.heap.size ≤ B := by omega
  have hMl : w.heap.size ≤ M := by omega
  rw [hB] at V
  rw [hM] at V
  have HM := Lib.hid hM
  clear hM
  rw [hB]
  clear hB
  have HB1 := Lib.hid hq
  clear hq
  go_wp2_with (first
    | (go_at_call 8; refine (dNum_c 0 _).mono ?_; rintro en w2 ⟨rfl, rfl⟩)
    | (refine Go.Great.wpList_allocTo rfl (some 9) rfl _ _ (run_alloc_five _ _ _ rfl) ?_))
  have hA0 : HoI w B M w1.heap.size ⟨-1, 5, [], []⟩ (wasF (l1.take 0) (List.replicate 5 0)) (w1.alloc (.cells (by8 (List.replicate 5 0)).toArray 30)) :=
    ⟨below_up HB1.out (below_alloc _ _), ⟨_, V.below (below_alloc _ _)⟩, RowAt.new _ _ _, fun e => by have := V.var.lt; omega, fun e => by have := V.map.lt; omega⟩
  obtain ⟨A, hA⟩ : ∃ A, w1.heap.size = A := ⟨_, rfl⟩
  have hAl : w.heap.size ≤ A := by have := HB1.out.size; omega
  rw [hA] at hA0 ⊢
  clear hA V
  go_loopw [10] (fun i wr => ∃ k : Nat, k ≤ n1 ∧ i = .int .i64 k ∧ HoI w B M A ⟨-1, 5, [], wrs (l1.take k)⟩ (wasF (l1.take k) (List.replicate 5 0)) wr) (fun i _ => n1 - (intOf i).toNat)
  case atStart => exact ⟨0, Nat.zero_le _, rfl, hA0⟩
  case round =>
    obtain ⟨k, hk, rfl, hI⟩ := hrel
    clear hA0
    by_cases hlt : k < n1
    · have hk1 : k < l1.length := by rw [HL1.out]; exact hlt
      have HT := Lib.hid (wrs_take hk1)
      have HW := Lib.hid (wasF_take hk1 (List.replicate 5 0))
      obtain ⟨b, off, rfl, hr⟩ := (HH.out.below hI.below).s1.rec_at (cells := prC) (sz := 2) (fun _ => rfl) hlt hk1
      obtain ⟨p, hp⟩ : ∃ p, l1[k] = p := ⟨_, rfl⟩
      rw [hp] at HT HW hr
      have HP := Lib.hid hp
      clear hp
      obtain ⟨px, py⟩ := p
      have c0 := hr 0 (.int .u8 (px.toNat : Int)) rfl
      have c1 := hr 1 (.int .u8 (py.toNat : Int)) rfl
      simp only [Nat.add_zero] at c0
      have x0 : (0 : Int) ≤ (px.toNat : Int) := by omega
      have x1 : (px.toNat : Int) ≤ 255 := by have := px.toNat_lt; omega
      have hkn : (k : Int) < (n1 : Int) := by omega
      obtain ⟨u, V⟩ := hI.disk
      have HII := Lib.hid hI
      clear hI hr
      go_wp2_with fail
      go_at_call 10
      refine (dFullN_c py _ rfl _).mono ?_
      rintro en w2 ⟨rfl, hf, hb2⟩
      have Fb := sl_of_row hf
      have V2 := V.below hb2
      have hz2 := V2.var.lt
      have hwk : writeE ⟨-1, 5, [], wrs (l1.take k)⟩ ((px.toNat : Int) % 5) 64 = 0 := by
        have e : offB ((px.toNat : Int) % 5) 5 = false := by unfold offB; simp; omega
        unfold writeE; simp [e]
      have hwf : (Lit.int .i64 ((px.toNat : Int) % 5)).wf = true := by simp [Lit.wf, IntKind.min, IntKind.max, IntKind.signed, IntKind.bits]; omega
      have hwl : (wrs (l1.take k)).length ≤ 1000000 := by unfold wrs; rw [List.length_map]; have := List.length_take_le k l1; omega
      have hwc := dWrite_c (d := ⟨-1, 5, [], wrs (l1.take k)⟩) (by simp) (by simp) hwl ((px.toNat : Int) % 5) (fullS py) hwf _ V2 Fb hwk
      have HI2 := Lib.hid (HII.out.up hb2)
      clear hwk hwf hwl hf Fb
      go_wp2_with fail
      go_at_call 9
      refine hwc.mono ?_
      rintro en w3 ⟨rfl, ⟨u3, V3⟩, hb3⟩
      have hI3 : HoI w B M A ⟨-1, 5, [], wrs (l1.take (k + 1))⟩ (wasF (l1.take k) (List.replicate 5 0)) w3 := by
        refine HI2.out.but hBl hMl ⟨u3, ?_⟩ (hb3.mono fun _ _ e => .inl e)
        have e : wrs (l1.take k) ++ [((px.toNat : Int) % 5, fullS py)] = wrs (l1.take (k + 1)) := by rw [HT.out]; unfold wrOf; simp
        rw [← e]; exact V3
      obtain ⟨b', off', e1, hr3⟩ := (HH.out.below hI3.below).s1.rec_at (cells := prC) (sz := 2) (fun _ => rfl) hlt hk1
      obtain ⟨rfl, rfl⟩ : b = b' ∧ off = off' := by simpa using e1
      rw [HP.out] at hr3
      have d1 := hr3 1 (.int .u8 (py.toNat : Int)) rfl
      have wl : (wasF (l1.take k) (List.replicate 5 0)).length = 5 := by rw [wasF_len]; rfl
      have m0 : (0 : Int) ≤ (px.toNat : Int) % 5 := by omega
      have m1 : (px.toNat : Int) % 5 < 5 := by omega
      have mt : ((px.toNat : Int) % 5).toNat = px.toNat % 5 := by omega
      have fA := hI3.was.fz (px.toNat % 5)
      obtain ⟨xo, hxo⟩ : ∃ x, (by8 (wasF (l1.take k) (List.replicate 5 0))).toArray[px.toNat % 5]? = some x := by
        have hlen : (by8 (wasF (l1.take k) (List.replicate 5 0))).length = 5 := by rw [by8_len, wl]
        exact ⟨(by8 (wasF (l1.take k) (List.replicate 5 0)))[px.toNat % 5]'(by omega), by simp⟩
      have cA := hI3.was.cell hxo
      have hsA := hI3.was.set (px.toNat % 5) (.int .u8 (py.toNat : Int))
      have hbA : But (· = A) w3 (w3.setCell ⟨A, px.toNat % 5, none⟩ (.int .u8 (py.toNat : Int))) := But.setCell _ _ _ (.inl rfl)
      have HS := Lib.hid (And.intro hsA hbA)
      clear hsA hbA hxo V3 hb3 HI2 hwc V2 V
      have HI3 := Lib.hid hI3
      clear hI3 hr3
      go_wp2_with (go_at_call 8; refine (dNum_c 0 _).mono ?_; rintro en w4 ⟨rfl, rfl⟩)
      go_roundw
      case rel =>
        refine ⟨k + 1, by omega, by go_num, ?_⟩
        rw [HW.out]
        exact HI3.out.store hAl HS.out.1 HS.out.2
      case measure => simp [intOf]; omega
    · obtain rfl : k = n1 := by omega
      have ht : l1.take k = l1 := List.take_of_length_le (by rw [HL1.out]; omega)
      rw [ht] at hI
      clear ht
      have HWN := Lib.hid (lie_lays l1 [] (List.replicate 5 0) rfl lie_zero)
      obtain ⟨was, hwas⟩ : ∃ x, wasF l1 (List.replicate 5 0) = x := ⟨_, rfl⟩
      have hw5 : was.length = 5 := by rw [← hwas, wasF_len]; rfl
      rw [hwas] at HWN hI
      have HW5 := Lib.hid hw5
      clear hwas hw5
      obtain ⟨u, V⟩ := hI.disk
      have HII := Lib.hid hI
      clear hI
      go_wp2_with fail
      go_at_call 11
      refine (dSync_c (d := ⟨-1, 5, [], wrs l1⟩) (by simp) (by simp) _ V (by simp)).mono ?_
      rintro en w2 ⟨rfl, V2, hb2⟩
      have hI2 : HoI w B M A ⟨-1, 5, laysF [] (wrs l1), []⟩ was w2 := HII.out.but hBl hMl ⟨_, V2⟩ hb2
      obtain ⟨E1, hE1⟩ : ∃ E, laysF [] (wrs l1) = E := ⟨_, rfl⟩
      rw [hE1] at hI2 HWN
      clear V V2 hb2 hE1
      go_wp2_with (go_at_call 8; refine (dNum_c 0 _).mono ?_; rintro en w4 ⟨rfl, rfl⟩)
      go_loopw [12] (fun i wr => ∃ j : Nat, j ≤ n2 ∧ i = .int .i64 j ∧ HoI w B M A ⟨-1, 5, E1, wrs (l2.take j)⟩ was wr) (fun i _ => n2 - (intOf i).toNat)
      case atStart => exact ⟨0, Nat.zero_le _, rfl, hI2⟩
      case round =>
      obtain ⟨j, hj, rfl, hI⟩ := hrel
      clear hI2
      by_cases hlt2 : j < n2
      · have hk2 : j < l2.length := by rw [HL2.out]; exact hlt2
        have HT := Lib.hid (wrs_take hk2)
        obtain ⟨b, off, rfl, hr⟩ := (HH.out.below hI.below).s2.rec_at (cells := prC) (sz := 2) (fun _ => rfl) hlt2 hk2
        obtain ⟨p, hp⟩ : ∃ p, l2[j] = p := ⟨_, rfl⟩
        rw [hp] at HT hr
        have HP := Lib.hid hp
        clear hp
        obtain ⟨px, py⟩ := p
        have c0 := hr 0 (.int .u8 (px.toNat : Int)) rfl
        have c1 := hr 1 (.int .u8 (py.toNat : Int)) rfl
        simp only [Nat.add_zero] at c0
        have hbB : b ≠ B := by
          obtain ⟨b0, off0, e0, hr0⟩ := HH.out.s2.rec_at (cells := prC) (sz := 2) (fun _ => rfl) hlt2 hk2
          obtain ⟨rfl, rfl⟩ : b = b0 ∧ off = off0 := by simpa using e0
          rw [HP.out] at hr0
          have := World.block_lt_of_cell? w _ (hr0 0 (.int .u8 (px.toNat : Int)) rfl)
          simp only at this
          omega
        have x0 : (0 : Int) ≤ (px.toNat : Int) := by omega
        have x1 : (px.toNat : Int) ≤ 255 := by have := px.toNat_lt; omega
        have hkn : (j : Int) < (n2 : Int) := by omega
        obtain ⟨u, V⟩ := hI.disk
        have HII := Lib.hid hI
        have hwk : writeE ⟨-1, 5, E1, wrs (l2.take j)⟩ ((px.toNat : Int) % 5) 64 = 0 := by
          have e : offB ((px.toNat : Int) % 5) 5 = false := by unfold offB; simp; omega
          unfold writeE; simp [e]
        have hwf : (Lit.int .i64 ((px.toNat : Int) % 5)).wf = true := by simp [Lit.wf, IntKind.min, IntKind.max, IntKind.signed, IntKind.bits]; omega
        have hwl : (wrs (l2.take j)).length ≤ 1000000 := by unfold wrs; rw [List.length_map]; have := List.length_take_le j l2; omega
        have hrm : IntKind.i64.wrap ((px.toNat : Int).tmod 5) = (px.toNat : Int) % 5 := by rw [Int.tmod_eq_emod_of_nonneg x0]; exact IntWalk.i64_in _ (by omega)
        clear hI hr
        go_wp2
        refine wp_region_pt (fun i => i = B) (.q 0 (.q 1 (.q 2 (.q 3 (.q 4 (.q 5 (.q 6 (.q 7 (.q 8 (.q 9 (.q 10 (.q 11 (.q 12 (.c 13 (.c 14 (.c 15 (.q 16 .done))))))))))))))))) (by kernel_rfl) (by kernel_rfl) (by kernel_rfl) (by decide) (fun _ _ d _ _ h => by cases d <;> exact h) (fun Wd hBd => ?_)
        try simp only [Act.put, List.getElem_toArray, List.getElem_cons_zero, List.getElem_cons_succ, List.setIfInBounds_toArray, List.set_cons_zero, List.set_cons_succ]
        have Vd := V.below hBd
        have c0d := cell_up hBd c0
        have c1d := cell_up hBd c1
        have hId := HII.out.up hBd
        refine pt_q (v := ?_) rfl (by rfl) ?_ ?_
        rotate_left
        · intro w' hBw'
          have p0 := hBw'.cell c0d hbB
          have p1 := hBw'.cell c1d hbB
          first | (go_simp; done) | (go_simp; with_reducible rfl)
        try simp only [Act.put, List.getElem_toArray, List.getElem_cons_zero, List.getElem_cons_succ, List.setIfInBounds_toArray, List.set_cons_zero, List.set_cons_succ]
        refine pt_q (v := ?_) rfl (by rfl) ?_ ?_
        rotate_left
        · intro w' hBw'
          have p0 := hBw'.cell c0d hbB
          have p1 := hBw'.cell c1d hbB
          first | (go_simp; done) | (go_simp; with_reducible rfl)
        try simp only [Act.put, List.getElem_toArray, List.getElem_cons_zero, List.getElem_cons_succ, List.setIfInBounds_toArray, List.set_cons_zero, List.set_cons_succ]
        refine pt_q (v := ?_) rfl (by rfl) ?_ ?_
        rotate_left
        · intro w' hBw'
          have p0 := hBw'.cell c0d hbB
          have p1 := hBw'.cell c1d hbB
          first | (go_simp; done) | (go_simp; with_reducible rfl)
        try simp only [Act.put, List.getElem_toArray, List.getElem_cons_zero, List.getElem_cons_succ, List.setIfInBounds_toArray, List.set_cons_zero, List.set_cons_succ]
        refine pt_q (v := ?_) rfl (by rfl) ?_ ?_
        rotate_left
        · intro w' hBw'
          have p0 := hBw'.cell c0d hbB
          have p1 := hBw'.cell c1d hbB
          first | (go_simp; done) | (go_simp; with_reducible rfl)
        try simp only [Act.put, List.getElem_toArray, List.getElem_cons_zero, List.getElem_cons_succ, List.setIfInBounds_toArray, List.set_cons_zero, List.set_cons_succ]
        refine pt_q (v := ?_) rfl (by rfl) ?_ ?_
        rotate_left
        · intro w' hBw'
          have p0 := hBw'.cell c0d hbB
          have p1 := hBw'.cell c1d hbB
          first | (go_simp; done) | (go_simp; with_reducible rfl)
        try simp only [Act.put, List.getElem_toArray, List.getElem_cons_zero, List.getElem_cons_succ, List.setIfInBounds_toArray, List.set_cons_zero, List.set_cons_succ]
        refine pt_q (v := ?_) rfl (by rfl) ?_ ?_
        rotate_left
        · intro w' hBw'
          have p0 := hBw'.cell c0d hbB
          have p1 := hBw'.cell c1d hbB
          first | (go_simp; done) | (go_simp; with_reducible rfl)
        try simp only [Act.put, List.getElem_toArray, List.getElem_cons_zero, List.getElem_cons_succ, List.setIfInBounds_toArray, List.set_cons_zero, List.set_cons_succ]
        refine pt_q (v := ?_) rfl (by rfl) ?_ ?_
        rotate_left
        · intro w' hBw'
          have p0 := hBw'.cell c0d hbB
          have p1 := hBw'.cell c1d hbB
          first | (go_simp; done) | (go_simp; with_reducible rfl)
        try simp only [Act.put, List.getElem_toArray, List.getElem_cons_zero, List.getElem_cons_succ, List.setIfInBounds_toArray, List.set_cons_zero, List.set_cons_succ]
        refine pt_q (v := ?_) rfl (by rfl) ?_ ?_
        rotate_left
        · intro w' hBw'
          have p0 := hBw'.cell c0d hbB
          have p1 := hBw'.cell c1d hbB
          first | (go_simp; done) | (go_simp; with_reducible rfl)
        try simp only [Act.put, List.getElem_toArray, List.getElem_cons_zero, List.getElem_cons_succ, List.setIfInBounds_toArray, List.set_cons_zero, List.set_cons_succ]
        refine pt_q (v := ?_) rfl (by rfl) ?_ ?_
        rotate_left
        · intro w' hBw'
          have p0 := hBw'.cell c0d hbB
          have p1 := hBw'.cell c1d hbB
          first | (go_simp; done) | (go_simp; with_reducible rfl)
        try simp only [Act.put, List.getElem_toArray, List.getElem_cons_zero, List.getElem_cons_succ, List.setIfInBounds_toArray, List.set_cons_zero, List.set_cons_succ]
        refine pt_q (v := ?_) rfl (by rfl) ?_ ?_
        rotate_left
        · intro w' hBw'
          have p0 := hBw'.cell c0d hbB
          have p1 := hBw'.cell c1d hbB
          first | (go_simp; done) | (go_simp; with_reducible rfl)
        try simp only [Act.put, List.getElem_toArray, List.getElem_cons_zero, List.getElem_cons_succ, List.setIfInBounds_toArray, List.set_cons_zero, List.set_cons_succ]
        refine pt_q (v := ?_) rfl (by rfl) ?_ ?_
        rotate_left
        · intro w' hBw'
          have p0 := hBw'.cell c0d hbB
          have p1 := hBw'.cell c1d hbB
          first | (go_simp; done) | (go_simp; with_reducible rfl)
        try simp only [Act.put, List.getElem_toArray, List.getElem_cons_zero, List.getElem_cons_succ, List.setIfInBounds_toArray, List.set_cons_zero, List.set_cons_succ]
        refine pt_q (v := ?_) rfl (by rfl) ?_ ?_
        rotate_left
        · intro w' hBw'
          have p0 := hBw'.cell c0d hbB
          have p1 := hBw'.cell c1d hbB
          first | (go_simp; done) | (go_simp; with_reducible rfl)
        try simp only [Act.put, List.getElem_toArray, List.getElem_cons_zero, List.getElem_cons_succ, List.setIfInBounds_toArray, List.set_cons_zero, List.set_cons_succ]
        refine pt_q (v := ?_) rfl (by rfl) ?_ ?_
        rotate_left
        · intro w' hBw'
          have p0 := hBw'.cell c0d hbB
          have p1 := hBw'.cell c1d hbB
          first | (go_simp; done) | (go_simp; with_reducible rfl)
        try simp only [Act.put, List.getElem_toArray, List.getElem_cons_zero, List.getElem_cons_succ, List.setIfInBounds_toArray, List.set_cons_zero, List.set_cons_succ]
        refine pt_c ?_
        refine pt_step rfl (by rfl) (fun K hK => ?_)
        go_simp
        refine (dFullN_c py _ rfl _).mono ?_
        rintro en w2 ⟨rfl, hf, hb2⟩
        have V2 := Vd.below hb2
        have hwc := dWrite_c (d := ⟨-1, 5, E1, wrs (l2.take j)⟩) (by simp) (by simp) hwl ((px.toNat : Int) % 5) (fullS py) hwf _ V2 (sl_of_row hf) hwk
        refine hK.out _ _ (But.of_below hb2) ?_
        clear hK K
        try simp only [Act.put, List.getElem_toArray, List.getElem_cons_zero, List.getElem_cons_succ, List.setIfInBounds_toArray, List.set_cons_zero, List.set_cons_succ]
        refine pt_c ?_
        refine pt_step rfl (by rfl) (fun K hK => ?_)
        go_simp
        refine hwc.mono ?_
        rintro en w3 ⟨rfl, ⟨u3, V3⟩, hb3⟩
        refine hK.out _ _ hb3 ?_
        clear hK K
        try simp only [Act.put, List.getElem_toArray, List.getElem_cons_zero, List.getElem_cons_succ, List.setIfInBounds_toArray, List.set_cons_zero, List.set_cons_succ]
        refine pt_c ?_
        refine pt_step rfl (by rfl) (fun K hK => ?_)
        go_simp
        refine (dNum_c 0 _).mono ?_
        rintro en w4 ⟨rfl, rfl⟩
        refine hK.out _ _ (But.refl _ _) ?_
        clear hK K
        try simp only [Act.put, List.getElem_toArray, List.getElem_cons_zero, List.getElem_cons_succ, List.setIfInBounds_toArray, List.set_cons_zero, List.set_cons_succ]
        refine pt_q (v := ?_) rfl (by rfl) ?_ ?_
        rotate_left
        · intro w' hBw'
          first | (go_simp; done) | (go_simp; with_reducible rfl)
        try simp only [Act.put, List.getElem_toArray, List.getElem_cons_zero, List.getElem_cons_succ, List.setIfInBounds_toArray, List.set_cons_zero, List.set_cons_succ]
        refine pt_done ?_
        have hI3 : HoI w B M A ⟨-1, 5, E1, wrs (l2.take (j + 1))⟩ was w3 := by
          refine (hId.up hb2).but hBl hMl ⟨u3, ?_⟩ (hb3.mono fun _ _ e => .inl e)
          have e : wrs (l2.take j) ++ [((px.toNat : Int) % 5, fullS py)] = wrs (l2.take (j + 1)) := by rw [HT.out]; unfold wrOf; simp
          rw [← e]; exact V3
        have HI3 := Lib.hid hI3
        clear hI3 V3 hb3 hId hb2 hwc V2 hrm c0d c1d c0 c1 hwk hwf hwl
        go_wp2
        go_roundw
        case rel => exact ⟨j + 1, by omega, by go_num, HI3.out⟩
        case measure => simp [intOf]; omega
      · obtain rfl : j = n2 := by omega
        have ht : l2.take j = l2 := List.take_of_length_le (by rw [HL2.out]; omega)
        rw [ht] at hI
        clear ht
        have hwl : (wrs l2).length ≤ 1000000 := by unfold wrs; rw [List.length_map, HL2.out]; omega
        obtain ⟨W2, hW2⟩ : ∃ W, wrs l2 = W := ⟨_, rfl⟩
        rw [hW2] at hI hwl
        have HW2 := Lib.hid hW2
        obtain ⟨u, V⟩ := hI.disk
        have HI4 := Lib.hid hI
        have hcp := dCopy_c _ V hwl
        clear hI hW2
        go_wp2_with fail
        go_at_call 12
        refine hcp.mono ?_
        rintro en w5 ⟨B2, M2, u2, rfl, V2, hB2, hM2, hu2, hb5⟩
        have V1 := V.below hb5
        have hzV := V.var.lt
        have hzM := V.map.lt
        have huB := V.sl.blk (by decide)
        have HQ := Lib.hid hb5
        have hz5 := hb5.size
        clear hcp V hb5 V1
        go_wp2_with fail
        go_at_call 13
        refine (dArm_c 0 _ V2).mono ?_
        rintro en w6 ⟨rfl, V3, hb6⟩
        replace V3 : DiskAt w6 B2 M2 u2 ⟨0, 5, E1, W2⟩ := V3
        replace HQ := Lib.hid (HQ.out.trans (hb6.below (fun k e => by have e : k = B2 := e; omega) hz5))
        clear hb6 V2 hz5
        go_wp2_with fail
        go_at_call 10
        refine (dFullN_c 1 _ rfl _).mono ?_
        rintro en w7 ⟨rfl, _, hb7⟩
        replace V3 := V3.below hb7
        replace HQ := Lib.hid (below_up HQ.out hb7)
        clear hb7
        have hwc := fun a : Option Addr => dWriteBad_c (n := 64) (c := 64) (a := a) 0 _ V3 (by rw [show writeE ⟨0, 5, E1, W2⟩ 0 64 = 190 from rfl]; decide)
        simp only [show writeE ⟨0, 5, E1, W2⟩ 0 64 = 190 from rfl] at hwc
        go_wp2_with fail
        go_at_call 9
        refine (hwc _).mono ?_
        rintro en w8 ⟨rfl, hb8⟩
        replace V3 := V3.below hb8
        replace HQ := Lib.hid (below_up HQ.out hb8)
        clear hb8 hwc
        go_wp2_with fail
        go_at_call 11
        refine (dSyncNo_c _ V3 rfl).mono ?_
        rintro en w9 ⟨rfl, hb9⟩
        replace V3 := V3.below hb9
        replace HQ := Lib.hid (below_up HQ.out hb9)
        clear hb9
        have hzq := HQ.out.size
        go_wp2_with (first
          | (go_at_call 8; refine (dNum_c _ _).mono ?_; rintro en w4 ⟨rfl, rfl⟩)
          | (go_at_call 13; refine (dArm_c (-1) _ V3).mono ?_; rintro en wA ⟨rfl, V4, hbA⟩; replace V4 : DiskAt wA B2 M2 u2 ⟨-1, 5, E1, W2⟩ := V4; have HQA := Lib.hid (HQ.out.trans (hbA.below (fun k e => by have e : k = B2 := e; omega) hzq)); have HIA := Lib.hid (HI4.out.up HQA.out); obtain ⟨uA, VA⟩ := HIA.out.disk; have hsm := dSame_c wA V4 VA (by simp) (by simp); rw [sameB_refl] at hsm)
          | (go_at_call 14; refine hsm.mono ?_; rintro en wS ⟨rfl, hbS⟩; have VS := VA.below hbS; have hcr := dCrash_c _ n3 keep wS VS (HH.out.below (HIA.out.up hbS).below).s3)
          | (go_at_call 15; refine hcr.mono ?_; rintro en wC ⟨rfl, VC, hbC⟩; have HIC := Lib.hid ((HIA.out.up hbS).but hBl hMl ⟨_, VC⟩ hbC)))
        have HIE : HoI w B M A ⟨-1, 5, crashF E1 W2 keep, []⟩ was wC := HIC.out
        have HL : ∀ q, ∀ hq : q < was.length, lie (crashF E1 W2 keep) (q : Int) = fullS was[q] ∨ ∃ i, ∃ hi : i < l2.length, l2[i].1.toNat % 5 = q ∧ lie (crashF E1 W2 keep) (q : Int) = fullS l2[i].2 := by
          intro q hq
          have := lie_crash E1 l2 keep q l2.length (Nat.le_refl _)
          unfold crashF
          rw [← HW2.out]
          rw [show (wrs l2).length = l2.length by unfold wrs; simp]
          rw [HWN q hq] at this
          exact this
        obtain ⟨E2, hE2⟩ : ∃ E, crashF E1 W2 keep = E := ⟨_, rfl⟩
        rw [hE2] at HIE HL
        have HLL := Lib.hid HL
        have HIF := Lib.hid HIE
        clear HIE HL HIC hbC VC hcr VS hbS hsm VA HIA HQA hbA V4 V3 HQ hzq hE2
        go_loopg [17] 5 (fun gh i wr => ∃ q : Nat, q ≤ 5 ∧ gh = 5 - q ∧ i = .int .i64 q ∧ HoI w B M A ⟨-1, 5, E2, []⟩ was wr)
        case atStart => exact ⟨0, Nat.zero_le _, rfl, rfl, HIF.out⟩
        case round =>
        obtain ⟨q, hq, rfl, rfl, hI⟩ := hrel
        by_cases hlt5 : q < 5
        · obtain ⟨u, V⟩ := hI.disk
          have HI6 := Lib.hid hI
          have hoff : offB (q : Int) 5 = false := by unfold offB; simp; omega
          have hwf : (Lit.int .i64 (q : Int)).wf = true := by simp [Lit.wf, IntKind.min, IntKind.max, IntKind.signed, IntKind.bits]; omega
          have hrd := dRead_c (q : Int) hwf _ V hoff
          rw [readF_nil] at hrd
          have hfin := HLL.out q (by rw [HW5.out]; exact hlt5)
          obtain ⟨s, hs⟩ : ∃ s, lie E2 (q : Int) = s := ⟨_, rfl⟩
          rw [hs] at hrd hfin
          obtain ⟨cw, hcw⟩ : ∃ c, was[q]'(by rw [HW5.out]; exact hlt5) = c := ⟨_, rfl⟩
          rw [hcw] at hfin
          have hxq : (by8 was).toArray[q]? = some (.int .u8 (cw.toNat : Int)) := by
            rw [List.getElem?_toArray, by8_get was q (by rw [HW5.out]; exact hlt5), hcw]
          have HFT := Lib.hid (fineB_true hfin)
          clear hs hcw hfin
          have hq5 : (q : Int) < 5 := by omega
          clear hI hoff hwf V
          go_wp2_with fail
          go_at_call 16
          refine hrd.mono ?_
          rintro en w2 ⟨rb, rfl, hrb, hR, hb2⟩
          have SR := sl_of_row hR
          have hI2 := HI6.out.up hb2
          go_wp2_with (go_at_call 8; refine (dNum_c 0 _).mono ?_; rintro en w4 ⟨rfl, rfl⟩)
          refine wp_region_pi [(0, false), (1, false), (2, false), (3, false), (4, false), (5, true), (6, false), (7, false), (8, false)] (by kernel_rfl) (by kernel_rfl) (by kernel_rfl) rfl (fun _ _ d _ _ h => by cases d <;> exact h) (fun Wd hBd => ?_)
          try simp only [Act.put, List.getElem_toArray, List.getElem_cons_zero, List.getElem_cons_succ, List.setIfInBounds_toArray, List.set_cons_zero, List.set_cons_succ]
          have hId := hI2.up hBd
          have cAd := hId.was.cell hxq
          have hxA : ∀ w', Below Wd.heap.size Wd w' → w'.cell? ⟨A, q, none⟩ = some (.int .u8 (cw.toNat : Int)) := fun w' hb => cell_up hb cAd
          have SRd := SR.up hBd
          refine pi_q (v := ?_) rfl (by rfl) ?_ ?_
          rotate_left
          · intro w' hBw'
            first | (go_simp; done) | (go_simp; with_reducible rfl)
          try simp only [Act.put, List.getElem_toArray, List.getElem_cons_zero, List.getElem_cons_succ, List.setIfInBounds_toArray, List.set_cons_zero, List.set_cons_succ]
          refine pi_q (v := .string ⟨s.1.toArray⟩) rfl (by rfl) (by exact fun w' hb' => exec_str rfl (by kernel_rfl) (SRd.up hb')) ?_
          try simp only [Act.put, List.getElem_toArray, List.getElem_cons_zero, List.getElem_cons_succ, List.setIfInBounds_toArray, List.set_cons_zero, List.set_cons_succ]
          refine pi_q (v := ?_) rfl (by rfl) ?_ ?_
          rotate_left
          · intro w' hBw'
            first | (go_simp; done) | (go_simp; with_reducible rfl)
          try simp only [Act.put, List.getElem_toArray, List.getElem_cons_zero, List.getElem_cons_succ, List.setIfInBounds_toArray, List.set_cons_zero, List.set_cons_succ]
          refine pi_q (v := ?_) rfl (by rfl) ?_ ?_
          rotate_left
          · intro w' hBw'
            first | (go_simp; done) | (go_simp; with_reducible rfl)
          try simp only [Act.put, List.getElem_toArray, List.getElem_cons_zero, List.getElem_cons_succ, List.setIfInBounds_toArray, List.set_cons_zero, List.set_cons_succ]
          refine pi_q (v := ?_) rfl (by rfl) ?_ ?_
          rotate_left
          · intro w' hBw'
            first | (go_simp; done) | (go_simp; with_reducible rfl)
          try simp only [Act.put, List.getElem_toArray, List.getElem_cons_zero, List.getElem_cons_succ, List.setIfInBounds_toArray, List.set_cons_zero, List.set_cons_succ]
          refine pi_call rfl (by rfl) (dFullN_c cw _ rfl _) dEnters_full (by rfl) (by kernel_rfl) ?_
          rintro en wN ⟨rfl, hf, hb3⟩
          have Ff := sl_of_row hf
          refine ⟨_, rfl, hb3, ?_⟩
          try simp only [Act.put, List.getElem_toArray, List.getElem_cons_zero, List.getElem_cons_succ, List.setIfInBounds_toArray, List.set_cons_zero, List.set_cons_succ]
          refine pi_q (v := .string ⟨(fullS cw).1.toArray⟩) rfl (by rfl) (by exact fun w' hb' => exec_str rfl (by kernel_rfl) (Ff.up hb')) ?_
          try simp only [Act.put, List.getElem_toArray, List.getElem_cons_zero, List.getElem_cons_succ, List.setIfInBounds_toArray, List.set_cons_zero, List.set_cons_succ]
          refine pi_q (v := .bool (decide (s = fullS cw))) rfl (by rfl) (by exact fun w' _ => exec_streql s (fullS cw) rfl (by kernel_rfl) (by kernel_rfl) w') ?_
          try simp only [Act.put, List.getElem_toArray, List.getElem_cons_zero, List.getElem_cons_succ, List.setIfInBounds_toArray, List.set_cons_zero, List.set_cons_succ]
          refine pi_q (v := ?_) rfl (by rfl) ?_ ?_
          rotate_left
          · intro w' hBw'
            first | (go_simp; done) | (go_simp; with_reducible rfl)
          try simp only [Act.put, List.getElem_toArray, List.getElem_cons_zero, List.getElem_cons_succ, List.setIfInBounds_toArray, List.set_cons_zero, List.set_cons_succ]
          refine pi_nil ?_
          go_wp2
          have SRn := SRd.up hb3
          have hIn := Lib.hid (hId.up hb3)
          have SR2 := Lib.hid SRn
          clear SRn SRd SR hId hI2 hb2 hrd hR hb3 hf Ff hxA cAd hxq HI6
          go_loopg [20, 21] j (fun gh f i wr => ∃ (m : Nat) (fb : Bool), m ≤ j ∧ gh = j - m ∧ f = .bool fb ∧ i = .int .i64 m ∧ fineB s cw l2 q m = fb ∧ Below wN.heap.size wN wr)
          case atStart => exact ⟨0, _, Nat.zero_le _, rfl, rfl, rfl, by unfold fineB; simp, Below.refl _ _⟩
          case round =>
          obtain ⟨m, fb, hm, rfl, rfl, rfl, hfb, hbn⟩ := hrel
          have HFB := Lib.hid hfb
          clear hfb
          by_cases hltm : m < j
          · have hmi : (m : Int) < (j : Int) := by omega
            have hm2 : m < l2.length := by rw [HL2.out]; exact hltm
            have HSU := Lib.hid (fineB_succ (s := s) (c := cw) (j := q) hm2)
            obtain ⟨b, off, rfl, hr⟩ := (HH.out.below (below_up hIn.out.below hbn)).s2.rec_at (cells := prC) (sz := 2) (fun _ => rfl) hltm hm2
            obtain ⟨p, hp⟩ : ∃ p, l2[m] = p := ⟨_, rfl⟩
            rw [hp] at HSU hr
            have HP := Lib.hid hp
            clear hp
            obtain ⟨px, py⟩ := p
            have c0 := hr 0 (.int .u8 (px.toNat : Int)) rfl
            have c1 := hr 1 (.int .u8 (py.toNat : Int)) rfl
            simp only [Nat.add_zero] at c0
            have x0 : (0 : Int) ≤ (px.toNat : Int) := by omega
            have x1 : (px.toNat : Int) ≤ 255 := by have := px.toNat_lt; omega
            have hrm : IntKind.i64.wrap ((px.toNat : Int).tmod 5) = (px.toNat : Int) % 5 := by rw [Int.tmod_eq_emod_of_nonneg x0]; exact IntWalk.i64_in _ (by omega)
            clear hr
            cases fb with
            | true =>
              go_wp2
              refine wp_region_pi [(0, false), (1, false), (2, false), (3, false), (4, false), (5, false), (6, false), (7, false), (8, false), (9, false), (10, false), (11, false), (12, false), (13, false), (14, false), (15, false), (16, false), (17, false), (18, false), (19, false), (20, false), (21, false), (22, false), (23, false), (24, false)] (by kernel_rfl) (by kernel_rfl) (by kernel_rfl) rfl (fun _ _ d _ _ h => by cases d <;> exact h) (fun Wd hBd => ?_)
              try simp only [Act.put, List.getElem_toArray, List.getElem_cons_zero, List.getElem_cons_succ, List.setIfInBounds_toArray, List.set_cons_zero, List.set_cons_succ]
              have hId := below_up hbn hBd
              have SRd := (SR2.out.up hId)
              have c0d : ∀ w', Below Wd.heap.size Wd w' → w'.cell? ⟨b, off + m * 2, none⟩ = some (.int .u8 (px.toNat : Int)) := fun w' hb => cell_up hb (cell_up hBd c0)
              have c1d : ∀ w', Below Wd.heap.size Wd w' → w'.cell? ⟨b, off + m * 2 + 1, none⟩ = some (.int .u8 (py.toNat : Int)) := fun w' hb => cell_up hb (cell_up hBd c1)
              refine pi_q (v := ?_) rfl (by rfl) ?_ ?_
              rotate_left
              · intro w' hBw'
                first | (go_simp; done) | (go_simp; with_reducible rfl)
              try simp only [Act.put, List.getElem_toArray, List.getElem_cons_zero, List.getElem_cons_succ, List.setIfInBounds_toArray, List.set_cons_zero, List.set_cons_succ]
              refine pi_q (v := ?_) rfl (by rfl) ?_ ?_
              rotate_left
              · intro w' hBw'
                first | (go_simp; done) | (go_simp; with_reducible rfl)
              try simp only [Act.put, List.getElem_toArray, List.getElem_cons_zero, List.getElem_cons_succ, List.setIfInBounds_toArray, List.set_cons_zero, List.set_cons_succ]
              refine pi_no rfl (by rfl) ?_
              try simp only [Act.put, List.getElem_toArray, List.getElem_cons_zero, List.getElem_cons_succ, List.setIfInBounds_toArray, List.set_cons_zero, List.set_cons_succ]
              refine pi_no rfl (by rfl) ?_
              try simp only [Act.put, List.getElem_toArray, List.getElem_cons_zero, List.getElem_cons_succ, List.setIfInBounds_toArray, List.set_cons_zero, List.set_cons_succ]
              refine pi_no rfl (by rfl) ?_
              try simp only [Act.put, List.getElem_toArray, List.getElem_cons_zero, List.getElem_cons_succ, List.setIfInBounds_toArray, List.set_cons_zero, List.set_cons_succ]
              refine pi_no rfl (by rfl) ?_
              try simp only [Act.put, List.getElem_toArray, List.getElem_cons_zero, List.getElem_cons_succ, List.setIfInBounds_toArray, List.set_cons_zero, List.set_cons_succ]
              refine pi_no rfl (by rfl) ?_
              try simp only [Act.put, List.getElem_toArray, List.getElem_cons_zero, List.getElem_cons_succ, List.setIfInBounds_toArray, List.set_cons_zero, List.set_cons_succ]
              refine pi_no rfl (by rfl) ?_
              try simp only [Act.put, List.getElem_toArray, List.getElem_cons_zero, List.getElem_cons_succ, List.setIfInBounds_toArray, List.set_cons_zero, List.set_cons_succ]
              refine pi_no rfl (by rfl) ?_
              try simp only [Act.put, List.getElem_toArray, List.getElem_cons_zero, List.getElem_cons_succ, List.setIfInBounds_toArray, List.set_cons_zero, List.set_cons_succ]
              refine pi_no rfl (by rfl) ?_
              try simp only [Act.put, List.getElem_toArray, List.getElem_cons_zero, List.getElem_cons_succ, List.setIfInBounds_toArray, List.set_cons_zero, List.set_cons_succ]
              refine pi_no rfl (by rfl) ?_
              try simp only [Act.put, List.getElem_toArray, List.getElem_cons_zero, List.getElem_cons_succ, List.setIfInBounds_toArray, List.set_cons_zero, List.set_cons_succ]
              refine pi_no rfl (by rfl) ?_
              try simp only [Act.put, List.getElem_toArray, List.getElem_cons_zero, List.getElem_cons_succ, List.setIfInBounds_toArray, List.set_cons_zero, List.set_cons_succ]
              refine pi_no rfl (by rfl) ?_
              try simp only [Act.put, List.getElem_toArray, List.getElem_cons_zero, List.getElem_cons_succ, List.setIfInBounds_toArray, List.set_cons_zero, List.set_cons_succ]
              refine pi_no rfl (by rfl) ?_
              try simp only [Act.put, List.getElem_toArray, List.getElem_cons_zero, List.getElem_cons_succ, List.setIfInBounds_toArray, List.set_cons_zero, List.set_cons_succ]
              refine pi_no rfl (by rfl) ?_
              try simp only [Act.put, List.getElem_toArray, List.getElem_cons_zero, List.getElem_cons_succ, List.setIfInBounds_toArray, List.set_cons_zero, List.set_cons_succ]
              refine pi_no rfl (by rfl) ?_
              try simp only [Act.put, List.getElem_toArray, List.getElem_cons_zero, List.getElem_cons_succ, List.setIfInBounds_toArray, List.set_cons_zero, List.set_cons_succ]
              refine pi_no rfl (by rfl) ?_
              try simp only [Act.put, List.getElem_toArray, List.getElem_cons_zero, List.getElem_cons_succ, List.setIfInBounds_toArray, List.set_cons_zero, List.set_cons_succ]
              refine pi_no rfl (by rfl) ?_
              try simp only [Act.put, List.getElem_toArray, List.getElem_cons_zero, List.getElem_cons_succ, List.setIfInBounds_toArray, List.set_cons_zero, List.set_cons_succ]
              refine pi_no rfl (by rfl) ?_
              try simp only [Act.put, List.getElem_toArray, List.getElem_cons_zero, List.getElem_cons_succ, List.setIfInBounds_toArray, List.set_cons_zero, List.set_cons_succ]
              refine pi_no rfl (by rfl) ?_
              try simp only [Act.put, List.getElem_toArray, List.getElem_cons_zero, List.getElem_cons_succ, List.setIfInBounds_toArray, List.set_cons_zero, List.set_cons_succ]
              refine pi_no rfl (by rfl) ?_
              try simp only [Act.put, List.getElem_toArray, List.getElem_cons_zero, List.getElem_cons_succ, List.setIfInBounds_toArray, List.set_cons_zero, List.set_cons_succ]
              refine pi_no rfl (by rfl) ?_
              try simp only [Act.put, List.getElem_toArray, List.getElem_cons_zero, List.getElem_cons_succ, List.setIfInBounds_toArray, List.set_cons_zero, List.set_cons_succ]
              refine pi_no rfl (by rfl) ?_
              try simp only [Act.put, List.getElem_toArray, List.getElem_cons_zero, List.getElem_cons_succ, List.setIfInBounds_toArray, List.set_cons_zero, List.set_cons_succ]
              refine pi_q (v := ?_) rfl (by rfl) ?_ ?_
              rotate_left
              · intro w' hBw'
                first | (go_simp; done) | (go_simp; with_reducible rfl)
              try simp only [Act.put, List.getElem_toArray, List.getElem_cons_zero, List.getElem_cons_succ, List.setIfInBounds_toArray, List.set_cons_zero, List.set_cons_succ]
              refine pi_q (v := ?_) rfl (by rfl) ?_ ?_
              rotate_left
              · intro w' hBw'
                first | (go_simp; done) | (go_simp; with_reducible rfl)
              try simp only [Act.put, List.getElem_toArray, List.getElem_cons_zero, List.getElem_cons_succ, List.setIfInBounds_toArray, List.set_cons_zero, List.set_cons_succ]
              refine pi_nil ?_
              go_wp2
              go_roundg (j - (m + 1))
              case rel => exact ⟨m + 1, true, by omega, rfl, rfl, by go_num, by rw [HSU.out, HFB.out]; rfl, hId⟩
              case measure => omega
            | false =>
              by_cases hD : px.toNat % 5 = q
              · have HD := Lib.hid (show decide ((px.toNat : Int) % 5 = (q : Int)) = true by simp; omega)
                have HDD := Lib.hid hD
                clear hD
                go_wp2
                refine wp_region_pi [(0, false), (1, false), (2, false), (3, false), (4, false), (5, false), (6, false), (7, false), (8, false), (9, false), (10, false), (11, false), (12, false), (13, false), (14, false), (15, false), (16, false), (17, false), (18, false), (19, true), (20, false), (21, false), (22, false), (23, false), (24, false)] (by kernel_rfl) (by kernel_rfl) (by kernel_rfl) rfl (fun _ _ d _ _ h => by cases d <;> exact h) (fun Wd hBd => ?_)
                try simp only [Act.put, List.getElem_toArray, List.getElem_cons_zero, List.getElem_cons_succ, List.setIfInBounds_toArray, List.set_cons_zero, List.set_cons_succ]
                have hId := below_up hbn hBd
                have SRd := (SR2.out.up hId)
                have c0d : ∀ w', Below Wd.heap.size Wd w' → w'.cell? ⟨b, off + m * 2, none⟩ = some (.int .u8 (px.toNat : Int)) := fun w' hb => cell_up hb (cell_up hBd c0)
                have c1d : ∀ w', Below Wd.heap.size Wd w' → w'.cell? ⟨b, off + m * 2 + 1, none⟩ = some (.int .u8 (py.toNat : Int)) := fun w' hb => cell_up hb (cell_up hBd c1)
                refine pi_q (v := ?_) rfl (by rfl) ?_ ?_
                rotate_left
                · intro w' hBw'
                  first | (go_simp; done) | (go_simp; with_reducible rfl)
                try simp only [Act.put, List.getElem_toArray, List.getElem_cons_zero, List.getElem_cons_succ, List.setIfInBounds_toArray, List.set_cons_zero, List.set_cons_succ]
                refine pi_q (v := ?_) rfl (by rfl) ?_ ?_
                rotate_left
                · intro w' hBw'
                  first | (go_simp; done) | (go_simp; with_reducible rfl)
                try simp only [Act.put, List.getElem_toArray, List.getElem_cons_zero, List.getElem_cons_succ, List.setIfInBounds_toArray, List.set_cons_zero, List.set_cons_succ]
                refine pi_q (v := ?_) rfl (by rfl) ?_ ?_
                rotate_left
                · intro w' hBw'
                  first | (go_simp; done) | (go_simp; with_reducible rfl)
                try simp only [Act.put, List.getElem_toArray, List.getElem_cons_zero, List.getElem_cons_succ, List.setIfInBounds_toArray, List.set_cons_zero, List.set_cons_succ]
                refine pi_q (v := ?_) rfl (by rfl) ?_ ?_
                rotate_left
                · intro w' hBw'
                  first | (go_simp; done) | (go_simp; with_reducible rfl)
                try simp only [Act.put, List.getElem_toArray, List.getElem_cons_zero, List.getElem_cons_succ, List.setIfInBounds_toArray, List.set_cons_zero, List.set_cons_succ]
                refine pi_q (v := ?_) rfl (by rfl) ?_ ?_
                rotate_left
                · intro w' hBw'
                  first | (go_simp; done) | (go_simp; with_reducible rfl)
                try simp only [Act.put, List.getElem_toArray, List.getElem_cons_zero, List.getElem_cons_succ, List.setIfInBounds_toArray, List.set_cons_zero, List.set_cons_succ]
                refine pi_q (v := ?_) rfl (by rfl) ?_ ?_
                rotate_left
                · intro w' hBw'
                  first | (go_simp; done) | (go_simp; with_reducible rfl)
                try simp only [Act.put, List.getElem_toArray, List.getElem_cons_zero, List.getElem_cons_succ, List.setIfInBounds_toArray, List.set_cons_zero, List.set_cons_succ]
                refine pi_q (v := ?_) rfl (by rfl) ?_ ?_
                rotate_left
                · intro w' hBw'
                  first | (go_simp; done) | (go_simp; with_reducible rfl)
                try simp only [Act.put, List.getElem_toArray, List.getElem_cons_zero, List.getElem_cons_succ, List.setIfInBounds_toArray, List.set_cons_zero, List.set_cons_succ]
                refine pi_q (v := ?_) rfl (by rfl) ?_ ?_
                rotate_left
                · intro w' hBw'
                  first | (go_simp; done) | (go_simp; with_reducible rfl)
                try simp only [Act.put, List.getElem_toArray, List.getElem_cons_zero, List.getElem_cons_succ, List.setIfInBounds_toArray, List.set_cons_zero, List.set_cons_succ]
                refine pi_q (v := ?_) rfl (by rfl) ?_ ?_
                rotate_left
                · intro w' hBw'
                  first | (go_simp; done) | (go_simp; with_reducible rfl)
                try simp only [Act.put, List.getElem_toArray, List.getElem_cons_zero, List.getElem_cons_succ, List.setIfInBounds_toArray, List.set_cons_zero, List.set_cons_succ]
                refine pi_q (v := ?_) rfl (by rfl) ?_ ?_
                rotate_left
                · intro w' hBw'
                  first | (go_simp; done) | (go_simp; with_reducible rfl)
                try simp only [Act.put, List.getElem_toArray, List.getElem_cons_zero, List.getElem_cons_succ, List.setIfInBounds_toArray, List.set_cons_zero, List.set_cons_succ]
                refine pi_q (v := .bool true) rfl (by rfl) (by exact fun w' _ => exec_inteq rfl (by kernel_rfl) (by kernel_rfl) HD.out w') ?_
                try simp only [Act.put, List.getElem_toArray, List.getElem_cons_zero, List.getElem_cons_succ, List.setIfInBounds_toArray, List.set_cons_zero, List.set_cons_succ]
                refine pi_q (v := ?_) rfl (by rfl) ?_ ?_
                rotate_left
                · intro w' hBw'
                  first | (go_simp; done) | (go_simp; with_reducible rfl)
                try simp only [Act.put, List.getElem_toArray, List.getElem_cons_zero, List.getElem_cons_succ, List.setIfInBounds_toArray, List.set_cons_zero, List.set_cons_succ]
                refine pi_q (v := ?_) rfl (by rfl) ?_ ?_
                rotate_left
                · intro w' hBw'
                  first | (go_simp; done) | (go_simp; with_reducible rfl)
                try simp only [Act.put, List.getElem_toArray, List.getElem_cons_zero, List.getElem_cons_succ, List.setIfInBounds_toArray, List.set_cons_zero, List.set_cons_succ]
                refine pi_q (v := .string ⟨s.1.toArray⟩) rfl (by rfl) (by exact fun w' hb' => exec_str rfl (by kernel_rfl) (SRd.up hb')) ?_
                try simp only [Act.put, List.getElem_toArray, List.getElem_cons_zero, List.getElem_cons_succ, List.setIfInBounds_toArray, List.set_cons_zero, List.set_cons_succ]
                refine pi_q (v := ?_) rfl (by rfl) ?_ ?_
                rotate_left
                · intro w' hBw'
                  first | (go_simp; done) | (go_simp; with_reducible rfl)
                try simp only [Act.put, List.getElem_toArray, List.getElem_cons_zero, List.getElem_cons_succ, List.setIfInBounds_toArray, List.set_cons_zero, List.set_cons_succ]
                refine pi_q (v := ?_) rfl (by rfl) ?_ ?_
                rotate_left
                · intro w' hBw'
                  first | (go_simp; done) | (go_simp; with_reducible rfl)
                try simp only [Act.put, List.getElem_toArray, List.getElem_cons_zero, List.getElem_cons_succ, List.setIfInBounds_toArray, List.set_cons_zero, List.set_cons_succ]
                refine pi_q (v := ?_) rfl (by rfl) ?_ ?_
                rotate_left
                · intro w' hBw'
                  first | (go_simp; done) | (go_simp; with_reducible rfl)
                try simp only [Act.put, List.getElem_toArray, List.getElem_cons_zero, List.getElem_cons_succ, List.setIfInBounds_toArray, List.set_cons_zero, List.set_cons_succ]
                refine pi_q (v := ?_) rfl (by rfl) ?_ ?_
                rotate_left
                · intro w' hBw'
                  first | (go_simp; done) | (go_simp; with_reducible rfl)
                try simp only [Act.put, List.getElem_toArray, List.getElem_cons_zero, List.getElem_cons_succ, List.setIfInBounds_toArray, List.set_cons_zero, List.set_cons_succ]
                refine pi_q (v := ?_) rfl (by rfl) ?_ ?_
                rotate_left
                · intro w' hBw'
                  first | (go_simp; done) | (go_simp; with_reducible rfl)
                try simp only [Act.put, List.getElem_toArray, List.getElem_cons_zero, List.getElem_cons_succ, List.setIfInBounds_toArray, List.set_cons_zero, List.set_cons_succ]
                refine pi_call rfl (by rfl) (dFullN_c py _ rfl _) dEnters_full (by rfl) (by kernel_rfl) ?_
                rintro en wN ⟨rfl, hf, hb3⟩
                have Ff := sl_of_row hf
                refine ⟨_, rfl, hb3, ?_⟩
                try simp only [Act.put, List.getElem_toArray, List.getElem_cons_zero, List.getElem_cons_succ, List.setIfInBounds_toArray, List.set_cons_zero, List.set_cons_succ]
                refine pi_q (v := .string ⟨(fullS py).1.toArray⟩) rfl (by rfl) (by exact fun w' hb' => exec_str rfl (by kernel_rfl) (Ff.up hb')) ?_
                try simp only [Act.put, List.getElem_toArray, List.getElem_cons_zero, List.getElem_cons_succ, List.setIfInBounds_toArray, List.set_cons_zero, List.set_cons_succ]
                refine pi_q (v := .bool (decide (s = fullS py))) rfl (by rfl) (by exact fun w' _ => exec_streql s (fullS py) rfl (by kernel_rfl) (by kernel_rfl) w') ?_
                try simp only [Act.put, List.getElem_toArray, List.getElem_cons_zero, List.getElem_cons_succ, List.setIfInBounds_toArray, List.set_cons_zero, List.set_cons_succ]
                refine pi_q (v := ?_) rfl (by rfl) ?_ ?_
                rotate_left
                · intro w' hBw'
                  first | (go_simp; done) | (go_simp; with_reducible rfl)
                try simp only [Act.put, List.getElem_toArray, List.getElem_cons_zero, List.getElem_cons_succ, List.setIfInBounds_toArray, List.set_cons_zero, List.set_cons_succ]
                refine pi_q (v := ?_) rfl (by rfl) ?_ ?_
                rotate_left
                · intro w' hBw'
                  first | (go_simp; done) | (go_simp; with_reducible rfl)
                try simp only [Act.put, List.getElem_toArray, List.getElem_cons_zero, List.getElem_cons_succ, List.setIfInBounds_toArray, List.set_cons_zero, List.set_cons_succ]
                refine pi_q (v := ?_) rfl (by rfl) ?_ ?_
                rotate_left
                · intro w' hBw'
                  first | (go_simp; done) | (go_simp; with_reducible rfl)
                try simp only [Act.put, List.getElem_toArray, List.getElem_cons_zero, List.getElem_cons_succ, List.setIfInBounds_toArray, List.set_cons_zero, List.set_cons_succ]
                refine pi_nil ?_
                go_wp2
                go_roundg (j - (m + 1))
                case rel => exact ⟨m + 1, _, by omega, rfl, rfl, by go_num, by rw [HSU.out, HFB.out, decide_eq_true HDD.out]; simp, below_up hId hb3⟩
                case measure => omega
              · have HD := Lib.hid (show decide ((px.toNat : Int) % 5 = (q : Int)) = false by simp; omega)
                have HDD := Lib.hid hD
                clear hD
                go_wp2
                refine wp_region_pi [(0, false), (1, false), (2, false), (3, false), (4, false), (5, false), (6, false), (7, false), (8, false), (9, false), (10, false), (11, false), (12, false), (13, false), (14, false), (15, false), (16, false), (17, false), (18, false), (19, false), (20, false), (21, false), (22, false), (23, false), (24, false)] (by kernel_rfl) (by kernel_rfl) (by kernel_rfl) rfl (fun _ _ d _ _ h => by cases d <;> exact h) (fun Wd hBd => ?_)
                try simp only [Act.put, List.getElem_toArray, List.getElem_cons_zero, List.getElem_cons_succ, List.setIfInBounds_toArray, List.set_cons_zero, List.set_cons_succ]
                have hId := below_up hbn hBd
                have SRd := (SR2.out.up hId)
                have c0d : ∀ w', Below Wd.heap.size Wd w' → w'.cell? ⟨b, off + m * 2, none⟩ = some (.int .u8 (px.toNat : Int)) := fun w' hb => cell_up hb (cell_up hBd c0)
                have c1d : ∀ w', Below Wd.heap.size Wd w' → w'.cell? ⟨b, off + m * 2 + 1, none⟩ = some (.int .u8 (py.toNat : Int)) := fun w' hb => cell_up hb (cell_up hBd c1)
                refine pi_q (v := ?_) rfl (by rfl) ?_ ?_
                rotate_left
                · intro w' hBw'
                  first | (go_simp; done) | (go_simp; with_reducible rfl)
                try simp only [Act.put, List.getElem_toArray, List.getElem_cons_zero, List.getElem_cons_succ, List.setIfInBounds_toArray, List.set_cons_zero, List.set_cons_succ]
                refine pi_q (v := ?_) rfl (by rfl) ?_ ?_
                rotate_left
                · intro w' hBw'
                  first | (go_simp; done) | (go_simp; with_reducible rfl)
                try simp only [Act.put, List.getElem_toArray, List.getElem_cons_zero, List.getElem_cons_succ, List.setIfInBounds_toArray, List.set_cons_zero, List.set_cons_succ]
                refine pi_q (v := ?_) rfl (by rfl) ?_ ?_
                rotate_left
                · intro w' hBw'
                  first | (go_simp; done) | (go_simp; with_reducible rfl)
                try simp only [Act.put, List.getElem_toArray, List.getElem_cons_zero, List.getElem_cons_succ, List.setIfInBounds_toArray, List.set_cons_zero, List.set_cons_succ]
                refine pi_q (v := ?_) rfl (by rfl) ?_ ?_
                rotate_left
                · intro w' hBw'
                  first | (go_simp; done) | (go_simp; with_reducible rfl)
                try simp only [Act.put, List.getElem_toArray, List.getElem_cons_zero, List.getElem_cons_succ, List.setIfInBounds_toArray, List.set_cons_zero, List.set_cons_succ]
                refine pi_q (v := ?_) rfl (by rfl) ?_ ?_
                rotate_left
                · intro w' hBw'
                  first | (go_simp; done) | (go_simp; with_reducible rfl)
                try simp only [Act.put, List.getElem_toArray, List.getElem_cons_zero, List.getElem_cons_succ, List.setIfInBounds_toArray, List.set_cons_zero, List.set_cons_succ]
                refine pi_q (v := ?_) rfl (by rfl) ?_ ?_
                rotate_left
                · intro w' hBw'
                  first | (go_simp; done) | (go_simp; with_reducible rfl)
                try simp only [Act.put, List.getElem_toArray, List.getElem_cons_zero, List.getElem_cons_succ, List.setIfInBounds_toArray, List.set_cons_zero, List.set_cons_succ]
                refine pi_q (v := ?_) rfl (by rfl) ?_ ?_
                rotate_left
                · intro w' hBw'
                  first | (go_simp; done) | (go_simp; with_reducible rfl)
                try simp only [Act.put, List.getElem_toArray, List.getElem_cons_zero, List.getElem_cons_succ, List.setIfInBounds_toArray, List.set_cons_zero, List.set_cons_succ]
                refine pi_q (v := ?_) rfl (by rfl) ?_ ?_
                rotate_left
                · intro w' hBw'
                  first | (go_simp; done) | (go_simp; with_reducible rfl)
                try simp only [Act.put, List.getElem_toArray, List.getElem_cons_zero, List.getElem_cons_succ, List.setIfInBounds_toArray, List.set_cons_zero, List.set_cons_succ]
                refine pi_q (v := ?_) rfl (by rfl) ?_ ?_
                rotate_left
                · intro w' hBw'
                  first | (go_simp; done) | (go_simp; with_reducible rfl)
                try simp only [Act.put, List.getElem_toArray, List.getElem_cons_zero, List.getElem_cons_succ, List.setIfInBounds_toArray, List.set_cons_zero, List.set_cons_succ]
                refine pi_q (v := ?_) rfl (by rfl) ?_ ?_
                rotate_left
                · intro w' hBw'
                  first | (go_simp; done) | (go_simp; with_reducible rfl)
                try simp only [Act.put, List.getElem_toArray, List.getElem_cons_zero, List.getElem_cons_succ, List.setIfInBounds_toArray, List.set_cons_zero, List.set_cons_succ]
                refine pi_q (v := .bool false) rfl (by rfl) (by exact fun w' _ => exec_inteq rfl (by kernel_rfl) (by kernel_rfl) HD.out w') ?_
                try simp only [Act.put, List.getElem_toArray, List.getElem_cons_zero, List.getElem_cons_succ, List.setIfInBounds_toArray, List.set_cons_zero, List.set_cons_succ]
                refine pi_q (v := ?_) rfl (by rfl) ?_ ?_
                rotate_left
                · intro w' hBw'
                  first | (go_simp; done) | (go_simp; with_reducible rfl)
                try simp only [Act.put, List.getElem_toArray, List.getElem_cons_zero, List.getElem_cons_succ, List.setIfInBounds_toArray, List.set_cons_zero, List.set_cons_succ]
                refine pi_no rfl (by rfl) ?_
                try simp only [Act.put, List.getElem_toArray, List.getElem_cons_zero, List.getElem_cons_succ, List.setIfInBounds_toArray, List.set_cons_zero, List.set_cons_succ]
                refine pi_no rfl (by rfl) ?_
                try simp only [Act.put, List.getElem_toArray, List.getElem_cons_zero, List.getElem_cons_succ, List.setIfInBounds_toArray, List.set_cons_zero, List.set_cons_succ]
                refine pi_no rfl (by rfl) ?_
                try simp only [Act.put, List.getElem_toArray, List.getElem_cons_zero, List.getElem_cons_succ, List.setIfInBounds_toArray, List.set_cons_zero, List.set_cons_succ]
                refine pi_no rfl (by rfl) ?_
                try simp only [Act.put, List.getElem_toArray, List.getElem_cons_zero, List.getElem_cons_succ, List.setIfInBounds_toArray, List.set_cons_zero, List.set_cons_succ]
                refine pi_no rfl (by rfl) ?_
                try simp only [Act.put, List.getElem_toArray, List.getElem_cons_zero, List.getElem_cons_succ, List.setIfInBounds_toArray, List.set_cons_zero, List.set_cons_succ]
                refine pi_no rfl (by rfl) ?_
                try simp only [Act.put, List.getElem_toArray, List.getElem_cons_zero, List.getElem_cons_succ, List.setIfInBounds_toArray, List.set_cons_zero, List.set_cons_succ]
                refine pi_no rfl (by rfl) ?_
                try simp only [Act.put, List.getElem_toArray, List.getElem_cons_zero, List.getElem_cons_succ, List.setIfInBounds_toArray, List.set_cons_zero, List.set_cons_succ]
                refine pi_no rfl (by rfl) ?_
                try simp only [Act.put, List.getElem_toArray, List.getElem_cons_zero, List.getElem_cons_succ, List.setIfInBounds_toArray, List.set_cons_zero, List.set_cons_succ]
                refine pi_no rfl (by rfl) ?_
                try simp only [Act.put, List.getElem_toArray, List.getElem_cons_zero, List.getElem_cons_succ, List.setIfInBounds_toArray, List.set_cons_zero, List.set_cons_succ]
                refine pi_no rfl (by rfl) ?_
                try simp only [Act.put, List.getElem_toArray, List.getElem_cons_zero, List.getElem_cons_succ, List.setIfInBounds_toArray, List.set_cons_zero, List.set_cons_succ]
                refine pi_q (v := ?_) rfl (by rfl) ?_ ?_
                rotate_left
                · intro w' hBw'
                  first | (go_simp; done) | (go_simp; with_reducible rfl)
                try simp only [Act.put, List.getElem_toArray, List.getElem_cons_zero, List.getElem_cons_succ, List.setIfInBounds_toArray, List.set_cons_zero, List.set_cons_succ]
                refine pi_q (v := ?_) rfl (by rfl) ?_ ?_
                rotate_left
                · intro w' hBw'
                  first | (go_simp; done) | (go_simp; with_reducible rfl)
                try simp only [Act.put, List.getElem_toArray, List.getElem_cons_zero, List.getElem_cons_succ, List.setIfInBounds_toArray, List.set_cons_zero, List.set_cons_succ]
                refine pi_q (v := ?_) rfl (by rfl) ?_ ?_
                rotate_left
                · intro w' hBw'
                  first | (go_simp; done) | (go_simp; with_reducible rfl)
                try simp only [Act.put, List.getElem_toArray, List.getElem_cons_zero, List.getElem_cons_succ, List.setIfInBounds_toArray, List.set_cons_zero, List.set_cons_succ]
                refine pi_nil ?_
                go_wp2
                go_roundg (j - (m + 1))
                case rel => exact ⟨m + 1, false, by omega, rfl, rfl, by go_num, by rw [HSU.out, HFB.out, decide_eq_false HDD.out]; rfl, hId⟩
                case measure => omega
          · obtain rfl : m = j := by omega
            have hft : fb = true := by have := HFB.out; rw [← this]; have := HFT.out; rwa [HL2.out] at this
            subst hft
            have HIN := Lib.hid (hIn.out.up hbn)
            go_wp2
            go_roundg (5 - (q + 1))
            case rel => exact ⟨q + 1, by omega, rfl, by go_num, HIN.out⟩
            case measure => omega
        · obtain rfl : q = 5 := by omega
          go_wp2_with (go_at_call 6; refine (dWorks_c _).mono ?_; rintro en w4 ⟨rfl, hb4⟩)
          go_ret
          exact ⟨rfl, below_up hI.below hb4⟩
end Go.Proofs.Ytekpjbablcoahaa
