/-
  NameHolds, NameHoldsL, NameHoldsRow: several texts in one (bundle.py).
-/
import Derived.Test.YtpfgepgjpnekdaaDoorNmH38
import Derived.Test.YtpfgepgjpnekdaaDoorNmH40
import Derived.Test.YtpfgepgjpnekdaaDoorRows
import Derived.Test.YtpfgepgjpnekdaaDoorNmH04
import Derived.SizedLaws
import Derived.Test.YtpfgepgjpnekdaaDoorTie
import Derived.Test.YtpfgepgjpnekdaaDoorCards
import Derived.Lib.LaidIn
import Derived.Lib.LaidU8T
import Derived.Deep.DeepHandedRow
import Derived.Deep.DeepWitnessRowRef
import Derived.PinnedBridge
import Derived.ProofKit
import Derived.SevenTiedAt
namespace Go.Proofs.YtpfgepgjpnekdaaDoor
open Go.RowKit Trc Cb
set_option linter.unusedSimpArgs false
set_option linter.unusedVariables false
/-- Four numbers of a name, as cells. -/
abbrev n4N (q : Dig.N4) : Nm := ⟨q.n, q.m, q.t, q.s⟩
abbrev n4C (q : Dig.N4) : List Value := nmC (n4N q)
def Dig.N4.ok (q : Dig.N4) : Prop := q.n < 4294967296 ∧ q.m < 4294967296 ∧ q.t < 18446744073709551616 ∧ q.s < 4294967296
theorem n4_wf {q : Dig.N4} (h : q.ok) : (n4N q).wf := by
  obtain ⟨h1, h2, h3, h4⟩ := h
  unfold Trc.Nm.wf
  simp [Lit.wf, IntKind.min, IntKind.max, IntKind.signed, IntKind.bits]
  omega
theorem n4_inj {a b : Dig.N4} (h : n4N a = n4N b) : a = b := by
  obtain ⟨a1, a2, a3, a4⟩ := a
  obtain ⟨b1, b2, b3, b4⟩ := b
  simp only [Nm.mk.injEq] at h
  simp only [Dig.N4.mk.injEq]
  omega
set_option maxRecDepth 100000 in
theorem exec_nmEq {ρ : Operand → Value} {o : Oper} {x y : Operand} {t : TypeId} (ho : o.op = .binOp .eql 31 x y t) {X Y : Nm} (hx : ρ x = nmV X) (hy : ρ y = nmV Y) {bo : Bool} (hb : decide (X = Y) = bo) (w : World) :
    (execOp ρ o).run Tryd.prog w = .ok (.value (.bool bo)) w := by
  unfold execOp
  simp only [ho, hx, hy]
  obtain ⟨a, b, c, d⟩ := X
  obtain ⟨a', b', c', d'⟩ := Y
  subst hb
  simp only [Nm.mk.injEq]
  go_simp
  by_cases h1 : a = a' <;> by_cases h2 : b = b' <;> by_cases h3 : c = c' <;> by_cases h4 : d = d' <;> simp [h1, h2, h3, h4]
set_option maxRecDepth 100000 in
theorem exec_bneq {ρ : Operand → Value} {o : Oper} {x y : Operand} {t : TypeId} (ho : o.op = .binOp .neq 4 x y t) {bo : Bool} (hx : ρ x = .bool bo) (hy : ρ y = .bool bo) (w : World) :
    (execOp ρ o).run Tryd.prog w = .ok (.value (.bool false)) w := by
  unfold execOp
  simp only [ho, hx, hy]
  go_simp
theorem cnt_nm (n m t s : Nat) : Cb.cnt (nmI n m t s) ≤ 1000000 := by
  unfold nmI epI
  split <;> simp [Cb.cnt, cntL, ByteArray.size]
theorem arr_at {W : World} {H : Nat} {T : TypeId} {L : List Dig.N4} (h : RowAt W H (L.flatMap n4C).toArray T) (k : Nat) (hk : k < L.length) : W.rangeAt H (k * 4) (n4C L[k]) := fun j v hj => by
  have hjl : j < 4 := (List.getElem?_eq_some_iff.1 hj).1
  rw [← rec_get (cells := n4C) (sz := 4) (fun _ => rfl) L k hk j hjl] at hj
  exact h.cell (by simpa using hj)
set_option maxHeartbeats 16000000 in
set_option maxRecDepth 100000 in
theorem nameHolds_c (x y z : Dig.N4) (hx : x.ok) (hy : y.ok) (hz : z.ok) (w : World) (hT : NmT w) : Calls Tryd.prog 4 #[.agg ([x, y, z].flatMap n4C).toArray] w (Ret (.bool true) w) := by
  obtain ⟨L, hL⟩ : ∃ L, L = [x, y, z] := ⟨_, rfl⟩
  have hl3 : L.length = 3 := by rw [hL]; rfl
  have hok : ∀ q ∈ L, q.ok := by rw [hL]; intro q hq; simp only [List.mem_cons, List.not_mem_nil, or_false] at hq; rcases hq with rfl | rfl | rfl <;> assumption
  have Q0 := RowAt.new w ([x, y, z].flatMap n4C).toArray 43
  have hB0 := below_alloc w (.cells ([x, y, z].flatMap n4C).toArray 43)
  have HT := Lib.hid (hT.up hB0)
  have HB0 := Lib.hid hB0
  have HQ := Lib.hid (show RowAt (w.alloc (.cells ([x, y, z].flatMap n4C).toArray 43)) w.heap.size (L.flatMap n4C).toArray 43 by rw [hL]; exact Q0)
  have HX := Lib.hid (And.intro hx (And.intro hy hz))
  have HL := Lib.hid hL
  clear hT hB0 Q0 hx hy hz hL
  go_enter Tryd.func4, Tryd.ntmps4
  go_wp2
  obtain ⟨W0, hW0⟩ : ∃ X, w.alloc (.cells ([x, y, z].flatMap n4C).toArray 43) = X := ⟨_, rfl⟩
  rw [hW0] at HT HB0 HQ
  change Code.wp _ _ _ _ (w.alloc (.cells ([x, y, z].flatMap n4C).toArray 43))
  rw [hW0]
  clear hW0
  generalize Value.agg ([x, y, z].flatMap n4C).toArray = av
  go_loopw [3] (fun v3 wr => ∃ k : Nat, v3 = .int .i64 k ∧ k ≤ 3 ∧ Below W0.heap.size W0 wr) (fun v3 _ => 3 - (intOf v3).toNat)
  case atStart => exact ⟨0, rfl, by omega, Below.refl _ _⟩
  case round =>
    obtain ⟨k, rfl, hk, hB⟩ := hrel
    have HB := Lib.hid hB
    clear hB
    by_cases hlt : k < 3
    · obtain ⟨j, hj⟩ : ∃ j : Nat, ((k : Int) + 1) % 3 = (j : Int) := ⟨(k + 1) % 3, by omega⟩
      have hj3 : j < 3 := by omega
      have hkl : k < L.length := by omega
      have hjl : j < L.length := by omega
      obtain ⟨A, hA⟩ : ∃ A, L[k] = A := ⟨_, rfl⟩
      obtain ⟨B, hBe⟩ : ∃ B, L[j] = B := ⟨_, rfl⟩
      have hoA : A.ok := by rw [← hA]; exact hok _ (List.getElem_mem hkl)
      have hoB : B.ok := by rw [← hBe]; exact hok _ (List.getElem_mem hjl)
      have R1 := Lib.hid (arr_at (HQ.out.below HB.out) k hkl)
      have R2 := Lib.hid (arr_at (HQ.out.below HB.out) j hjl)
      rw [hA] at R1
      rw [hBe] at R2
      have hki : (k : Int) < 3 := by omega
      have hk0 : (0 : Int) ≤ (k : Int) := by omega
      have hji : (j : Int) < 3 := by omega
      have hwr1 : IntKind.i64.wrap ((k : Int) + 1) = (k : Int) + 1 := by rw [IntKind.wrap_i64]; omega
      have hwr2 : IntKind.i64.wrap (((k : Int) + 1) % 3) = (j : Int) := by rw [IntKind.wrap_i64]; omega
      have htm : ((k : Int) + 1).tmod 3 = (j : Int) := by rw [Int.tmod_eq_emod_of_nonneg (by omega)]; exact hj
      have hwr3 : IntKind.i64.wrap (j : Int) = (j : Int) := by rw [IntKind.wrap_i64]; omega
      have hQl : w.heap.size < wr.heap.size := Nat.lt_of_lt_of_le (RowAt.lt HQ.out) HB.out.size
      obtain ⟨⟨n1, m1, t1, s1⟩, rfl⟩ : ∃ q, A = q := ⟨_, rfl⟩
      obtain ⟨⟨n2, m2, t2, s2⟩, rfl⟩ : ∃ q, B = q := ⟨_, rfl⟩
      obtain ⟨hn1, hm1, ht1, hs1⟩ := hoA
      obtain ⟨hn2, hm2, ht2, hs2⟩ := hoB
      simp only at hn1 hm1 ht1 hs1 hn2 hm2 ht2 hs2
      clear hA hBe
      go_wp2
      refine wp_cutP (fun a' W3 => ∃ b4 b5, a' = { tmps := #[av, .pointer (some ⟨w.heap.size, 0, none⟩), u2, .int .i64 k, .pointer (some ⟨b4, 0, none⟩), .pointer (some ⟨b5, 0, none⟩), u6, u7, u8, u9, u10, u11, u12, u13, .int .i64 k, .bool true, u16, u17, .int .i64 k, .pointer (some ⟨w.heap.size, k * 4, none⟩), nmV ⟨n1, m1, t1, s1⟩, .int .i64 k, .int .i64 ((k : Int) + 1), .int .i64 j, .pointer (some ⟨w.heap.size, j * 4, none⟩), nmV ⟨n2, m2, t2, s2⟩, u26, u27, u28, u29, u30, u31, u32, u33, u34, u35, u36, u37, u38, u39, u40, u41, u42, u43, u44, u45, u46, u47, u48, u49, u50, u51, u52, u53, u54, u55, u56, u57, u58, u59, u60, u61, u62, u63, u64, u65, u66, u67, u68, u69, u70, u71, u72, u73, u74, u75, u76, u77, u78, u79, u80, u81, u82, u83, u84, u85, u86, u87, u88, u89, u90, u91, u92, u93, u94, u95, u96, u97, u98, u99, u100, u101, undef, undef, undef, undef, undef, undef, undef, undef, undef, undef, undef, undef, undef, undef, undef, undef, undef, undef, undef, undef, undef, undef, undef], defers := [] } ∧ Below wr.heap.size wr W3 ∧ RowAt W3 b4 (nmC ⟨n1, m1, t1, s1⟩).toArray 31 ∧ RowAt W3 b5 (nmC ⟨n2, m2, t2, s2⟩).toArray 31) ?reg ?rest
      case reg =>
        refine wp_region_pt (fun q => wr.heap.size ≤ q) (.q 0 (.q 1 (.q 2 (.q 3 (.q 4 (.q 5 (.q 6 (.q 7 (.f 8 (.c 9 (.c 10 (.c 11 .done))) 9 (.c 8 (.c 10 (.c 11 .done)))))))))))) (by kernel_rfl) (by kernel_rfl) (by kernel_rfl) (by decide) onlyN_panic (fun Wd hBd => ?_)
        try simp only [Act.put, List.getElem_toArray, List.getElem_cons_zero, List.getElem_cons_succ, List.setIfInBounds_toArray, List.set_cons_zero, List.set_cons_succ]
        have hQd := R1.out
        have P1 := rangeAt_up hBd R1.out
        have P2 := rangeAt_up hBd R2.out
        have hWs := hBd.size
        refine pt_q (v := ?_) rfl (by rfl) ?_ ?_
        rotate_left
        · intro w' hBw'
          first | (go_simp; done) | (go_simp; with_reducible rfl)
        try simp only [Act.put, List.getElem_toArray, List.getElem_cons_zero, List.getElem_cons_succ, List.setIfInBounds_toArray, List.set_cons_zero, List.set_cons_succ]
        refine pt_q (v := ?_) rfl (by rfl) ?_ ?_
        rotate_left
        · intro w' hBw'
          first | (go_simp; done) | (go_simp; with_reducible rfl)
        try simp only [Act.put, List.getElem_toArray, List.getElem_cons_zero, List.getElem_cons_succ, List.setIfInBounds_toArray, List.set_cons_zero, List.set_cons_succ]
        refine pt_load rfl (by rfl) 31 (.tmp 19) rfl w.heap.size (k * 4) rfl (nmC ⟨n1, m1, t1, s1⟩) _ P1 (by omega) Tryd.underlying31 rfl (by kernel_rfl) ?_
        try simp only [Act.put, List.getElem_toArray, List.getElem_cons_zero, List.getElem_cons_succ, List.setIfInBounds_toArray, List.set_cons_zero, List.set_cons_succ]
        refine pt_q (v := ?_) rfl (by rfl) ?_ ?_
        rotate_left
        · intro w' hBw'
          first | (go_simp; done) | (go_simp; with_reducible rfl)
        try simp only [Act.put, List.getElem_toArray, List.getElem_cons_zero, List.getElem_cons_succ, List.setIfInBounds_toArray, List.set_cons_zero, List.set_cons_succ]
        refine pt_q (v := ?_) rfl (by rfl) ?_ ?_
        rotate_left
        · intro w' hBw'
          first | (go_simp; done) | (go_simp; with_reducible rfl)
        try simp only [Act.put, List.getElem_toArray, List.getElem_cons_zero, List.getElem_cons_succ, List.setIfInBounds_toArray, List.set_cons_zero, List.set_cons_succ]
        refine pt_q (v := ?_) rfl (by rfl) ?_ ?_
        rotate_left
        · intro w' hBw'
          first | (go_simp; done) | (go_simp; with_reducible rfl)
        try simp only [Act.put, List.getElem_toArray, List.getElem_cons_zero, List.getElem_cons_succ, List.setIfInBounds_toArray, List.set_cons_zero, List.set_cons_succ]
        refine pt_q (v := ?_) rfl (by rfl) ?_ ?_
        rotate_left
        · intro w' hBw'
          first | (go_simp; done) | (go_simp; with_reducible rfl)
        try simp only [Act.put, List.getElem_toArray, List.getElem_cons_zero, List.getElem_cons_succ, List.setIfInBounds_toArray, List.set_cons_zero, List.set_cons_succ]
        refine pt_load rfl (by rfl) 31 (.tmp 24) rfl w.heap.size (j * 4) rfl (nmC ⟨n2, m2, t2, s2⟩) _ P2 (by omega) Tryd.underlying31 rfl (by kernel_rfl) ?_
        try simp only [Act.put, List.getElem_toArray, List.getElem_cons_zero, List.getElem_cons_succ, List.setIfInBounds_toArray, List.set_cons_zero, List.set_cons_succ]
        refine pt_f ?_ ?_
        · refine pt_step rfl (by rfl) (fun K hK => ?_)
          go_simp
          have Y8 := RowAt.new Wd #[.int .u32 0, .int .u32 0, .int .u64 0, .int .u32 0] 31
          have hq8 := below_alloc Wd (.cells #[.int .u32 0, .int .u32 0, .int .u64 0, .int .u32 0] 31)
          obtain ⟨w8, hw8⟩ : ∃ X, Wd.alloc (.cells #[.int .u32 0, .int .u32 0, .int .u64 0, .int .u32 0] 31) = X := ⟨_, rfl⟩
          rw [hw8] at Y8 hq8 ⊢
          refine hK.out _ _ (But.of_below hq8) ?_
          clear hK K
          try simp only [Act.put, List.getElem_toArray, List.getElem_cons_zero, List.getElem_cons_succ, List.setIfInBounds_toArray, List.set_cons_zero, List.set_cons_succ]
          refine pt_c ?_
          refine pt_step rfl (by rfl) (fun K hK => ?_)
          go_simp
          have Y9 := RowAt.new w8 #[.int .u32 0, .int .u32 0, .int .u64 0, .int .u32 0] 31
          have hq9 := below_alloc w8 (.cells #[.int .u32 0, .int .u32 0, .int .u64 0, .int .u32 0] 31)
          obtain ⟨w9, hw9⟩ : ∃ X, w8.alloc (.cells #[.int .u32 0, .int .u32 0, .int .u64 0, .int .u32 0] 31) = X := ⟨_, rfl⟩
          rw [hw9] at Y9 hq9 ⊢
          refine hK.out _ _ (But.of_below hq9) ?_
          clear hK K
          try simp only [Act.put, List.getElem_toArray, List.getElem_cons_zero, List.getElem_cons_succ, List.setIfInBounds_toArray, List.set_cons_zero, List.set_cons_succ]
          have F4 : RowAt w9 Wd.heap.size #[.int .u32 0, .int .u32 0, .int .u64 0, .int .u32 0] 31 := RowAt.below Y8 hq9
          have F5 : RowAt w9 w8.heap.size #[.int .u32 0, .int .u32 0, .int .u64 0, .int .u32 0] 31 := Y9
          have hne : ¬ Wd.heap.size = w8.heap.size := by have := RowAt.lt Y8; omega
          have D9 := below_up hBd (below_up hq8 hq9)
          refine pt_c ?_
          refine pt_put_row rfl (by rfl) 31 _ _ rfl (Wd.heap.size) (nmC ⟨n1, m1, t1, s1⟩) rfl rfl F4 rfl (by kernel_rfl) rfl (by have := RowAt.lt Y8; have := hq8.size; omega) ?_
          try simp only [Act.put, List.getElem_toArray, List.getElem_cons_zero, List.getElem_cons_succ, List.setIfInBounds_toArray, List.set_cons_zero, List.set_cons_succ]
          intro wA GA hbA
          have F5A := (hbA.same _ (RowAt.lt F5) (fun e => hne e.symm)).trans F5
          have DA := D9.trans (hbA.below (fun k e => by have := RowAt.lt Y8; have := hq8.size; omega) D9.size)
          refine pt_c ?_
          refine pt_put_row rfl (by rfl) 31 _ _ rfl (w8.heap.size) (nmC ⟨n2, m2, t2, s2⟩) rfl rfl F5A rfl (by kernel_rfl) rfl (by have := RowAt.lt Y8; have := hq8.size; omega) ?_
          try simp only [Act.put, List.getElem_toArray, List.getElem_cons_zero, List.getElem_cons_succ, List.setIfInBounds_toArray, List.set_cons_zero, List.set_cons_succ]
          intro wB GB hbB
          have GA2 := (hbB.same _ (RowAt.lt GA) hne).trans GA
          have DB := DA.trans (hbB.below (fun k e => by have := RowAt.lt Y8; have := hq8.size; omega) DA.size)
          refine pt_done ?_
          exact ⟨rfl, _, _, rfl, DB, GA2, GB⟩
        · refine pt_step rfl (by rfl) (fun K hK => ?_)
          go_simp
          have Y8 := RowAt.new Wd #[.int .u32 0, .int .u32 0, .int .u64 0, .int .u32 0] 31
          have hq8 := below_alloc Wd (.cells #[.int .u32 0, .int .u32 0, .int .u64 0, .int .u32 0] 31)
          obtain ⟨w8, hw8⟩ : ∃ X, Wd.alloc (.cells #[.int .u32 0, .int .u32 0, .int .u64 0, .int .u32 0] 31) = X := ⟨_, rfl⟩
          rw [hw8] at Y8 hq8 ⊢
          refine hK.out _ _ (But.of_below hq8) ?_
          clear hK K
          try simp only [Act.put, List.getElem_toArray, List.getElem_cons_zero, List.getElem_cons_succ, List.setIfInBounds_toArray, List.set_cons_zero, List.set_cons_succ]
          refine pt_c ?_
          refine pt_step rfl (by rfl) (fun K hK => ?_)
          go_simp
          have Y9 := RowAt.new w8 #[.int .u32 0, .int .u32 0, .int .u64 0, .int .u32 0] 31
          have hq9 := below_alloc w8 (.cells #[.int .u32 0, .int .u32 0, .int .u64 0, .int .u32 0] 31)
          obtain ⟨w9, hw9⟩ : ∃ X, w8.alloc (.cells #[.int .u32 0, .int .u32 0, .int .u64 0, .int .u32 0] 31) = X := ⟨_, rfl⟩
          rw [hw9] at Y9 hq9 ⊢
          refine hK.out _ _ (But.of_below hq9) ?_
          clear hK K
          try simp only [Act.put, List.getElem_toArray, List.getElem_cons_zero, List.getElem_cons_succ, List.setIfInBounds_toArray, List.set_cons_zero, List.set_cons_succ]
          have F4 : RowAt w9 w8.heap.size #[.int .u32 0, .int .u32 0, .int .u64 0, .int .u32 0] 31 := Y9
          have F5 : RowAt w9 Wd.heap.size #[.int .u32 0, .int .u32 0, .int .u64 0, .int .u32 0] 31 := RowAt.below Y8 hq9
          have hne : ¬ w8.heap.size = Wd.heap.size := by have := RowAt.lt Y8; omega
          have D9 := below_up hBd (below_up hq8 hq9)
          refine pt_c ?_
          refine pt_put_row rfl (by rfl) 31 _ _ rfl (w8.heap.size) (nmC ⟨n1, m1, t1, s1⟩) rfl rfl F4 rfl (by kernel_rfl) rfl (by have := RowAt.lt Y8; have := hq8.size; omega) ?_
          try simp only [Act.put, List.getElem_toArray, List.getElem_cons_zero, List.getElem_cons_succ, List.setIfInBounds_toArray, List.set_cons_zero, List.set_cons_succ]
          intro wA GA hbA
          have F5A := (hbA.same _ (RowAt.lt F5) (fun e => hne e.symm)).trans F5
          have DA := D9.trans (hbA.below (fun k e => by have := RowAt.lt Y8; have := hq8.size; omega) D9.size)
          refine pt_c ?_
          refine pt_put_row rfl (by rfl) 31 _ _ rfl (Wd.heap.size) (nmC ⟨n2, m2, t2, s2⟩) rfl rfl F5A rfl (by kernel_rfl) rfl (by have := RowAt.lt Y8; have := hq8.size; omega) ?_
          try simp only [Act.put, List.getElem_toArray, List.getElem_cons_zero, List.getElem_cons_succ, List.setIfInBounds_toArray, List.set_cons_zero, List.set_cons_succ]
          intro wB GB hbB
          have GA2 := (hbB.same _ (RowAt.lt GA) hne).trans GA
          have DB := DA.trans (hbB.below (fun k e => by have := RowAt.lt Y8; have := hq8.size; omega) DA.size)
          refine pt_done ?_
          exact ⟨rfl, _, _, rfl, DB, GA2, GB⟩
      case rest =>
        rintro a' W3 ⟨b4, b5, rfl, D3, X4, X5⟩
        have HB3 := Lib.hid (below_up HB.out D3)
        clear D3 R1 R2 hQl hwr2 htm hwr3
        have a0 := RowAt.cell X4 (i := 0) rfl
        have a1 := RowAt.cell X4 (i := 1) rfl
        have a2 := RowAt.cell X4 (i := 2) rfl
        have a3 := RowAt.cell X4 (i := 3) rfl
        have c0 := RowAt.cell X5 (i := 0) rfl
        have c1 := RowAt.cell X5 (i := 1) rfl
        have c2 := RowAt.cell X5 (i := 2) rfl
        have c3 := RowAt.cell X5 (i := 3) rfl
        go_wp2_with fail
        clear a0 a1 a2 a3
        clear c0 c1 c2 c3
        refine (nameText_c n1 m1 t1 s1 hn1 hm1 ht1 hs1 _ (HT.out.up HB3.out)).mono ?_
        rintro en w1 ⟨rfl, hb1⟩
        replace X4 := X4.below hb1
        replace X5 := X5.below hb1
        replace HB3 := Lib.hid (below_up HB3.out hb1)
        clear hb1
        obtain ⟨e1, he1⟩ : ∃ e, Dig.chkN n1 t1 = e := ⟨_, rfl⟩
        obtain ⟨e2, he2⟩ : ∃ e, Dig.chkN n2 t2 = e := ⟨_, rfl⟩
        rw [he1]
        obtain ⟨v1, hv1⟩ : ∃ v : Value, (if e1 = 0 then strV (Dig.nameT n1 m1 t1 s1) else .string ⟨#[]⟩) = v := ⟨_, rfl⟩
        obtain ⟨v2, hv2⟩ : ∃ v : Value, (if e2 = 0 then strV (Dig.nameT n2 m2 t2 s2) else .string ⟨#[]⟩) = v := ⟨_, rfl⟩
        rw [hv1]
        have HE1 := Lib.hid he1
        have HE2 := Lib.hid he2
        have HV1 := Lib.hid hv1
        have HV2 := Lib.hid hv2
        clear he1 he2 hv1 hv2
        have a0 := RowAt.cell X4 (i := 0) rfl
        have a1 := RowAt.cell X4 (i := 1) rfl
        have a2 := RowAt.cell X4 (i := 2) rfl
        have a3 := RowAt.cell X4 (i := 3) rfl
        have c0 := RowAt.cell X5 (i := 0) rfl
        have c1 := RowAt.cell X5 (i := 1) rfl
        have c2 := RowAt.cell X5 (i := 2) rfl
        have c3 := RowAt.cell X5 (i := 3) rfl
        go_wp2_with fail
        clear a0 a1 a2 a3
        clear c0 c1 c2 c3
        have hnt := nameText_c n2 m2 t2 s2 hn2 hm2 ht2 hs2 w1 (HT.out.up HB3.out)
        rw [HE2.out, HV2.out] at hnt
        refine hnt.mono ?_
        clear hnt
        rintro en w2 ⟨rfl, hb2⟩
        replace X4 := X4.below hb2
        replace X5 := X5.below hb2
        replace HB3 := Lib.hid (below_up HB3.out hb2)
        clear hb2
        have a0 := RowAt.cell X4 (i := 0) rfl
        have a1 := RowAt.cell X4 (i := 1) rfl
        have a2 := RowAt.cell X4 (i := 2) rfl
        have a3 := RowAt.cell X4 (i := 3) rfl
        have c0 := RowAt.cell X5 (i := 0) rfl
        have c1 := RowAt.cell X5 (i := 1) rfl
        have c2 := RowAt.cell X5 (i := 2) rfl
        have c3 := RowAt.cell X5 (i := 3) rfl
        go_wp2_with fail
        clear a0 a1 a2 a3
        clear c0 c1 c2 c3
        have hni := nmNameItem_c n1 m1 t1 s1 hn1 hm1 ht1 hs1 w2
        rw [HE1.out] at hni
        refine hni.mono ?_
        clear hni
        rintro en w3 ⟨hb3, r1, rfl, hi1⟩
        replace X4 := X4.below hb3
        replace X5 := X5.below hb3
        replace HB3 := Lib.hid (below_up HB3.out hb3)
        clear hb3
        obtain ⟨I1, hI1⟩ : ∃ I, (if e1 = 0 then nmI n1 m1 t1 s1 else zI) = I := ⟨_, rfl⟩
        rw [hI1] at hi1
        have HI1 := Lib.hid hI1
        clear hI1
        have i1 := hi1.mono (S' := fun _ => True) (fun _ _ => trivial)
        clear hi1
        obtain ⟨k1, q1, ba1, bn1, bc1, z1, la1, ln1, lc1, rfl⟩ := i1.shape
        have a0 := RowAt.cell X4 (i := 0) rfl
        have a1 := RowAt.cell X4 (i := 1) rfl
        have a2 := RowAt.cell X4 (i := 2) rfl
        have a3 := RowAt.cell X4 (i := 3) rfl
        have c0 := RowAt.cell X5 (i := 0) rfl
        have c1 := RowAt.cell X5 (i := 1) rfl
        have c2 := RowAt.cell X5 (i := 2) rfl
        have c3 := RowAt.cell X5 (i := 3) rfl
        go_wp2_with fail
        clear a0 a1 a2 a3
        clear c0 c1 c2 c3
        have X10 := RowAt.new w3 (rwC ⟨k1, q1, .slice ba1 bn1 bc1, z1, .slice la1 ln1 lc1⟩).toArray 48
        have hq := below_alloc w3 (.cells (rwC ⟨k1, q1, .slice ba1 bn1 bc1, z1, .slice la1 ln1 lc1⟩).toArray 48)
        change Calls _ _ _ (w3.alloc (.cells (rwC ⟨k1, q1, .slice ba1 bn1 bc1, z1, .slice la1 ln1 lc1⟩).toArray 48)) _
        obtain ⟨w4, hw4⟩ : ∃ X, w3.alloc (.cells (rwC ⟨k1, q1, .slice ba1 bn1 bc1, z1, .slice la1 ln1 lc1⟩).toArray 48) = X := ⟨_, rfl⟩
        rw [hw4] at X10 hq ⊢
        clear hw4
        replace X4 := X4.below hq
        replace X5 := X5.below hq
        replace HB3 := Lib.hid (below_up HB3.out hq)
        replace i1 := i1.up hq
        clear hq
        have hni := nmNameItem_c n2 m2 t2 s2 hn2 hm2 ht2 hs2 w4
        rw [HE2.out] at hni
        refine hni.mono ?_
        clear hni
        rintro en w5 ⟨hb5, r2, rfl, hi2⟩
        replace X4 := X4.below hb5
        replace X5 := X5.below hb5
        replace HB3 := Lib.hid (below_up HB3.out hb5)
        replace X10 := X10.below hb5
        replace i1 := i1.up hb5
        clear hb5
        obtain ⟨I2, hI2⟩ : ∃ I, (if e2 = 0 then nmI n2 m2 t2 s2 else zI) = I := ⟨_, rfl⟩
        rw [hI2] at hi2
        have HI2 := Lib.hid hI2
        clear hI2
        have i2 := hi2.mono (S' := fun _ => True) (fun _ _ => trivial)
        clear hi2
        obtain ⟨k2, q2, ba2, bn2, bc2, z2, la2, ln2, lc2, rfl⟩ := i2.shape
        go_wp2_with fail
        have X12 := RowAt.new w5 (rwC ⟨k2, q2, .slice ba2 bn2 bc2, z2, .slice la2 ln2 lc2⟩).toArray 48
        have hq := below_alloc w5 (.cells (rwC ⟨k2, q2, .slice ba2 bn2 bc2, z2, .slice la2 ln2 lc2⟩).toArray 48)
        change Code.wp _ _ _ _ (w5.alloc (.cells (rwC ⟨k2, q2, .slice ba2 bn2 bc2, z2, .slice la2 ln2 lc2⟩).toArray 48))
        obtain ⟨w6, hw6⟩ : ∃ X, w5.alloc (.cells (rwC ⟨k2, q2, .slice ba2 bn2 bc2, z2, .slice la2 ln2 lc2⟩).toArray 48) = X := ⟨_, rfl⟩
        rw [hw6] at X12 hq ⊢
        clear hw6
        replace X4 := X4.below hq
        replace X5 := X5.below hq
        replace HB3 := Lib.hid (below_up HB3.out hq)
        replace i1 := i1.up hq
        replace i2 := i2.up hq
        replace X10 := X10.below hq
        clear hq
        obtain ⟨X, hX⟩ : ∃ X : Nm, X = ⟨n1, m1, t1, s1⟩ := ⟨_, rfl⟩
        obtain ⟨Y, hY⟩ : ∃ Y : Nm, Y = ⟨n2, m2, t2, s2⟩ := ⟨_, rfl⟩
        have hXw : X.wf := by rw [hX]; exact n4_wf (q := ⟨n1, m1, t1, s1⟩) ⟨hn1, hm1, ht1, hs1⟩
        have hYw : Y.wf := by rw [hY]; exact n4_wf (q := ⟨n2, m2, t2, s2⟩) ⟨hn2, hm2, ht2, hs2⟩
        have hoc1 := fun W => order_c X Y hXw hYw W
        have hoc2 := fun W => order_c Y X hYw hXw W
        have hneg := nmCmp_neg X Y
        have hzz := nmCmp_zero X Y
        have hcb := nmCmp_b X Y
        obtain ⟨c1, hc1⟩ : ∃ c, nmCmp X Y = c := ⟨_, rfl⟩
        obtain ⟨c2, hc2⟩ : ∃ c, nmCmp Y X = c := ⟨_, rfl⟩
        simp only [hc1, hc2] at hoc1 hoc2 hneg hzz hcb
        obtain ⟨bo, hbo⟩ : ∃ b, decide (X = Y) = b := ⟨_, rfl⟩
        have hc0 : ((c1 : Int) == 0) = bo := by rw [← hbo, Bool.eq_iff_iff, beq_iff_eq, decide_eq_true_eq]; exact hzz
        have hwn : IntKind.i64.wrap (-c2) = c1 := by rw [hneg, IntKind.wrap_i64]; omega
        have HO1 := Lib.hid hoc1
        have HO2 := Lib.hid hoc2
        have HBO := Lib.hid hbo
        have HXY := Lib.hid (And.intro hX hY)
        have Y4 : RowAt w6 b4 (nmC X).toArray 31 := by rw [hX]; exact X4
        have Y5 : RowAt w6 b5 (nmC Y).toArray 31 := by rw [hY]; exact X5
        clear hoc1 hoc2 hneg hzz hcb hc1 hc2 hbo hX hY X4 X5
        refine wp_region_pt (fun _ => False) (.q 0 (.q 1 (.q 3 (.q 4 (.c 2 (.c 5 (.q 6 (.q 7 (.q 8 (.q 9 (.q 10 (.q 13 (.q 14 (.q 15 (.c 11 (.q 12 (.q 16 (.q 17 (.q 18 (.q 19 (.q 21 (.c 20 (.c 22 (.q 23 (.q 24 (.q 25 (.q 26 (.q 28 (.c 27 (.c 29 (.q 30 (.q 31 .done)))))))))))))))))))))))))))))))) (by kernel_rfl) (by kernel_rfl) (by kernel_rfl) (by decide) (fun _ _ d _ _ h => by cases d <;> exact h) (fun Wd hBd => ?_)
        try simp only [Act.put, List.getElem_toArray, List.getElem_cons_zero, List.getElem_cons_succ, List.setIfInBounds_toArray, List.set_cons_zero, List.set_cons_succ]
        have E4 := Y4.below hBd
        have E5 := Y5.below hBd
        refine pt_load rfl (by rfl) 31 (.tmp 4) rfl b4 0 rfl (nmC X) _ (RowAt.range E4) (fun e => e) Tryd.underlying31 rfl (by kernel_rfl) ?_
        try simp only [Act.put, List.getElem_toArray, List.getElem_cons_zero, List.getElem_cons_succ, List.setIfInBounds_toArray, List.set_cons_zero, List.set_cons_succ]
        refine pt_load rfl (by rfl) 31 (.tmp 5) rfl b5 0 rfl (nmC Y) _ (RowAt.range E5) (fun e => e) Tryd.underlying31 rfl (by kernel_rfl) ?_
        try simp only [Act.put, List.getElem_toArray, List.getElem_cons_zero, List.getElem_cons_succ, List.setIfInBounds_toArray, List.set_cons_zero, List.set_cons_succ]
        refine pt_load rfl (by rfl) 31 (.tmp 5) rfl b5 0 rfl (nmC Y) _ (RowAt.range E5) (fun e => e) Tryd.underlying31 rfl (by kernel_rfl) ?_
        try simp only [Act.put, List.getElem_toArray, List.getElem_cons_zero, List.getElem_cons_succ, List.setIfInBounds_toArray, List.set_cons_zero, List.set_cons_succ]
        refine pt_load rfl (by rfl) 31 (.tmp 4) rfl b4 0 rfl (nmC X) _ (RowAt.range E4) (fun e => e) Tryd.underlying31 rfl (by kernel_rfl) ?_
        try simp only [Act.put, List.getElem_toArray, List.getElem_cons_zero, List.getElem_cons_succ, List.setIfInBounds_toArray, List.set_cons_zero, List.set_cons_succ]
        refine pt_c ?_
        refine pt_step rfl (by rfl) (fun K hK => ?_)
        go_simp
        refine (HO1.out _).mono ?_
        rintro en wa ⟨rfl, hba⟩
        have G4 := E4.below hba
        have G5 := E5.below hba
        refine hK.out _ _ (But.of_below hba) ?_
        clear hK K
        try simp only [Act.put, List.getElem_toArray, List.getElem_cons_zero, List.getElem_cons_succ, List.setIfInBounds_toArray, List.set_cons_zero, List.set_cons_succ]
        refine pt_c ?_
        refine pt_step rfl (by rfl) (fun K hK => ?_)
        go_simp
        refine (HO2.out _).mono ?_
        rintro en wb ⟨rfl, hbb⟩
        have J4 := G4.below hbb
        have J5 := G5.below hbb
        refine hK.out _ _ (But.of_below hbb) ?_
        clear hK K
        try simp only [Act.put, List.getElem_toArray, List.getElem_cons_zero, List.getElem_cons_succ, List.setIfInBounds_toArray, List.set_cons_zero, List.set_cons_succ]
        refine pt_q (v := ?_) rfl (by rfl) ?_ ?_
        rotate_left
        · intro w' hBw'
          first | (go_simp; done) | (go_simp; with_reducible rfl)
        try simp only [Act.put, List.getElem_toArray, List.getElem_cons_zero, List.getElem_cons_succ, List.setIfInBounds_toArray, List.set_cons_zero, List.set_cons_succ]
        refine pt_q (v := ?_) rfl (by rfl) ?_ ?_
        rotate_left
        · intro w' hBw'
          first | (go_simp; done) | (go_simp; with_reducible rfl)
        try simp only [Act.put, List.getElem_toArray, List.getElem_cons_zero, List.getElem_cons_succ, List.setIfInBounds_toArray, List.set_cons_zero, List.set_cons_succ]
        refine pt_q (v := ?_) rfl (by rfl) ?_ ?_
        rotate_left
        · intro w' hBw'
          first | (go_simp; done) | (go_simp; with_reducible rfl)
        try simp only [Act.put, List.getElem_toArray, List.getElem_cons_zero, List.getElem_cons_succ, List.setIfInBounds_toArray, List.set_cons_zero, List.set_cons_succ]
        refine pt_load rfl (by rfl) 31 (.tmp 4) rfl b4 0 rfl (nmC X) _ (RowAt.range J4) (fun e => e) Tryd.underlying31 rfl (by kernel_rfl) ?_
        try simp only [Act.put, List.getElem_toArray, List.getElem_cons_zero, List.getElem_cons_succ, List.setIfInBounds_toArray, List.set_cons_zero, List.set_cons_succ]
        refine pt_load rfl (by rfl) 31 (.tmp 5) rfl b5 0 rfl (nmC Y) _ (RowAt.range J5) (fun e => e) Tryd.underlying31 rfl (by kernel_rfl) ?_
        try simp only [Act.put, List.getElem_toArray, List.getElem_cons_zero, List.getElem_cons_succ, List.setIfInBounds_toArray, List.set_cons_zero, List.set_cons_succ]
        refine pt_load rfl (by rfl) 31 (.tmp 4) rfl b4 0 rfl (nmC X) _ (RowAt.range J4) (fun e => e) Tryd.underlying31 rfl (by kernel_rfl) ?_
        try simp only [Act.put, List.getElem_toArray, List.getElem_cons_zero, List.getElem_cons_succ, List.setIfInBounds_toArray, List.set_cons_zero, List.set_cons_succ]
        refine pt_load rfl (by rfl) 31 (.tmp 5) rfl b5 0 rfl (nmC Y) _ (RowAt.range J5) (fun e => e) Tryd.underlying31 rfl (by kernel_rfl) ?_
        try simp only [Act.put, List.getElem_toArray, List.getElem_cons_zero, List.getElem_cons_succ, List.setIfInBounds_toArray, List.set_cons_zero, List.set_cons_succ]
        refine pt_q (v := .bool bo) rfl (by rfl) (fun w' _ => exec_nmEq rfl rfl rfl HBO.out w') ?_
        try simp only [Act.put, List.getElem_toArray, List.getElem_cons_zero, List.getElem_cons_succ, List.setIfInBounds_toArray, List.set_cons_zero, List.set_cons_succ]
        refine pt_c ?_
        refine pt_step rfl (by rfl) (fun K hK => ?_)
        go_simp
        refine (HO1.out _).mono ?_
        rintro en wc ⟨rfl, hbc⟩
        refine hK.out _ _ (But.of_below hbc) ?_
        clear hK K
        try simp only [Act.put, List.getElem_toArray, List.getElem_cons_zero, List.getElem_cons_succ, List.setIfInBounds_toArray, List.set_cons_zero, List.set_cons_succ]
        refine pt_q (v := ?_) rfl (by rfl) ?_ ?_
        rotate_left
        · intro w' hBw'
          first | (go_simp; done) | (go_simp; with_reducible rfl)
        try simp only [Act.put, List.getElem_toArray, List.getElem_cons_zero, List.getElem_cons_succ, List.setIfInBounds_toArray, List.set_cons_zero, List.set_cons_succ]
        refine pt_q (v := .bool false) rfl (by rfl) (fun w' _ => exec_bneq rfl rfl rfl w') ?_
        try simp only [Act.put, List.getElem_toArray, List.getElem_cons_zero, List.getElem_cons_succ, List.setIfInBounds_toArray, List.set_cons_zero, List.set_cons_succ]
        refine pt_q (v := ?_) rfl (by rfl) ?_ ?_
        rotate_left
        · intro w' hBw'
          first | (go_simp; done) | (go_simp; with_reducible rfl)
        try simp only [Act.put, List.getElem_toArray, List.getElem_cons_zero, List.getElem_cons_succ, List.setIfInBounds_toArray, List.set_cons_zero, List.set_cons_succ]
        refine pt_q (v := ?_) rfl (by rfl) ?_ ?_
        rotate_left
        · intro w' hBw'
          first | (go_simp; done) | (go_simp; with_reducible rfl)
        try simp only [Act.put, List.getElem_toArray, List.getElem_cons_zero, List.getElem_cons_succ, List.setIfInBounds_toArray, List.set_cons_zero, List.set_cons_succ]
        refine pt_q (v := ?_) rfl (by rfl) ?_ ?_
        rotate_left
        · intro w' hBw'
          first | (go_simp; done) | (go_simp; with_reducible rfl)
        try simp only [Act.put, List.getElem_toArray, List.getElem_cons_zero, List.getElem_cons_succ, List.setIfInBounds_toArray, List.set_cons_zero, List.set_cons_succ]
        refine pt_q (v := ?_) rfl (by rfl) ?_ ?_
        rotate_left
        · intro w' hBw'
          first | (go_simp; done) | (go_simp; with_reducible rfl)
        try simp only [Act.put, List.getElem_toArray, List.getElem_cons_zero, List.getElem_cons_succ, List.setIfInBounds_toArray, List.set_cons_zero, List.set_cons_succ]
        refine pt_c ?_
        refine pt_step rfl (by rfl) (fun K hK => ?_)
        go_simp
        refine (numL_c e1 _).mono ?_
        rintro en wn ⟨rfl, rfl⟩
        refine hK.out _ _ (But.refl _ _) ?_
        clear hK K
        try simp only [Act.put, List.getElem_toArray, List.getElem_cons_zero, List.getElem_cons_succ, List.setIfInBounds_toArray, List.set_cons_zero, List.set_cons_succ]
        refine pt_c ?_
        refine pt_step rfl (by rfl) (fun K hK => ?_)
        go_simp
        refine (numL_c e1 _).mono ?_
        rintro en wn ⟨rfl, rfl⟩
        refine hK.out _ _ (But.refl _ _) ?_
        clear hK K
        try simp only [Act.put, List.getElem_toArray, List.getElem_cons_zero, List.getElem_cons_succ, List.setIfInBounds_toArray, List.set_cons_zero, List.set_cons_succ]
        refine pt_q (v := ?_) rfl (by rfl) ?_ ?_
        rotate_left
        · intro w' hBw'
          first | (go_simp; done) | (go_simp; with_reducible rfl)
        try simp only [Act.put, List.getElem_toArray, List.getElem_cons_zero, List.getElem_cons_succ, List.setIfInBounds_toArray, List.set_cons_zero, List.set_cons_succ]
        refine pt_q (v := ?_) rfl (by rfl) ?_ ?_
        rotate_left
        · intro w' hBw'
          first | (go_simp; done) | (go_simp; with_reducible rfl)
        try simp only [Act.put, List.getElem_toArray, List.getElem_cons_zero, List.getElem_cons_succ, List.setIfInBounds_toArray, List.set_cons_zero, List.set_cons_succ]
        refine pt_q (v := ?_) rfl (by rfl) ?_ ?_
        rotate_left
        · intro w' hBw'
          first | (go_simp; done) | (go_simp; with_reducible rfl)
        try simp only [Act.put, List.getElem_toArray, List.getElem_cons_zero, List.getElem_cons_succ, List.setIfInBounds_toArray, List.set_cons_zero, List.set_cons_succ]
        refine pt_q (v := ?_) rfl (by rfl) ?_ ?_
        rotate_left
        · intro w' hBw'
          first | (go_simp; done) | (go_simp; with_reducible rfl)
        try simp only [Act.put, List.getElem_toArray, List.getElem_cons_zero, List.getElem_cons_succ, List.setIfInBounds_toArray, List.set_cons_zero, List.set_cons_succ]
        refine pt_q (v := ?_) rfl (by rfl) ?_ ?_
        rotate_left
        · intro w' hBw'
          first | (go_simp; done) | (go_simp; with_reducible rfl)
        try simp only [Act.put, List.getElem_toArray, List.getElem_cons_zero, List.getElem_cons_succ, List.setIfInBounds_toArray, List.set_cons_zero, List.set_cons_succ]
        refine pt_c ?_
        refine pt_step rfl (by rfl) (fun K hK => ?_)
        go_simp
        refine (numL_c e2 _).mono ?_
        rintro en wn ⟨rfl, rfl⟩
        refine hK.out _ _ (But.refl _ _) ?_
        clear hK K
        try simp only [Act.put, List.getElem_toArray, List.getElem_cons_zero, List.getElem_cons_succ, List.setIfInBounds_toArray, List.set_cons_zero, List.set_cons_succ]
        refine pt_c ?_
        refine pt_step rfl (by rfl) (fun K hK => ?_)
        go_simp
        refine (numL_c e2 _).mono ?_
        rintro en wn ⟨rfl, rfl⟩
        refine hK.out _ _ (But.refl _ _) ?_
        clear hK K
        try simp only [Act.put, List.getElem_toArray, List.getElem_cons_zero, List.getElem_cons_succ, List.setIfInBounds_toArray, List.set_cons_zero, List.set_cons_succ]
        refine pt_q (v := ?_) rfl (by rfl) ?_ ?_
        rotate_left
        · intro w' hBw'
          first | (go_simp; done) | (go_simp; with_reducible rfl)
        try simp only [Act.put, List.getElem_toArray, List.getElem_cons_zero, List.getElem_cons_succ, List.setIfInBounds_toArray, List.set_cons_zero, List.set_cons_succ]
        refine pt_q (v := ?_) rfl (by rfl) ?_ ?_
        rotate_left
        · intro w' hBw'
          first | (go_simp; done) | (go_simp; with_reducible rfl)
        try simp only [Act.put, List.getElem_toArray, List.getElem_cons_zero, List.getElem_cons_succ, List.setIfInBounds_toArray, List.set_cons_zero, List.set_cons_succ]
        refine pt_done ?_
        go_wp2
        have hbx := below_up hBd (below_up hba (below_up hbb hbc))
        have Z4 := Y4.below hbx
        have Z5 := Y5.below hbx
        have Z10 := X10.below hbx
        have Z12 := X12.below hbx
        have i1c := i1.up hbx
        have i2c := i2.up hbx
        have HB4 := Lib.hid (below_up HB3.out hbx)
        clear hbx Y4 Y5 X10 X12 i1 i2 HB3 hBd hba hbb hbc E4 E5 G4 G5 J4 J5
        by_cases hz : e1 = 0 ∧ e2 = 0
        · obtain ⟨rfl, rfl⟩ := hz
          have hv1 := HV1.out
          have hv2 := HV2.out
          rw [if_pos rfl] at hv1 hv2
          subst hv1 hv2
          have hsn : (Dig.nameT n1 m1 t1 s1 == Dig.nameT n2 m2 t2 s2) = bo := by
            rw [← HBO.out, Bool.eq_iff_iff, beq_iff_eq, decide_eq_true_eq, HXY.out.1, HXY.out.2]
            constructor
            · intro h
              obtain ⟨h1, h2, h3, h4⟩ := Dig.nameT_inj HE1.out HE2.out hn1 hm1 hs1 hn2 hm2 hs2 h
              rw [h1, h2, h3, h4]
            · intro h
              simp only [Nm.mk.injEq] at h
              rw [show n1 = n2 by omega, show m1 = m2 by omega, show t1 = t2 by omega, show s1 = s2 by omega]
          have hI1 := HI1.out
          have hI2 := HI2.out
          rw [if_pos rfl] at hI1 hI2
          have hsb : sameB I1 I2 = bo := by
            have hc0 : ∀ {a b : Nat}, Dig.chkN a b = 0 → a ≠ 0 := fun {a b} h => by
              unfold Dig.chkN at h
              split at h
              · cases h
              · omega
            rw [← HBO.out, Bool.eq_iff_iff, decide_eq_true_eq, sameB_iff, ← hI1, ← hI2, HXY.out.1, HXY.out.2]
            constructor
            · intro h
              obtain ⟨h1, h2, h3, h4⟩ := nmI_inj (hc0 HE1.out) (hc0 HE2.out) h
              rw [h1, h2, h3, h4]
            · intro h
              simp only [Nm.mk.injEq] at h
              rw [show n1 = n2 by omega, show m1 = m2 by omega, show t1 = t2 by omega, show s1 = s2 by omega]
          have hcn1 : Cb.cnt I1 ≤ 1000000 := by rw [← hI1]; exact cnt_nm _ _ _ _
          have hcn2 : Cb.cnt I2 ≤ 1000000 := by rw [← hI2]; exact cnt_nm _ _ _ _
          have HSB := Lib.hid hsb
          clear hsb hI1 hI2
          go_wp2
          refine wp_region_pt (fun _ => False) (.q 0 (.q 2 (.c 1 (.c 3 (.q 4 (.q 5 (.q 6 (.q 7 (.q 8 (.q 9 (.q 10 (.q 11 (.q 12 (.q 13 (.q 14 (.q 15 (.q 16 (.q 18 (.q 19 (.q 20 (.c 17 (.q 21 (.q 22 (.q 23 .done)))))))))))))))))))))))) (by kernel_rfl) (by kernel_rfl) (by kernel_rfl) (by decide) (fun _ _ d _ _ h => by cases d <;> exact h) (fun Wd hBd => ?_)
          try simp only [Act.put, List.getElem_toArray, List.getElem_cons_zero, List.getElem_cons_succ, List.setIfInBounds_toArray, List.set_cons_zero, List.set_cons_succ]
          have E4 := Z4.below hBd
          have E5 := Z5.below hBd
          have E10 := Z10.below hBd
          have E12 := Z12.below hBd
          have j1 := i1c.up hBd
          have j2 := i2c.up hBd
          refine pt_q (v := ?_) rfl (by rfl) ?_ ?_
          rotate_left
          · intro w' hBw'
            first | (go_simp; done) | (go_simp; with_reducible rfl)
          try simp only [Act.put, List.getElem_toArray, List.getElem_cons_zero, List.getElem_cons_succ, List.setIfInBounds_toArray, List.set_cons_zero, List.set_cons_succ]
          refine pt_q (v := ?_) rfl (by rfl) ?_ ?_
          rotate_left
          · intro w' hBw'
            first | (go_simp; done) | (go_simp; with_reducible rfl)
          try simp only [Act.put, List.getElem_toArray, List.getElem_cons_zero, List.getElem_cons_succ, List.setIfInBounds_toArray, List.set_cons_zero, List.set_cons_succ]
          refine pt_c ?_
          refine pt_step rfl (by rfl) (fun K hK => ?_)
          go_simp
          refine (numL_c 0 _).mono ?_
          rintro en wn ⟨rfl, rfl⟩
          refine hK.out _ _ (But.refl _ _) ?_
          clear hK K
          try simp only [Act.put, List.getElem_toArray, List.getElem_cons_zero, List.getElem_cons_succ, List.setIfInBounds_toArray, List.set_cons_zero, List.set_cons_succ]
          refine pt_c ?_
          refine pt_step rfl (by rfl) (fun K hK => ?_)
          go_simp
          refine (numL_c 0 _).mono ?_
          rintro en wn ⟨rfl, rfl⟩
          refine hK.out _ _ (But.refl _ _) ?_
          clear hK K
          try simp only [Act.put, List.getElem_toArray, List.getElem_cons_zero, List.getElem_cons_succ, List.setIfInBounds_toArray, List.set_cons_zero, List.set_cons_succ]
          refine pt_q (v := ?_) rfl (by rfl) ?_ ?_
          rotate_left
          · intro w' hBw'
            first | (go_simp; done) | (go_simp; with_reducible rfl)
          try simp only [Act.put, List.getElem_toArray, List.getElem_cons_zero, List.getElem_cons_succ, List.setIfInBounds_toArray, List.set_cons_zero, List.set_cons_succ]
          refine pt_q (v := ?_) rfl (by rfl) ?_ ?_
          rotate_left
          · intro w' hBw'
            first | (go_simp; done) | (go_simp; with_reducible rfl)
          try simp only [Act.put, List.getElem_toArray, List.getElem_cons_zero, List.getElem_cons_succ, List.setIfInBounds_toArray, List.set_cons_zero, List.set_cons_succ]
          refine pt_q (v := ?_) rfl (by rfl) ?_ ?_
          rotate_left
          · intro w' hBw'
            first | (go_simp; done) | (go_simp; with_reducible rfl)
          try simp only [Act.put, List.getElem_toArray, List.getElem_cons_zero, List.getElem_cons_succ, List.setIfInBounds_toArray, List.set_cons_zero, List.set_cons_succ]
          refine pt_q (v := ?_) rfl (by rfl) ?_ ?_
          rotate_left
          · intro w' hBw'
            first | (go_simp; done) | (go_simp; with_reducible rfl)
          try simp only [Act.put, List.getElem_toArray, List.getElem_cons_zero, List.getElem_cons_succ, List.setIfInBounds_toArray, List.set_cons_zero, List.set_cons_succ]
          refine pt_q (v := ?_) rfl (by rfl) ?_ ?_
          rotate_left
          · intro w' hBw'
            first | (go_simp; done) | (go_simp; with_reducible rfl)
          try simp only [Act.put, List.getElem_toArray, List.getElem_cons_zero, List.getElem_cons_succ, List.setIfInBounds_toArray, List.set_cons_zero, List.set_cons_succ]
          refine pt_q (v := ?_) rfl (by rfl) ?_ ?_
          rotate_left
          · intro w' hBw'
            first | (go_simp; done) | (go_simp; with_reducible rfl)
          try simp only [Act.put, List.getElem_toArray, List.getElem_cons_zero, List.getElem_cons_succ, List.setIfInBounds_toArray, List.set_cons_zero, List.set_cons_succ]
          refine pt_load rfl (by rfl) 31 (.tmp 4) rfl b4 0 rfl (nmC X) _ (RowAt.range E4) (fun e => e) Tryd.underlying31 rfl (by kernel_rfl) ?_
          try simp only [Act.put, List.getElem_toArray, List.getElem_cons_zero, List.getElem_cons_succ, List.setIfInBounds_toArray, List.set_cons_zero, List.set_cons_succ]
          refine pt_load rfl (by rfl) 31 (.tmp 5) rfl b5 0 rfl (nmC Y) _ (RowAt.range E5) (fun e => e) Tryd.underlying31 rfl (by kernel_rfl) ?_
          try simp only [Act.put, List.getElem_toArray, List.getElem_cons_zero, List.getElem_cons_succ, List.setIfInBounds_toArray, List.set_cons_zero, List.set_cons_succ]
          refine pt_q (v := .bool bo) rfl (by rfl) (fun w' _ => exec_nmEq rfl rfl rfl HBO.out w') ?_
          try simp only [Act.put, List.getElem_toArray, List.getElem_cons_zero, List.getElem_cons_succ, List.setIfInBounds_toArray, List.set_cons_zero, List.set_cons_succ]
          refine pt_q (v := .bool false) rfl (by rfl) (fun w' _ => exec_bneq rfl rfl rfl w') ?_
          try simp only [Act.put, List.getElem_toArray, List.getElem_cons_zero, List.getElem_cons_succ, List.setIfInBounds_toArray, List.set_cons_zero, List.set_cons_succ]
          refine pt_q (v := ?_) rfl (by rfl) ?_ ?_
          rotate_left
          · intro w' hBw'
            first | (go_simp; done) | (go_simp; with_reducible rfl)
          try simp only [Act.put, List.getElem_toArray, List.getElem_cons_zero, List.getElem_cons_succ, List.setIfInBounds_toArray, List.set_cons_zero, List.set_cons_succ]
          refine pt_load rfl (by rfl) 48 (.tmp 10) rfl w3.heap.size 0 rfl (rwC ⟨k1, q1, .slice ba1 bn1 bc1, z1, .slice la1 ln1 lc1⟩) _ (RowAt.range E10) (fun e => e) Tryd.underlying48 rfl (by kernel_rfl) ?_
          try simp only [Act.put, List.getElem_toArray, List.getElem_cons_zero, List.getElem_cons_succ, List.setIfInBounds_toArray, List.set_cons_zero, List.set_cons_succ]
          refine pt_load rfl (by rfl) 48 (.tmp 12) rfl w5.heap.size 0 rfl (rwC ⟨k2, q2, .slice ba2 bn2 bc2, z2, .slice la2 ln2 lc2⟩) _ (RowAt.range E12) (fun e => e) Tryd.underlying48 rfl (by kernel_rfl) ?_
          try simp only [Act.put, List.getElem_toArray, List.getElem_cons_zero, List.getElem_cons_succ, List.setIfInBounds_toArray, List.set_cons_zero, List.set_cons_succ]
          refine pt_load rfl (by rfl) 31 (.tmp 4) rfl b4 0 rfl (nmC X) _ (RowAt.range E4) (fun e => e) Tryd.underlying31 rfl (by kernel_rfl) ?_
          try simp only [Act.put, List.getElem_toArray, List.getElem_cons_zero, List.getElem_cons_succ, List.setIfInBounds_toArray, List.set_cons_zero, List.set_cons_succ]
          refine pt_load rfl (by rfl) 31 (.tmp 5) rfl b5 0 rfl (nmC Y) _ (RowAt.range E5) (fun e => e) Tryd.underlying31 rfl (by kernel_rfl) ?_
          try simp only [Act.put, List.getElem_toArray, List.getElem_cons_zero, List.getElem_cons_succ, List.setIfInBounds_toArray, List.set_cons_zero, List.set_cons_succ]
          refine pt_q (v := .bool bo) rfl (by rfl) (fun w' _ => exec_nmEq rfl rfl rfl HBO.out w') ?_
          try simp only [Act.put, List.getElem_toArray, List.getElem_cons_zero, List.getElem_cons_succ, List.setIfInBounds_toArray, List.set_cons_zero, List.set_cons_succ]
          refine pt_c ?_
          refine pt_step rfl (by rfl) (fun K hK => ?_)
          go_simp
          refine (sameR_c (fun _ => True) I1 I2 _ _ _ j1 j2 hcn1 hcn2).mono ?_
          rw [HSB.out]
          rintro en wd ⟨rfl, hbd⟩
          refine hK.out _ _ (But.of_below hbd) ?_
          clear hK K
          try simp only [Act.put, List.getElem_toArray, List.getElem_cons_zero, List.getElem_cons_succ, List.setIfInBounds_toArray, List.set_cons_zero, List.set_cons_succ]
          refine pt_q (v := .bool false) rfl (by rfl) (fun w' _ => exec_bneq rfl rfl rfl w') ?_
          try simp only [Act.put, List.getElem_toArray, List.getElem_cons_zero, List.getElem_cons_succ, List.setIfInBounds_toArray, List.set_cons_zero, List.set_cons_succ]
          refine pt_q (v := ?_) rfl (by rfl) ?_ ?_
          rotate_left
          · intro w' hBw'
            first | (go_simp; done) | (go_simp; with_reducible rfl)
          try simp only [Act.put, List.getElem_toArray, List.getElem_cons_zero, List.getElem_cons_succ, List.setIfInBounds_toArray, List.set_cons_zero, List.set_cons_succ]
          refine pt_q (v := ?_) rfl (by rfl) ?_ ?_
          rotate_left
          · intro w' hBw'
            first | (go_simp; done) | (go_simp; with_reducible rfl)
          try simp only [Act.put, List.getElem_toArray, List.getElem_cons_zero, List.getElem_cons_succ, List.setIfInBounds_toArray, List.set_cons_zero, List.set_cons_succ]
          refine pt_done ?_
          have HB5 := Lib.hid (below_up HB4.out (below_up hBd hbd))
          clear hBd hbd E4 E5 E10 E12 j1 j2 Z4 Z5 Z10 Z12 i1c i2c
          go_wp2
          exact ⟨⟨k + 1, by go_num, by omega, HB5.out⟩, by simp [intOf]; omega⟩
        · have hes : ((e1 + e2 : Int) == 0) = false := by
            have h1 : e1 = 0 ∨ e1 = 2 := by rw [← HE1.out]; unfold Dig.chkN; split <;> simp
            have h2 : e2 = 0 ∨ e2 = 2 := by rw [← HE2.out]; unfold Dig.chkN; split <;> simp
            rw [beq_eq_false_iff_ne]; omega
          have hwe : IntKind.i64.wrap (e1 + e2) = e1 + e2 := by
            have h1 : e1 = 0 ∨ e1 = 2 := by rw [← HE1.out]; unfold Dig.chkN; split <;> simp
            have h2 : e2 = 0 ∨ e2 = 2 := by rw [← HE2.out]; unfold Dig.chkN; split <;> simp
            rw [IntKind.wrap_i64]; omega
          clear hz
          go_wp2
          refine wp_region_pt (fun _ => False) (.q 0 (.q 2 (.c 1 (.c 3 (.q 4 (.q 5 (.q 6 (.q 7 (.q 8 (.q 9 (.q 10 (.q 11 (.q 12 (.q 13 (.q 14 (.q 15 (.q 16 (.q 17 (.q 18 (.q 19 (.q 20 (.q 21 (.q 22 (.q 23 .done)))))))))))))))))))))))) (by kernel_rfl) (by kernel_rfl) (by kernel_rfl) (by decide) (fun _ _ d _ _ h => by cases d <;> exact h) (fun Wd hBd => ?_)
          try simp only [Act.put, List.getElem_toArray, List.getElem_cons_zero, List.getElem_cons_succ, List.setIfInBounds_toArray, List.set_cons_zero, List.set_cons_succ]
          refine pt_q (v := ?_) rfl (by rfl) ?_ ?_
          rotate_left
          · intro w' hBw'
            first | (go_simp; done) | (go_simp; with_reducible rfl)
          try simp only [Act.put, List.getElem_toArray, List.getElem_cons_zero, List.getElem_cons_succ, List.setIfInBounds_toArray, List.set_cons_zero, List.set_cons_succ]
          refine pt_q (v := ?_) rfl (by rfl) ?_ ?_
          rotate_left
          · intro w' hBw'
            first | (go_simp; done) | (go_simp; with_reducible rfl)
          try simp only [Act.put, List.getElem_toArray, List.getElem_cons_zero, List.getElem_cons_succ, List.setIfInBounds_toArray, List.set_cons_zero, List.set_cons_succ]
          refine pt_c ?_
          refine pt_step rfl (by rfl) (fun K hK => ?_)
          go_simp
          refine (numL_c e1 _).mono ?_
          rintro en wn ⟨rfl, rfl⟩
          refine hK.out _ _ (But.refl _ _) ?_
          clear hK K
          try simp only [Act.put, List.getElem_toArray, List.getElem_cons_zero, List.getElem_cons_succ, List.setIfInBounds_toArray, List.set_cons_zero, List.set_cons_succ]
          refine pt_c ?_
          refine pt_step rfl (by rfl) (fun K hK => ?_)
          go_simp
          refine (numL_c e2 _).mono ?_
          rintro en wn ⟨rfl, rfl⟩
          refine hK.out _ _ (But.refl _ _) ?_
          clear hK K
          try simp only [Act.put, List.getElem_toArray, List.getElem_cons_zero, List.getElem_cons_succ, List.setIfInBounds_toArray, List.set_cons_zero, List.set_cons_succ]
          refine pt_q (v := ?_) rfl (by rfl) ?_ ?_
          rotate_left
          · intro w' hBw'
            first | (go_simp; done) | (go_simp; with_reducible rfl)
          try simp only [Act.put, List.getElem_toArray, List.getElem_cons_zero, List.getElem_cons_succ, List.setIfInBounds_toArray, List.set_cons_zero, List.set_cons_succ]
          refine pt_q (v := ?_) rfl (by rfl) ?_ ?_
          rotate_left
          · intro w' hBw'
            first | (go_simp; done) | (go_simp; with_reducible rfl)
          try simp only [Act.put, List.getElem_toArray, List.getElem_cons_zero, List.getElem_cons_succ, List.setIfInBounds_toArray, List.set_cons_zero, List.set_cons_succ]
          refine pt_q (v := ?_) rfl (by rfl) ?_ ?_
          rotate_left
          · intro w' hBw'
            first | (go_simp; done) | (go_simp; with_reducible rfl)
          try simp only [Act.put, List.getElem_toArray, List.getElem_cons_zero, List.getElem_cons_succ, List.setIfInBounds_toArray, List.set_cons_zero, List.set_cons_succ]
          refine pt_no rfl (by rfl) ?_
          try simp only [Act.put, List.getElem_toArray, List.getElem_cons_zero, List.getElem_cons_succ, List.setIfInBounds_toArray, List.set_cons_zero, List.set_cons_succ]
          refine pt_no rfl (by rfl) ?_
          try simp only [Act.put, List.getElem_toArray, List.getElem_cons_zero, List.getElem_cons_succ, List.setIfInBounds_toArray, List.set_cons_zero, List.set_cons_succ]
          refine pt_no rfl (by rfl) ?_
          try simp only [Act.put, List.getElem_toArray, List.getElem_cons_zero, List.getElem_cons_succ, List.setIfInBounds_toArray, List.set_cons_zero, List.set_cons_succ]
          refine pt_no rfl (by rfl) ?_
          try simp only [Act.put, List.getElem_toArray, List.getElem_cons_zero, List.getElem_cons_succ, List.setIfInBounds_toArray, List.set_cons_zero, List.set_cons_succ]
          refine pt_no rfl (by rfl) ?_
          try simp only [Act.put, List.getElem_toArray, List.getElem_cons_zero, List.getElem_cons_succ, List.setIfInBounds_toArray, List.set_cons_zero, List.set_cons_succ]
          refine pt_no rfl (by rfl) ?_
          try simp only [Act.put, List.getElem_toArray, List.getElem_cons_zero, List.getElem_cons_succ, List.setIfInBounds_toArray, List.set_cons_zero, List.set_cons_succ]
          refine pt_no rfl (by rfl) ?_
          try simp only [Act.put, List.getElem_toArray, List.getElem_cons_zero, List.getElem_cons_succ, List.setIfInBounds_toArray, List.set_cons_zero, List.set_cons_succ]
          refine pt_no rfl (by rfl) ?_
          try simp only [Act.put, List.getElem_toArray, List.getElem_cons_zero, List.getElem_cons_succ, List.setIfInBounds_toArray, List.set_cons_zero, List.set_cons_succ]
          refine pt_no rfl (by rfl) ?_
          try simp only [Act.put, List.getElem_toArray, List.getElem_cons_zero, List.getElem_cons_succ, List.setIfInBounds_toArray, List.set_cons_zero, List.set_cons_succ]
          refine pt_no rfl (by rfl) ?_
          try simp only [Act.put, List.getElem_toArray, List.getElem_cons_zero, List.getElem_cons_succ, List.setIfInBounds_toArray, List.set_cons_zero, List.set_cons_succ]
          refine pt_no rfl (by rfl) ?_
          try simp only [Act.put, List.getElem_toArray, List.getElem_cons_zero, List.getElem_cons_succ, List.setIfInBounds_toArray, List.set_cons_zero, List.set_cons_succ]
          refine pt_no rfl (by rfl) ?_
          try simp only [Act.put, List.getElem_toArray, List.getElem_cons_zero, List.getElem_cons_succ, List.setIfInBounds_toArray, List.set_cons_zero, List.set_cons_succ]
          refine pt_no rfl (by rfl) ?_
          try simp only [Act.put, List.getElem_toArray, List.getElem_cons_zero, List.getElem_cons_succ, List.setIfInBounds_toArray, List.set_cons_zero, List.set_cons_succ]
          refine pt_no rfl (by rfl) ?_
          try simp only [Act.put, List.getElem_toArray, List.getElem_cons_zero, List.getElem_cons_succ, List.setIfInBounds_toArray, List.set_cons_zero, List.set_cons_succ]
          refine pt_no rfl (by rfl) ?_
          try simp only [Act.put, List.getElem_toArray, List.getElem_cons_zero, List.getElem_cons_succ, List.setIfInBounds_toArray, List.set_cons_zero, List.set_cons_succ]
          refine pt_no rfl (by rfl) ?_
          try simp only [Act.put, List.getElem_toArray, List.getElem_cons_zero, List.getElem_cons_succ, List.setIfInBounds_toArray, List.set_cons_zero, List.set_cons_succ]
          refine pt_q (v := ?_) rfl (by rfl) ?_ ?_
          rotate_left
          · intro w' hBw'
            first | (go_simp; done) | (go_simp; with_reducible rfl)
          try simp only [Act.put, List.getElem_toArray, List.getElem_cons_zero, List.getElem_cons_succ, List.setIfInBounds_toArray, List.set_cons_zero, List.set_cons_succ]
          refine pt_done ?_
          have HB5 := Lib.hid (below_up HB4.out hBd)
          clear hBd Z4 Z5 Z10 Z12 i1c i2c
          go_wp2
          exact ⟨⟨k + 1, by go_num, by omega, HB5.out⟩, by simp [intOf]; omega⟩
    · have hd3 : decide ((k : Int) < 3) = false := decide_eq_false (by omega)
      have hl := HL.out
      have Q3 : RowAt wr w.heap.size #[.int .u32 x.n, .int .u32 x.m, .int .u64 x.t, .int .u32 x.s, .int .u32 y.n, .int .u32 y.m, .int .u64 y.t, .int .u32 y.s, .int .u32 z.n, .int .u32 z.m, .int .u64 z.t, .int .u32 z.s] 43 := by
        have := HQ.out.below HB.out
        rw [hl] at this
        exact this
      obtain ⟨hx, hy, hz⟩ := HX.out
      have hxw := n4_wf hx
      have hyw := n4_wf hy
      have hzw := n4_wf hz
      have ho1 := fun W => order_c (n4N x) (n4N y) hxw hyw W
      have ho2 := fun W => order_c (n4N y) (n4N z) hyw hzw W
      have ho3 := fun W => order_c (n4N x) (n4N z) hxw hzw W
      have htr := @nmCmp_trans (n4N x) (n4N y) (n4N z)
      obtain ⟨c1, hc1⟩ : ∃ c, nmCmp (n4N x) (n4N y) = c := ⟨_, rfl⟩
      obtain ⟨c2, hc2⟩ : ∃ c, nmCmp (n4N y) (n4N z) = c := ⟨_, rfl⟩
      obtain ⟨c3, hc3⟩ : ∃ c, nmCmp (n4N x) (n4N z) = c := ⟨_, rfl⟩
      simp only [hc1, hc2, hc3] at ho1 ho2 ho3 htr
      have HO1 := Lib.hid ho1
      have HO2 := Lib.hid ho2
      have HO3 := Lib.hid ho3
      clear ho1 ho2 ho3 hl hx hy hz hxw hyw hzw hok hl3 hc1 hc2 hc3
      by_cases h1 : c1 < 0
      · have d1 : decide (c1 < 0) = true := decide_eq_true h1
        by_cases h2 : c2 < 0
        · have d2 : decide (c2 < 0) = true := decide_eq_true h2
          have d3 : decide ((0 : Int) ≤ c3) = false := decide_eq_false (by have := htr h1 h2; omega)
          have d4 : decide (c3 ≥ 0) = false := d3
          clear htr h1 h2
          have x0 := RowAt.cell Q3 (i := 0) rfl; have x1 := RowAt.cell Q3 (i := 1) rfl; have x2 := RowAt.cell Q3 (i := 2) rfl; have x3 := RowAt.cell Q3 (i := 3) rfl; have x4 := RowAt.cell Q3 (i := 4) rfl; have x5 := RowAt.cell Q3 (i := 5) rfl; have x6 := RowAt.cell Q3 (i := 6) rfl; have x7 := RowAt.cell Q3 (i := 7) rfl; have x8 := RowAt.cell Q3 (i := 8) rfl; have x9 := RowAt.cell Q3 (i := 9) rfl; have x10 := RowAt.cell Q3 (i := 10) rfl; have x11 := RowAt.cell Q3 (i := 11) rfl
          go_wp2_with fail
          clear x0 x1 x2 x3 x4 x5 x6 x7 x8 x9 x10 x11
          refine (HO1.out _).mono ?_
          rintro en wA ⟨rfl, hbA⟩
          have BA := below_up HB.out hbA
          have QA := Q3.below hbA
          have x0 := RowAt.cell QA (i := 0) rfl; have x1 := RowAt.cell QA (i := 1) rfl; have x2 := RowAt.cell QA (i := 2) rfl; have x3 := RowAt.cell QA (i := 3) rfl; have x4 := RowAt.cell QA (i := 4) rfl; have x5 := RowAt.cell QA (i := 5) rfl; have x6 := RowAt.cell QA (i := 6) rfl; have x7 := RowAt.cell QA (i := 7) rfl; have x8 := RowAt.cell QA (i := 8) rfl; have x9 := RowAt.cell QA (i := 9) rfl; have x10 := RowAt.cell QA (i := 10) rfl; have x11 := RowAt.cell QA (i := 11) rfl
          go_wp2_with fail
          clear x0 x1 x2 x3 x4 x5 x6 x7 x8 x9 x10 x11
          refine (HO2.out _).mono ?_
          rintro en wB ⟨rfl, hbB⟩
          have BB := below_up BA hbB
          have QB := QA.below hbB
          have x0 := RowAt.cell QB (i := 0) rfl; have x1 := RowAt.cell QB (i := 1) rfl; have x2 := RowAt.cell QB (i := 2) rfl; have x3 := RowAt.cell QB (i := 3) rfl; have x4 := RowAt.cell QB (i := 4) rfl; have x5 := RowAt.cell QB (i := 5) rfl; have x6 := RowAt.cell QB (i := 6) rfl; have x7 := RowAt.cell QB (i := 7) rfl; have x8 := RowAt.cell QB (i := 8) rfl; have x9 := RowAt.cell QB (i := 9) rfl; have x10 := RowAt.cell QB (i := 10) rfl; have x11 := RowAt.cell QB (i := 11) rfl
          go_wp2_with fail
          clear x0 x1 x2 x3 x4 x5 x6 x7 x8 x9 x10 x11
          refine (HO3.out _).mono ?_
          rintro en wC ⟨rfl, hbC⟩
          have BC := below_up BB hbC
          go_wp2_with (go_at_call 9; refine (nmWorks_c _ (HT.out.up BC)).mono ?_; rintro en wZ ⟨rfl, hbZ⟩)
          go_ret
          exact ⟨rfl, below_up HB0.out (below_up BC hbZ)⟩
        · have d2 : decide (c2 < 0) = false := decide_eq_false h2
          clear htr h1 h2
          have x0 := RowAt.cell Q3 (i := 0) rfl; have x1 := RowAt.cell Q3 (i := 1) rfl; have x2 := RowAt.cell Q3 (i := 2) rfl; have x3 := RowAt.cell Q3 (i := 3) rfl; have x4 := RowAt.cell Q3 (i := 4) rfl; have x5 := RowAt.cell Q3 (i := 5) rfl; have x6 := RowAt.cell Q3 (i := 6) rfl; have x7 := RowAt.cell Q3 (i := 7) rfl; have x8 := RowAt.cell Q3 (i := 8) rfl; have x9 := RowAt.cell Q3 (i := 9) rfl; have x10 := RowAt.cell Q3 (i := 10) rfl; have x11 := RowAt.cell Q3 (i := 11) rfl
          go_wp2_with fail
          clear x0 x1 x2 x3 x4 x5 x6 x7 x8 x9 x10 x11
          refine (HO1.out _).mono ?_
          rintro en wA ⟨rfl, hbA⟩
          have BA := below_up HB.out hbA
          have QA := Q3.below hbA
          have x0 := RowAt.cell QA (i := 0) rfl; have x1 := RowAt.cell QA (i := 1) rfl; have x2 := RowAt.cell QA (i := 2) rfl; have x3 := RowAt.cell QA (i := 3) rfl; have x4 := RowAt.cell QA (i := 4) rfl; have x5 := RowAt.cell QA (i := 5) rfl; have x6 := RowAt.cell QA (i := 6) rfl; have x7 := RowAt.cell QA (i := 7) rfl; have x8 := RowAt.cell QA (i := 8) rfl; have x9 := RowAt.cell QA (i := 9) rfl; have x10 := RowAt.cell QA (i := 10) rfl; have x11 := RowAt.cell QA (i := 11) rfl
          go_wp2_with fail
          clear x0 x1 x2 x3 x4 x5 x6 x7 x8 x9 x10 x11
          refine (HO2.out _).mono ?_
          rintro en wB ⟨rfl, hbB⟩
          have BB := below_up BA hbB
          go_wp2_with (go_at_call 9; refine (nmWorks_c _ (HT.out.up BB)).mono ?_; rintro en wZ ⟨rfl, hbZ⟩)
          go_ret
          exact ⟨rfl, below_up HB0.out (below_up BB hbZ)⟩
      · have d1 : decide (c1 < 0) = false := decide_eq_false h1
        clear htr h1
        have x0 := RowAt.cell Q3 (i := 0) rfl; have x1 := RowAt.cell Q3 (i := 1) rfl; have x2 := RowAt.cell Q3 (i := 2) rfl; have x3 := RowAt.cell Q3 (i := 3) rfl; have x4 := RowAt.cell Q3 (i := 4) rfl; have x5 := RowAt.cell Q3 (i := 5) rfl; have x6 := RowAt.cell Q3 (i := 6) rfl; have x7 := RowAt.cell Q3 (i := 7) rfl; have x8 := RowAt.cell Q3 (i := 8) rfl; have x9 := RowAt.cell Q3 (i := 9) rfl; have x10 := RowAt.cell Q3 (i := 10) rfl; have x11 := RowAt.cell Q3 (i := 11) rfl
        go_wp2_with fail
        clear x0 x1 x2 x3 x4 x5 x6 x7 x8 x9 x10 x11
        refine (HO1.out _).mono ?_
        rintro en wA ⟨rfl, hbA⟩
        have BA := below_up HB.out hbA
        go_wp2_with (go_at_call 9; refine (nmWorks_c _ (HT.out.up BA)).mono ?_; rintro en wZ ⟨rfl, hbZ⟩)
        go_ret
        exact ⟨rfl, below_up HB0.out (below_up BA hbZ)⟩
end Go.Proofs.YtpfgepgjpnekdaaDoor

namespace Go.Proofs.YtpfgepgjpnekdaaDoor
open Go.RowKit Trc Cb
set_option linter.unusedVariables false
theorem nat_u32 {a : Int} (h : (Lit.int .u32 a).wf = true) : ∃ k : Nat, a = k ∧ k < 4294967296 := by
  simp [Lit.wf, IntKind.min, IntKind.max, IntKind.signed, IntKind.bits] at h
  exact ⟨a.toNat, by omega, by omega⟩
theorem nat_u64 {a : Int} (h : (Lit.int .u64 a).wf = true) : ∃ k : Nat, a = k ∧ k < 18446744073709551616 := by
  simp [Lit.wf, IntKind.min, IntKind.max, IntKind.signed, IntKind.bits] at h
  exact ⟨a.toNat, by omega, by omega⟩
theorem nameHolds_law (a0 : Int) (h0 : (Lit.int .u32 a0).wf = true) (a1 : Int) (h1 : (Lit.int .u32 a1).wf = true) (a2 : Int) (h2 : (Lit.int .u64 a2).wf = true) (a3 : Int) (h3 : (Lit.int .u32 a3).wf = true) (a4 : Int) (h4 : (Lit.int .u32 a4).wf = true) (a5 : Int) (h5 : (Lit.int .u32 a5).wf = true) (a6 : Int) (h6 : (Lit.int .u64 a6).wf = true) (a7 : Int) (h7 : (Lit.int .u32 a7).wf = true) (a8 : Int) (h8 : (Lit.int .u32 a8).wf = true) (a9 : Int) (h9 : (Lit.int .u32 a9).wf = true) (a10 : Int) (h10 : (Lit.int .u64 a10).wf = true) (a11 : Int) (h11 : (Lit.int .u32 a11).wf = true) (w : World) (hT : NmT w) : Calls Tryd.prog 4 #[.agg #[.int .u32 a0, .int .u32 a1, .int .u64 a2, .int .u32 a3, .int .u32 a4, .int .u32 a5, .int .u64 a6, .int .u32 a7, .int .u32 a8, .int .u32 a9, .int .u64 a10, .int .u32 a11]] w (Ret (.bool true) w) := by
  obtain ⟨k0, rfl, b0⟩ := nat_u32 h0
  obtain ⟨k1, rfl, b1⟩ := nat_u32 h1
  obtain ⟨k2, rfl, b2⟩ := nat_u64 h2
  obtain ⟨k3, rfl, b3⟩ := nat_u32 h3
  obtain ⟨k4, rfl, b4⟩ := nat_u32 h4
  obtain ⟨k5, rfl, b5⟩ := nat_u32 h5
  obtain ⟨k6, rfl, b6⟩ := nat_u64 h6
  obtain ⟨k7, rfl, b7⟩ := nat_u32 h7
  obtain ⟨k8, rfl, b8⟩ := nat_u32 h8
  obtain ⟨k9, rfl, b9⟩ := nat_u32 h9
  obtain ⟨k10, rfl, b10⟩ := nat_u64 h10
  obtain ⟨k11, rfl, b11⟩ := nat_u32 h11
  exact nameHolds_c ⟨k0, k1, k2, k3⟩ ⟨k4, k5, k6, k7⟩ ⟨k8, k9, k10, k11⟩ ⟨b0, b1, b2, b3⟩ ⟨b4, b5, b6, b7⟩ ⟨b8, b9, b10, b11⟩ w hT
end Go.Proofs.YtpfgepgjpnekdaaDoor

namespace Go.Proofs.YtpfgepgjpnekdaaDoor.nameHoldsRow
open Go.ChangeShapes Go.WideShapes Go.ChangeAt Go.RowKit
open Go.ChangeMaps (open_string shut_string)
set_option linter.unusedVariables false

theorem own : ownKnob Tryd.prog.godebug = none := by kernel_rfl
theorem laidOut : laidOutB Tryd.prog = true := by kernel_rfl

open Go.Lib
/-- Where the witness's own objects lie. -/
noncomputable def low : Nat := (World.holding Tryd.prog default ⟨#[], #[], []⟩).heap.size
/-- A world that meets the condition: the settled one, the variables laid. -/
noncomputable def laidWorld (os : Os) : World :=
  let w0 := World.holding Tryd.prog os ⟨#[.cells #[.string ⟨#[118, 97, 108, 117, 101, 32, 111, 117, 116, 32, 111, 102, 32, 114, 97, 110, 103, 101]⟩] 167, .cells #[.string ⟨#[105, 110, 118, 97, 108, 105, 100, 32, 115, 121, 110, 116, 97, 120]⟩] 167], #[], []⟩
  let put (h : Array Obj) (g : Nat) (cs : Array Value) : Array Obj := h.modify g fun
    | .cells _ t frozen => .cells cs t frozen
    | o => o
  let h1 := put w0.heap 3 (cellsD Rows.laid_math_bits_deBruijn32tab)
  let h2 := put h1 4 (cellsD Rows.laid_math_bits_deBruijn64tab)
  let h3 := put h2 2 (cellsD Rows.laid_internal_strconv_uint64pow10)
  let h4 := put h3 1 #[.iface 165 (.pointer (some ⟨low + 0, 0, none⟩))]
  let h5 := put h4 0 #[.iface 165 (.pointer (some ⟨low + 1, 0, none⟩))]
  { w0 with heap := h5 }
theorem laid_met (os : Os) (args : Array Value) : laidMet Tryd.prog Rows.nameHoldsRow.laid ((laidWorld os).forCall (fun _ _ => 0) ⟨#[], args, []⟩).memory :=
  (LaidIn.of_run (l := [("math/bits.deBruijn32tab", Rows.laid_math_bits_deBruijn32tab), ("math/bits.deBruijn64tab", Rows.laid_math_bits_deBruijn64tab), ("internal/strconv.uint64pow10", Rows.laid_internal_strconv_uint64pow10), ("strconv.ErrRange", Rows.laid_strconv_ErrRange), ("strconv.ErrSyntax", Rows.laid_strconv_ErrSyntax)]) [3, 4, 2, 1, low + 0, 0, low + 1] 8 (by kernel_rfl) (by kernel_rfl) (by kernel_rfl) (by kernel_rfl)).met
theorem witness_row (os : Os) {H : Type} (enc : TypeId × Value → H) :
    (OpenSpec.ofChange Rows.nameHoldsSpec).preRow enc Tryd.prog Tryd.f4 Rows.nameHoldsRow.domain false Rows.nameHoldsRow.laid ((laidWorld os).forCall (fun _ _ => 0) ⟨#[], #[.agg #[.int .u32 0, .int .u32 0, .int .u64 0, .int .u32 0, .int .u32 0, .int .u32 0, .int .u64 0, .int .u32 0, .int .u32 0, .int .u32 0, .int .u64 0, .int .u32 0]], []⟩).memory #[.agg #[.int .u32 0, .int .u32 0, .int .u64 0, .int .u32 0, .int .u32 0, .int .u32 0, .int .u64 0, .int .u32 0, .int .u32 0, .int .u32 0, .int .u64 0, .int .u32 0]] := by
  have hw : (DataW.whole enc Tryd.prog ((laidWorld os).forCall (fun _ _ => 0) ⟨#[], #[.agg #[.int .u32 0, .int .u32 0, .int .u64 0, .int .u32 0, .int .u32 0, .int .u32 0, .int .u64 0, .int .u32 0, .int .u32 0, .int .u32 0, .int .u64 0, .int .u32 0]], []⟩).memory Tryd.f4.params.toList (OpenSpec.ofChange Rows.nameHoldsSpec).vars false (#[.agg #[.int .u32 0, .int .u32 0, .int .u64 0, .int .u32 0, .int .u32 0, .int .u32 0, .int .u64 0, .int .u32 0, .int .u32 0, .int .u32 0, .int .u64 0, .int .u32 0]] : Array Value).toList 8).map (fun x => (x.1, x.2.1)) =
      some ([.agg [.agg [.agg [.lit (.int .u32 0), .lit (.int .u32 0)], .lit (.int .u64 0), .lit (.int .u32 0)], .agg [.agg [.lit (.int .u32 0), .lit (.int .u32 0)], .lit (.int .u64 0), .lit (.int .u32 0)], .agg [.agg [.lit (.int .u32 0), .lit (.int .u32 0)], .lit (.int .u64 0), .lit (.int .u32 0)]]], []) := by kernel_rfl
  obtain ⟨⟨x1, x2, x3⟩, hx, hx1⟩ := Option.map_eq_some_iff.1 hw
  simp only [Prod.mk.injEq] at hx1
  obtain ⟨rfl, rfl⟩ := hx1
  exact OpenSpec.preRow_of_cond 8 hx (by kernel_rfl) (fun k hk => by cases hk) (by kernel_rfl) (laid_met os _)

set_option maxRecDepth 100000 in
theorem lifted (os : Os) (started : os.Started) (H : Type) (enc : TypeId × Value → H) :
    ReturnsInHanded {} Tryd.checked os 4 .any ((OpenSpec.ofChange Rows.nameHoldsSpec).preRow enc Tryd.prog Tryd.f4 Rows.nameHoldsRow.domain false Rows.nameHoldsRow.laid) (Rows.nameHoldsSpec.post enc Tryd.prog Tryd.f4 false true false false) := by
  refine returnsInHanded_of_row (C := Tryd.checked) (s := OpenSpec.ofChange Rows.nameHoldsSpec) (F := fun _ _ _ => 0) own started (by kernel_rfl) Tryd.func4
    (witness_row_atRef (enc := enc) (C := Tryd.checked) false (laidWorld os) #[.agg #[.int .u32 0, .int .u32 0, .int .u64 0, .int .u32 0, .int .u32 0, .int .u32 0, .int .u64 0, .int .u32 0, .int .u32 0, .int .u32 0, .int .u64 0, .int .u32 0]] rfl (by kernel_rfl) (by kernel_rfl) (by kernel_rfl) (witness_row os enc)) ?_
  intro W base args ds gs before hval0 hW hcnd _ hsz0 hL hshp _
  have hsz : (DataW.weightsEach Tryd.prog (Tryd.f4.params.toList ++ Rows.nameHoldsSpec.plain.varTypes Tryd.prog) (ds ++ gs)).all (· ≤ reachBytes) = true := hsz0
  have hval : ∀ (j : Nat) t v, Tryd.f4.params[j]? = some t → args[j]? = some v → Value.okWide Tryd.prog W .any base t v := hval0
  have hN : NmT W := nmT_of (show (Rows.laid_internal_strconv_uint64pow10 : DataW Unit) = Lib.tabData .u64 Lib.pow10Tab by kernel_rfl)
    (Lib.laidMet.reads hL (n := "internal/strconv.uint64pow10") (d := Rows.laid_internal_strconv_uint64pow10) ((.tail _ (.tail _ (.head _)))))
    (Lib.laidMet.reads hL (n := "strconv.ErrRange") (d := Rows.laid_strconv_ErrRange) ((.tail _ (.tail _ (.tail _ (.head _))))))
    (Lib.laidMet.reads hL (n := "strconv.ErrSyntax") (d := Rows.laid_strconv_ErrSyntax) ((.tail _ (.tail _ (.tail _ (.tail _ (.head _)))))))
  have hW' := hW
  obtain ⟨p, q, hA0, hV, rfl, hfz, hnd⟩ := hW
  have hA : DataW.TrodAll enc Tryd.prog W 0 (fun _ => true) true Tryd.f4.params.toList args.toList ds p := hA0
  rw [Tryd.params4] at hA hval hsz
  obtain ⟨v0, vs0, d0, ds0, p0, q0, hargs, rfl, rfl, h0, r0⟩ := trodAll_cons hA
  obtain ⟨rfl, rfl, rfl⟩ := trodAll_nil r0
  obtain rfl : args = #[v0] := by cases args; simp_all
  obtain ⟨rfl, rfl⟩ := trodVars_none hV
  have k0 := h0
  have lt0 : ∀ x ∈ p0, x.block < W.heap.size := by obtain ⟨m, hm⟩ := k0; exact DataW.trod_lt m _ _ _ hm
  obtain ⟨cs0, rfl, hsz0⟩ : ∃ cs, v0 = .agg cs ∧ cs.size = 12 := by
    have := hval 0 43 v0 rfl rfl
    simp only [Value.okWide, Tryd.underlying43] at this
    obtain ⟨cs, h1, h2, _⟩ := this
    exact ⟨cs, h1, h2.trans (by kernel_rfl)⟩
  obtain ⟨fu0, hf0⟩ := h0
  obtain ⟨_, hl0⟩ := trod_leaves 12 _ _ _ _ [23, 23, 29, 23, 23, 23, 29, 23, 23, 23, 29, 23] hf0 (by kernel_rfl)
  obtain ⟨l0⟩ := cs0
  obtain ⟨c0_0, e0_0, L0_0⟩ := hl0 0 _ rfl
  obtain ⟨q0, rfl, wq0⟩ := Leaf.int Tryd.underlying23 L0_0
  obtain ⟨c0_1, e0_1, L0_1⟩ := hl0 1 _ rfl
  obtain ⟨q1, rfl, wq1⟩ := Leaf.int Tryd.underlying23 L0_1
  obtain ⟨c0_2, e0_2, L0_2⟩ := hl0 2 _ rfl
  obtain ⟨q2, rfl, wq2⟩ := Leaf.int Tryd.underlying29 L0_2
  obtain ⟨c0_3, e0_3, L0_3⟩ := hl0 3 _ rfl
  obtain ⟨q3, rfl, wq3⟩ := Leaf.int Tryd.underlying23 L0_3
  obtain ⟨c0_4, e0_4, L0_4⟩ := hl0 4 _ rfl
  obtain ⟨q4, rfl, wq4⟩ := Leaf.int Tryd.underlying23 L0_4
  obtain ⟨c0_5, e0_5, L0_5⟩ := hl0 5 _ rfl
  obtain ⟨q5, rfl, wq5⟩ := Leaf.int Tryd.underlying23 L0_5
  obtain ⟨c0_6, e0_6, L0_6⟩ := hl0 6 _ rfl
  obtain ⟨q6, rfl, wq6⟩ := Leaf.int Tryd.underlying29 L0_6
  obtain ⟨c0_7, e0_7, L0_7⟩ := hl0 7 _ rfl
  obtain ⟨q7, rfl, wq7⟩ := Leaf.int Tryd.underlying23 L0_7
  obtain ⟨c0_8, e0_8, L0_8⟩ := hl0 8 _ rfl
  obtain ⟨q8, rfl, wq8⟩ := Leaf.int Tryd.underlying23 L0_8
  obtain ⟨c0_9, e0_9, L0_9⟩ := hl0 9 _ rfl
  obtain ⟨q9, rfl, wq9⟩ := Leaf.int Tryd.underlying23 L0_9
  obtain ⟨c0_10, e0_10, L0_10⟩ := hl0 10 _ rfl
  obtain ⟨q10, rfl, wq10⟩ := Leaf.int Tryd.underlying29 L0_10
  obtain ⟨c0_11, e0_11, L0_11⟩ := hl0 11 _ rfl
  obtain ⟨q11, rfl, wq11⟩ := Leaf.int Tryd.underlying23 L0_11
  obtain rfl : l0 = [.int .u32 q0, .int .u32 q1, .int .u64 q2, .int .u32 q3, .int .u32 q4, .int .u32 q5, .int .u64 q6, .int .u32 q7, .int .u32 q8, .int .u32 q9, .int .u64 q10, .int .u32 q11] := by
    refine List.ext_getElem? fun i => ?_
    match i with
    | 0 => simpa [Value.cells] using e0_0
    | 1 => simpa [Value.cells] using e0_1
    | 2 => simpa [Value.cells] using e0_2
    | 3 => simpa [Value.cells] using e0_3
    | 4 => simpa [Value.cells] using e0_4
    | 5 => simpa [Value.cells] using e0_5
    | 6 => simpa [Value.cells] using e0_6
    | 7 => simpa [Value.cells] using e0_7
    | 8 => simpa [Value.cells] using e0_8
    | 9 => simpa [Value.cells] using e0_9
    | 10 => simpa [Value.cells] using e0_10
    | 11 => simpa [Value.cells] using e0_11
    | i + 12 => rw [List.getElem?_eq_none (by simp at hsz0; omega), List.getElem?_eq_none (by simp)]
  clear hA0 hval0
  refine (nameHolds_law q0 wq0 q1 wq1 q2 wq2 q3 wq3 q4 wq4 q5 wq5 q6 wq6 q7 wq7 q8 wq8 q9 wq9 q10 wq10 q11 wq11 W hN).mono fun e W' ⟨he, bel⟩ => ?_
  subst he
  exact ⟨_, rfl, _, _, _, [], _, [], hW', trodAll_mk1 (shut_bool Tryd.underlying4 _), (trodAll_cons_mk (Below.trod laidOut (by kernel_rfl) (of_decide_eq_true (by kernel_rfl)) k0 bel lt0) trodAll_mk0), rfl, bel.frame _, fun h => by cases h⟩

theorem over : Rows.nameHoldsRow.holds Tryd.pinned (OpenSpec.ofChange Rows.nameHoldsSpec) :=
  OpenClaim.holds_of_wide 4 Tryd.f4 rfl rfl rfl rfl rfl rfl rfl ⟨rfl, rfl, rfl, rfl, rfl⟩ rfl rfl rfl rfl rfl (by kernel_rfl) Tryd.func4 (by kernel_rfl)
    (of_decide_eq_true (by kernel_rfl)) (by unfold Func.isWrapper; first | (rw [if_pos (by decide +kernel)]; kernel_rfl) | (rw [if_neg (by decide +kernel)]; exact ⟨rfl, rfl⟩))
    (fun os started H enc _ => by rw [OpenClaim.pre_eq_preRow]; exact lifted os started H enc)

theorem proved : Rows.NameHoldsCardSaid :=
  Claim7.holds_tied_plain_at .later [] [.data, .data, .data, .sentinel, .sentinel] true (true, "039c7d746be2dc5819f6c862a3894bd3633ef9a7dee4d63b774f1987880c1757") true
    over (fun _ h => by cases h) (by kernel_rfl) (fun _ h => by cases h) nameHolds_row_tie rfl ⟨rfl, rfl⟩ (by kernel_rfl) rfl
    (fun f fn hf hfn => by
      obtain rfl : f = 4 := Option.some.inj ((show Tryd.prog.funcNamed "packsaddle/packsaddlelaw05.NameHolds" = some 4 by kernel_rfl).symm.trans hf) |>.symm
      obtain rfl : fn = Tryd.f4 := (Option.some.inj (Tryd.func4.symm.trans hfn)).symm
      exact ⟨by kernel_rfl, fun j t ht => by
        rw [Tryd.params4] at ht
        have h3 : t ∈ [43] := by
          have := List.mem_of_getElem? (by simpa using ht : ([43] : List TypeId)[j]? = some t)
          exact this
        simp only [List.mem_cons, List.not_mem_nil, or_false] at h3
        rcases h3 with rfl
        · exact (show Tryd.prog.wantsStandIn 43 = false by kernel_rfl)⟩)
    (by kernel_rfl)
#print axioms proved
end Go.Proofs.YtpfgepgjpnekdaaDoor.nameHoldsRow
