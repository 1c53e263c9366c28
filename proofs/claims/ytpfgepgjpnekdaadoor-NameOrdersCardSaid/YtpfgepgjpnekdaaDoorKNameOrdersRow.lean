/-
  NameOrders, NameOrdersL, NameOrdersRow: several texts in one (bundle.py).
-/
import Derived.Test.YtpfgepgjpnekdaaDoorNmO29
import Derived.Test.YtpfgepgjpnekdaaDoorNmO39
import Derived.Test.YtpfgepgjpnekdaaDoorNmO34
import Derived.Test.YtpfgepgjpnekdaaDoorNmO40
import Derived.Test.YtpfgepgjpnekdaaDoorNmO17
import Derived.Test.YtpfgepgjpnekdaaDoorRows
import Derived.Test.YtpfgepgjpnekdaaDoorNmO03
import Derived.SizedLaws
import Derived.Test.YtpfgepgjpnekdaaDoorTie
import Derived.Test.YtpfgepgjpnekdaaDoorCards
import Derived.Lib.LaidIn
import Derived.Lib.LaidU8T
import Derived.Deep.DeepHandedRow
import Derived.Deep.DeepWitnessRowRef
import Derived.PinnedBridge
import Derived.ProofKit
import Derived.SevenTiedAt
namespace Go.Proofs.YtpfgepgjpnekdaaDoor
open Go.RowKit Srt Trc
set_option linter.unusedSimpArgs false
set_option linter.unusedVariables false
attribute [local go_sem] Oper.semAt_some
theorem nMixes : Tryd.prog.follows .mixedOrders = true := by kernel_rfl
/-- The law's own first blocks: how many, the result. -/
structure OwS (w wr : World) (many : Int) : Prop where
  below : Below w.heap.size w wr
  num : RowAt wr w.heap.size #[.int .i64 many] 3
  res : RowAt wr (w.heap.size + 1) #[.bool false] 4
theorem OwS.up {w wr w2 : World} {many : Int} (h : OwS w wr many) (hb : Below wr.heap.size wr w2) : OwS w w2 many := ⟨below_up h.below hb, h.num.below hb, h.res.below hb⟩
theorem OwS.start (w : World) (many : Int) : OwS w ((w.alloc (.cells #[.int .i64 many] 3)).alloc (.cells #[.bool false] 4)) many := by
  have h2 := RowAt.new (w.alloc (.cells #[.int .i64 many] 3)) #[.bool false] 4
  rw [World.size_alloc] at h2
  exact ⟨(below_alloc w _).alloc (by simp) _, (RowAt.new w _ _).below (below_alloc _ _), h2⟩
def nmAtO (P : List Nm) (k : Nat) : Nm := P.getD k ⟨0, 0, 0, 0⟩
theorem nmAtO_args (P : List Nm) (k : Nat) : nmArgs P k = #[nmV (nmAtO P k)] := rfl
theorem nmAtO_get {P : List Nm} {k : Nat} (h : k < P.length) : nmAtO P k = P[k] := by unfold nmAtO; rw [List.getD_eq_getElem?_getD, List.getElem?_eq_getElem h]; rfl
set_option maxHeartbeats 1000000 in
set_option maxRecDepth 100000 in
theorem nameOrders_big (v : Value) (n : Nat) (many : Int) (w : World) (cs : List Value) (hv : Sl w 4 v n cs) (hn : 40 < n) (hT : NmT w) :
    Calls Tryd.prog 8 #[v, .int .i64 many] w (Ret (.bool true) w) := by
  obtain ⟨a, c, rfl⟩ := hv.len
  have hle : (40 : Int) < (n : Int) := by omega
  have O1 := OwS.start w many
  have HT := Lib.hid (hT.up O1.below)
  clear hT
  go_enter Tryd.func8, Tryd.ntmps8
  go_wp2_with (go_at_call 9; refine (nmWorks_c _ HT.out).mono ?_; rintro en wx ⟨rfl, hbx⟩; have O2 := O1.up hbx; have hx3c := O2.res.cell (i := 0) rfl; have hx3f := O2.res.fz 0)
  have hx4 := O2.res.set 0 (.bool true)
  have hx5c := RowAt.cell (i := 0) (v := .bool true) hx4 rfl
  exact bodyPost_ret (v := .bool true) (by simp [results, Tryd.results8, go_sem, hx5c]) rfl ⟨rfl, O2.below.setCell (show w.heap.size ≤ (⟨w.heap.size + 1, 0, none⟩ : Addr).block by simp) (.bool true)⟩
set_option maxRecDepth 100000 in
theorem exec_nmneq {ρ : Operand → Value} {o : Oper} {x y : Operand} {t : TypeId} (ho : o.op = .binOp .neq 31 x y t) {e : Nm} (hx : ρ x = nmV e) (hy : ρ y = nmV e) (w : World) :
    (execOp ρ o).run Tryd.prog w = .ok (.value (.bool false)) w := by
  unfold execOp
  simp only [ho, hx, hy]
  simp [go_sem]
set_option maxHeartbeats 8000000 in
set_option maxRecDepth 100000 in
theorem nameOrders_c (l : List WN) (v : Value) (n : Nat) (many : Int) (w : World) (hv : Sl w 4 v n (l.flatMap wnC)) (hn : n ≤ 40) (hT : NmT w) :
    Calls Tryd.prog 8 #[v, .int .i64 many] w (Ret (.bool true) w) := by
  obtain ⟨a, c, rfl⟩ := hv.len
  have hle : ¬ (40 : Int) < (n : Int) := by omega
  have O1 := OwS.start w many
  have he : ∀ (f : FuncId) (caps : Array Value) (w : World), (binOp BinOp.eql 74 (.func (.func f) #[] caps) .nilFunc).run Tryd.prog w = .ok (.bool false) w := fun _ _ _ => by kernel_rfl
  have HL := Lib.hid (Sl.recs (cells := wnC) (sz := 4) (fun _ => rfl) (by decide) hv)
  have HV := Lib.hid hv
  have HT := Lib.hid hT
  have H0 := Lib.hid O1
  clear hv hT O1
  refine (callsIn_wide (n := 3)).1 ?_
  refine callsIn_of_wp_marks Tryd.func8 rfl trivial ?_ rfl
  simp only [Tryd.ntmps8, List.size_toArray, List.length_cons, List.length_nil, Nat.reduceAdd, Nat.reduceSub, Array.replicate_succ, Array.replicate_zero, List.push_toArray, List.append_toArray, List.nil_append, List.cons_append]
  refine wpIn_wide.2 ?_
  go_wp2
  obtain ⟨w0, hw0⟩ : ∃ x, ((w.alloc (.cells #[.int .i64 many] 3)).alloc (.cells #[.bool false] 4)) = x := ⟨_, rfl⟩
  rw [hw0] at H0
  try rw [hw0]
  clear hw0
  go_loopw [5] (fun v5 wr => ∃ i : Nat, v5 = .int .i64 ((i : Int) + 1) ∧ (i + 1 ≤ n ∨ i = 0) ∧ OwS w wr many) (fun v5 _ => n + 1 - (intOf v5).toNat)
  case atStart => exact ⟨0, rfl, .inr rfl, H0.out⟩
  case round =>
    obtain ⟨i, rfl, hi, hO⟩ := hrel
    have HO := Lib.hid hO
    clear hO
    by_cases hlt : i + 1 < n
    · have hiI : (i : Int) + 1 < (n : Int) := by omega
      have hi1 : i < l.length := by rw [HL.out]; omega
      have hi2 : i + 1 < l.length := by rw [HL.out]; omega
      obtain ⟨b, off, rfl, hr1⟩ := (HV.out.up HO.out.below).rec_at (cells := wnC) (sz := 4) (fun _ => rfl) (show i < n by omega) hi1
      obtain ⟨b', off', he2, hr2⟩ := (HV.out.up HO.out.below).rec_at (cells := wnC) (sz := 4) (fun _ => rfl) hlt hi2
      simp only [Option.some.injEq, Addr.mk.injEq, and_true] at he2
      obtain ⟨rfl, rfl⟩ := he2
      obtain ⟨⟨x, hx⟩, hxe⟩ : ∃ y, l[i] = y := ⟨_, rfl⟩
      obtain ⟨⟨y, hy⟩, hye⟩ : ∃ y, l[i + 1] = y := ⟨_, rfl⟩
      rw [hxe] at hr1
      rw [hye] at hr2
      have HR1 := Lib.hid (show wr.rangeAt b (off + i * 4) (nmC x) from hr1)
      have HR2 := Lib.hid (show wr.rangeAt b (off + (i + 1) * 4) (nmC y) from hr2)
      have hoc := fun w1 => order_c x y hx hy w1
      have hrc := fun w1 => rOrder_c x y hx hy w1
      obtain ⟨cv, hcv⟩ : ∃ c, nmCmp x y = c := ⟨_, rfl⟩
      simp only [hcv] at hoc hrc
      have HOC := Lib.hid hoc
      have HRC := Lib.hid hrc
      have hwr : IntKind.i64.wrap ((i : Int) + 1 - 1) = (i : Int) := by rw [IntKind.wrap_i64]; omega
      have hwr3 : IntKind.i64.wrap (i : Int) = (i : Int) := by rw [IntKind.wrap_i64]; omega
      have hwr2 : IntKind.i64.wrap ((i : Int) + 1 + 1) = (i : Int) + 1 + 1 := by rw [IntKind.wrap_i64]; omega
      have hi0 : (i : Int) < (n : Int) := by omega
      have hin : (0 : Int) ≤ (i : Int) := by omega
      have hin1 : (0 : Int) ≤ (i : Int) + 1 := by omega
      have htn : ((i : Int) + 1).toNat = i + 1 := by omega
      clear hr1 hr2 hoc hrc hcv hxe hye hi1 hi2 hi
      go_wp2
      refine wp_onlyN ?_
      refine wp_region_pt (fun _ => False) (.q 0 (.q 1 (.q 2 (.q 3 (.q 4 (.q 5 (.q 6 (.q 7 (.q 8 (.q 10 (.q 11 (.q 12 (.q 13 (.q 14 (.q 15 (.q 16 (.q 17 (.q 18 (.c 9 (.c 19 (.q 20 .done))))))))))))))))))))) (by kernel_rfl) (by kernel_rfl) (by kernel_rfl) (by decide) onlyN_panic (fun Wd hBd => ?_)
      try simp only [Act.put, List.getElem_toArray, List.getElem_cons_zero, List.getElem_cons_succ, List.setIfInBounds_toArray, List.set_cons_zero, List.set_cons_succ]
      have R1 := rangeAt_up hBd HR1.out
      have R2 := rangeAt_up hBd HR2.out
      refine pt_q (v := ?_) rfl (by rfl) ?_ ?_
      rotate_left
      · intro w' hBw'
        first | (go_simp; done) | (go_simp; with_reducible rfl)
      try simp only [Act.put, List.getElem_toArray, List.getElem_cons_zero, List.getElem_cons_succ, List.setIfInBounds_toArray, List.set_cons_zero, List.set_cons_succ]
      refine pt_q (v := ?_) rfl (by rfl) ?_ ?_
      rotate_left
      · intro w' hBw'
        first | (go_simp; done) | (go_simp; with_reducible rfl)
      try simp only [Act.put, List.getElem_toArray, List.getElem_cons_zero, List.getElem_cons_succ, List.setIfInBounds_toArray, List.set_cons_zero, List.set_cons_succ]
      refine pt_q (v := ?_) rfl (by rfl) ?_ ?_
      rotate_left
      · intro w' hBw'
        first | (go_simp; done) | (go_simp; with_reducible rfl)
      try simp only [Act.put, List.getElem_toArray, List.getElem_cons_zero, List.getElem_cons_succ, List.setIfInBounds_toArray, List.set_cons_zero, List.set_cons_succ]
      refine pt_q (v := ?_) rfl (by rfl) ?_ ?_
      rotate_left
      · intro w' hBw'
        first | (go_simp; done) | (go_simp; with_reducible rfl)
      try simp only [Act.put, List.getElem_toArray, List.getElem_cons_zero, List.getElem_cons_succ, List.setIfInBounds_toArray, List.set_cons_zero, List.set_cons_succ]
      refine pt_load rfl (by rfl) 31 (.tmp 24) rfl b (off + i * 4) rfl (nmC x) _ R1 (fun h => h) Tryd.underlying31 rfl (by kernel_rfl) ?_
      try simp only [Act.put, List.getElem_toArray, List.getElem_cons_zero, List.getElem_cons_succ, List.setIfInBounds_toArray, List.set_cons_zero, List.set_cons_succ]
      refine pt_q (v := ?_) rfl (by rfl) ?_ ?_
      rotate_left
      · intro w' hBw'
        first | (go_simp; done) | (go_simp; with_reducible rfl)
      try simp only [Act.put, List.getElem_toArray, List.getElem_cons_zero, List.getElem_cons_succ, List.setIfInBounds_toArray, List.set_cons_zero, List.set_cons_succ]
      refine pt_q (v := ?_) rfl (by rfl) ?_ ?_
      rotate_left
      · intro w' hBw'
        first | (go_simp; done) | (go_simp; with_reducible rfl)
      try simp only [Act.put, List.getElem_toArray, List.getElem_cons_zero, List.getElem_cons_succ, List.setIfInBounds_toArray, List.set_cons_zero, List.set_cons_succ]
      refine pt_q (v := ?_) rfl (by rfl) ?_ ?_
      rotate_left
      · intro w' hBw'
        first | (go_simp; done) | (go_simp; with_reducible rfl)
      try simp only [Act.put, List.getElem_toArray, List.getElem_cons_zero, List.getElem_cons_succ, List.setIfInBounds_toArray, List.set_cons_zero, List.set_cons_succ]
      refine pt_load rfl (by rfl) 31 (.tmp 28) rfl b (off + (i + 1) * 4) rfl (nmC y) _ R2 (fun h => h) Tryd.underlying31 rfl (by kernel_rfl) ?_
      try simp only [Act.put, List.getElem_toArray, List.getElem_cons_zero, List.getElem_cons_succ, List.setIfInBounds_toArray, List.set_cons_zero, List.set_cons_succ]
      refine pt_q (v := ?_) rfl (by rfl) ?_ ?_
      rotate_left
      · intro w' hBw'
        first | (go_simp; done) | (go_simp; with_reducible rfl)
      try simp only [Act.put, List.getElem_toArray, List.getElem_cons_zero, List.getElem_cons_succ, List.setIfInBounds_toArray, List.set_cons_zero, List.set_cons_succ]
      refine pt_q (v := ?_) rfl (by rfl) ?_ ?_
      rotate_left
      · intro w' hBw'
        first | (go_simp; done) | (go_simp; with_reducible rfl)
      try simp only [Act.put, List.getElem_toArray, List.getElem_cons_zero, List.getElem_cons_succ, List.setIfInBounds_toArray, List.set_cons_zero, List.set_cons_succ]
      refine pt_q (v := ?_) rfl (by rfl) ?_ ?_
      rotate_left
      · intro w' hBw'
        first | (go_simp; done) | (go_simp; with_reducible rfl)
      try simp only [Act.put, List.getElem_toArray, List.getElem_cons_zero, List.getElem_cons_succ, List.setIfInBounds_toArray, List.set_cons_zero, List.set_cons_succ]
      refine pt_q (v := ?_) rfl (by rfl) ?_ ?_
      rotate_left
      · intro w' hBw'
        first | (go_simp; done) | (go_simp; with_reducible rfl)
      try simp only [Act.put, List.getElem_toArray, List.getElem_cons_zero, List.getElem_cons_succ, List.setIfInBounds_toArray, List.set_cons_zero, List.set_cons_succ]
      refine pt_load rfl (by rfl) 31 (.tmp 34) rfl b (off + i * 4) rfl (nmC x) _ R1 (fun h => h) Tryd.underlying31 rfl (by kernel_rfl) ?_
      try simp only [Act.put, List.getElem_toArray, List.getElem_cons_zero, List.getElem_cons_succ, List.setIfInBounds_toArray, List.set_cons_zero, List.set_cons_succ]
      refine pt_q (v := ?_) rfl (by rfl) ?_ ?_
      rotate_left
      · intro w' hBw'
        first | (go_simp; done) | (go_simp; with_reducible rfl)
      try simp only [Act.put, List.getElem_toArray, List.getElem_cons_zero, List.getElem_cons_succ, List.setIfInBounds_toArray, List.set_cons_zero, List.set_cons_succ]
      refine pt_q (v := ?_) rfl (by rfl) ?_ ?_
      rotate_left
      · intro w' hBw'
        first | (go_simp; done) | (go_simp; with_reducible rfl)
      try simp only [Act.put, List.getElem_toArray, List.getElem_cons_zero, List.getElem_cons_succ, List.setIfInBounds_toArray, List.set_cons_zero, List.set_cons_succ]
      refine pt_q (v := ?_) rfl (by rfl) ?_ ?_
      rotate_left
      · intro w' hBw'
        first | (go_simp; done) | (go_simp; with_reducible rfl)
      try simp only [Act.put, List.getElem_toArray, List.getElem_cons_zero, List.getElem_cons_succ, List.setIfInBounds_toArray, List.set_cons_zero, List.set_cons_succ]
      refine pt_load rfl (by rfl) 31 (.tmp 38) rfl b (off + (i + 1) * 4) rfl (nmC y) _ R2 (fun h => h) Tryd.underlying31 rfl (by kernel_rfl) ?_
      try simp only [Act.put, List.getElem_toArray, List.getElem_cons_zero, List.getElem_cons_succ, List.setIfInBounds_toArray, List.set_cons_zero, List.set_cons_succ]
      refine pt_c ?_
      refine pt_step rfl (by rfl) (fun K hK => ?_)
      go_simp
      refine (HOC.out _).mono ?_
      rintro en w3 ⟨rfl, hb3⟩
      refine hK.out _ _ (But.of_below hb3) ?_
      clear hK K
      try simp only [Act.put, List.getElem_toArray, List.getElem_cons_zero, List.getElem_cons_succ, List.setIfInBounds_toArray, List.set_cons_zero, List.set_cons_succ]
      refine pt_c ?_
      refine pt_step rfl (by rfl) (fun K hK => ?_)
      go_simp
      refine (HRC.out _).mono ?_
      rintro en w4 ⟨rfl, hb4⟩
      refine hK.out _ _ (But.of_below hb4) ?_
      clear hK K
      try simp only [Act.put, List.getElem_toArray, List.getElem_cons_zero, List.getElem_cons_succ, List.setIfInBounds_toArray, List.set_cons_zero, List.set_cons_succ]
      refine pt_q (v := ?_) rfl (by rfl) ?_ ?_
      rotate_left
      · intro w' hBw'
        first | (go_simp; done) | (go_simp; with_reducible rfl)
      try simp only [Act.put, List.getElem_toArray, List.getElem_cons_zero, List.getElem_cons_succ, List.setIfInBounds_toArray, List.set_cons_zero, List.set_cons_succ]
      refine pt_doneN ?_
      have O3 := HO.out.up (below_up hBd (below_up hb3 hb4))
      have HO3 := Lib.hid O3
      clear O3 hBd hb3 hb4 R1 R2
      go_wp2
      exact ⟨⟨i + 1, by go_num, .inl (by omega), HO3.out⟩, by simp [intOf]; omega⟩
    · have hge : (n : Int) ≤ (i : Int) + 1 := by omega
      have hv1 := HV.out.up HO.out.below
      have O1 := HO.out
      clear H0 hi hlt HO
      go_wp2_with (first
        | (go_at_call 35; refine (rnSorted_c l _ n _ hv1 (by omega)).mono ?_; rintro en w1 ⟨v1, L, rfl, hown, hp1, hs1, hb1⟩; have O2 := O1.up hb1; obtain ⟨aw, cw, rfl⟩ := own_slice hown; rw [wn_flat] at hown; have want0 : NoAt (w1.alloc (.cells #[.slice aw n cw] 71)) w1.heap.size (.slice aw n cw) n (L.map (·.1)) := ⟨cell_new w1 _ _, (Sl.of_own hown).up (below_alloc _ _)⟩; have O3 := O2.up (below_alloc w1 (.cells #[.slice aw n cw] 71)); have hv3 := HV.out.up O3.below; clear O1 O2 hb1 hown hv1)
        | (go_at_call 36; refine (nameSorted_c l _ n _ hv3 (by omega)).mono ?_; rintro en w2 ⟨X, v2, L2, rfl, hso, hp2, hs2, hb2, hX2, hvb⟩; obtain rfl : L2 = L := unique wnTO hs2 hs1 (hp2.trans hp1.symm); have O4 := O3.up hb2; have want1 := want0.up hb2; have hwx : w1.heap.size < w2.heap.size := (by have := hb2.size; simp at this; omega); have hXl := World.block_lt_of_cell? w2 _ hso.var; clear O3 hv3 hs2 hp2 hb2 want0))
      have HLn := Lib.hid (Sl.recs (cells := nmC) (sz := 4) (fun _ => rfl) (by decide) hso.sl)
      clear hp1 hs1
      obtain ⟨M, hM⟩ : ∃ M, L2.map (·.1) = M := ⟨_, rfl⟩
      rw [hM] at hso want1 HLn
      clear hM
      have HSO := Lib.hid hso
      have HWA := Lib.hid want1
      have HO := Lib.hid O4
      have hx2' : w1.heap.size + 1 ≤ X := by simpa using hX2
      have hvb' : n = 0 ∨ ∀ k, v2.ownBlock = some k → k < w2.heap.size := hso.sl.blk (by decide)
      have hO4s := O4.below.size
      have hO4r := O4.res.lt
      clear hso want1 O4 hX2 hvb
      refine wp_loop_ghost_k (fun q a' W => ∃ (tn T : Nat) (Ds : List Nat), tn ≤ 2 ∧ q = 2 - tn ∧ a' = { tmps := #[.slice a n c, .int .i64 many, a'.tmps.getD 2 undef, .pointer (some ⟨w.heap.size, 0, none⟩), .pointer (some ⟨w.heap.size + 1, 0, none⟩), a'.tmps.getD 5 undef, .pointer (some ⟨w1.heap.size, 0, none⟩), .func (.func 79) #[] #[.pointer (some ⟨X, 0, none⟩)], .pointer (some ⟨T, 0, none⟩), a'.tmps.getD 9 undef, a'.tmps.getD 10 undef, a'.tmps.getD 11 undef, a'.tmps.getD 12 undef, a'.tmps.getD 13 undef, a'.tmps.getD 14 undef, a'.tmps.getD 15 undef, a'.tmps.getD 16 undef, a'.tmps.getD 17 undef, a'.tmps.getD 18 undef, a'.tmps.getD 19 undef, a'.tmps.getD 20 undef, a'.tmps.getD 21 undef, a'.tmps.getD 22 undef, a'.tmps.getD 23 undef, a'.tmps.getD 24 undef, a'.tmps.getD 25 undef, a'.tmps.getD 26 undef, a'.tmps.getD 27 undef, a'.tmps.getD 28 undef, a'.tmps.getD 29 undef, a'.tmps.getD 30 undef, a'.tmps.getD 31 undef, a'.tmps.getD 32 undef, a'.tmps.getD 33 undef, a'.tmps.getD 34 undef, a'.tmps.getD 35 undef, a'.tmps.getD 36 undef, a'.tmps.getD 37 undef, a'.tmps.getD 38 undef, a'.tmps.getD 39 undef, a'.tmps.getD 40 undef, a'.tmps.getD 41 undef, a'.tmps.getD 42 undef, a'.tmps.getD 43 undef, a'.tmps.getD 44 undef, a'.tmps.getD 45 undef, a'.tmps.getD 46 undef, a'.tmps.getD 47 undef, a'.tmps.getD 48 undef, a'.tmps.getD 49 undef, a'.tmps.getD 50 undef, a'.tmps.getD 51 undef, a'.tmps.getD 52 undef, a'.tmps.getD 53 undef, a'.tmps.getD 54 undef, a'.tmps.getD 55 undef, a'.tmps.getD 56 undef, a'.tmps.getD 57 undef, a'.tmps.getD 58 undef, a'.tmps.getD 59 undef, a'.tmps.getD 60 undef, a'.tmps.getD 61 undef, a'.tmps.getD 62 undef, a'.tmps.getD 63 undef, a'.tmps.getD 64 undef, a'.tmps.getD 65 undef, a'.tmps.getD 66 undef, a'.tmps.getD 67 undef, a'.tmps.getD 68 undef, a'.tmps.getD 69 undef, a'.tmps.getD 70 undef, a'.tmps.getD 71 undef, a'.tmps.getD 72 undef, a'.tmps.getD 73 undef, a'.tmps.getD 74 undef, a'.tmps.getD 75 undef, a'.tmps.getD 76 undef, a'.tmps.getD 77 undef, a'.tmps.getD 78 undef, a'.tmps.getD 79 undef, a'.tmps.getD 80 undef, a'.tmps.getD 81 undef, a'.tmps.getD 82 undef, a'.tmps.getD 83 undef, a'.tmps.getD 84 undef, a'.tmps.getD 85 undef, a'.tmps.getD 86 undef, a'.tmps.getD 87 undef, a'.tmps.getD 88 undef, a'.tmps.getD 89 undef, a'.tmps.getD 90 undef, a'.tmps.getD 91 undef, a'.tmps.getD 92 undef, a'.tmps.getD 93 undef, a'.tmps.getD 94 undef, a'.tmps.getD 95 undef, a'.tmps.getD 96 undef, a'.tmps.getD 97 undef], defers := Ds.map markD } ∧ TuI w2 T tn Ds W) 2 ⟨0, w2.heap.size, [], by omega, rfl, rfl, TuI.start w2⟩ ?round
      case round =>
        intro q a' W hinv J K hJ hK
        obtain ⟨tn, T, Ds, htn, hm, ha, hI⟩ := hinv
        obtain ⟨u, hu⟩ : ∃ u : Nat → Value, ∀ i, a'.tmps.getD i undef = u i := ⟨_, fun _ => rfl⟩
        simp only [hu] at ha
        clear hu
        subst ha hm
        have HJ := Lib.hid hJ
        clear hJ
        have O5 := HO.out.up hI.below
        have W5 := HWA.out.up hI.below
        have S5 := HSO.out.up hI.below
        have HI := Lib.hid hI
        have hT := hI.turn.cell (i := 0) rfl
        have fT := hI.turn.fz 0
        have hTl := hI.turn.lt
        have hT0 := hI.low
        have hWs := hI.below.size
        clear hI
        rcases (show tn = 0 ∨ tn = 1 ∨ tn = 2 by omega) with rfl | rfl | rfl
        · replace hT : W.cell? ⟨T, 0, none⟩ = some (.int .i64 0) := hT
          replace HI := Lib.hid (show TuI w2 T 0 Ds W from HI.out)
          go_wp2
          have hS2 := S5.up (below_alloc W (.cells #[.int .i64 0] 3))
          refine wpIn_wide.1 (wp_range_brk (n := 3) (S := fun q => q = X ∨ (0 < n ∧ v2.ownBlock = some q)) (gf := 79) (lb := #[.pointer (some ⟨X, 0, none⟩)]) rfl enters_nso1
            (nmSorted1_x M X n v2 _ _ hS2 ⟨.inl rfl, (Nat.eq_zero_or_pos n).elim .inl fun h => .inr fun k hk => .inr ⟨h, hk⟩⟩) (Below.refl _ _) (fun _ => rfl)
            (fun q => q = W.heap.size) (fun k h => by simp only [World.size_alloc]; omega) ?hS
            (fun k G W3 => CtR W k G W3 ∧ (k = 0 ∨ (k : Int) < many))
            (fun k a' G W3 => (∃ V, a' = { tmps := #[.slice a n c, .int .i64 many, u 2, .pointer (some ⟨w.heap.size, 0, none⟩), .pointer (some ⟨w.heap.size + 1, 0, none⟩), u 5, .pointer (some ⟨w1.heap.size, 0, none⟩), .func (.func 79) #[] #[.pointer (some ⟨X, 0, none⟩)], .pointer (some ⟨T, 0, none⟩), .pointer (some ⟨W.heap.size, 0, none⟩), .pointer (some ⟨V, 0, none⟩), u 11, u 12, u 13, u 14, u 15, u 16, u 17, u 18, u 19, u 20, u 21, u 22, u 23, u 24, u 25, u 26, u 27, u 28, u 29, u 30, u 31, u 32, u 33, u 34, u 35, u 36, u 37, u 38, u 39, u 40, u 41, u 42, u 43, u 44, u 45, .int .i64 0, .bool true, u 48, u 49, .func (.func 79) #[] #[.pointer (some ⟨X, 0, none⟩)], .bool false, .func (.func 79) #[] #[.pointer (some ⟨X, 0, none⟩)], nmV (nmAtO M k), u 54, u 55, u 56, u 57, u 58, u 59, u 60, u 61, u 62, u 63, u 64, u 65, u 66, u 67, u 68, u 69, u 70, u 71, u 72, u 73, u 74, u 75, u 76, u 77, u 78, u 79, u 80, u 81, u 82, u 83, u 84, u 85, u 86, u 87, u 88, u 89, u 90, u 91, u 92, u 93, u 94, u 95, u 96, u 97], defers := [] } ∧ RowAt W3 V (nmC (nmAtO M k)).toArray 31 ∧ G V) ∧ CtR W k G W3 ∧ (k = 0 ∨ (k : Int) < many))
            (fun k G W3 => CtR W k G W3 ∧ many ≤ (k : Int) ∧ 1 ≤ k ∧ (k = 1 ∨ (k : Int) - 1 < many))
            ?abI ?abM ?abX ⟨CtR.start W, .inl rfl⟩ ?assign ?body ?done)
          case hS =>
            rintro q (rfl | ⟨hp, hq⟩)
            · exact ⟨by simp only [World.size_alloc]; omega, by omega⟩
            · rcases hvb' with h | h
              · omega
              · have := h q hq
                exact ⟨by simp only [World.size_alloc]; omega, by omega⟩
          case abI => exact fun k G A B h hb => ⟨CtR.abide (by simp only [World.size_alloc]; omega) G A B h.1 hb, h.2⟩
          case abM =>
            rintro k a' G A B ⟨⟨V, ha, hV, hG⟩, h⟩ hb
            exact ⟨⟨V, ha, (hb.same V hV.lt (fun e => e.2 hG)).trans hV, hG⟩, ⟨CtR.abide (by simp only [World.size_alloc]; omega) G A B h.1 hb, h.2⟩⟩
          case abX => exact fun k G A B h hb => ⟨CtR.abide (by simp only [World.size_alloc]; omega) G A B h.1 hb, h.2⟩
          case assign =>
            intro l2 k G W3 K3 hk hi hK3
            simp only [nmAtO_args]
            gi_wp2
            refine hK3 _ _ (But.alloc _ _) ⟨⟨_, rfl, RowAt.new _ _ _, .inr ⟨Nat.le_refl _, by simp⟩⟩, ?_⟩
            exact ⟨CtR.alloc hi.1 _, hi.2⟩
          case body =>
            rintro l2 k a' G W3 hk hl2 _ hGl ⟨⟨V, rfl, hV, hGV⟩, hi⟩
            have hR : CtR W k G W3 := hi.1
            have hkl : k < M.length := by rw [HLn.out]; exact hk
            have O6 := O5.up hR.below
            have W6 := W5.up hR.below
            obtain ⟨b, off, rfl, hr⟩ := W6.sl.rec_at (cells := nmC) (sz := 4) (fun _ => rfl) hk hkl
            have hstep := hR.step
            simp only [nmAtO_get hkl] at hV ⊢
            generalize M[k] = e at *
            have hV3 : RowAt W3.drew V (nmC e).toArray 31 := hV
            have hr3 : W3.drew.rangeAt b (off + k * 4) (nmC e) := hr
            have x5 := W6.var
            have x3 := O6.num.cell (i := 0) (v := .int .i64 many) rfl
            have a1 : W3.cell? ⟨W.heap.size, 0, none⟩ = some (.int .i64 k) := hR.cnt.cell (i := 0) rfl
            have f1 := hR.cnt.fz 0
            have aT := cell_up hR.below hT
            have hTK : ¬ T = W.heap.size := by omega
            have hKT : ¬ W.heap.size = T := by omega
            have hw5 : ¬ w.heap.size = W.heap.size := by omega
            have hw6 : ¬ W.heap.size = w.heap.size := by omega
            have hle2 : ¬ n ≤ k := by omega
            have hle3 : ¬ (n : Int) ≤ (k : Int) := by omega
            have hkm : (k : Int) < (n : Int) := by omega
            have hkn : (k : Int) ≤ 60 := by omega
            have Hstep := Lib.hid hstep
            clear hstep hR O6 W6 hr hV
            by_cases hmq : many ≤ (k : Int) + 1
            · gi_wp2
              refine wpIn_round_tail 11 nMixes (by kernel_rfl) (by kernel_rfl) ?_
              simp only [List.take_succ_cons, List.take_zero, List.drop_succ_cons, List.drop_zero]
              still_step
              still_step
              still_step
              still_step
              still_step
              refine still_load rfl 31 (.tmp 10) rfl V 0 rfl (nmC e) _ hV3.range Tryd.underlying31 rfl (by kernel_rfl) ?_
              try simp only [Act.put, List.getElem_toArray, List.getElem_cons_zero, List.getElem_cons_succ, List.setIfInBounds_toArray, List.set_cons_zero, List.set_cons_succ]
              still_step
              still_step
              still_step
              refine still_load rfl 31 (.tmp 62) rfl b (off + k * 4) rfl (nmC e) _ hr3 Tryd.underlying31 rfl (by kernel_rfl) ?_
              try simp only [Act.put, List.getElem_toArray, List.getElem_cons_zero, List.getElem_cons_succ, List.setIfInBounds_toArray, List.set_cons_zero, List.set_cons_succ]
              refine still_val rfl (exec_nmneq (e := e) rfl rfl rfl _) ?_
              try simp only [Act.put, List.getElem_toArray, List.getElem_cons_zero, List.getElem_cons_succ, List.setIfInBounds_toArray, List.set_cons_zero, List.set_cons_succ]
              refine wpStill_nil ?_
              gi_wp2
              exact ⟨Hstep.out.1, rfl, Hstep.out.2, by omega, by omega, by rcases hi.2 with h | h; exact .inl (by omega); exact .inr (by omega)⟩
            · gi_wp2
              refine wpIn_round_tail 11 nMixes (by kernel_rfl) (by kernel_rfl) ?_
              simp only [List.take_succ_cons, List.take_zero, List.drop_succ_cons, List.drop_zero]
              still_step
              still_step
              still_step
              still_step
              still_step
              refine still_load rfl 31 (.tmp 10) rfl V 0 rfl (nmC e) _ hV3.range Tryd.underlying31 rfl (by kernel_rfl) ?_
              try simp only [Act.put, List.getElem_toArray, List.getElem_cons_zero, List.getElem_cons_succ, List.setIfInBounds_toArray, List.set_cons_zero, List.set_cons_succ]
              still_step
              still_step
              still_step
              refine still_load rfl 31 (.tmp 62) rfl b (off + k * 4) rfl (nmC e) _ hr3 Tryd.underlying31 rfl (by kernel_rfl) ?_
              try simp only [Act.put, List.getElem_toArray, List.getElem_cons_zero, List.getElem_cons_succ, List.setIfInBounds_toArray, List.set_cons_zero, List.set_cons_succ]
              refine still_val rfl (exec_nmneq (e := e) rfl rfl rfl _) ?_
              try simp only [Act.put, List.getElem_toArray, List.getElem_cons_zero, List.getElem_cons_succ, List.setIfInBounds_toArray, List.set_cons_zero, List.set_cons_succ]
              refine wpStill_nil ?_
              gi_wp2
              exact ⟨Hstep.out.1, Hstep.out.2, .inr (by omega)⟩
          case done =>
            rintro D G W3 k hD hGD hcase hKD
            have hR : CtR W k G W3 := hcase.elim (fun h => h.2.1) (fun h => h.2.1)
            have hmin : (k : Int) = min (n : Int) (max 1 many) := by
              rcases hcase with ⟨h1, _, h2⟩ | ⟨h1, _, h2, h3, h4⟩
              · omega
              · omega
            have O6 := O5.up hR.below
            have W6 := W5.up hR.below
            have x5 := W6.var
            have x3 := O6.num.cell (i := 0) (v := .int .i64 many) rfl
            have a1 : W3.cell? ⟨W.heap.size, 0, none⟩ = some (.int .i64 k) := hR.cnt.cell (i := 0) rfl
            have aT := cell_up hR.below hT
            have HN := Lib.hid (fun v => HI.out.next hR.below hKD (by simp at hD; omega) v)
            obtain ⟨mx, hmx⟩ : ∃ m : Int, (if (1 : Int) < many then many else 1) = m := ⟨_, rfl⟩
            have hmax := max_int2 1 many
            have hmn := min_int2 (n : Int) mx
            rw [hmx] at hmax
            rw [show (if mx < (n : Int) then mx else (n : Int)) = (k : Int) by
              rw [hmin, ← hmx]
              split <;> split <;> omega] at hmn
            clear hcase hmin hmx hR O6 W6 hKD
            go_wp2
            refine Handed.intro 1 (by omega) (HJ.out _ _ _ ?_)
            exact ⟨1, W3.heap.size, D :: Ds, by omega, rfl, rfl, HN.out 1⟩
        · replace hT : W.cell? ⟨T, 0, none⟩ = some (.int .i64 1) := hT
          replace HI := Lib.hid (show TuI w2 T 1 Ds W from HI.out)
          go_wp2
          have hS2 := S5.up (below_alloc W (.cells #[.int .i64 0] 3))
          refine wpIn_wide.1 (wp_range_brk (n := 3) (S := fun q => q = X ∨ (0 < n ∧ v2.ownBlock = some q)) (gf := 79) (lb := #[.pointer (some ⟨X, 0, none⟩)]) rfl enters_nso1
            (nmSorted1_x M X n v2 _ _ hS2 ⟨.inl rfl, (Nat.eq_zero_or_pos n).elim .inl fun h => .inr fun k hk => .inr ⟨h, hk⟩⟩) (Below.refl _ _) (fun _ => rfl)
            (fun q => q = W.heap.size) (fun k h => by simp only [World.size_alloc]; omega) ?hS
            (fun k G W3 => CtR W k G W3)
            (fun k a' G W3 => (∃ V, a' = { tmps := #[.slice a n c, .int .i64 many, u 2, .pointer (some ⟨w.heap.size, 0, none⟩), .pointer (some ⟨w.heap.size + 1, 0, none⟩), u 5, .pointer (some ⟨w1.heap.size, 0, none⟩), .func (.func 79) #[] #[.pointer (some ⟨X, 0, none⟩)], .pointer (some ⟨T, 0, none⟩), .pointer (some ⟨W.heap.size, 0, none⟩), .pointer (some ⟨V, 0, none⟩), u 11, u 12, u 13, u 14, u 15, u 16, u 17, u 18, u 19, u 20, u 21, u 22, u 23, u 24, u 25, u 26, u 27, u 28, u 29, u 30, u 31, u 32, u 33, u 34, u 35, u 36, u 37, u 38, u 39, u 40, u 41, u 42, u 43, u 44, u 45, .int .i64 1, .bool true, u 48, u 49, .func (.func 79) #[] #[.pointer (some ⟨X, 0, none⟩)], .bool false, .func (.func 79) #[] #[.pointer (some ⟨X, 0, none⟩)], nmV (nmAtO M k), u 54, u 55, u 56, u 57, u 58, u 59, u 60, u 61, u 62, u 63, u 64, u 65, u 66, u 67, u 68, u 69, u 70, u 71, u 72, u 73, u 74, u 75, u 76, u 77, u 78, u 79, u 80, u 81, u 82, u 83, u 84, u 85, u 86, u 87, u 88, u 89, u 90, u 91, u 92, u 93, u 94, u 95, u 96, u 97], defers := [] } ∧ RowAt W3 V (nmC (nmAtO M k)).toArray 31 ∧ G V) ∧ CtR W k G W3)
            (fun k G W3 => False)
            ?abI ?abM ?abX (CtR.start W) ?assign ?body ?done)
          case hS =>
            rintro q (rfl | ⟨hp, hq⟩)
            · exact ⟨by simp only [World.size_alloc]; omega, by omega⟩
            · rcases hvb' with h | h
              · omega
              · have := h q hq
                exact ⟨by simp only [World.size_alloc]; omega, by omega⟩
          case abI => exact fun k G A B h hb => CtR.abide (by simp only [World.size_alloc]; omega) G A B h hb
          case abM =>
            rintro k a' G A B ⟨⟨V, ha, hV, hG⟩, h⟩ hb
            exact ⟨⟨V, ha, (hb.same V hV.lt (fun e => e.2 hG)).trans hV, hG⟩, CtR.abide (by simp only [World.size_alloc]; omega) G A B h hb⟩
          case abX => exact fun k G A B h hb => h.elim
          case assign =>
            intro l2 k G W3 K3 hk hi hK3
            simp only [nmAtO_args]
            gi_wp2
            refine hK3 _ _ (But.alloc _ _) ⟨⟨_, rfl, RowAt.new _ _ _, .inr ⟨Nat.le_refl _, by simp⟩⟩, ?_⟩
            exact CtR.alloc hi _
          case body =>
            rintro l2 k a' G W3 hk hl2 _ hGl ⟨⟨V, rfl, hV, hGV⟩, hi⟩
            have hR : CtR W k G W3 := hi
            have hkl : k < M.length := by rw [HLn.out]; exact hk
            have O6 := O5.up hR.below
            have W6 := W5.up hR.below
            obtain ⟨b, off, rfl, hr⟩ := W6.sl.rec_at (cells := nmC) (sz := 4) (fun _ => rfl) hk hkl
            have hstep := hR.step
            simp only [nmAtO_get hkl] at hV ⊢
            generalize M[k] = e at *
            have hV3 : RowAt W3.drew V (nmC e).toArray 31 := hV
            have hr3 : W3.drew.rangeAt b (off + k * 4) (nmC e) := hr
            have x5 := W6.var
            have x3 := O6.num.cell (i := 0) (v := .int .i64 many) rfl
            have a1 : W3.cell? ⟨W.heap.size, 0, none⟩ = some (.int .i64 k) := hR.cnt.cell (i := 0) rfl
            have f1 := hR.cnt.fz 0
            have aT := cell_up hR.below hT
            have hTK : ¬ T = W.heap.size := by omega
            have hKT : ¬ W.heap.size = T := by omega
            have hw5 : ¬ w.heap.size = W.heap.size := by omega
            have hw6 : ¬ W.heap.size = w.heap.size := by omega
            have hle2 : ¬ n ≤ k := by omega
            have hle3 : ¬ (n : Int) ≤ (k : Int) := by omega
            have hkm : (k : Int) < (n : Int) := by omega
            have hkn : (k : Int) ≤ 60 := by omega
            have Hstep := Lib.hid hstep
            clear hstep hR O6 W6 hr hV
            gi_wp2
            refine wpIn_round_tail 11 nMixes (by kernel_rfl) (by kernel_rfl) ?_
            simp only [List.take_succ_cons, List.take_zero, List.drop_succ_cons, List.drop_zero]
            still_step
            still_step
            still_step
            still_step
            still_step
            refine still_load rfl 31 (.tmp 10) rfl V 0 rfl (nmC e) _ hV3.range Tryd.underlying31 rfl (by kernel_rfl) ?_
            try simp only [Act.put, List.getElem_toArray, List.getElem_cons_zero, List.getElem_cons_succ, List.setIfInBounds_toArray, List.set_cons_zero, List.set_cons_succ]
            still_step
            still_step
            still_step
            refine still_load rfl 31 (.tmp 62) rfl b (off + k * 4) rfl (nmC e) _ hr3 Tryd.underlying31 rfl (by kernel_rfl) ?_
            try simp only [Act.put, List.getElem_toArray, List.getElem_cons_zero, List.getElem_cons_succ, List.setIfInBounds_toArray, List.set_cons_zero, List.set_cons_succ]
            refine still_val rfl (exec_nmneq (e := e) rfl rfl rfl _) ?_
            try simp only [Act.put, List.getElem_toArray, List.getElem_cons_zero, List.getElem_cons_succ, List.setIfInBounds_toArray, List.set_cons_zero, List.set_cons_succ]
            refine wpStill_nil ?_
            gi_wp2
            exact ⟨Hstep.out.1, Hstep.out.2⟩
          case done =>
            rintro D G W3 k hD hGD hcase hKD
            have hR : CtR W k G W3 := hcase.elim (fun h => h.2) (fun h => h.2.elim)
            obtain rfl : k = n := hcase.elim (fun h => h.1) (fun h => h.2.elim)
            have O6 := O5.up hR.below
            have W6 := W5.up hR.below
            have x5 := W6.var
            have x3 := O6.num.cell (i := 0) (v := .int .i64 many) rfl
            have a1 : W3.cell? ⟨W.heap.size, 0, none⟩ = some (.int .i64 k) := hR.cnt.cell (i := 0) rfl
            have aT := cell_up hR.below hT
            have HN := Lib.hid (fun v => HI.out.next hR.below hKD (by simp at hD; omega) v)
            clear hcase hR O6 W6 hKD
            go_wp2
            refine Handed.intro 0 (by omega) (HJ.out _ _ _ ?_)
            exact ⟨2, W3.heap.size, D :: Ds, by omega, rfl, rfl, HN.out 2⟩
        · replace hT : W.cell? ⟨T, 0, none⟩ = some (.int .i64 2) := hT
          have HTW := Lib.hid (HT.out.up O5.below)
          go_wp2_with (go_at_call 9; refine (nmWorks_c _ HTW.out).mono ?_; rintro en wx ⟨rfl, hbx⟩; have O6 := O5.up hbx; have hx3c := O6.res.cell (i := 0) rfl; have hx3f := O6.res.fz 0)
          have hx4 := O6.res.set 0 (.bool true)
          have hDm : ∀ D ∈ Ds, D ≠ w.heap.size + 1 := fun D hD => by have := (HI.out.marks D hD).2; omega
          refine leaves_marks Ds _ HI.out.nodup (fun D hD => ?_) (fun w9 hb9 => ?_)
          · have hm := HI.out.marks D hD
            have hDlt : D < W.heap.size := (Array.getElem?_eq_some_iff.1 hm.1).1
            rw [Below.heap_setCell _ _ _ _ (by simpa using hDm D hD)]
            exact (hbx.block D hDlt).trans hm.1
          · have hx5 := (hb9.same _ hx4.lt (fun hD => hDm _ hD rfl)).trans hx4
            have hx5c := RowAt.cell (i := 0) (v := .bool true) hx5 rfl
            refine ⟨.bool true, by simp [results, Tryd.results8, go_sem, hx5c], rfl, ?_⟩
            have hB3 := O6.below.setCell (show w.heap.size ≤ (⟨w.heap.size + 1, 0, none⟩ : Addr).block by simp) (.bool true)
            exact hB3.trans (hb9.below (fun D hD => by have := (HI.out.marks D hD).2; omega) hB3.size)
end Go.Proofs.YtpfgepgjpnekdaaDoor

namespace Go.Proofs.YtpfgepgjpnekdaaDoor
open Go.RowKit Srt Trc
set_option linter.unusedVariables false
abbrev nmLs : List TypeId := [23, 23, 29, 23]
theorem open_nms {H : Type} {enc : TypeId × Value → H} {w : World} {base : Nat} {spare : Nat → Bool} {held : Bool} {v : Value} {n : Nat} {vs : List Value} (hs : Sl w 4 v n vs)
    (hl : ∀ i, i < n → ∀ (j : Nat) (T : TypeId), nmLs[j]? = some T → ∃ c, vs[i * 4 + j]? = some c ∧ Leaf enc Tryd.prog w base spare held T c) : ∃ l : List WN, vs = l.flatMap wnC ∧ ∀ e ∈ l, True := by
  refine recs_of (cells := wnC) (fun _ => rfl) n vs hs.1 (fun i hi => ?_)
  obtain ⟨c0, e0, L0⟩ := hl i hi 0 _ rfl
  obtain ⟨x0, rfl, w0⟩ := Leaf.int Tryd.underlying23 L0
  obtain ⟨c1, e1, L1⟩ := hl i hi 1 _ rfl
  obtain ⟨x1, rfl, w1⟩ := Leaf.int Tryd.underlying23 L1
  obtain ⟨c2, e2, L2⟩ := hl i hi 2 _ rfl
  obtain ⟨x2, rfl, w2⟩ := Leaf.int Tryd.underlying29 L2
  obtain ⟨c3, e3, L3⟩ := hl i hi 3 _ rfl
  obtain ⟨x3, rfl, w3⟩ := Leaf.int Tryd.underlying23 L3
  refine ⟨⟨⟨x0, x1, x2, x3⟩, ⟨w0, w1, w2, w3⟩⟩, trivial, fun j hj => ?_⟩
  match j with
  | 0 => exact e0
  | 1 => exact e1
  | 2 => exact e2
  | 3 => exact e3
  | j + 4 => exact absurd hj (by omega)
theorem nameOrders_law {H : Type} {enc : TypeId × Value → H} {base : Nat} {spare : Nat → Bool} {held : Bool} {v : Value} {n : Nat} {vs : List Value} (many : Int) (w : World) (hT : NmT w) (hs : Sl w 4 v n vs)
    (hl : ∀ i, i < n → ∀ (j : Nat) (T : TypeId), nmLs[j]? = some T → ∃ c, vs[i * 4 + j]? = some c ∧ Leaf enc Tryd.prog w base spare held T c) :
    Calls Tryd.prog 8 #[v, .int .i64 many] w (Ret (.bool true) w) := by
  by_cases hn : 40 < n
  · exact nameOrders_big v n many w vs hs hn hT
  · obtain ⟨l, rfl, _⟩ := open_nms hs hl
    exact nameOrders_c l v n many w hs (by omega) hT
end Go.Proofs.YtpfgepgjpnekdaaDoor

namespace Go.Proofs.YtpfgepgjpnekdaaDoor.nameOrdersRow
open Go.ChangeShapes Go.WideShapes Go.ChangeAt Go.RowKit
open Go.ChangeMaps (open_string shut_string)
set_option linter.unusedVariables false

theorem own : ownKnob Tryd.prog.godebug = none := by kernel_rfl
theorem laidOut : laidOutB Tryd.prog = true := by kernel_rfl

open Go.Lib
/-- Where the witness's own objects lie. -/
noncomputable def low : Nat := (World.holding Tryd.prog default ⟨#[], #[], []⟩).heap.size
/-- A world that meets the condition: the settled one, the variables laid. -/
noncomputable def laidWorld (os : Os) : World :=
  let w0 := World.holding Tryd.prog os ⟨#[.cells #[.string ⟨#[118, 97, 108, 117, 101, 32, 111, 117, 116, 32, 111, 102, 32, 114, 97, 110, 103, 101]⟩] 167, .cells #[.string ⟨#[105, 110, 118, 97, 108, 105, 100, 32, 115, 121, 110, 116, 97, 120]⟩] 167], #[], []⟩
  let put (h : Array Obj) (g : Nat) (cs : Array Value) : Array Obj := h.modify g fun
    | .cells _ t frozen => .cells cs t frozen
    | o => o
  let h1 := put w0.heap 3 (cellsD Rows.laid_math_bits_deBruijn32tab)
  let h2 := put h1 4 (cellsD Rows.laid_math_bits_deBruijn64tab)
  let h3 := put h2 2 (cellsD Rows.laid_internal_strconv_uint64pow10)
  let h4 := put h3 1 #[.iface 165 (.pointer (some ⟨low + 0, 0, none⟩))]
  let h5 := put h4 0 #[.iface 165 (.pointer (some ⟨low + 1, 0, none⟩))]
  { w0 with heap := h5 }
theorem laid_met (os : Os) (args : Array Value) : laidMet Tryd.prog Rows.nameOrdersRow.laid ((laidWorld os).forCall (fun _ _ => 0) ⟨#[], args, []⟩).memory :=
  (LaidIn.of_run (l := [("math/bits.deBruijn32tab", Rows.laid_math_bits_deBruijn32tab), ("math/bits.deBruijn64tab", Rows.laid_math_bits_deBruijn64tab), ("internal/strconv.uint64pow10", Rows.laid_internal_strconv_uint64pow10), ("strconv.ErrRange", Rows.laid_strconv_ErrRange), ("strconv.ErrSyntax", Rows.laid_strconv_ErrSyntax)]) [3, 4, 2, 1, low + 0, 0, low + 1] 8 (by kernel_rfl) (by kernel_rfl) (by kernel_rfl) (by kernel_rfl)).met
theorem witness_row (os : Os) {H : Type} (enc : TypeId × Value → H) :
    (OpenSpec.ofChange Rows.nameOrdersSpec).preRow enc Tryd.prog Tryd.f8 Rows.nameOrdersRow.domain false Rows.nameOrdersRow.laid ((laidWorld os).forCall (fun _ _ => 0) ⟨#[], #[.slice none 0 0, .int .i64 0], []⟩).memory #[.slice none 0 0, .int .i64 0] := by
  have hw : (DataW.whole enc Tryd.prog ((laidWorld os).forCall (fun _ _ => 0) ⟨#[], #[.slice none 0 0, .int .i64 0], []⟩).memory Tryd.f8.params.toList (OpenSpec.ofChange Rows.nameOrdersSpec).vars false (#[.slice none 0 0, .int .i64 0] : Array Value).toList 8).map (fun x => (x.1, x.2.1)) =
      some ([.nil, .lit (.int .i64 0)], []) := by kernel_rfl
  obtain ⟨⟨x1, x2, x3⟩, hx, hx1⟩ := Option.map_eq_some_iff.1 hw
  simp only [Prod.mk.injEq] at hx1
  obtain ⟨rfl, rfl⟩ := hx1
  exact OpenSpec.preRow_of_cond 8 hx (by kernel_rfl) (fun k hk => by cases hk) (by kernel_rfl) (laid_met os _)

set_option maxRecDepth 100000 in
theorem lifted (os : Os) (started : os.Started) (H : Type) (enc : TypeId × Value → H) :
    ReturnsInHanded {} Tryd.checked os 8 .any ((OpenSpec.ofChange Rows.nameOrdersSpec).preRow enc Tryd.prog Tryd.f8 Rows.nameOrdersRow.domain false Rows.nameOrdersRow.laid) (Rows.nameOrdersSpec.post enc Tryd.prog Tryd.f8 false true false false) := by
  refine returnsInHanded_of_row (C := Tryd.checked) (s := OpenSpec.ofChange Rows.nameOrdersSpec) (F := fun _ _ _ => 0) own started (by kernel_rfl) Tryd.func8
    (witness_row_atRef (enc := enc) (C := Tryd.checked) false (laidWorld os) #[.slice none 0 0, .int .i64 0] rfl (by kernel_rfl) (by kernel_rfl) (by kernel_rfl) (witness_row os enc)) ?_
  intro W base args ds gs before hval0 hW hcnd _ hsz0 hL hshp _
  have hsz : (DataW.weightsEach Tryd.prog (Tryd.f8.params.toList ++ Rows.nameOrdersSpec.plain.varTypes Tryd.prog) (ds ++ gs)).all (· ≤ reachBytes) = true := hsz0
  have hval : ∀ (j : Nat) t v, Tryd.f8.params[j]? = some t → args[j]? = some v → Value.okWide Tryd.prog W .any base t v := hval0
  have hN : NmT W := nmT_of (show (Rows.laid_internal_strconv_uint64pow10 : DataW Unit) = Lib.tabData .u64 Lib.pow10Tab by kernel_rfl)
    (Lib.laidMet.reads hL (n := "internal/strconv.uint64pow10") (d := Rows.laid_internal_strconv_uint64pow10) ((.tail _ (.tail _ (.head _)))))
    (Lib.laidMet.reads hL (n := "strconv.ErrRange") (d := Rows.laid_strconv_ErrRange) ((.tail _ (.tail _ (.tail _ (.head _))))))
    (Lib.laidMet.reads hL (n := "strconv.ErrSyntax") (d := Rows.laid_strconv_ErrSyntax) ((.tail _ (.tail _ (.tail _ (.tail _ (.head _)))))))
  have hW' := hW
  obtain ⟨p, q, hA0, hV, rfl, hfz, hnd⟩ := hW
  have hA : DataW.TrodAll enc Tryd.prog W 0 (fun _ => true) true Tryd.f8.params.toList args.toList ds p := hA0
  rw [Tryd.params8] at hA hval hsz
  obtain ⟨v0, vs0, d0, ds0, p0, q0, hargs, rfl, rfl, h0, r0⟩ := trodAll_cons hA
  obtain ⟨v1, vs1, d1, ds1, p1, q1, rfl, rfl, rfl, h1, r1⟩ := trodAll_cons r0
  obtain ⟨rfl, rfl, rfl⟩ := trodAll_nil r1
  obtain rfl : args = #[v0, v1] := by cases args; simp_all
  obtain ⟨rfl, rfl⟩ := trodVars_none hV
  have k0 := h0
  have lt0 : ∀ x ∈ p0, x.block < W.heap.size := by obtain ⟨m, hm⟩ := k0; exact DataW.trod_lt m _ _ _ hm
  have k1 := h1
  have lt1 : ∀ x ∈ p1, x.block < W.heap.size := by obtain ⟨m, hm⟩ := k1; exact DataW.trod_lt m _ _ _ hm
  obtain ⟨a0, len0, cap0, rfl⟩ := okWide_slice Tryd.underlying71 (hval 0 71 v0 rfl rfl)
  obtain ⟨fu0, hf0⟩ := h0
  obtain ⟨a0', len0', cap0', vs0', hcs0, sl0, lf0, nl0⟩ := open_flat (ls := [23, 23, 29, 23]) (sz := 4) Tryd.underlying71 (by kernel_rfl) rfl (by kernel_rfl) (by decide) hf0
  simp only [Value.cells, List.cons.injEq, Value.slice.injEq, and_true] at hcs0
  obtain ⟨rfl, rfl, rfl⟩ := hcs0
  have bd0 : len0 * 24 ≤ 140737488351232 := by
    rcases nl0 with ⟨_, h⟩ | ⟨es, sp, h, h'⟩
    · rw [h]; decide
    · have := sized_slice hsz (j := 0) (t := 71) (e := 31) rfl (congrArg some h) Tryd.underlying71
      rw [show Tryd.prog.bytesOf 31 = 24 by kernel_rfl] at this
      simp only [reachBytes] at this
      omega
  obtain ⟨many, rfl, _, _, wmany⟩ := open_int Tryd.underlying3 (hval 1 3 v1 rfl rfl) h1
  clear hA0 hval0
  refine (nameOrders_law many W hN sl0 lf0).mono fun e W' ⟨he, bel⟩ => ?_
  subst he
  exact ⟨_, rfl, _, _, _, [], _, [], hW', trodAll_mk1 (shut_bool Tryd.underlying4 _), (trodAll_cons_mk (Below.trod laidOut (by kernel_rfl) (of_decide_eq_true (by kernel_rfl)) k0 bel lt0) (trodAll_cons_mk (Below.trod laidOut (by kernel_rfl) (of_decide_eq_true (by kernel_rfl)) k1 bel lt1) trodAll_mk0)), rfl, bel.frame _, fun h => by cases h⟩

theorem over : Rows.nameOrdersRow.holds Tryd.pinned (OpenSpec.ofChange Rows.nameOrdersSpec) :=
  OpenClaim.holds_of_wide 8 Tryd.f8 rfl rfl rfl rfl rfl rfl rfl ⟨rfl, rfl, rfl, rfl, rfl⟩ rfl rfl rfl rfl rfl (by kernel_rfl) Tryd.func8 (by kernel_rfl)
    (of_decide_eq_true (by kernel_rfl)) (by unfold Func.isWrapper; first | (rw [if_pos (by decide +kernel)]; kernel_rfl) | (rw [if_neg (by decide +kernel)]; exact ⟨rfl, rfl⟩))
    (fun os started H enc _ => by rw [OpenClaim.pre_eq_preRow]; exact lifted os started H enc)

theorem proved : Rows.NameOrdersCardSaid :=
  Claim7.holds_tied_plain_at .later [] [.data, .data, .data, .sentinel, .sentinel] true (true, "039c7d746be2dc5819f6c862a3894bd3633ef9a7dee4d63b774f1987880c1757") true
    over (fun _ h => by cases h) (by kernel_rfl) (fun _ h => by cases h) nameOrders_row_tie rfl ⟨rfl, rfl⟩ (by kernel_rfl) rfl
    (fun f fn hf hfn => by
      obtain rfl : f = 8 := Option.some.inj ((show Tryd.prog.funcNamed "packsaddle/packsaddlelaw05.NameOrders" = some 8 by kernel_rfl).symm.trans hf) |>.symm
      obtain rfl : fn = Tryd.f8 := (Option.some.inj (Tryd.func8.symm.trans hfn)).symm
      exact ⟨by kernel_rfl, fun j t ht => by
        rw [Tryd.params8] at ht
        have h3 : t ∈ [71, 3] := by
          have := List.mem_of_getElem? (by simpa using ht : ([71, 3] : List TypeId)[j]? = some t)
          exact this
        simp only [List.mem_cons, List.not_mem_nil, or_false] at h3
        rcases h3 with rfl | rfl
        · exact (show Tryd.prog.wantsStandIn 71 = false by kernel_rfl)
        · exact (show Tryd.prog.wantsStandIn 3 = false by kernel_rfl)⟩)
    (by kernel_rfl)
#print axioms proved
end Go.Proofs.YtpfgepgjpnekdaaDoor.nameOrdersRow
