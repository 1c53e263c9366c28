/-
  All and its iterator.
-/
import Derived.Test.YtfoncaamhleckaaSeH
import Derived.Test.YtfoncaamhleckaaWideT
namespace Go.Proofs.Ytfoncaamhleckaa
open Go.RowKit Go.Maps Trc Sn
set_option linter.unusedSimpArgs false
set_option linter.unusedVariables false
attribute [local go_sem] Oper.semAt_some

theorem mixesS : Try.prog.follows .mixedOrders = true := by kernel_rfl
/-- What All leaves: its own map. -/
def Sn.AllAt (w : World) (E : List (Sg × Int)) (en : Ending) (w' : World) : Prop :=
  ∃ C M, en = .returned (.func (.func 39) #[] #[.pointer (some ⟨C, 0, none⟩)]) ∧ w'.cell? ⟨C, 0, none⟩ = some (.map (some M)) ∧ SMap w' M E ∧ w.heap.size ≤ C ∧ w.heap.size ≤ M ∧ Below w.heap.size w w'
set_option maxHeartbeats 1000000 in
set_option maxRecDepth 100000 in
theorem seAll_c {T M : Nat} {most : Int} {E : List (Sg × Int)} (w : World) (h : Tab w T M most E) :
    Calls Try.prog 33 #[.pointer (some ⟨T, 0, none⟩)] w (AllAt w E) := by
  have hmf : ∀ (fn : Fn) (first cap : Array Value) (w : World), (Instr.makeFunc fn first cap).run Try.prog w = .ok (.func fn first cap) w := fun _ _ _ _ => rfl
  have hb0 := below_alloc w (.cells #[.map none] 30)
  have C0 := RowAt.new w #[.map none] 30
  have h0 := h.below hb0
  go_enter Try.func33, Try.ntmps33
  go_wp2_with (first
    | (go_at_call 23; refine (seNone_c _ h0).mono ?_; rintro en w1 ⟨rfl, hb1⟩; have h1 := h0.below hb1; have C1 := C0.below hb1; have c1 := h1.var.cell (i := 1) (v := .map (some M)) rfl)
    | (go_at_call 35; refine (seClone_c _ h1.map).mono ?_; rintro en w2 ⟨rfl, hm2, hb2⟩; have C2 := C1.below hb2; have c2 := C2.cell (i := 0) (v := .map none) rfl; have f2 := C2.fz 0; have C3 := C2.set 0 (.map (some w1.heap.size))))
  go_ret
  have hw1 := hb1.size
  have hm2l := hm2.lt
  simp only [World.size_alloc] at hw1
  refine ⟨w.heap.size, w1.heap.size, rfl, C3.cell (i := 0) rfl, hm2.heap (Below.heap_setCell _ _ _ _ (by show w1.heap.size ≠ w.heap.size; omega)), Nat.le_refl _, by omega, ?_⟩
  exact (below_up hb0 (below_up hb1 hb2)).setCell (p := ⟨w.heap.size, 0, none⟩) (Nat.le_refl _) _

/-- What the iterator hands out. -/
def Sn.seArgs (L : List (Sg × Int)) (k : Nat) : Array Value := #[sgV (L.getD k (zsg, 0)).1, .int .u64 (L.getD k (zsg, 0)).2]
theorem Sn.seArgs_at {L : List (Sg × Int)} {k : Nat} (h : k < L.length) : seArgs L k = #[sgV L[k].1, .int .u64 L[k].2] := by
  unfold seArgs; rw [List.getD_eq_getElem?_getD, List.getElem?_eq_getElem h]; rfl
theorem enters_seAll1 : Enters Try.prog 39 := enters_of Try.func39 (by kernel_rfl) rfl
set_option maxHeartbeats 4000000 in
set_option maxRecDepth 100000 in
theorem seAll1_x {M C : Nat} {E L : List (Sg × Int)} (S : Nat → Prop) (w : World) (hC : w.cell? ⟨C, 0, none⟩ = some (.map (some M))) (hM : SMap w M E) (hok : ∀ p ∈ E, p.1.wf) (hL : SrtE E L) (hn : E.length ≤ 4096) (hSS : S C ∧ S M) :
    SeqX Try.prog 39 #[.pointer (some ⟨C, 0, none⟩)] (seArgs L) L.length S w := by
  intro l' G J Jx W hW hS hG hJ hJx hY h0
  have hC0 := cell_up hW hC
  have hM0 : SMap W M E := hM.heap (hW.block M hM.lt)
  have HLL := Lib.hid hL
  have HOK := Lib.hid hok
  have HLn := Lib.hid hL.len
  have hCl := World.block_lt_of_cell? W ⟨C, 0, none⟩ hC0
  have hMl := hM0.lt
  have b1 := below_alloc W (.cells #[.map (some M)] 30)
  have K1 := cell_new W (.map (some M)) 30
  have HSF := Lib.hid (seSorted_c (C := W.heap.size) (W.alloc (.cells #[.map (some M)] 30)) K1 (hM0.heap (heap_alloc_old _ _ hMl)) hok hL hn)
  have HIf := Lib.hid (fun (W' : World) (hb : Below W.heap.size W W') => hJ 0 G W W' h0 (But.of_below hb))
  have HB1 := Lib.hid b1
  have HM0 := Lib.hid hM0
  clear hC hM hW hok hL hM0 h0 K1 b1
  refine (callsIn_wide (n := 3)).1 ?_
  refine callsIn_of_wp Try.func39 rfl trivial ?_ rfl
  simp only [Try.ntmps39, List.size_toArray, List.length_cons, List.length_nil, Nat.reduceAdd, Nat.reduceSub, Array.replicate_succ, Array.replicate_zero, List.push_toArray, List.append_toArray, List.nil_append, List.cons_append]
  refine wpIn_wide.2 ?_
  go_wp2
  go_step3
  go_wp2
  go_step3
  go_wp2_with (first
    | (go_at_call 41; refine (seKeys_c M _).mono ?_; rintro en w1 ⟨rfl, rfl⟩)
    | (go_at_call 40; refine HSF.out.mono ?_; rintro en w2 ⟨v2, rfl, ho2, hb2⟩; obtain ⟨a2, c2, rfl⟩ := own_slice ho2))
  have hbW := below_up HB1.out hb2
  have hJ0 := HIf.out w2 hbW
  have hM2 := HM0.out.heap (hbW.block M hMl)
  have hC2 := cell_up hbW hC0
  have hsW := hbW.size
  have hsl0 := Sl.of_own ho2
  have hown0 := fun k (hk : (Value.slice a2 L.length c2).ownBlock = some k) => own_of_some ho2 hk
  obtain ⟨n, hnn⟩ : ∃ n, L.length = n := ⟨_, rfl⟩
  have HLN := Lib.hid hnn
  rw [hnn] at hsl0 hown0 HLn ⊢
  have HOW := Lib.hid hown0
  obtain ⟨KK, hKK⟩ : ∃ K, L.map (·.1) = K := ⟨_, rfl⟩
  have HKK := Lib.hid hKK
  rw [hKK] at hsl0
  have HKL := Lib.hid (show KK.length = n by rw [← HKK.out, List.length_map]; exact HLN.out)
  have hn' : n ≤ 4096 := by have := HLn.out; omega
  clear hb2 ho2 hnn hown0 hKK HSF HIf HB1 hbW
  refine (wpIn_wide (n := 3)).1 ?_
  gi_loopw [9] (fun i wr => ∃ (j : Nat) (G : Nat → Prop), j ≤ n ∧ i = .int .i64 j ∧ J j G wr ∧ wr.cell? ⟨C, 0, none⟩ = some (.map (some M)) ∧ SMap wr M E ∧ Sl wr 6 (.slice a2 n c2) n (KK.flatMap sgC) ∧ (∀ k, S k → ¬ G k) ∧ (∀ k, (Value.slice a2 n c2).ownBlock = some k → ¬ G k) ∧ w2.heap.size ≤ wr.heap.size) (fun i _ => n - (intOf i).toNat)
  case atStart => exact ⟨0, G, Nat.zero_le _, rfl, hJ0, hC2, hM2, hsl0, fun k hk => (hS k hk).2, fun k hk h => by have h1 := (HOW.out k hk).1; have h2 := hG k h; simp at h1; omega, Nat.le_refl _⟩
  case round =>
    obtain ⟨j, G1, hk, rfl, hj, hC1, hM1, hsl, hG1, hGv, hsz⟩ := hrel
    by_cases hlt : j < n
    · have hlt' : j < KK.length := by rw [HKL.out]; exact hlt
      have hltL : j < L.length := by rw [HLN.out]; exact hlt
      obtain ⟨b, off, rfl, hr⟩ := hsl.rec_at (cells := sgC) (sz := 6) (fun _ => rfl) hlt hlt'
      have hjn : (j : Int) < (n : Int) := by omega
      have hJa := (hJ j).drew ((hJ j).alloc (.cells (sgC KK[j]).toArray 38) hj)
      have hyy := hY j _ _ (by omega) hJa
      rw [seArgs_at hltL] at hyy
      obtain ⟨fn, tmps, assign, body, hy, hR⟩ := yieldAt_wide (m' := 2) hyy
      have hmem : L[j] ∈ E := HLL.out.perm.mem_iff.1 (List.getElem_mem hltL)
      have hkj : KK[j] = L[j].1 := by have := HKK.out; subst this; simp
      have hwf := HOK.out _ hmem
      have hlk := slook (hM1.heap (w' := (wr.alloc (.cells (sgC KK[j]).toArray 38)).drew) (heap_alloc_old _ _ hM1.lt)) (s := KK[j]) (by rw [hkj]; exact hwf) false
      simp only [Bool.false_eq_true, if_false] at hlk
      rw [show lk E KK[j] = L[j].2 by rw [hkj]; exact lk_of (get_nodup hM1.nodup hmem)] at hlk
      rw [← hkj] at hy
      generalize KK[j] = e at *
      generalize L[j].2 = u at *
      have E1 := RowAt.new wr (sgC e).toArray 38
      have hC1a := cell_up (below_alloc wr (.cells (sgC e).toArray 38)) hC1
      have hMa := hM1.heap (heap_alloc_old wr (.cells (sgC e).toArray 38) hM1.lt)
      have hSla := hsl.up (below_alloc wr (.cells (sgC e).toArray 38))
      have r0 := hr 0 (.int .u32 e.n.node) rfl
      have r1 := hr 1 (.int .u32 e.n.service) rfl
      have r2 := hr 2 (.int .u64 e.n.time) rfl
      have r3 := hr 3 (.int .u32 e.n.seq) rfl
      have r4 := hr 4 (.bool e.b) rfl
      have r5 := hr 5 (.int .u8 e.c) rfl
      simp only [Nat.add_zero] at r0
      have HJ := Lib.hid hj
      clear hj hyy hmem hkj hwf hr
      gi_wp2
      refine wpIn_wide_tail 5 mixesS (by kernel_rfl) (by kernel_rfl) ?_
      simp only [List.take_succ_cons, List.take_zero, List.drop_succ_cons, List.drop_zero]
      still_step
      refine still_load rfl 38 (.tmp 4) rfl wr.heap.size 0 rfl (sgC e) _ (show ((wr.alloc (.cells (sgC e).toArray 38)).drew).rangeAt wr.heap.size 0 (sgC e) from E1.range) Try.underlying38 rfl (by kernel_rfl) ?_
      try simp only [Act.put, List.getElem_toArray, List.getElem_cons_zero, List.getElem_cons_succ, List.setIfInBounds_toArray, List.set_cons_zero, List.set_cons_succ]
      still_step
      refine still_load rfl 38 (.tmp 4) rfl wr.heap.size 0 rfl (sgC e) _ (show ((wr.alloc (.cells (sgC e).toArray 38)).drew).rangeAt wr.heap.size 0 (sgC e) from E1.range) Try.underlying38 rfl (by kernel_rfl) ?_
      try simp only [Act.put, List.getElem_toArray, List.getElem_cons_zero, List.getElem_cons_succ, List.setIfInBounds_toArray, List.set_cons_zero, List.set_cons_succ]
      refine still_val rfl (v := .int .u64 u) ?lk ?_
      case lk => unfold execOp; simp only [Act.eval]; first | exact hlk | (simp [go_sem, hlk]; done)
      try simp only [Act.put, List.getElem_toArray, List.getElem_cons_zero, List.getElem_cons_succ, List.setIfInBounds_toArray, List.set_cons_zero, List.set_cons_succ]
      refine wpStill_nil ?_
      gi_wp2
      refine hR.mono ?_
      rintro en W3 ⟨g, rfl, hw⟩
      have hs3 := hw.but.size
      simp only [World.size_drew, World.size_alloc] at hs3
      have hC3 := hw.but.cell (show ((wr.alloc (.cells (sgC e).toArray 38)).drew).cell? ⟨C, 0, none⟩ = some (.map (some M)) from hC1a) (hG1 C hSS.1)
      have hM3 : SMap W3 M E := MapAt.heap (w := (wr.alloc (.cells (sgC e).toArray 38)).drew) (hMa.heap rfl) (hw.but.same M (by have := hMa.lt; exact this) (hG1 M hSS.2))
      have hS3 := (hSla.but (O := G1) (w' := (wr.alloc (.cells (sgC e).toArray 38)).drew) (But.drew _) (.inr fun k hk => hGv k hk)).but hw.but (.inr fun k hk => hGv k hk)
      cases g with
      | true =>
        gi_wp2
        go_roundw
        case rel => exact ⟨j + 1, _, by omega, by go_num, hw.on rfl, hC3, hM3, hS3, fun k hk => newG_not (hG1 k hk) (by have := (hS k hk).1; simp; omega), fun k hk => newG_not (hGv k hk) (by have := (HOW.out k hk).2; simp; omega), by omega⟩
        case measure => simp [intOf]; omega
      | false =>
        gi_wp2
        rw [Exit.noGoto_normal]
        go_end0
        exact ⟨⟨_, rfl⟩, _, .inr ⟨_, by omega, hw.off rfl⟩⟩
    · obtain rfl : j = n := by omega
      gi_wp2
      rw [Exit.noGoto_normal]
      go_end0
      exact ⟨⟨_, rfl⟩, _, .inl (by rw [HLN.out]; exact hj)⟩
end Go.Proofs.Ytfoncaamhleckaa
