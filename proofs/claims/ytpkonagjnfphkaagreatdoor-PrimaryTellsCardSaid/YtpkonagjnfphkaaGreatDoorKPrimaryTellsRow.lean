/-
  PrimaryTells, PrimaryTellsL, PrimaryTellsRow: several texts in one (bundle.py).
-/
import Derived.Test.YtpkonagjnfphkaaGreatDoorPmT40
import Derived.Test.YtpkonagjnfphkaaGreatDoorPmT04
import Derived.Test.YtpkonagjnfphkaaGreatDoorPmT29
import Derived.Test.YtpkonagjnfphkaaGreatDoorPmT20
import Derived.Deep.CutRange
import Derived.Deep.DeepCutAuto
import Derived.Test.YtpkonagjnfphkaaGreatDoorRows
import Derived.Test.YtpkonagjnfphkaaGreatDoorPmT01
import Derived.Test.YtpkonagjnfphkaaGreatDoorPmT39
import Derived.SizedLaws
import Derived.Test.YtpkonagjnfphkaaGreatDoorTie
import Derived.Test.YtpkonagjnfphkaaGreatDoorCards
import Derived.Lib.LaidIn
import Derived.Lib.LaidU8T
import Derived.Deep.DeepHandedRow
import Derived.Deep.DeepWitnessRowRef
import Derived.PinnedBridge
import Derived.ProofKit
import Derived.SevenTiedAt
namespace Go.Proofs.YtpkonagjnfphkaaGreatDoor
open Go.RowKit Trc Cb
set_option linter.unusedSimpArgs false
set_option linter.unusedVariables false
attribute [local go_sem] Oper.semAt_some
/-- The law's own first blocks. -/
structure TlW (w wr : World) (p : Prm.Pr) (a : Option Addr) (n c : Nat) (l : List Nat) : Prop where
  below : Below w.heap.size w wr
  p : RowAt wr w.heap.size #[.int .u32 p.flags, .int .i64 p.sum, .int .u32 p.toN, .int .u32 p.toS, .int .u32 p.srN, .int .u32 p.srS, .int .u32 p.rpN, .int .u32 p.rpS, .int .u64 p.time, .int .u32 p.seq, .int .u64 p.life] 28
  res : RowAt wr (w.heap.size + 1) #[.bool false] 4
  l : Sl wr 1 (.slice a n c) n (l.map fun q : Nat => Value.int .u32 q)
theorem TlW.up {w wr w2 : World} {p : Prm.Pr} {a : Option Addr} {n c : Nat} {l : List Nat} (h : TlW w wr p a n c l) (hb : Below wr.heap.size wr w2) : TlW w w2 p a n c l := ⟨below_up h.below hb, h.p.below hb, h.res.below hb, h.l.up hb⟩
theorem TlW.but {w wr w2 : World} {p : Prm.Pr} {a : Option Addr} {n c : Nat} {l : List Nat} (h : TlW w wr p a n c l) {O : Nat → Prop} (hb : But O wr w2) (hO : ∀ j, O j → w.heap.size + 2 ≤ j) (hlb : n = 0 ∨ ∀ k, (Value.slice a n c).ownBlock = some k → k < w.heap.size) : TlW w w2 p a n c l :=
  ⟨h.below.trans (hb.below (fun j e => by have := hO j e; omega) h.below.size), (hb.same _ h.p.lt (fun e => by have := hO _ e; omega)).trans h.p, (hb.same _ h.res.lt (fun e => by have := hO _ e; omega)).trans h.res, h.l.but hb (hlb.imp id fun f k hk e => by have := f k hk; have := hO k e; omega)⟩
theorem TlW.start (w : World) (p : Prm.Pr) (a : Option Addr) (n c : Nat) (l : List Nat) (hl : Sl w 1 (.slice a n c) n (l.map fun q : Nat => Value.int .u32 q)) : TlW w ((w.alloc (.cells (prC p).toArray 28)).alloc (.cells #[.bool false] 4)) p a n c l := by
  have h2 := RowAt.new (w.alloc (.cells (prC p).toArray 28)) #[.bool false] 4
  rw [World.size_alloc] at h2
  have hb : Below w.heap.size w ((w.alloc (.cells (prC p).toArray 28)).alloc (.cells #[.bool false] 4)) := (below_alloc w _).alloc (by simp) _
  exact ⟨hb, (RowAt.new w (prC p).toArray 28).below (below_alloc _ _), h2, hl.up hb⟩
theorem nameV_parts (p : Prm.Pr) : ∃ x0 x1 x2 x3 e, nameV p = .tuple #[.agg #[.int .u32 x0, .int .u32 x1, .int .u64 x2, .int .u32 x3], .int .i64 e] ∧ RowKit.Hid (Dig.chkN p.srN p.time = 0 → x0 = (p.srN : Int) ∧ x1 = (p.srS : Int) ∧ x2 = (p.time : Int) ∧ x3 = (p.seq : Int) ∧ e = 0) ∧ RowKit.Hid (Dig.chkN p.srN p.time ≠ 0 → x0 = 0 ∧ x1 = 0 ∧ x2 = 0 ∧ x3 = 0 ∧ e = 2) := by
  unfold nameV
  by_cases h : Dig.chkN p.srN p.time = 0
  · exact ⟨_, _, _, _, _, if_pos h, Lib.hid fun _ => ⟨rfl, rfl, rfl, rfl, rfl⟩, Lib.hid fun h2 => absurd h h2⟩
  · exact ⟨_, _, _, _, _, if_neg h, Lib.hid fun h2 => absurd h2 h, Lib.hid fun _ => ⟨rfl, rfl, rfl, rfl, rfl⟩⟩
/-- The flags that a primary has, as numbers. -/
def pwU (f : Nat) : List Int := (Prm.wantsL f).map fun (q : Nat) => (q : Int)
theorem pwU_len (f : Nat) : (pwU f).length = (Prm.wantsL f).length := by unfold pwU; rw [List.length_map]
theorem pw_le (f : Nat) : (Prm.wantsL f).length ≤ 2 := by
  unfold Prm.wantsL
  exact Nat.le_trans (List.length_filter_le _ _) (by decide)
theorem pw_take (f k : Nat) (hk : k < (Prm.wantsL f).length) : (pwU f).take (k + 1) = (pwU f).take k ++ [((pwAt f k : Nat) : Int)] := by
  have h2 : k < (pwU f).length := by rw [pwU_len]; exact hk
  have h3 : (pwU f)[k]? = some ((pwAt f k : Nat) : Int) := by
    unfold pwU pwAt
    rw [List.getElem?_map, List.getD_eq_getElem?_getD, List.getElem?_eq_getElem hk]; rfl
  rw [List.take_succ_eq_append_getElem h2, Option.some.inj ((List.getElem?_eq_getElem h2).symm.trans h3)]
theorem CtR.put {wr : World} {k : Nat} {G : Nat → Prop} {W : World} (h : CtR wr k G W) (m : Nat) :
    But G W (W.setCell ⟨wr.heap.size, 0, none⟩ (.int .i64 (m : Int))) ∧ CtR wr m (newG G W (W.setCell ⟨wr.heap.size, 0, none⟩ (.int .i64 (m : Int)))) (W.setCell ⟨wr.heap.size, 0, none⟩ (.int .i64 (m : Int))) := by
  have hb : But G W (W.setCell ⟨wr.heap.size, 0, none⟩ (.int .i64 (m : Int))) := But.setCell _ _ _ (.inl h.g0)
  refine ⟨hb, h.below.trans (hb.below h.glow h.below.size), h.cnt.set 0 (.int .i64 (m : Int)), newG_old h.g0, ?_⟩
  rintro q (e | e)
  · exact h.glow q e
  · have := h.below.size; omega
theorem pwAt_lt {f k : Nat} : pwAt f k ≤ 32 := by
  unfold pwAt
  rcases Nat.lt_or_ge k (Prm.wantsL f).length with h | h
  · rw [List.getD_eq_getElem?_getD, List.getElem?_eq_getElem h]
    have := List.getElem_mem h
    unfold Prm.wantsL at this
    have h2 := (List.mem_filter.1 this).1
    simp only [List.mem_cons, List.not_mem_nil, or_false] at h2
    show (Prm.wantsL f)[k] ≤ 32
    unfold Prm.wantsL
    omega
  · rw [List.getD_eq_getElem?_getD, List.getElem?_eq_none h]; decide
/-- What the second range leaves. -/
def pwTwo (f : Nat) : Nat := if (Prm.wantsL f).length = 0 then 0 else pwAt f 0
/-- The end: works tells true. -/
theorem nameZero (w : World) : (binOp BinOp.neq 32 (nmW 0 0 0 0) (.agg #[.int .u32 0, .int .u32 0, .int .u64 0, .int .u32 0])).run Tryz.prog w = .ok (.bool false) w := by
  simp [go_sem]
set_option maxRecDepth 100000 in
theorem run_nmNe (a b c d : Int) (w : World) : (binOp BinOp.neq 32 (.agg #[.int .u32 a, .int .u32 b, .int .u64 c, .int .u32 d]) (.agg #[.int .u32 a, .int .u32 b, .int .u64 c, .int .u32 d])).run Tryz.prog w = .ok (.bool false) w := by
  simp [go_sem]
set_option maxHeartbeats 8000000 in
set_option maxRecDepth 100000 in
theorem primaryTells_law (p : Prm.Pr) (hp : p.Ok) (rank : Int) (hrk : -9223372036854775808 ≤ rank ∧ rank ≤ 9223372036854775807) (l : List Nat) (hl : ∀ q ∈ l, q < 4294967296) (v : Value) (w : World) (hv : Sl w 1 v l.length (l.map fun q : Nat => Value.int .u32 q)) (hT : Tabs w) : Calls Tryz.prog 3 #[prV p, .int .i64 rank, v] w (Ret (.bool true) w) := by
  obtain ⟨a, c, rfl⟩ := hv.len
  have hmx := hv.n_max
  have HLW := Lib.hid hl
  obtain ⟨n, hn⟩ : ∃ n, l.length = n := ⟨_, rfl⟩
  have HN := Lib.hid hn
  rw [hn] at hv hmx ⊢
  have O1 := TlW.start w p a n c l hv
  have HLB := Lib.hid (hv.blk (by decide))
  have HO := Lib.hid O1
  have HT0 := Lib.hid hT
  have HPO := Lib.hid hp
  have HRK := Lib.hid hrk
  clear hv hT hl hn hp hrk O1
  refine (callsIn_wide (n := 3)).1 ?_
  refine callsIn_of_wp_marks Tryz.func3 rfl trivial ?_ rfl
  simp only [Tryz.ntmps3, List.size_toArray, List.length_cons, List.length_nil, Nat.reduceAdd, Nat.reduceSub, Array.replicate_succ, Array.replicate_zero, List.push_toArray, List.append_toArray, List.nil_append, List.cons_append]
  refine wpIn_wide.2 ?_
  by_cases h30 : 30 < n
  · have d1 : decide ((30 : Int) < (n : Int)) = true := decide_eq_true (by omega)
    have d2 : decide ((n : Int) > 30) = true := d1
    go_wp2_with (go_at_call 8; refine (prWorks_c _ (HT0.out.up HO.out.below)).mono ?_; rintro en wx ⟨rfl, hq⟩; have O6 := HO.out.up hq; have x6 := O6.res.cell (i := 0) rfl; have f6 := O6.res.fz 0)
    have hx4 := O6.res.set 0 (.bool true)
    refine leaves_marks [] _ List.nodup_nil (fun D hD => by cases hD) (fun w9 hb9 => ?_)
    have hx5 := (hb9.same _ hx4.lt (fun hD => by cases hD)).trans hx4
    have hx5c := RowAt.cell (i := 0) (v := .bool true) hx5 rfl
    refine ⟨.bool true, by simp [results, Tryz.results3, go_sem, hx5c], rfl, ?_⟩
    have hB3 := O6.below.setCell (show w.heap.size ≤ (⟨w.heap.size + 1, 0, none⟩ : Addr).block by simp) (.bool true)
    exact hB3.trans (hb9.below (fun D hD => by cases hD) hB3.size)
  have d1 : decide ((30 : Int) < (n : Int)) = false := decide_eq_false (by omega)
  have d2 : decide ((n : Int) > 30) = false := d1
  have x0 := HO.out.p.cell (i := 0) rfl
  have x1 := HO.out.p.cell (i := 1) rfl
  have x2 := HO.out.p.cell (i := 2) rfl
  have x3 := HO.out.p.cell (i := 3) rfl
  have x4 := HO.out.p.cell (i := 4) rfl
  have x5 := HO.out.p.cell (i := 5) rfl
  have x6 := HO.out.p.cell (i := 6) rfl
  have x7 := HO.out.p.cell (i := 7) rfl
  have x8 := HO.out.p.cell (i := 8) rfl
  have x9 := HO.out.p.cell (i := 9) rfl
  have x10 := HO.out.p.cell (i := 10) rfl
  go_wp2_with fail
  clear d1 d2
  clear x0 x1 x2 x3 x4 x5 x6 x7 x8 x9 x10
  obtain ⟨x0, x1, x2, x3, e, hnv, HY, HNo⟩ := nameV_parts p
  refine (prName_c p _).mono ?_
  rw [hnv]
  rintro en w2 ⟨rfl, hb2⟩
  clear hnv
  have HO2 := Lib.hid (HO.out.up hb2)
  clear hb2 HO
  have N7 := RowAt.new w2 #[.int .u32 x0, .int .u32 x1, .int .u64 x2, .int .u32 x3] 32
  have HO3 := Lib.hid (HO2.out.up (below_alloc w2 (.cells #[.int .u32 x0, .int .u32 x1, .int .u64 x2, .int .u32 x3] 32)))
  clear HO2
  have x0 := HO3.out.p.cell (i := 0) rfl
  have x1 := HO3.out.p.cell (i := 1) rfl
  have x2 := HO3.out.p.cell (i := 2) rfl
  have x3 := HO3.out.p.cell (i := 3) rfl
  have x4 := HO3.out.p.cell (i := 4) rfl
  have x5 := HO3.out.p.cell (i := 5) rfl
  have x6 := HO3.out.p.cell (i := 6) rfl
  have x7 := HO3.out.p.cell (i := 7) rfl
  have x8 := HO3.out.p.cell (i := 8) rfl
  have x9 := HO3.out.p.cell (i := 9) rfl
  have x10 := HO3.out.p.cell (i := 10) rfl
  go_wp2_with fail
  clear x0 x1 x2 x3 x4 x5 x6 x7 x8 x9 x10
  obtain ⟨w3, hw3⟩ : ∃ W, w2.alloc (.cells #[.int .u32 x0, .int .u32 x1, .int .u64 x2, .int .u32 x3] 32) = W := ⟨_, rfl⟩
  rw [hw3] at N7 HO3 ⊢
  have hs3 : w3.heap.size = w2.heap.size + 1 := by rw [← hw3]; simp
  clear hw3
  refine (rName_c p w3).mono ?_
  rintro en w4 ⟨rfl, hb4⟩
  have N8 := N7.below hb4
  have HO4 := Lib.hid (HO3.out.up hb4)
  have HS4 := Lib.hid hb4.size
  clear N7 HO3 hb4
  have N9 := RowAt.new w4 #[.int .u32 p.srN, .int .u32 p.srS, .int .u64 p.time, .int .u32 p.seq] 32
  have HO5 := Lib.hid (HO4.out.up (below_alloc w4 (.cells #[.int .u32 p.srN, .int .u32 p.srS, .int .u64 p.time, .int .u32 p.seq] 32)))
  replace N8 := N8.below (below_alloc w4 (.cells #[.int .u32 p.srN, .int .u32 p.srS, .int .u64 p.time, .int .u32 p.seq] 32))
  obtain ⟨w5, hw5⟩ : ∃ W, w4.alloc (.cells #[.int .u32 p.srN, .int .u32 p.srS, .int .u64 p.time, .int .u32 p.seq] 32) = W := ⟨_, rfl⟩
  clear HO4
  rw [hw5] at N8 N9 HO5
  have y0 := N9.cell (i := 0) rfl
  have y1 := N9.cell (i := 1) rfl
  have y2 := N9.cell (i := 2) rfl
  have y3 := N9.cell (i := 3) rfl
  have hrn := fun W => rRightName_c p.srN p.srS p.time p.seq W
  obtain ⟨rb, hrb⟩ : ∃ b, decide (Dig.chkN p.srN p.time = 0) = b := ⟨_, rfl⟩
  simp only [hrb] at hrn
  have HRN := Lib.hid hrn
  have HRB := Lib.hid hrb
  clear hrn hrb
  go_upto_if 29 with (go_at_call 11; refine (HRN.out _).mono ?_; rintro en w6 ⟨rfl, hb6⟩)
  clear hw5 hs3 y0 y1 y2 y3
  have HO6 := Lib.hid (HO5.out.up hb6)
  have M7 := N8.below hb6
  have M9 := N9.below hb6
  clear N8 N9 HO5 hb6
  go_cut [] from 30 to 45 (fun wx => TlW w wx p a n c l)
  case first =>
    have y0 := M7.cell (i := 0) rfl
    have y1 := M7.cell (i := 1) rfl
    have y2 := M7.cell (i := 2) rfl
    have y3 := M7.cell (i := 3) rfl
    have z0 := M9.cell (i := 0) rfl
    have z1 := M9.cell (i := 1) rfl
    have z2 := M9.cell (i := 2) rfl
    have z3 := M9.cell (i := 3) rfl
    cases rb with
    | true =>
      obtain ⟨rfl, rfl, rfl, rfl, rfl⟩ := HY.out (of_decide_eq_true HRB.out)
      have hne := run_nmNe (p.srN : Int) (p.srS : Int) (p.time : Int) (p.seq : Int)
      go_wp2_with (first | (go_at_call 12; with_reducible refine (prNum_c _ _).mono ?_; rintro en wn ⟨rfl, rfl⟩))
      go_meet
      exact HO6.out
    | false =>
      obtain ⟨rfl, rfl, rfl, rfl, rfl⟩ := HNo.out (of_decide_eq_false HRB.out)
      have hne := run_nmNe 0 0 0 0
      go_wp2_with (first | (go_at_call 12; with_reducible refine (prNum_c _ _).mono ?_; rintro en wn ⟨rfl, rfl⟩))
      go_meet
      exact HO6.out
  case rest =>
    have HOC := Lib.hid hcut
    clear hcut HO6 M7 M9 HY HNo HRB HRN
    go_wp2
    go_loopw [10] (fun vi wr => ∃ i : Nat, vi = .int .i64 i ∧ i ≤ n ∧ TlW w wr p a n c l) (fun vi _ => n - (intOf vi).toNat)
    case atStart => exact ⟨0, rfl, Nat.zero_le _, HOC.out⟩
    case round =>
      obtain ⟨i, rfl, hi, hO⟩ := hrel
      have HWR := Lib.hid (show w.heap.size + 2 ≤ wr.heap.size by have := hO.res.lt; omega)
      have HO := Lib.hid hO
      clear hO HOC
      by_cases hlt : i < n
      · have hil : i < l.length := by rw [HN.out]; exact hlt
        have hv := HO.out.l
        rw [← HN.out] at hv
        obtain ⟨b, off, hab, hc⟩ := u32_at hv hil
        subst hab
        have hq := HLW.out _ (List.getElem_mem hil)
        generalize l[i] = q at hc hq
        have HC := Lib.hid hc
        have HQ := Lib.hid hq
        have hin : (i : Int) < (n : Int) := by omega
        have hi0 : (0 : Int) ≤ (i : Int) := by omega
        obtain ⟨hb, hhb⟩ : ∃ b, Prm.hasB p.flags q = b := ⟨_, rfl⟩
        have hh1 := prHas_c p HPO.out.f q hq
        have hh2 := rHas_c p HPO.out.f q hq
        simp only [hhb] at hh1 hh2
        have HH1 := Lib.hid hh1
        have HH2 := Lib.hid hh2
        clear hv hc hq hhb hh1 hh2
        go_wp2
        refine wp_onlyN ?_
        refine wp_region_ptL (fun _ => False) (.q 0 (.q 1 (.q 2 (.q 3 (.q 4 (.q 6 (.q 7 (.q 8 (.q 9 (.q 10 (.c 5 (.c 11 (.q 12 .done))))))))))))) (by kernel_rfl) (by kernel_rfl) (by kernel_rfl) (by decide) onlyN_panic (fun OPS HOP Wd hBd => ?_)
        try simp only [Act.put, List.getElem_toArray, List.getElem_cons_zero, List.getElem_cons_succ, List.setIfInBounds_toArray, List.set_cons_zero, List.set_cons_succ]
        have PP : RowAt Wd w.heap.size (prC p).toArray 28 := HO.out.p.below hBd
        have c4 := cell_up hBd HC.out
        iterate 2
          refine pt_load (by rw [← HOP.out]; simp only [List.getElem?_toArray, List.getElem?_cons_zero, List.getElem?_cons_succ]; rfl) (by rw [← HOP.out]; kernel_rfl) 28 (.tmp 3) rfl w.heap.size 0 rfl (prC p) _ PP.range (fun h => h) Tryz.underlying28 rfl (by kernel_rfl) ?_
          try simp only [Act.put, List.getElem_toArray, List.getElem_cons_zero, List.getElem_cons_succ, List.setIfInBounds_toArray, List.set_cons_zero, List.set_cons_succ]
          refine pt_q (v := ?_) (by rw [← HOP.out]; simp only [List.getElem?_toArray, List.getElem?_cons_zero, List.getElem?_cons_succ]; rfl) (by rw [← HOP.out]; kernel_rfl) ?_ ?_
          rotate_left
          · intro w' hBw'
            first | (go_simp; done) | (go_simp; with_reducible rfl)
          try simp only [Act.put, List.getElem_toArray, List.getElem_cons_zero, List.getElem_cons_succ, List.setIfInBounds_toArray, List.set_cons_zero, List.set_cons_succ]
          refine pt_q (v := ?_) (by rw [← HOP.out]; simp only [List.getElem?_toArray, List.getElem?_cons_zero, List.getElem?_cons_succ]; rfl) (by rw [← HOP.out]; kernel_rfl) ?_ ?_
          rotate_left
          · intro w' hBw'
            first | (go_simp; done) | (go_simp; with_reducible rfl)
          try simp only [Act.put, List.getElem_toArray, List.getElem_cons_zero, List.getElem_cons_succ, List.setIfInBounds_toArray, List.set_cons_zero, List.set_cons_succ]
          refine pt_q (v := ?_) (by rw [← HOP.out]; simp only [List.getElem?_toArray, List.getElem?_cons_zero, List.getElem?_cons_succ]; rfl) (by rw [← HOP.out]; kernel_rfl) ?_ ?_
          rotate_left
          · intro w' hBw'
            first | (go_simp; done) | (go_simp; with_reducible rfl)
          try simp only [Act.put, List.getElem_toArray, List.getElem_cons_zero, List.getElem_cons_succ, List.setIfInBounds_toArray, List.set_cons_zero, List.set_cons_succ]
          refine pt_q (v := ?_) (by rw [← HOP.out]; simp only [List.getElem?_toArray, List.getElem?_cons_zero, List.getElem?_cons_succ]; rfl) (by rw [← HOP.out]; kernel_rfl) ?_ ?_
          rotate_left
          · intro w' hBw'
            have qL := hBw'.cell c4 (fun e => e)
            first | (go_simp; done) | (go_simp; with_reducible rfl)
          try simp only [Act.put, List.getElem_toArray, List.getElem_cons_zero, List.getElem_cons_succ, List.setIfInBounds_toArray, List.set_cons_zero, List.set_cons_succ]
        refine pt_c ?_
        refine pt_step (by rw [← HOP.out]; simp only [List.getElem?_toArray, List.getElem?_cons_zero, List.getElem?_cons_succ]; rfl) (by rw [← HOP.out]; kernel_rfl) (fun K hK => ?_)
        go_simp
        refine (HH1.out _).mono ?_
        rintro en w3 ⟨rfl, hb3⟩
        refine hK.out _ _ (But.of_below hb3) ?_
        clear hK K
        try simp only [Act.put, List.getElem_toArray, List.getElem_cons_zero, List.getElem_cons_succ, List.setIfInBounds_toArray, List.set_cons_zero, List.set_cons_succ]
        refine pt_c ?_
        refine pt_step (by rw [← HOP.out]; simp only [List.getElem?_toArray, List.getElem?_cons_zero, List.getElem?_cons_succ]; rfl) (by rw [← HOP.out]; kernel_rfl) (fun K hK => ?_)
        go_simp
        refine (HH2.out _).mono ?_
        rintro en w4 ⟨rfl, hb4⟩
        refine hK.out _ _ (But.of_below hb4) ?_
        clear hK K
        try simp only [Act.put, List.getElem_toArray, List.getElem_cons_zero, List.getElem_cons_succ, List.setIfInBounds_toArray, List.set_cons_zero, List.set_cons_succ]
        refine pt_q (v := ?_) (by rw [← HOP.out]; simp only [List.getElem?_toArray, List.getElem?_cons_zero, List.getElem?_cons_succ]; rfl) (by rw [← HOP.out]; kernel_rfl) ?_ ?_
        rotate_left
        · intro w' hBw'
          first | (go_simp; done) | (go_simp; with_reducible rfl)
        try simp only [Act.put, List.getElem_toArray, List.getElem_cons_zero, List.getElem_cons_succ, List.setIfInBounds_toArray, List.set_cons_zero, List.set_cons_succ]
        refine pt_doneN ?_
        have O3 := Lib.hid (HO.out.up (below_up hBd (below_up hb3 hb4)))
        clear hBd hb3 hb4 PP c4 HO
        go_wp2
        exact ⟨⟨i + 1, by go_num, by omega, O3.out⟩, by simp [intOf]; omega⟩
      · obtain rfl : i = n := by omega
        have HLN := Lib.hid HN.out
        have OA := Lib.hid (HO.out.up (below_alloc wr (.cells #[.slice none 0 0] 29)))
        have XA := RowAt.new wr #[.slice none 0 0] 29
        have x0 := OA.out.p.cell (i := 0) rfl
        have x1 := OA.out.p.cell (i := 1) rfl
        have x2 := OA.out.p.cell (i := 2) rfl
        have x3 := OA.out.p.cell (i := 3) rfl
        have x4 := OA.out.p.cell (i := 4) rfl
        have x5 := OA.out.p.cell (i := 5) rfl
        have x6 := OA.out.p.cell (i := 6) rfl
        have x7 := OA.out.p.cell (i := 7) rfl
        have x8 := OA.out.p.cell (i := 8) rfl
        have x9 := OA.out.p.cell (i := 9) rfl
        have x10 := OA.out.p.cell (i := 10) rfl
        have hwa := prWants_c p
        have HWA := Lib.hid hwa
        clear hwa HO
        have he : ∀ (f : FuncId) (caps : Array Value) (w : World), (binOp BinOp.eql 41 (.func (.func f) #[] caps) .nilFunc).run Tryz.prog w = .ok (.bool false) w := fun _ _ _ => by kernel_rfl
        go_wp2_with fail
        clear x0 x1 x2 x3 x4 x5 x6 x7 x8 x9 x10
        obtain ⟨wA, hwA⟩ : ∃ W, wr.alloc (.cells #[.slice none 0 0] 29) = W := ⟨_, rfl⟩
        rw [hwA] at OA XA ⊢
        have hsA : wA.heap.size = wr.heap.size + 1 := by rw [← hwA]; simp
        clear hwA
        refine (HWA.out wA).mono ?_
        rintro en wB ⟨rfl, hwB⟩
        have OB := Lib.hid (OA.out.up (show Below wA.heap.size wA wB by rw [hwB]; exact below_alloc _ _))
        have XB := XA.below (show Below wA.heap.size wA wB by rw [hwB]; exact below_alloc _ _)
        have hsB : wB.heap.size = wA.heap.size + 1 := by rw [hwB]; simp
        clear hwB XA OA
        have x0 := OB.out.p.cell (i := 0) rfl
        have x1 := OB.out.p.cell (i := 1) rfl
        have x2 := OB.out.p.cell (i := 2) rfl
        have x3 := OB.out.p.cell (i := 3) rfl
        have x4 := OB.out.p.cell (i := 4) rfl
        have x5 := OB.out.p.cell (i := 5) rfl
        have x6 := OB.out.p.cell (i := 6) rfl
        have x7 := OB.out.p.cell (i := 7) rfl
        have x8 := OB.out.p.cell (i := 8) rfl
        have x9 := OB.out.p.cell (i := 9) rfl
        have x10 := OB.out.p.cell (i := 10) rfl
        go_wp2_with fail
        clear x0 x1 x2 x3 x4 x5 x6 x7 x8 x9 x10
        refine (HWA.out wB).mono ?_
        rintro en wC ⟨rfl, hwC⟩
        have OC := Lib.hid (OB.out.up (show Below wB.heap.size wB wC by rw [hwC]; exact below_alloc _ _))
        have XC := XB.below (show Below wB.heap.size wB wC by rw [hwC]; exact below_alloc _ _)
        have YC : RowAt wC wB.heap.size (prC p).toArray 28 := by rw [hwC]; exact RowAt.new _ _ _
        have hsC : wC.heap.size = wB.heap.size + 1 := by rw [hwC]; simp
        clear hwC XB OB
        go_wp2
        rw [hsB, hsA] at YC
        have hsz : wC.heap.size = wr.heap.size + 3 := by omega
        have HSZ := Lib.hid hsz
        clear hsA hsB hsC hsz
        have HYC := Lib.hid YC
        clear YC
        have b0 : Boxed wC wr.heap.size 29 (.slice none 0 0) := XC
        have ha0 : PcA wr.heap.size wr.heap.size (.slice none 0 0) [] wC := ⟨b0, World.ownsRow_nil _ _ _ _, Nat.le_refl _⟩
        have h0 : PcI wC wr.heap.size wr.heap.size (.slice none 0 0) ((pwU p.flags).take 0) (fun j => j = wr.heap.size ∨ (Value.slice none 0 0).ownBlock = some j) wC := PcI.start ha0
        clear b0 ha0 XC
        refine wpIn_wide.1 (wp_range (n := 3) (S := fun q => q = wr.heap.size + 1 + 1) (gf := 35) (lb := #[.pointer (some ⟨wr.heap.size + 1 + 1, 0, none⟩)]) rfl enters_prWn1
          (pwn1_x p HPO.out.f (wr.heap.size + 1 + 1) _ wC HYC.out rfl) (Below.refl _ _) (fun _ => rfl)
          (fun j => j = wr.heap.size ∨ (Value.slice none 0 0).ownBlock = some j) (fun k h => by rcases h with h | h; rw [HSZ.out]; omega; cases h) (fun k h => by rw [HSZ.out]; refine ⟨by omega, fun e => ?_⟩; rcases e with e | e; omega; cases e)
          (fun k G W => PcI wC wr.heap.size wr.heap.size (.slice none 0 0) ((pwU p.flags).take k) G W)
          (fun k a' G W => a' = { tmps := #[prV p, .int .i64 rank, .slice a i c, .pointer (some ⟨w.heap.size, 0, none⟩), undef, undef, .pointer (some ⟨w.heap.size + 1, 0, none⟩), .pointer (some ⟨w2.heap.size, 0, none⟩), .int .i64 e, .pointer (some ⟨w4.heap.size, 0, none⟩), .int .i64 i, .pointer (some ⟨wr.heap.size, 0, none⟩), .int .u32 (pwAt p.flags k : Nat), undef, undef, undef, .slice a i c, .int .i64 i, .bool false, undef, .tuple #[.agg #[.int .u32 x0, .int .u32 x1, .int .u64 x2, .int .u32 x3], .int .i64 e], .agg #[.int .u32 p.flags, .int .i64 p.sum, .int .u32 p.toN, .int .u32 p.toS, .int .u32 p.srN, .int .u32 p.srS, .int .u32 p.rpN, .int .u32 p.rpS, .int .u64 p.time, .int .u32 p.seq, .int .u64 p.life], .tuple #[.agg #[.int .u32 x0, .int .u32 x1, .int .u64 x2, .int .u32 x3], .int .i64 e], .agg #[.int .u32 x0, .int .u32 x1, .int .u64 x2, .int .u32 x3], .int .i64 e, .agg #[.int .u32 p.flags, .int .i64 p.sum, .int .u32 p.toN, .int .u32 p.toS, .int .u32 p.srN, .int .u32 p.srS, .int .u32 p.rpN, .int .u32 p.rpS, .int .u64 p.time, .int .u32 p.seq, .int .u64 p.life], nmW p.srN p.srS p.time p.seq, .agg #[.int .u32 p.srN, .int .u32 p.srS, .int .u64 p.time, .int .u32 p.seq], .bool rb, .bool (!rb), u30, u31, u32, u33, u34, u35, u36, u37, u38, u39, u40, u41, u42, u43, u44, u45, .int .i64 i, .slice a i c, .int .i64 i, .bool false, u50, u51, u52, u53, u54, u55, u56, u57, u58, u59, u60, u61, u62, u63, u64, .agg #[.int .u32 p.flags, .int .i64 p.sum, .int .u32 p.toN, .int .u32 p.toS, .int .u32 p.srN, .int .u32 p.srS, .int .u32 p.rpN, .int .u32 p.rpS, .int .u64 p.time, .int .u32 p.seq, .int .u64 p.life], .func (.func 35) #[] #[.pointer (some ⟨wr.heap.size + 1, 0, none⟩)], .bool false, .agg #[.int .u32 p.flags, .int .i64 p.sum, .int .u32 p.toN, .int .u32 p.toS, .int .u32 p.srN, .int .u32 p.srS, .int .u32 p.rpN, .int .u32 p.rpS, .int .u64 p.time, .int .u32 p.seq, .int .u64 p.life], .func (.func 35) #[] #[.pointer (some ⟨wr.heap.size + 1 + 1, 0, none⟩)], .int .u32 (pwAt p.flags k : Nat), undef, undef, undef, undef, undef, undef, undef, undef, undef, undef, undef, undef, undef, undef, undef, undef, undef, undef, undef, undef, undef, undef, undef, undef, undef, undef, undef, undef, undef, undef, undef, undef, undef, undef, undef, undef, undef, undef, undef, undef, undef, undef, undef, undef, undef, undef, undef, undef, undef, undef, undef, undef, undef, undef, undef, undef, undef, undef, undef, undef, undef, undef, undef, undef, undef, undef, undef, undef, undef, undef, undef, undef, undef, undef, undef, undef, undef, undef, undef, undef, undef, undef, undef, undef, undef, undef, undef, undef, undef, undef], defers := [] } ∧ PcI wC wr.heap.size wr.heap.size (.slice none 0 0) ((pwU p.flags).take k) G W)
          (fun _ _ _ _ => False)
          (fun k => PcI.abide (Nat.le_refl _)) (fun k a' G A B h hb => ⟨h.1, PcI.abide (B := wC.heap.size) (Nat.le_refl _) G A B h.2 hb⟩) (fun c k G A B h _ => h.elim) h0 ?assign ?body ?done ?stop)
        case assign =>
          intro l2 k G W K hk hi hK
          simp only [pwArgs]
          gi_wp2
          exact hK _ _ (But.refl _ _) ⟨rfl, by
            obtain ⟨v, h1, h2, h3⟩ := hi.acc
            exact ⟨⟨v, h1, fun j hj => newG_old (h2 j hj), h3⟩, newG_old hi.own, fun j hj => by rcases hj with h | h; exact hi.low j h; (have := hi.but.size; exact .inr (.inr (by omega))), hi.but⟩⟩
        case body =>
          rintro l2 k a' G W hk hl2 hl3 hGl ⟨rfl, hi⟩
          obtain ⟨v, h1, h2, h3⟩ := hi.acc
          have hsW := hi.but.size
          have hbW : wr.heap.size ≤ W.heap.size := by rw [HSZ.out] at hsW; omega
          have hkl := pw_le p.flags
          have HTK := Lib.hid (pw_take p.flags k hk)
          have cl := h1.box.cell
          have fl := h1.box.frozen
          have hro := h1.row
          have hAl : ((pwU p.flags).take k).length = k := by rw [List.length_take, pwU_len]; omega
          obtain ⟨m, hm⟩ : ∃ m : Nat, pwAt p.flags k = m := ⟨_, rfl⟩
          rw [hm] at HTK ⊢
          obtain ⟨A, hA⟩ : ∃ A, (pwU p.flags).take k = A := ⟨_, rfl⟩
          rw [hA] at h1 hi hro hAl
          have HA := Lib.hid hA
          have hAl1 : A.length ≤ 1 := by omega
          have hd : decide ((2 : Int) < (A.length : Int) + 1) = false := decide_eq_false (by omega)
          have HAL := Lib.hid hAl
          clear hm hA hAl
          obtain ⟨av, cv, rfl⟩ := own_slice hro
          gi_wp2_with (first
            | (gi_at_builtin; refine wpListIn_app rfl _ _ 29 rfl pcS wr.heap.size rfl (hro.alloc _) rfl (pcS1 _ _ rfl _) (by simp [Value.oneCell']) (by simp [maxLen]; omega) (by omega) (by simp; omega) ?_; intro v' w1 hown' hgrow _ hat; obtain ⟨g', cap', rfl⟩ := ownsRow_succ hown'; obtain ⟨hv1, hbut, hstep⟩ := hi.step h1 h2 h3 hbW hown' hgrow hat; have HS := Lib.hid hstep; have HB := Lib.hid hbut; clear hstep hbut; have hc1 := hv1.cell; have hf1 := hv1.frozen; have hc2 := ((show RowAt w1 wr.heap.size #[.slice av A.length cv] 29 from hv1).set 0 (.slice (some ⟨g', 0, none⟩) (A.length + 1) cap')).cell (i := 0) rfl))
          exact ⟨HB.out, by show PcI wC wr.heap.size wr.heap.size (.slice none 0 0) ((pwU p.flags).take (k + 1)) _ _; rw [HTK.out, HA.out]; exact HS.out⟩
        case stop =>
          intro D c k G W _ _ _ hi _
          exact hi.elim
        case done =>
          rintro D1 G1 V1 hD1 hGD1 hi1 hK1
          rw [show (Prm.wantsL p.flags).length = (pwU p.flags).length from (pwU_len _).symm, List.take_length] at hi1
          have HI1 := Lib.hid hi1
          have HK1 := Lib.hid hK1
          clear hi1 hK1
          have O1 := Lib.hid (OC.out.but HI1.out.but (fun j h => by rcases h with h | h; have := HWR.out; omega; cases h) HLB.out)
          have OT := Lib.hid (O1.out.up (below_alloc V1 (.cells #[.int .i64 0] 3)))
          have x0 := OT.out.p.cell (i := 0) rfl
          have x1 := OT.out.p.cell (i := 1) rfl
          have x2 := OT.out.p.cell (i := 2) rfl
          have x3 := OT.out.p.cell (i := 3) rfl
          have x4 := OT.out.p.cell (i := 4) rfl
          have x5 := OT.out.p.cell (i := 5) rfl
          have x6 := OT.out.p.cell (i := 6) rfl
          have x7 := OT.out.p.cell (i := 7) rfl
          have x8 := OT.out.p.cell (i := 8) rfl
          have x9 := OT.out.p.cell (i := 9) rfl
          have x10 := OT.out.p.cell (i := 10) rfl
          go_wp2_with fail
          clear x0 x1 x2 x3 x4 x5 x6 x7 x8 x9 x10
          refine (HWA.out (V1.alloc (.cells #[.int .i64 0] 3))).mono ?_
          rintro en VE ⟨rfl, hVE⟩
          have hbE : Below (V1.alloc (.cells #[.int .i64 0] 3)).heap.size (V1.alloc (.cells #[.int .i64 0] 3)) VE := by rw [hVE]; exact below_alloc _ _
          have OE := Lib.hid (OT.out.up hbE)
          have CE := (CtR.start V1).up hbE
          have YE : RowAt VE (V1.heap.size + 1) (prC p).toArray 28 := by have h := RowAt.new (V1.alloc (.cells #[.int .i64 0] 3)) (prC p).toArray 28; rw [World.size_alloc] at h; rw [hVE]; exact h
          have HSE := Lib.hid (show VE.heap.size = V1.heap.size + 2 by rw [hVE]; simp)
          have HYE := Lib.hid YE
          have HCE := Lib.hid CE
          clear YE CE hbE hVE OT
          go_wp2
          refine wpIn_wide.1 (wp_range_brk (n := 3) (S := fun q => q = V1.heap.size + 1) (gf := 35) (lb := #[.pointer (some ⟨V1.heap.size + 1, 0, none⟩)]) rfl enters_prWn1
            (pwn1_x p HPO.out.f (V1.heap.size + 1) _ VE HYE.out rfl) (Below.refl _ _) (fun _ => rfl)
            (· = V1.heap.size) (fun k h => by rw [HSE.out]; omega) (fun k h => by rw [HSE.out]; omega)
            (fun k G W => k = 0 ∧ CtR V1 0 G W)
            (fun k a' G W => a' = { tmps := #[prV p, .int .i64 rank, .slice a i c, .pointer (some ⟨w.heap.size, 0, none⟩), undef, undef, .pointer (some ⟨w.heap.size + 1, 0, none⟩), .pointer (some ⟨w2.heap.size, 0, none⟩), .int .i64 e, .pointer (some ⟨w4.heap.size, 0, none⟩), .int .i64 i, .pointer (some ⟨wr.heap.size, 0, none⟩), undef, .pointer (some ⟨V1.heap.size, 0, none⟩), .int .u32 (pwAt p.flags k : Nat), undef, .slice a i c, .int .i64 i, .bool false, undef, .tuple #[.agg #[.int .u32 x0, .int .u32 x1, .int .u64 x2, .int .u32 x3], .int .i64 e], .agg #[.int .u32 p.flags, .int .i64 p.sum, .int .u32 p.toN, .int .u32 p.toS, .int .u32 p.srN, .int .u32 p.srS, .int .u32 p.rpN, .int .u32 p.rpS, .int .u64 p.time, .int .u32 p.seq, .int .u64 p.life], .tuple #[.agg #[.int .u32 x0, .int .u32 x1, .int .u64 x2, .int .u32 x3], .int .i64 e], .agg #[.int .u32 x0, .int .u32 x1, .int .u64 x2, .int .u32 x3], .int .i64 e, .agg #[.int .u32 p.flags, .int .i64 p.sum, .int .u32 p.toN, .int .u32 p.toS, .int .u32 p.srN, .int .u32 p.srS, .int .u32 p.rpN, .int .u32 p.rpS, .int .u64 p.time, .int .u32 p.seq, .int .u64 p.life], nmW p.srN p.srS p.time p.seq, .agg #[.int .u32 p.srN, .int .u32 p.srS, .int .u64 p.time, .int .u32 p.seq], .bool rb, .bool (!rb), u30, u31, u32, u33, u34, u35, u36, u37, u38, u39, u40, u41, u42, u43, u44, u45, .int .i64 i, .slice a i c, .int .i64 i, .bool false, u50, u51, u52, u53, u54, u55, u56, u57, u58, u59, u60, u61, u62, u63, u64, .agg #[.int .u32 p.flags, .int .i64 p.sum, .int .u32 p.toN, .int .u32 p.toS, .int .u32 p.srN, .int .u32 p.srS, .int .u32 p.rpN, .int .u32 p.rpS, .int .u64 p.time, .int .u32 p.seq, .int .u64 p.life], .func (.func 35) #[] #[.pointer (some ⟨wr.heap.size + 1, 0, none⟩)], .bool false, .agg #[.int .u32 p.flags, .int .i64 p.sum, .int .u32 p.toN, .int .u32 p.toS, .int .u32 p.srN, .int .u32 p.srS, .int .u32 p.rpN, .int .u32 p.rpS, .int .u64 p.time, .int .u32 p.seq, .int .u64 p.life], .func (.func 35) #[] #[.pointer (some ⟨wr.heap.size + 1 + 1, 0, none⟩)], undef, undef, undef, undef, undef, undef, undef, undef, .agg #[.int .u32 p.flags, .int .i64 p.sum, .int .u32 p.toN, .int .u32 p.toS, .int .u32 p.srN, .int .u32 p.srS, .int .u32 p.rpN, .int .u32 p.rpS, .int .u64 p.time, .int .u32 p.seq, .int .u64 p.life], .func (.func 35) #[] #[.pointer (some ⟨V1.heap.size + 1, 0, none⟩)], .int .u32 (pwAt p.flags k : Nat), undef, undef, undef, undef, undef, undef, undef, undef, undef, undef, undef, undef, undef, undef, undef, undef, undef, undef, undef, undef, undef, undef, undef, undef, undef, undef, undef, undef, undef, undef, undef, undef, undef, undef, undef, undef, undef, undef, undef, undef, undef, undef, undef, undef, undef, undef, undef, undef, undef, undef, undef, undef, undef, undef, undef, undef, undef, undef, undef, undef, undef, undef, undef, undef, undef, undef, undef, undef, undef, undef, undef, undef, undef, undef, undef, undef, undef, undef, undef, undef], defers := [] } ∧ k = 0 ∧ CtR V1 0 G W)
            (fun k G W => k = 1 ∧ CtR V1 (pwAt p.flags 0) G W)
            (fun k G A B h hb => ⟨h.1, CtR.abide (by rw [HSE.out]; omega) G A B h.2 hb⟩) (fun k a' G A B h hb => ⟨h.1, h.2.1, CtR.abide (B := VE.heap.size) (by rw [HSE.out]; omega) G A B h.2.2 hb⟩) (fun k G A B h hb => ⟨h.1, CtR.abide (by rw [HSE.out]; omega) G A B h.2 hb⟩) ⟨rfl, HCE.out⟩ ?assign ?body ?done)
          case assign =>
            intro l2 k G W K hk hi hK
            obtain ⟨rfl, hi⟩ := hi
            simp only [pwArgs]
            gi_wp2
            exact hK _ _ (But.refl _ _) ⟨rfl, (by first | rfl | trivial), hi.below, hi.cnt, newG_old hi.g0, fun j h => by rcases h with h | h; exact hi.glow j h; (have := hi.below.size; omega)⟩
          case body =>
            rintro l2 k a' G W hk hl2 hl3 hGl ⟨rfl, hk0, hi⟩
            subst hk0
            have c0 := hi.cnt.cell (i := 0) (v := .int .i64 0) rfl
            have f0 := hi.cnt.fz 0
            have hpl := pwAt_lt (f := p.flags) (k := 0)
            have hpt := Lib.hid (hi.put (pwAt p.flags 0))
            clear hk hi
            obtain ⟨m, hm⟩ : ∃ m, pwAt p.flags 0 = m := ⟨_, rfl⟩
            rw [hm] at hpl hpt ⊢
            have hw1 : IntKind.i64.wrap (m : Int) = (m : Int) := by rw [IntKind.wrap_i64]; omega
            have HM := Lib.hid hm
            clear hm
            gi_wp2
            exact ⟨hpt.out.1, rfl, rfl, hpt.out.2⟩
          case done =>
            rintro D2 G2 V2 k2 hD2 hGD2 hcase hK2
            obtain ⟨two, h2, hR2⟩ : ∃ two, pwTwo p.flags = two ∧ CtR V1 two G2 V2 := by
              unfold pwTwo
              rcases hcase with ⟨h1, h2, h3⟩ | ⟨h1, h2, h3⟩
              · exact ⟨0, by rw [if_pos (by omega)], h3⟩
              · exact ⟨_, by rw [if_neg (by omega)], h3⟩
            have HTW := Lib.hid h2
            have HR2 := Lib.hid hR2
            have HK2 := Lib.hid hK2
            have O2 := Lib.hid (O1.out.up hR2.below)
            have HD2 := Lib.hid (show V1.heap.size + 2 ≤ D2 by rw [HSE.out] at hD2; exact hD2)
            have HD1 := Lib.hid (show wr.heap.size + 3 ≤ D1 ∧ D1 < V1.heap.size by rw [HSZ.out] at hD1; exact ⟨hD1, (Array.getElem?_eq_some_iff.1 HK1.out).1⟩)
            have HM1 := Lib.hid (show V2.heap[D1]? = some (.deferred (some [])) from (hR2.below.block D1 HD1.out.2).trans HK1.out)
            obtain ⟨v1, h1, h2, h3⟩ := HI1.out.acc
            have HV1 := Lib.hid (h1.up hR2.below)
            clear hcase h1 h2 h3 hR2 hK2 hD2 hGD2 hD1 HI1 HK1 O1 OE OC
            have hr2 := rHas_c p HPO.out.f 2 (by decide)
            have hr3 := rHas_c p HPO.out.f 32 (by decide)
            have hw0 := World.ownsRow_lit V2 #[] 0 (size := 1) (e := 22) (Nat.le_refl _) (by decide) rfl
            cases hb2 : Prm.hasB p.flags 2 with
            | true =>
              rw [hb2] at hr2
              cases hb3 : Prm.hasB p.flags 32 with
              | true =>
                rw [hb3] at hr3
                have hU : pwU p.flags = [2, 32] := by unfold pwU Prm.wantsL; simp [hb2, hb3]
                have h1 := HV1.out
                rw [hU] at h1
                have hTw : two = 2 := by rw [← HTW.out]; unfold pwTwo pwAt Prm.wantsL; simp [hb2, hb3]
                subst hTw
                have H1 := Lib.hid h1
                have HRA := Lib.hid hr2
                have HRB := Lib.hid hr3
                have HW0 := Lib.hid hw0
                clear hU h1 hr2 hr3 hw0 hb2 hb3
                have Bq := below_alloc V2 (.cells #[] 22)
                have O3 := O2.out.up Bq
                have HBq := Lib.hid Bq
                have x0 := O3.p.cell (i := 0) rfl
                have x1 := O3.p.cell (i := 1) rfl
                have x2 := O3.p.cell (i := 2) rfl
                have x3 := O3.p.cell (i := 3) rfl
                have x4 := O3.p.cell (i := 4) rfl
                have x5 := O3.p.cell (i := 5) rfl
                have x6 := O3.p.cell (i := 6) rfl
                have x7 := O3.p.cell (i := 7) rfl
                have x8 := O3.p.cell (i := 8) rfl
                have x9 := O3.p.cell (i := 9) rfl
                have x10 := O3.p.cell (i := 10) rfl
                clear Bq O3
                go_wp2_with fail
                clear x0 x1 x2 x3 x4 x5 x6 x7 x8 x9 x10
                refine (HRA.out _).mono ?_
                rintro en W4 ⟨rfl, hb4⟩
                have B4 := below_up HBq.out hb4
                have own4 := Lib.hid (own_up HW0.out hb4)
                clear hb4
                go_wp2_with (at_builtin; go_loud (refine wpList_app (n := 0) (m := 1) rfl _ _ 29 rfl pcS V2.heap.size rfl (own_up own4.out (below_alloc _ _)) rfl (pcS1 _ _ rfl 2) (by simp [Value.oneCell']) (by simp [maxLen]) (by decide) (B4.alloc B4.size _).size ?_); intro v5 W5 hownW5 hgrow _; have BW5 := grown_below (B4.alloc B4.size _) hgrow (fun k hk => (own_of_some own4.out hk).1); have Ox := O2.out.up BW5; have x0 := Ox.p.cell (i := 0) rfl; have x1 := Ox.p.cell (i := 1) rfl; have x2 := Ox.p.cell (i := 2) rfl; have x3 := Ox.p.cell (i := 3) rfl; have x4 := Ox.p.cell (i := 4) rfl; have x5 := Ox.p.cell (i := 5) rfl; have x6 := Ox.p.cell (i := 6) rfl; have x7 := Ox.p.cell (i := 7) rfl; have x8 := Ox.p.cell (i := 8) rfl; have x9 := Ox.p.cell (i := 9) rfl; have x10 := Ox.p.cell (i := 10) rfl)
                have own5 := Lib.hid hownW5
                clear hownW5 hgrow Ox
                clear x0 x1 x2 x3 x4 x5 x6 x7 x8 x9 x10
                refine (HRB.out _).mono ?_
                rintro en W6 ⟨rfl, hb6⟩
                have B6 := below_up BW5 hb6
                have own6 := Lib.hid (own_up own5.out hb6)
                clear hb6
                go_wp2_with (at_builtin; go_loud (refine wpList_app (n := 1) (m := 1) rfl _ _ 29 rfl pcS V2.heap.size rfl (own_up own6.out (below_alloc _ _)) rfl (pcS1 _ _ rfl 32) (by simp [Value.oneCell']) (by simp [maxLen]) (by decide) (B6.alloc B6.size _).size ?_); intro v7 W7 hownW7 hgrow _; have BW7 := grown_below (B6.alloc B6.size _) hgrow (fun k hk => (own_of_some own6.out hk).1); have Ox := O2.out.up BW7; have x0 := Ox.p.cell (i := 0) rfl; have x1 := Ox.p.cell (i := 1) rfl; have x2 := Ox.p.cell (i := 2) rfl; have x3 := Ox.p.cell (i := 3) rfl; have x4 := Ox.p.cell (i := 4) rfl; have x5 := Ox.p.cell (i := 5) rfl; have x6 := Ox.p.cell (i := 6) rfl; have x7 := Ox.p.cell (i := 7) rfl; have x8 := Ox.p.cell (i := 8) rfl; have x9 := Ox.p.cell (i := 9) rfl; have x10 := Ox.p.cell (i := 10) rfl)
                have own7 := Lib.hid hownW7
                clear hownW7 hgrow Ox
                clear x0 x1 x2 x3 x4 x5 x6 x7 x8 x9 x10
                have HB := Lib.hid BW7
                have O8 := Lib.hid (O2.out.up BW7)
                have P8 := H1.out.up BW7
                have T8 := Lib.hid ((HR2.out.cnt).below BW7)
                have hown := own7.out
                obtain ⟨a1, c1, rfl⟩ := own_slice P8.row
                obtain ⟨ah, ch, hvh⟩ := own_slice hown
                subst hvh
                obtain ⟨g1, rfl, hg1, hg1l⟩ := own_some P8.row (by decide)
                obtain ⟨gh, rfl, hgh, hghl⟩ := own_some hown (by decide)
                have HE0 := Lib.hid (show W7.cell? ⟨g1, 0, none⟩ = some (.int .u32 2) by simpa using P8.row.cellAt 0 (by decide))
                have HH0 := Lib.hid (show W7.cell? ⟨gh, 0, none⟩ = some (.int .u32 2) by simpa using hown.cellAt 0 (by decide))
                have HE1 := Lib.hid (show W7.cell? ⟨g1, 1, none⟩ = some (.int .u32 32) by simpa using P8.row.cellAt 1 (by decide))
                have HH1 := Lib.hid (show W7.cell? ⟨gh, 1, none⟩ = some (.int .u32 32) by simpa using hown.cellAt 1 (by decide))
                have HA8 := Lib.hid P8.box.cell
                clear hown P8
                refine wp_onlyN ?_
                refine wp_region_ptL (fun _ => False) (.q 0 (.q 1 (.q 2 (.q 3 (.q 4 (.q 5 (.q 6 (.q 7 (.q 8 (.q 9 (.q 10 (.q 11 (.q 12 (.q 13 (.q 14 (.q 15 (.q 16 (.q 17 (.q 18 (.q 19 (.q 20 (.q 21 (.q 22 (.q 23 (.q 24 (.q 25 (.q 26 (.q 27 (.q 28 (.q 29 (.q 30 (.q 31 (.q 32 (.q 33 (.q 34 (.q 35 (.q 36 (.q 37 (.q 38 (.q 39 (.q 40 .done))))))))))))))))))))))))))))))))))))))))) (by kernel_rfl) (by kernel_rfl) (by kernel_rfl) (by decide) onlyN_panic (fun OPS HOP Wd hBd => ?_)
                try simp only [Act.put, List.getElem_toArray, List.getElem_cons_zero, List.getElem_cons_succ, List.setIfInBounds_toArray, List.set_cons_zero, List.set_cons_succ]
                have cA := cell_up hBd HA8.out
                have cT := cell_up hBd (T8.out.cell (i := 0) rfl)
                have e0 := cell_up hBd HE0.out
                have h0 := cell_up hBd HH0.out
                have e1 := cell_up hBd HE1.out
                have h1 := cell_up hBd HH1.out
                refine pt_q (v := ?_) (by rw [← HOP.out]; simp only [List.getElem?_toArray, List.getElem?_cons_zero, List.getElem?_cons_succ]; rfl) (by rw [← HOP.out]; kernel_rfl) ?_ ?_
                rotate_left
                · intro w' hBw'
                  have qL := hBw'.cell cA (fun e => e)
                  first | (go_simp; done) | (go_simp; with_reducible rfl)
                iterate 5
                  try simp only [Act.put, List.getElem_toArray, List.getElem_cons_zero, List.getElem_cons_succ, List.setIfInBounds_toArray, List.set_cons_zero, List.set_cons_succ]
                  refine pt_q (v := ?_) (by rw [← HOP.out]; simp only [List.getElem?_toArray, List.getElem?_cons_zero, List.getElem?_cons_succ]; rfl) (by rw [← HOP.out]; kernel_rfl) ?_ ?_
                  rotate_left
                  · intro w' hBw'
                    first | (go_simp; done) | (go_simp; with_reducible rfl)
                try simp only [Act.put, List.getElem_toArray, List.getElem_cons_zero, List.getElem_cons_succ, List.setIfInBounds_toArray, List.set_cons_zero, List.set_cons_succ]
                refine pt_q (v := ?_) (by rw [← HOP.out]; simp only [List.getElem?_toArray, List.getElem?_cons_zero, List.getElem?_cons_succ]; rfl) (by rw [← HOP.out]; kernel_rfl) ?_ ?_
                rotate_left
                · intro w' hBw'
                  have qL := hBw'.cell cA (fun e => e)
                  first | (go_simp; done) | (go_simp; with_reducible rfl)
                iterate 3
                  try simp only [Act.put, List.getElem_toArray, List.getElem_cons_zero, List.getElem_cons_succ, List.setIfInBounds_toArray, List.set_cons_zero, List.set_cons_succ]
                  refine pt_q (v := ?_) (by rw [← HOP.out]; simp only [List.getElem?_toArray, List.getElem?_cons_zero, List.getElem?_cons_succ]; rfl) (by rw [← HOP.out]; kernel_rfl) ?_ ?_
                  rotate_left
                  · intro w' hBw'
                    first | (go_simp; done) | (go_simp; with_reducible rfl)
                try simp only [Act.put, List.getElem_toArray, List.getElem_cons_zero, List.getElem_cons_succ, List.setIfInBounds_toArray, List.set_cons_zero, List.set_cons_succ]
                refine pt_q (v := ?_) (by rw [← HOP.out]; simp only [List.getElem?_toArray, List.getElem?_cons_zero, List.getElem?_cons_succ]; rfl) (by rw [← HOP.out]; kernel_rfl) ?_ ?_
                rotate_left
                · intro w' hBw'
                  have qL := hBw'.cell cA (fun e => e)
                  first | (go_simp; done) | (go_simp; with_reducible rfl)
                try simp only [Act.put, List.getElem_toArray, List.getElem_cons_zero, List.getElem_cons_succ, List.setIfInBounds_toArray, List.set_cons_zero, List.set_cons_succ]
                refine pt_q (v := ?_) (by rw [← HOP.out]; simp only [List.getElem?_toArray, List.getElem?_cons_zero, List.getElem?_cons_succ]; rfl) (by rw [← HOP.out]; kernel_rfl) ?_ ?_
                rotate_left
                · intro w' hBw'
                  first | (go_simp; done) | (go_simp; with_reducible rfl)
                try simp only [Act.put, List.getElem_toArray, List.getElem_cons_zero, List.getElem_cons_succ, List.setIfInBounds_toArray, List.set_cons_zero, List.set_cons_succ]
                refine pt_q (v := ?_) (by rw [← HOP.out]; simp only [List.getElem?_toArray, List.getElem?_cons_zero, List.getElem?_cons_succ]; rfl) (by rw [← HOP.out]; kernel_rfl) ?_ ?_
                rotate_left
                · intro w' hBw'
                  have qL := hBw'.cell e0 (fun e => e)
                  first | (go_simp; done) | (go_simp; with_reducible rfl)
                iterate 2
                  try simp only [Act.put, List.getElem_toArray, List.getElem_cons_zero, List.getElem_cons_succ, List.setIfInBounds_toArray, List.set_cons_zero, List.set_cons_succ]
                  refine pt_q (v := ?_) (by rw [← HOP.out]; simp only [List.getElem?_toArray, List.getElem?_cons_zero, List.getElem?_cons_succ]; rfl) (by rw [← HOP.out]; kernel_rfl) ?_ ?_
                  rotate_left
                  · intro w' hBw'
                    first | (go_simp; done) | (go_simp; with_reducible rfl)
                try simp only [Act.put, List.getElem_toArray, List.getElem_cons_zero, List.getElem_cons_succ, List.setIfInBounds_toArray, List.set_cons_zero, List.set_cons_succ]
                refine pt_q (v := ?_) (by rw [← HOP.out]; simp only [List.getElem?_toArray, List.getElem?_cons_zero, List.getElem?_cons_succ]; rfl) (by rw [← HOP.out]; kernel_rfl) ?_ ?_
                rotate_left
                · intro w' hBw'
                  have qL := hBw'.cell h0 (fun e => e)
                  first | (go_simp; done) | (go_simp; with_reducible rfl)
                iterate 2
                  try simp only [Act.put, List.getElem_toArray, List.getElem_cons_zero, List.getElem_cons_succ, List.setIfInBounds_toArray, List.set_cons_zero, List.set_cons_succ]
                  refine pt_q (v := ?_) (by rw [← HOP.out]; simp only [List.getElem?_toArray, List.getElem?_cons_zero, List.getElem?_cons_succ]; rfl) (by rw [← HOP.out]; kernel_rfl) ?_ ?_
                  rotate_left
                  · intro w' hBw'
                    first | (go_simp; done) | (go_simp; with_reducible rfl)
                try simp only [Act.put, List.getElem_toArray, List.getElem_cons_zero, List.getElem_cons_succ, List.setIfInBounds_toArray, List.set_cons_zero, List.set_cons_succ]
                refine pt_q (v := ?_) (by rw [← HOP.out]; simp only [List.getElem?_toArray, List.getElem?_cons_zero, List.getElem?_cons_succ]; rfl) (by rw [← HOP.out]; kernel_rfl) ?_ ?_
                rotate_left
                · intro w' hBw'
                  have qL := hBw'.cell cT (fun e => e)
                  first | (go_simp; done) | (go_simp; with_reducible rfl)
                iterate 2
                  try simp only [Act.put, List.getElem_toArray, List.getElem_cons_zero, List.getElem_cons_succ, List.setIfInBounds_toArray, List.set_cons_zero, List.set_cons_succ]
                  refine pt_q (v := ?_) (by rw [← HOP.out]; simp only [List.getElem?_toArray, List.getElem?_cons_zero, List.getElem?_cons_succ]; rfl) (by rw [← HOP.out]; kernel_rfl) ?_ ?_
                  rotate_left
                  · intro w' hBw'
                    first | (go_simp; done) | (go_simp; with_reducible rfl)
                try simp only [Act.put, List.getElem_toArray, List.getElem_cons_zero, List.getElem_cons_succ, List.setIfInBounds_toArray, List.set_cons_zero, List.set_cons_succ]
                refine pt_q (v := ?_) (by rw [← HOP.out]; simp only [List.getElem?_toArray, List.getElem?_cons_zero, List.getElem?_cons_succ]; rfl) (by rw [← HOP.out]; kernel_rfl) ?_ ?_
                rotate_left
                · intro w' hBw'
                  have qL := hBw'.cell h0 (fun e => e)
                  first | (go_simp; done) | (go_simp; with_reducible rfl)
                iterate 6
                  try simp only [Act.put, List.getElem_toArray, List.getElem_cons_zero, List.getElem_cons_succ, List.setIfInBounds_toArray, List.set_cons_zero, List.set_cons_succ]
                  refine pt_q (v := ?_) (by rw [← HOP.out]; simp only [List.getElem?_toArray, List.getElem?_cons_zero, List.getElem?_cons_succ]; rfl) (by rw [← HOP.out]; kernel_rfl) ?_ ?_
                  rotate_left
                  · intro w' hBw'
                    first | (go_simp; done) | (go_simp; with_reducible rfl)
                try simp only [Act.put, List.getElem_toArray, List.getElem_cons_zero, List.getElem_cons_succ, List.setIfInBounds_toArray, List.set_cons_zero, List.set_cons_succ]
                refine pt_q (v := ?_) (by rw [← HOP.out]; simp only [List.getElem?_toArray, List.getElem?_cons_zero, List.getElem?_cons_succ]; rfl) (by rw [← HOP.out]; kernel_rfl) ?_ ?_
                rotate_left
                · intro w' hBw'
                  have qL := hBw'.cell cA (fun e => e)
                  first | (go_simp; done) | (go_simp; with_reducible rfl)
                iterate 3
                  try simp only [Act.put, List.getElem_toArray, List.getElem_cons_zero, List.getElem_cons_succ, List.setIfInBounds_toArray, List.set_cons_zero, List.set_cons_succ]
                  refine pt_q (v := ?_) (by rw [← HOP.out]; simp only [List.getElem?_toArray, List.getElem?_cons_zero, List.getElem?_cons_succ]; rfl) (by rw [← HOP.out]; kernel_rfl) ?_ ?_
                  rotate_left
                  · intro w' hBw'
                    first | (go_simp; done) | (go_simp; with_reducible rfl)
                try simp only [Act.put, List.getElem_toArray, List.getElem_cons_zero, List.getElem_cons_succ, List.setIfInBounds_toArray, List.set_cons_zero, List.set_cons_succ]
                refine pt_q (v := ?_) (by rw [← HOP.out]; simp only [List.getElem?_toArray, List.getElem?_cons_zero, List.getElem?_cons_succ]; rfl) (by rw [← HOP.out]; kernel_rfl) ?_ ?_
                rotate_left
                · intro w' hBw'
                  have qL := hBw'.cell cA (fun e => e)
                  first | (go_simp; done) | (go_simp; with_reducible rfl)
                try simp only [Act.put, List.getElem_toArray, List.getElem_cons_zero, List.getElem_cons_succ, List.setIfInBounds_toArray, List.set_cons_zero, List.set_cons_succ]
                refine pt_q (v := ?_) (by rw [← HOP.out]; simp only [List.getElem?_toArray, List.getElem?_cons_zero, List.getElem?_cons_succ]; rfl) (by rw [← HOP.out]; kernel_rfl) ?_ ?_
                rotate_left
                · intro w' hBw'
                  first | (go_simp; done) | (go_simp; with_reducible rfl)
                try simp only [Act.put, List.getElem_toArray, List.getElem_cons_zero, List.getElem_cons_succ, List.setIfInBounds_toArray, List.set_cons_zero, List.set_cons_succ]
                refine pt_q (v := ?_) (by rw [← HOP.out]; simp only [List.getElem?_toArray, List.getElem?_cons_zero, List.getElem?_cons_succ]; rfl) (by rw [← HOP.out]; kernel_rfl) ?_ ?_
                rotate_left
                · intro w' hBw'
                  have qL := hBw'.cell e1 (fun e => e)
                  first | (go_simp; done) | (go_simp; with_reducible rfl)
                iterate 2
                  try simp only [Act.put, List.getElem_toArray, List.getElem_cons_zero, List.getElem_cons_succ, List.setIfInBounds_toArray, List.set_cons_zero, List.set_cons_succ]
                  refine pt_q (v := ?_) (by rw [← HOP.out]; simp only [List.getElem?_toArray, List.getElem?_cons_zero, List.getElem?_cons_succ]; rfl) (by rw [← HOP.out]; kernel_rfl) ?_ ?_
                  rotate_left
                  · intro w' hBw'
                    first | (go_simp; done) | (go_simp; with_reducible rfl)
                try simp only [Act.put, List.getElem_toArray, List.getElem_cons_zero, List.getElem_cons_succ, List.setIfInBounds_toArray, List.set_cons_zero, List.set_cons_succ]
                refine pt_q (v := ?_) (by rw [← HOP.out]; simp only [List.getElem?_toArray, List.getElem?_cons_zero, List.getElem?_cons_succ]; rfl) (by rw [← HOP.out]; kernel_rfl) ?_ ?_
                rotate_left
                · intro w' hBw'
                  have qL := hBw'.cell h1 (fun e => e)
                  first | (go_simp; done) | (go_simp; with_reducible rfl)
                iterate 3
                  try simp only [Act.put, List.getElem_toArray, List.getElem_cons_zero, List.getElem_cons_succ, List.setIfInBounds_toArray, List.set_cons_zero, List.set_cons_succ]
                  refine pt_q (v := ?_) (by rw [← HOP.out]; simp only [List.getElem?_toArray, List.getElem?_cons_zero, List.getElem?_cons_succ]; rfl) (by rw [← HOP.out]; kernel_rfl) ?_ ?_
                  rotate_left
                  · intro w' hBw'
                    first | (go_simp; done) | (go_simp; with_reducible rfl)
                try simp only [Act.put, List.getElem_toArray, List.getElem_cons_zero, List.getElem_cons_succ, List.setIfInBounds_toArray, List.set_cons_zero, List.set_cons_succ]
                refine pt_doneN ?_
                have HB9 := Lib.hid (below_up HB.out hBd)
                have O9 := Lib.hid (O8.out.up hBd)
                clear hBd cA cT e0 h0 e1 h1
                go_wp2
                obtain ⟨FN, hFN⟩ : ∃ k : Nat, Prm.flagsN rank l = k := ⟨_, rfl⟩
                obtain ⟨RN, hRN⟩ : ∃ k : Nat, Prm.rankN p.flags = k := ⟨_, rfl⟩
                obtain ⟨EN, hEN⟩ : ∃ k : Int, Clk.addF p.time p.life = k := ⟨_, rfl⟩
                have hf1 : ∀ W, Sl W 1 (.slice a i c) i (l.map fun q : Nat => Value.int .u32 q) → Calls Tryz.prog 16 #[.int .i64 rank, .slice a i c] W (Ret (.int .u32 (FN : Nat)) W) := fun W hv => by have h := prFlagsOf_c rank HRK.out l (.slice a i c) W (by rw [HN.out]; exact hv) HLW.out; rw [hFN] at h; exact h
                have hf2 : ∀ W, Sl W 1 (.slice a i c) i (l.map fun q : Nat => Value.int .u32 q) → Calls Tryz.prog 17 #[.int .i64 rank, .slice a i c] W (Ret (.int .u32 (FN : Nat)) W) := fun W hv => by have h := rFlagsOf_c rank HRK.out l (.slice a i c) W (by rw [HN.out]; exact hv) HLW.out; rw [hFN] at h; exact h
                have hk1 := prRank_c p HPO.out.f
                have hk2 := rRank_c p HPO.out.f
                simp only [hRN] at hk1 hk2
                have hx1 := prExpires_c p
                have hx2 := rExpires_c p
                simp only [hEN] at hx1 hx2
                have Khf1 := Lib.hid hf1
                have Khf2 := Lib.hid hf2
                have Khk1 := Lib.hid hk1
                have Khk2 := Lib.hid hk2
                have Khx1 := Lib.hid hx1
                have Khx2 := Lib.hid hx2
                clear hf1 hf2 hk1 hk2 hx1 hx2 hFN hRN hEN
                refine wp_onlyN ?_
                refine wp_region_ptL (fun q => q = w.heap.size + 1) (.q 0 (.q 1 (.q 3 (.q 4 (.c 2 (.c 5 (.q 6 (.q 7 (.q 8 (.q 10 (.c 9 (.c 11 (.q 12 (.q 13 (.q 14 (.q 15 (.q 17 (.c 16 (.c 18 (.q 19 (.q 20 (.q 21 (.c 22 (.q 23 (.c 24 .done))))))))))))))))))))))))) (by kernel_rfl) (by kernel_rfl) (by kernel_rfl) (by decide) onlyN_panic (fun OPS HOP Wd hBd => ?_)
                try simp only [Act.put, List.getElem_toArray, List.getElem_cons_zero, List.getElem_cons_succ, List.setIfInBounds_toArray, List.set_cons_zero, List.set_cons_succ]
                have O10 := O9.out.up hBd
                iterate 4
                  refine pt_q (v := ?_) (by rw [← HOP.out]; simp only [List.getElem?_toArray, List.getElem?_cons_zero, List.getElem?_cons_succ]; rfl) (by rw [← HOP.out]; kernel_rfl) ?_ ?_
                  rotate_left
                  · intro w' hBw'
                    first | (go_simp; done) | (go_simp; with_reducible rfl)
                  try simp only [Act.put, List.getElem_toArray, List.getElem_cons_zero, List.getElem_cons_succ, List.setIfInBounds_toArray, List.set_cons_zero, List.set_cons_succ]
                refine pt_c ?_
                refine pt_step (by rw [← HOP.out]; simp only [List.getElem?_toArray, List.getElem?_cons_zero, List.getElem?_cons_succ]; rfl) (by rw [← HOP.out]; kernel_rfl) (fun K hK => ?_)
                go_simp
                refine (Khf1.out _ O10.l).mono ?_
                rintro en va ⟨rfl, hbva⟩
                have O11 := O10.up hbva
                refine hK.out _ _ (But.of_below hbva) ?_
                clear hK K
                try simp only [Act.put, List.getElem_toArray, List.getElem_cons_zero, List.getElem_cons_succ, List.setIfInBounds_toArray, List.set_cons_zero, List.set_cons_succ]
                refine pt_c ?_
                refine pt_step (by rw [← HOP.out]; simp only [List.getElem?_toArray, List.getElem?_cons_zero, List.getElem?_cons_succ]; rfl) (by rw [← HOP.out]; kernel_rfl) (fun K hK => ?_)
                go_simp
                refine (Khf2.out _ O11.l).mono ?_
                rintro en vb ⟨rfl, hbvb⟩
                have O12 := O11.up hbvb
                refine hK.out _ _ (But.of_below hbvb) ?_
                clear hK K
                iterate 2
                  try simp only [Act.put, List.getElem_toArray, List.getElem_cons_zero, List.getElem_cons_succ, List.setIfInBounds_toArray, List.set_cons_zero, List.set_cons_succ]
                  refine pt_q (v := ?_) (by rw [← HOP.out]; simp only [List.getElem?_toArray, List.getElem?_cons_zero, List.getElem?_cons_succ]; rfl) (by rw [← HOP.out]; kernel_rfl) ?_ ?_
                  rotate_left
                  · intro w' hBw'
                    first | (go_simp; done) | (go_simp; with_reducible rfl)
                try simp only [Act.put, List.getElem_toArray, List.getElem_cons_zero, List.getElem_cons_succ, List.setIfInBounds_toArray, List.set_cons_zero, List.set_cons_succ]
                have P1 : RowAt vb w.heap.size (prC p).toArray 28 := O12.p
                iterate 2
                  refine pt_load (by rw [← HOP.out]; simp only [List.getElem?_toArray, List.getElem?_cons_zero, List.getElem?_cons_succ]; rfl) (by rw [← HOP.out]; kernel_rfl) 28 (.tmp 3) rfl w.heap.size 0 rfl (prC p) _ P1.range (fun h => by have h2 : w.heap.size = w.heap.size + 1 := h; omega) Tryz.underlying28 rfl (by kernel_rfl) ?_
                  try simp only [Act.put, List.getElem_toArray, List.getElem_cons_zero, List.getElem_cons_succ, List.setIfInBounds_toArray, List.set_cons_zero, List.set_cons_succ]
                refine pt_c ?_
                refine pt_step (by rw [← HOP.out]; simp only [List.getElem?_toArray, List.getElem?_cons_zero, List.getElem?_cons_succ]; rfl) (by rw [← HOP.out]; kernel_rfl) (fun K hK => ?_)
                go_simp
                refine (Khk1.out _).mono ?_
                rintro en vc ⟨rfl, hbvc⟩
                have O13 := O12.up hbvc
                refine hK.out _ _ (But.of_below hbvc) ?_
                clear hK K
                try simp only [Act.put, List.getElem_toArray, List.getElem_cons_zero, List.getElem_cons_succ, List.setIfInBounds_toArray, List.set_cons_zero, List.set_cons_succ]
                refine pt_c ?_
                refine pt_step (by rw [← HOP.out]; simp only [List.getElem?_toArray, List.getElem?_cons_zero, List.getElem?_cons_succ]; rfl) (by rw [← HOP.out]; kernel_rfl) (fun K hK => ?_)
                go_simp
                refine (Khk2.out _).mono ?_
                rintro en vd ⟨rfl, hbvd⟩
                have O14 := O13.up hbvd
                refine hK.out _ _ (But.of_below hbvd) ?_
                clear hK K
                iterate 3
                  try simp only [Act.put, List.getElem_toArray, List.getElem_cons_zero, List.getElem_cons_succ, List.setIfInBounds_toArray, List.set_cons_zero, List.set_cons_succ]
                  refine pt_q (v := ?_) (by rw [← HOP.out]; simp only [List.getElem?_toArray, List.getElem?_cons_zero, List.getElem?_cons_succ]; rfl) (by rw [← HOP.out]; kernel_rfl) ?_ ?_
                  rotate_left
                  · intro w' hBw'
                    first | (go_simp; done) | (go_simp; with_reducible rfl)
                try simp only [Act.put, List.getElem_toArray, List.getElem_cons_zero, List.getElem_cons_succ, List.setIfInBounds_toArray, List.set_cons_zero, List.set_cons_succ]
                have P2 : RowAt vd w.heap.size (prC p).toArray 28 := O14.p
                iterate 2
                  refine pt_load (by rw [← HOP.out]; simp only [List.getElem?_toArray, List.getElem?_cons_zero, List.getElem?_cons_succ]; rfl) (by rw [← HOP.out]; kernel_rfl) 28 (.tmp 3) rfl w.heap.size 0 rfl (prC p) _ P2.range (fun h => by have h2 : w.heap.size = w.heap.size + 1 := h; omega) Tryz.underlying28 rfl (by kernel_rfl) ?_
                  try simp only [Act.put, List.getElem_toArray, List.getElem_cons_zero, List.getElem_cons_succ, List.setIfInBounds_toArray, List.set_cons_zero, List.set_cons_succ]
                refine pt_c ?_
                refine pt_step (by rw [← HOP.out]; simp only [List.getElem?_toArray, List.getElem?_cons_zero, List.getElem?_cons_succ]; rfl) (by rw [← HOP.out]; kernel_rfl) (fun K hK => ?_)
                go_simp
                refine (Khx1.out _).mono ?_
                rintro en ve ⟨rfl, hbve⟩
                have O15 := O14.up hbve
                refine hK.out _ _ (But.of_below hbve) ?_
                clear hK K
                try simp only [Act.put, List.getElem_toArray, List.getElem_cons_zero, List.getElem_cons_succ, List.setIfInBounds_toArray, List.set_cons_zero, List.set_cons_succ]
                refine pt_c ?_
                refine pt_step (by rw [← HOP.out]; simp only [List.getElem?_toArray, List.getElem?_cons_zero, List.getElem?_cons_succ]; rfl) (by rw [← HOP.out]; kernel_rfl) (fun K hK => ?_)
                go_simp
                refine (Khx2.out _).mono ?_
                rintro en vf ⟨rfl, hbvf⟩
                have O16 := O15.up hbvf
                refine hK.out _ _ (But.of_below hbvf) ?_
                clear hK K
                iterate 3
                  try simp only [Act.put, List.getElem_toArray, List.getElem_cons_zero, List.getElem_cons_succ, List.setIfInBounds_toArray, List.set_cons_zero, List.set_cons_succ]
                  refine pt_q (v := ?_) (by rw [← HOP.out]; simp only [List.getElem?_toArray, List.getElem?_cons_zero, List.getElem?_cons_succ]; rfl) (by rw [← HOP.out]; kernel_rfl) ?_ ?_
                  rotate_left
                  · intro w' hBw'
                    first | (go_simp; done) | (go_simp; with_reducible rfl)
                try simp only [Act.put, List.getElem_toArray, List.getElem_cons_zero, List.getElem_cons_succ, List.setIfInBounds_toArray, List.set_cons_zero, List.set_cons_succ]
                refine pt_c ?_
                refine pt_step (by rw [← HOP.out]; simp only [List.getElem?_toArray, List.getElem?_cons_zero, List.getElem?_cons_succ]; rfl) (by rw [← HOP.out]; kernel_rfl) (fun K hK => ?_)
                go_simp
                refine (prWorks_c _ (HT0.out.up O16.below)).mono ?_
                rintro en vg ⟨rfl, hbvg⟩
                have O17 := O16.up hbvg
                refine hK.out _ _ (But.of_below hbvg) ?_
                clear hK K
                try simp only [Act.put, List.getElem_toArray, List.getElem_cons_zero, List.getElem_cons_succ, List.setIfInBounds_toArray, List.set_cons_zero, List.set_cons_succ]
                refine pt_q (v := ?_) (by rw [← HOP.out]; simp only [List.getElem?_toArray, List.getElem?_cons_zero, List.getElem?_cons_succ]; rfl) (by rw [← HOP.out]; kernel_rfl) ?_ ?_
                rotate_left
                · intro w' hBw'
                  first | (go_simp; done) | (go_simp; with_reducible rfl)
                try simp only [Act.put, List.getElem_toArray, List.getElem_cons_zero, List.getElem_cons_succ, List.setIfInBounds_toArray, List.set_cons_zero, List.set_cons_succ]
                have rz := O17.res.cell (i := 0) rfl
                have rf := O17.res.fz 0
                refine pt_c ?_
                refine pt_step (by rw [← HOP.out]; simp only [List.getElem?_toArray, List.getElem?_cons_zero, List.getElem?_cons_succ]; rfl) (by rw [← HOP.out]; kernel_rfl) (fun K hK => ?_)
                go_simp
                refine hK.out _ _ (But.setCell _ _ _ (.inl rfl)) ?_
                clear hK K
                try simp only [Act.put, List.getElem_toArray, List.getElem_cons_zero, List.getElem_cons_succ, List.setIfInBounds_toArray, List.set_cons_zero, List.set_cons_succ]
                refine pt_doneN ?_
                have HBZ := Lib.hid (below_up (below_up (below_up (below_up (below_up (below_up (below_up (below_up HB9.out hBd) hbva) hbvb) hbvc) hbvd) hbve) hbvf) hbvg)
                have HOZ := Lib.hid O17
                clear hBd hbva hbvb hbvc hbvd hbve hbvf hbvg O10 O11 O12 O13 O14 O15 O16 O17 P1 P2 rz rf
                go_wp2
                have hx4 := HOZ.out.res.set 0 (.bool true)
                have d1 := HD1.out
                have d2 := HD2.out
                have d3 := HWR.out
                have hDm : ∀ D ∈ [D2, D1], D ≠ w.heap.size + 1 := fun D hD => by simp only [List.mem_cons, List.not_mem_nil, or_false] at hD; rcases hD with rfl | rfl <;> omega
                have hDk : ∀ D ∈ [D2, D1], V2.heap[D]? = some (.deferred (some [])) := fun D hD => by simp only [List.mem_cons, List.not_mem_nil, or_false] at hD; rcases hD with rfl | rfl; exact HK2.out; exact HM1.out
                have hDl : ∀ D ∈ [D2, D1], w.heap.size ≤ D := fun D hD => by simp only [List.mem_cons, List.not_mem_nil, or_false] at hD; rcases hD with rfl | rfl <;> omega
                refine leaves_marks [D2, D1] _ (by simp; omega) (fun D hD => ?_) (fun w9 hb9 => ?_)
                · have hm := hDk D hD
                  have hDlt : D < V2.heap.size := (Array.getElem?_eq_some_iff.1 hm).1
                  rw [Below.heap_setCell _ _ _ _ (by simpa using hDm D hD)]
                  exact (HBZ.out.block D hDlt).trans hm
                · have hx5 := (hb9.same _ hx4.lt (fun hD => hDm _ hD rfl)).trans hx4
                  have hx5c := RowAt.cell (i := 0) (v := .bool true) hx5 rfl
                  refine ⟨.bool true, by simp [results, Tryz.results3, go_sem, hx5c], rfl, ?_⟩
                  have hB3 := HOZ.out.below.setCell (show w.heap.size ≤ (⟨w.heap.size + 1, 0, none⟩ : Addr).block by simp) (.bool true)
                  exact hB3.trans (hb9.below (fun D hD => hDl D hD) hB3.size)
              | false =>
                rw [hb3] at hr3
                have hU : pwU p.flags = [2] := by unfold pwU Prm.wantsL; simp [hb2, hb3]
                have h1 := HV1.out
                rw [hU] at h1
                have hTw : two = 2 := by rw [← HTW.out]; unfold pwTwo pwAt Prm.wantsL; simp [hb2, hb3]
                subst hTw
                have H1 := Lib.hid h1
                have HRA := Lib.hid hr2
                have HRB := Lib.hid hr3
                have HW0 := Lib.hid hw0
                clear hU h1 hr2 hr3 hw0 hb2 hb3
                have Bq := below_alloc V2 (.cells #[] 22)
                have O3 := O2.out.up Bq
                have HBq := Lib.hid Bq
                have x0 := O3.p.cell (i := 0) rfl
                have x1 := O3.p.cell (i := 1) rfl
                have x2 := O3.p.cell (i := 2) rfl
                have x3 := O3.p.cell (i := 3) rfl
                have x4 := O3.p.cell (i := 4) rfl
                have x5 := O3.p.cell (i := 5) rfl
                have x6 := O3.p.cell (i := 6) rfl
                have x7 := O3.p.cell (i := 7) rfl
                have x8 := O3.p.cell (i := 8) rfl
                have x9 := O3.p.cell (i := 9) rfl
                have x10 := O3.p.cell (i := 10) rfl
                clear Bq O3
                go_wp2_with fail
                clear x0 x1 x2 x3 x4 x5 x6 x7 x8 x9 x10
                refine (HRA.out _).mono ?_
                rintro en W4 ⟨rfl, hb4⟩
                have B4 := below_up HBq.out hb4
                have own4 := Lib.hid (own_up HW0.out hb4)
                clear hb4
                go_wp2_with (at_builtin; go_loud (refine wpList_app (n := 0) (m := 1) rfl _ _ 29 rfl pcS V2.heap.size rfl (own_up own4.out (below_alloc _ _)) rfl (pcS1 _ _ rfl 2) (by simp [Value.oneCell']) (by simp [maxLen]) (by decide) (B4.alloc B4.size _).size ?_); intro v5 W5 hownW5 hgrow _; have BW5 := grown_below (B4.alloc B4.size _) hgrow (fun k hk => (own_of_some own4.out hk).1); have Ox := O2.out.up BW5; have x0 := Ox.p.cell (i := 0) rfl; have x1 := Ox.p.cell (i := 1) rfl; have x2 := Ox.p.cell (i := 2) rfl; have x3 := Ox.p.cell (i := 3) rfl; have x4 := Ox.p.cell (i := 4) rfl; have x5 := Ox.p.cell (i := 5) rfl; have x6 := Ox.p.cell (i := 6) rfl; have x7 := Ox.p.cell (i := 7) rfl; have x8 := Ox.p.cell (i := 8) rfl; have x9 := Ox.p.cell (i := 9) rfl; have x10 := Ox.p.cell (i := 10) rfl)
                have own5 := Lib.hid hownW5
                clear hownW5 hgrow Ox
                clear x0 x1 x2 x3 x4 x5 x6 x7 x8 x9 x10
                refine (HRB.out _).mono ?_
                rintro en W6 ⟨rfl, hb6⟩
                have B6 := below_up BW5 hb6
                have own6 := Lib.hid (own_up own5.out hb6)
                clear hb6
                go_wp2_with fail
                have HB := Lib.hid B6
                have O8 := Lib.hid (O2.out.up B6)
                have P8 := H1.out.up B6
                have T8 := Lib.hid ((HR2.out.cnt).below B6)
                have hown := own6.out
                obtain ⟨a1, c1, rfl⟩ := own_slice P8.row
                obtain ⟨ah, ch, hvh⟩ := own_slice hown
                subst hvh
                obtain ⟨g1, rfl, hg1, hg1l⟩ := own_some P8.row (by decide)
                obtain ⟨gh, rfl, hgh, hghl⟩ := own_some hown (by decide)
                have HE0 := Lib.hid (show W6.cell? ⟨g1, 0, none⟩ = some (.int .u32 2) by simpa using P8.row.cellAt 0 (by decide))
                have HH0 := Lib.hid (show W6.cell? ⟨gh, 0, none⟩ = some (.int .u32 2) by simpa using hown.cellAt 0 (by decide))
                have HA8 := Lib.hid P8.box.cell
                clear hown P8
                refine wp_onlyN ?_
                refine wp_region_ptL (fun _ => False) (.q 0 (.q 1 (.q 2 (.q 3 (.q 4 (.q 5 (.q 6 (.q 7 (.q 8 (.q 9 (.q 10 (.q 11 (.q 12 (.q 13 (.q 14 (.q 15 (.q 16 (.q 17 (.q 18 (.q 19 (.q 20 (.q 21 (.q 22 (.q 23 (.q 24 (.q 25 (.q 26 (.q 27 (.q 28 (.q 29 (.q 30 (.q 31 (.q 32 (.q 33 (.q 34 (.q 35 (.q 36 (.q 37 (.q 38 (.q 39 (.q 40 .done))))))))))))))))))))))))))))))))))))))))) (by kernel_rfl) (by kernel_rfl) (by kernel_rfl) (by decide) onlyN_panic (fun OPS HOP Wd hBd => ?_)
                try simp only [Act.put, List.getElem_toArray, List.getElem_cons_zero, List.getElem_cons_succ, List.setIfInBounds_toArray, List.set_cons_zero, List.set_cons_succ]
                have cA := cell_up hBd HA8.out
                have cT := cell_up hBd (T8.out.cell (i := 0) rfl)
                have e0 := cell_up hBd HE0.out
                have h0 := cell_up hBd HH0.out
                refine pt_q (v := ?_) (by rw [← HOP.out]; simp only [List.getElem?_toArray, List.getElem?_cons_zero, List.getElem?_cons_succ]; rfl) (by rw [← HOP.out]; kernel_rfl) ?_ ?_
                rotate_left
                · intro w' hBw'
                  have qL := hBw'.cell cA (fun e => e)
                  first | (go_simp; done) | (go_simp; with_reducible rfl)
                iterate 5
                  try simp only [Act.put, List.getElem_toArray, List.getElem_cons_zero, List.getElem_cons_succ, List.setIfInBounds_toArray, List.set_cons_zero, List.set_cons_succ]
                  refine pt_q (v := ?_) (by rw [← HOP.out]; simp only [List.getElem?_toArray, List.getElem?_cons_zero, List.getElem?_cons_succ]; rfl) (by rw [← HOP.out]; kernel_rfl) ?_ ?_
                  rotate_left
                  · intro w' hBw'
                    first | (go_simp; done) | (go_simp; with_reducible rfl)
                try simp only [Act.put, List.getElem_toArray, List.getElem_cons_zero, List.getElem_cons_succ, List.setIfInBounds_toArray, List.set_cons_zero, List.set_cons_succ]
                refine pt_q (v := ?_) (by rw [← HOP.out]; simp only [List.getElem?_toArray, List.getElem?_cons_zero, List.getElem?_cons_succ]; rfl) (by rw [← HOP.out]; kernel_rfl) ?_ ?_
                rotate_left
                · intro w' hBw'
                  have qL := hBw'.cell cA (fun e => e)
                  first | (go_simp; done) | (go_simp; with_reducible rfl)
                iterate 3
                  try simp only [Act.put, List.getElem_toArray, List.getElem_cons_zero, List.getElem_cons_succ, List.setIfInBounds_toArray, List.set_cons_zero, List.set_cons_succ]
                  refine pt_q (v := ?_) (by rw [← HOP.out]; simp only [List.getElem?_toArray, List.getElem?_cons_zero, List.getElem?_cons_succ]; rfl) (by rw [← HOP.out]; kernel_rfl) ?_ ?_
                  rotate_left
                  · intro w' hBw'
                    first | (go_simp; done) | (go_simp; with_reducible rfl)
                try simp only [Act.put, List.getElem_toArray, List.getElem_cons_zero, List.getElem_cons_succ, List.setIfInBounds_toArray, List.set_cons_zero, List.set_cons_succ]
                refine pt_q (v := ?_) (by rw [← HOP.out]; simp only [List.getElem?_toArray, List.getElem?_cons_zero, List.getElem?_cons_succ]; rfl) (by rw [← HOP.out]; kernel_rfl) ?_ ?_
                rotate_left
                · intro w' hBw'
                  have qL := hBw'.cell cA (fun e => e)
                  first | (go_simp; done) | (go_simp; with_reducible rfl)
                try simp only [Act.put, List.getElem_toArray, List.getElem_cons_zero, List.getElem_cons_succ, List.setIfInBounds_toArray, List.set_cons_zero, List.set_cons_succ]
                refine pt_q (v := ?_) (by rw [← HOP.out]; simp only [List.getElem?_toArray, List.getElem?_cons_zero, List.getElem?_cons_succ]; rfl) (by rw [← HOP.out]; kernel_rfl) ?_ ?_
                rotate_left
                · intro w' hBw'
                  first | (go_simp; done) | (go_simp; with_reducible rfl)
                try simp only [Act.put, List.getElem_toArray, List.getElem_cons_zero, List.getElem_cons_succ, List.setIfInBounds_toArray, List.set_cons_zero, List.set_cons_succ]
                refine pt_q (v := ?_) (by rw [← HOP.out]; simp only [List.getElem?_toArray, List.getElem?_cons_zero, List.getElem?_cons_succ]; rfl) (by rw [← HOP.out]; kernel_rfl) ?_ ?_
                rotate_left
                · intro w' hBw'
                  have qL := hBw'.cell e0 (fun e => e)
                  first | (go_simp; done) | (go_simp; with_reducible rfl)
                iterate 2
                  try simp only [Act.put, List.getElem_toArray, List.getElem_cons_zero, List.getElem_cons_succ, List.setIfInBounds_toArray, List.set_cons_zero, List.set_cons_succ]
                  refine pt_q (v := ?_) (by rw [← HOP.out]; simp only [List.getElem?_toArray, List.getElem?_cons_zero, List.getElem?_cons_succ]; rfl) (by rw [← HOP.out]; kernel_rfl) ?_ ?_
                  rotate_left
                  · intro w' hBw'
                    first | (go_simp; done) | (go_simp; with_reducible rfl)
                try simp only [Act.put, List.getElem_toArray, List.getElem_cons_zero, List.getElem_cons_succ, List.setIfInBounds_toArray, List.set_cons_zero, List.set_cons_succ]
                refine pt_q (v := ?_) (by rw [← HOP.out]; simp only [List.getElem?_toArray, List.getElem?_cons_zero, List.getElem?_cons_succ]; rfl) (by rw [← HOP.out]; kernel_rfl) ?_ ?_
                rotate_left
                · intro w' hBw'
                  have qL := hBw'.cell h0 (fun e => e)
                  first | (go_simp; done) | (go_simp; with_reducible rfl)
                iterate 2
                  try simp only [Act.put, List.getElem_toArray, List.getElem_cons_zero, List.getElem_cons_succ, List.setIfInBounds_toArray, List.set_cons_zero, List.set_cons_succ]
                  refine pt_q (v := ?_) (by rw [← HOP.out]; simp only [List.getElem?_toArray, List.getElem?_cons_zero, List.getElem?_cons_succ]; rfl) (by rw [← HOP.out]; kernel_rfl) ?_ ?_
                  rotate_left
                  · intro w' hBw'
                    first | (go_simp; done) | (go_simp; with_reducible rfl)
                try simp only [Act.put, List.getElem_toArray, List.getElem_cons_zero, List.getElem_cons_succ, List.setIfInBounds_toArray, List.set_cons_zero, List.set_cons_succ]
                refine pt_q (v := ?_) (by rw [← HOP.out]; simp only [List.getElem?_toArray, List.getElem?_cons_zero, List.getElem?_cons_succ]; rfl) (by rw [← HOP.out]; kernel_rfl) ?_ ?_
                rotate_left
                · intro w' hBw'
                  have qL := hBw'.cell cT (fun e => e)
                  first | (go_simp; done) | (go_simp; with_reducible rfl)
                iterate 2
                  try simp only [Act.put, List.getElem_toArray, List.getElem_cons_zero, List.getElem_cons_succ, List.setIfInBounds_toArray, List.set_cons_zero, List.set_cons_succ]
                  refine pt_q (v := ?_) (by rw [← HOP.out]; simp only [List.getElem?_toArray, List.getElem?_cons_zero, List.getElem?_cons_succ]; rfl) (by rw [← HOP.out]; kernel_rfl) ?_ ?_
                  rotate_left
                  · intro w' hBw'
                    first | (go_simp; done) | (go_simp; with_reducible rfl)
                try simp only [Act.put, List.getElem_toArray, List.getElem_cons_zero, List.getElem_cons_succ, List.setIfInBounds_toArray, List.set_cons_zero, List.set_cons_succ]
                refine pt_q (v := ?_) (by rw [← HOP.out]; simp only [List.getElem?_toArray, List.getElem?_cons_zero, List.getElem?_cons_succ]; rfl) (by rw [← HOP.out]; kernel_rfl) ?_ ?_
                rotate_left
                · intro w' hBw'
                  have qL := hBw'.cell h0 (fun e => e)
                  first | (go_simp; done) | (go_simp; with_reducible rfl)
                iterate 6
                  try simp only [Act.put, List.getElem_toArray, List.getElem_cons_zero, List.getElem_cons_succ, List.setIfInBounds_toArray, List.set_cons_zero, List.set_cons_succ]
                  refine pt_q (v := ?_) (by rw [← HOP.out]; simp only [List.getElem?_toArray, List.getElem?_cons_zero, List.getElem?_cons_succ]; rfl) (by rw [← HOP.out]; kernel_rfl) ?_ ?_
                  rotate_left
                  · intro w' hBw'
                    first | (go_simp; done) | (go_simp; with_reducible rfl)
                try simp only [Act.put, List.getElem_toArray, List.getElem_cons_zero, List.getElem_cons_succ, List.setIfInBounds_toArray, List.set_cons_zero, List.set_cons_succ]
                refine pt_q (v := ?_) (by rw [← HOP.out]; simp only [List.getElem?_toArray, List.getElem?_cons_zero, List.getElem?_cons_succ]; rfl) (by rw [← HOP.out]; kernel_rfl) ?_ ?_
                rotate_left
                · intro w' hBw'
                  have qL := hBw'.cell cA (fun e => e)
                  first | (go_simp; done) | (go_simp; with_reducible rfl)
                iterate 3
                  try simp only [Act.put, List.getElem_toArray, List.getElem_cons_zero, List.getElem_cons_succ, List.setIfInBounds_toArray, List.set_cons_zero, List.set_cons_succ]
                  refine pt_q (v := ?_) (by rw [← HOP.out]; simp only [List.getElem?_toArray, List.getElem?_cons_zero, List.getElem?_cons_succ]; rfl) (by rw [← HOP.out]; kernel_rfl) ?_ ?_
                  rotate_left
                  · intro w' hBw'
                    first | (go_simp; done) | (go_simp; with_reducible rfl)
                iterate 7
                  try simp only [Act.put, List.getElem_toArray, List.getElem_cons_zero, List.getElem_cons_succ, List.setIfInBounds_toArray, List.set_cons_zero, List.set_cons_succ]
                  refine pt_no (by rw [← HOP.out]; simp only [List.getElem?_toArray, List.getElem?_cons_zero, List.getElem?_cons_succ]; rfl) (by rw [← HOP.out]; kernel_rfl) ?_
                iterate 2
                  try simp only [Act.put, List.getElem_toArray, List.getElem_cons_zero, List.getElem_cons_succ, List.setIfInBounds_toArray, List.set_cons_zero, List.set_cons_succ]
                  refine pt_q (v := ?_) (by rw [← HOP.out]; simp only [List.getElem?_toArray, List.getElem?_cons_zero, List.getElem?_cons_succ]; rfl) (by rw [← HOP.out]; kernel_rfl) ?_ ?_
                  rotate_left
                  · intro w' hBw'
                    first | (go_simp; done) | (go_simp; with_reducible rfl)
                try simp only [Act.put, List.getElem_toArray, List.getElem_cons_zero, List.getElem_cons_succ, List.setIfInBounds_toArray, List.set_cons_zero, List.set_cons_succ]
                refine pt_doneN ?_
                have HB9 := Lib.hid (below_up HB.out hBd)
                have O9 := Lib.hid (O8.out.up hBd)
                clear hBd cA cT e0 h0
                go_wp2
                obtain ⟨FN, hFN⟩ : ∃ k : Nat, Prm.flagsN rank l = k := ⟨_, rfl⟩
                obtain ⟨RN, hRN⟩ : ∃ k : Nat, Prm.rankN p.flags = k := ⟨_, rfl⟩
                obtain ⟨EN, hEN⟩ : ∃ k : Int, Clk.addF p.time p.life = k := ⟨_, rfl⟩
                have hf1 : ∀ W, Sl W 1 (.slice a i c) i (l.map fun q : Nat => Value.int .u32 q) → Calls Tryz.prog 16 #[.int .i64 rank, .slice a i c] W (Ret (.int .u32 (FN : Nat)) W) := fun W hv => by have h := prFlagsOf_c rank HRK.out l (.slice a i c) W (by rw [HN.out]; exact hv) HLW.out; rw [hFN] at h; exact h
                have hf2 : ∀ W, Sl W 1 (.slice a i c) i (l.map fun q : Nat => Value.int .u32 q) → Calls Tryz.prog 17 #[.int .i64 rank, .slice a i c] W (Ret (.int .u32 (FN : Nat)) W) := fun W hv => by have h := rFlagsOf_c rank HRK.out l (.slice a i c) W (by rw [HN.out]; exact hv) HLW.out; rw [hFN] at h; exact h
                have hk1 := prRank_c p HPO.out.f
                have hk2 := rRank_c p HPO.out.f
                simp only [hRN] at hk1 hk2
                have hx1 := prExpires_c p
                have hx2 := rExpires_c p
                simp only [hEN] at hx1 hx2
                have Khf1 := Lib.hid hf1
                have Khf2 := Lib.hid hf2
                have Khk1 := Lib.hid hk1
                have Khk2 := Lib.hid hk2
                have Khx1 := Lib.hid hx1
                have Khx2 := Lib.hid hx2
                clear hf1 hf2 hk1 hk2 hx1 hx2 hFN hRN hEN
                refine wp_onlyN ?_
                refine wp_region_ptL (fun q => q = w.heap.size + 1) (.q 0 (.q 1 (.q 3 (.q 4 (.c 2 (.c 5 (.q 6 (.q 7 (.q 8 (.q 10 (.c 9 (.c 11 (.q 12 (.q 13 (.q 14 (.q 15 (.q 17 (.c 16 (.c 18 (.q 19 (.q 20 (.q 21 (.c 22 (.q 23 (.c 24 .done))))))))))))))))))))))))) (by kernel_rfl) (by kernel_rfl) (by kernel_rfl) (by decide) onlyN_panic (fun OPS HOP Wd hBd => ?_)
                try simp only [Act.put, List.getElem_toArray, List.getElem_cons_zero, List.getElem_cons_succ, List.setIfInBounds_toArray, List.set_cons_zero, List.set_cons_succ]
                have O10 := O9.out.up hBd
                iterate 4
                  refine pt_q (v := ?_) (by rw [← HOP.out]; simp only [List.getElem?_toArray, List.getElem?_cons_zero, List.getElem?_cons_succ]; rfl) (by rw [← HOP.out]; kernel_rfl) ?_ ?_
                  rotate_left
                  · intro w' hBw'
                    first | (go_simp; done) | (go_simp; with_reducible rfl)
                  try simp only [Act.put, List.getElem_toArray, List.getElem_cons_zero, List.getElem_cons_succ, List.setIfInBounds_toArray, List.set_cons_zero, List.set_cons_succ]
                refine pt_c ?_
                refine pt_step (by rw [← HOP.out]; simp only [List.getElem?_toArray, List.getElem?_cons_zero, List.getElem?_cons_succ]; rfl) (by rw [← HOP.out]; kernel_rfl) (fun K hK => ?_)
                go_simp
                refine (Khf1.out _ O10.l).mono ?_
                rintro en va ⟨rfl, hbva⟩
                have O11 := O10.up hbva
                refine hK.out _ _ (But.of_below hbva) ?_
                clear hK K
                try simp only [Act.put, List.getElem_toArray, List.getElem_cons_zero, List.getElem_cons_succ, List.setIfInBounds_toArray, List.set_cons_zero, List.set_cons_succ]
                refine pt_c ?_
                refine pt_step (by rw [← HOP.out]; simp only [List.getElem?_toArray, List.getElem?_cons_zero, List.getElem?_cons_succ]; rfl) (by rw [← HOP.out]; kernel_rfl) (fun K hK => ?_)
                go_simp
                refine (Khf2.out _ O11.l).mono ?_
                rintro en vb ⟨rfl, hbvb⟩
                have O12 := O11.up hbvb
                refine hK.out _ _ (But.of_below hbvb) ?_
                clear hK K
                iterate 2
                  try simp only [Act.put, List.getElem_toArray, List.getElem_cons_zero, List.getElem_cons_succ, List.setIfInBounds_toArray, List.set_cons_zero, List.set_cons_succ]
                  refine pt_q (v := ?_) (by rw [← HOP.out]; simp only [List.getElem?_toArray, List.getElem?_cons_zero, List.getElem?_cons_succ]; rfl) (by rw [← HOP.out]; kernel_rfl) ?_ ?_
                  rotate_left
                  · intro w' hBw'
                    first | (go_simp; done) | (go_simp; with_reducible rfl)
                try simp only [Act.put, List.getElem_toArray, List.getElem_cons_zero, List.getElem_cons_succ, List.setIfInBounds_toArray, List.set_cons_zero, List.set_cons_succ]
                have P1 : RowAt vb w.heap.size (prC p).toArray 28 := O12.p
                iterate 2
                  refine pt_load (by rw [← HOP.out]; simp only [List.getElem?_toArray, List.getElem?_cons_zero, List.getElem?_cons_succ]; rfl) (by rw [← HOP.out]; kernel_rfl) 28 (.tmp 3) rfl w.heap.size 0 rfl (prC p) _ P1.range (fun h => by have h2 : w.heap.size = w.heap.size + 1 := h; omega) Tryz.underlying28 rfl (by kernel_rfl) ?_
                  try simp only [Act.put, List.getElem_toArray, List.getElem_cons_zero, List.getElem_cons_succ, List.setIfInBounds_toArray, List.set_cons_zero, List.set_cons_succ]
                refine pt_c ?_
                refine pt_step (by rw [← HOP.out]; simp only [List.getElem?_toArray, List.getElem?_cons_zero, List.getElem?_cons_succ]; rfl) (by rw [← HOP.out]; kernel_rfl) (fun K hK => ?_)
                go_simp
                refine (Khk1.out _).mono ?_
                rintro en vc ⟨rfl, hbvc⟩
                have O13 := O12.up hbvc
                refine hK.out _ _ (But.of_below hbvc) ?_
                clear hK K
                try simp only [Act.put, List.getElem_toArray, List.getElem_cons_zero, List.getElem_cons_succ, List.setIfInBounds_toArray, List.set_cons_zero, List.set_cons_succ]
                refine pt_c ?_
                refine pt_step (by rw [← HOP.out]; simp only [List.getElem?_toArray, List.getElem?_cons_zero, List.getElem?_cons_succ]; rfl) (by rw [← HOP.out]; kernel_rfl) (fun K hK => ?_)
                go_simp
                refine (Khk2.out _).mono ?_
                rintro en vd ⟨rfl, hbvd⟩
                have O14 := O13.up hbvd
                refine hK.out _ _ (But.of_below hbvd) ?_
                clear hK K
                iterate 3
                  try simp only [Act.put, List.getElem_toArray, List.getElem_cons_zero, List.getElem_cons_succ, List.setIfInBounds_toArray, List.set_cons_zero, List.set_cons_succ]
                  refine pt_q (v := ?_) (by rw [← HOP.out]; simp only [List.getElem?_toArray, List.getElem?_cons_zero, List.getElem?_cons_succ]; rfl) (by rw [← HOP.out]; kernel_rfl) ?_ ?_
                  rotate_left
                  · intro w' hBw'
                    first | (go_simp; done) | (go_simp; with_reducible rfl)
                try simp only [Act.put, List.getElem_toArray, List.getElem_cons_zero, List.getElem_cons_succ, List.setIfInBounds_toArray, List.set_cons_zero, List.set_cons_succ]
                have P2 : RowAt vd w.heap.size (prC p).toArray 28 := O14.p
                iterate 2
                  refine pt_load (by rw [← HOP.out]; simp only [List.getElem?_toArray, List.getElem?_cons_zero, List.getElem?_cons_succ]; rfl) (by rw [← HOP.out]; kernel_rfl) 28 (.tmp 3) rfl w.heap.size 0 rfl (prC p) _ P2.range (fun h => by have h2 : w.heap.size = w.heap.size + 1 := h; omega) Tryz.underlying28 rfl (by kernel_rfl) ?_
                  try simp only [Act.put, List.getElem_toArray, List.getElem_cons_zero, List.getElem_cons_succ, List.setIfInBounds_toArray, List.set_cons_zero, List.set_cons_succ]
                refine pt_c ?_
                refine pt_step (by rw [← HOP.out]; simp only [List.getElem?_toArray, List.getElem?_cons_zero, List.getElem?_cons_succ]; rfl) (by rw [← HOP.out]; kernel_rfl) (fun K hK => ?_)
                go_simp
                refine (Khx1.out _).mono ?_
                rintro en ve ⟨rfl, hbve⟩
                have O15 := O14.up hbve
                refine hK.out _ _ (But.of_below hbve) ?_
                clear hK K
                try simp only [Act.put, List.getElem_toArray, List.getElem_cons_zero, List.getElem_cons_succ, List.setIfInBounds_toArray, List.set_cons_zero, List.set_cons_succ]
                refine pt_c ?_
                refine pt_step (by rw [← HOP.out]; simp only [List.getElem?_toArray, List.getElem?_cons_zero, List.getElem?_cons_succ]; rfl) (by rw [← HOP.out]; kernel_rfl) (fun K hK => ?_)
                go_simp
                refine (Khx2.out _).mono ?_
                rintro en vf ⟨rfl, hbvf⟩
                have O16 := O15.up hbvf
                refine hK.out _ _ (But.of_below hbvf) ?_
                clear hK K
                iterate 3
                  try simp only [Act.put, List.getElem_toArray, List.getElem_cons_zero, List.getElem_cons_succ, List.setIfInBounds_toArray, List.set_cons_zero, List.set_cons_succ]
                  refine pt_q (v := ?_) (by rw [← HOP.out]; simp only [List.getElem?_toArray, List.getElem?_cons_zero, List.getElem?_cons_succ]; rfl) (by rw [← HOP.out]; kernel_rfl) ?_ ?_
                  rotate_left
                  · intro w' hBw'
                    first | (go_simp; done) | (go_simp; with_reducible rfl)
                try simp only [Act.put, List.getElem_toArray, List.getElem_cons_zero, List.getElem_cons_succ, List.setIfInBounds_toArray, List.set_cons_zero, List.set_cons_succ]
                refine pt_c ?_
                refine pt_step (by rw [← HOP.out]; simp only [List.getElem?_toArray, List.getElem?_cons_zero, List.getElem?_cons_succ]; rfl) (by rw [← HOP.out]; kernel_rfl) (fun K hK => ?_)
                go_simp
                refine (prWorks_c _ (HT0.out.up O16.below)).mono ?_
                rintro en vg ⟨rfl, hbvg⟩
                have O17 := O16.up hbvg
                refine hK.out _ _ (But.of_below hbvg) ?_
                clear hK K
                try simp only [Act.put, List.getElem_toArray, List.getElem_cons_zero, List.getElem_cons_succ, List.setIfInBounds_toArray, List.set_cons_zero, List.set_cons_succ]
                refine pt_q (v := ?_) (by rw [← HOP.out]; simp only [List.getElem?_toArray, List.getElem?_cons_zero, List.getElem?_cons_succ]; rfl) (by rw [← HOP.out]; kernel_rfl) ?_ ?_
                rotate_left
                · intro w' hBw'
                  first | (go_simp; done) | (go_simp; with_reducible rfl)
                try simp only [Act.put, List.getElem_toArray, List.getElem_cons_zero, List.getElem_cons_succ, List.setIfInBounds_toArray, List.set_cons_zero, List.set_cons_succ]
                have rz := O17.res.cell (i := 0) rfl
                have rf := O17.res.fz 0
                refine pt_c ?_
                refine pt_step (by rw [← HOP.out]; simp only [List.getElem?_toArray, List.getElem?_cons_zero, List.getElem?_cons_succ]; rfl) (by rw [← HOP.out]; kernel_rfl) (fun K hK => ?_)
                go_simp
                refine hK.out _ _ (But.setCell _ _ _ (.inl rfl)) ?_
                clear hK K
                try simp only [Act.put, List.getElem_toArray, List.getElem_cons_zero, List.getElem_cons_succ, List.setIfInBounds_toArray, List.set_cons_zero, List.set_cons_succ]
                refine pt_doneN ?_
                have HBZ := Lib.hid (below_up (below_up (below_up (below_up (below_up (below_up (below_up (below_up HB9.out hBd) hbva) hbvb) hbvc) hbvd) hbve) hbvf) hbvg)
                have HOZ := Lib.hid O17
                clear hBd hbva hbvb hbvc hbvd hbve hbvf hbvg O10 O11 O12 O13 O14 O15 O16 O17 P1 P2 rz rf
                go_wp2
                have hx4 := HOZ.out.res.set 0 (.bool true)
                have d1 := HD1.out
                have d2 := HD2.out
                have d3 := HWR.out
                have hDm : ∀ D ∈ [D2, D1], D ≠ w.heap.size + 1 := fun D hD => by simp only [List.mem_cons, List.not_mem_nil, or_false] at hD; rcases hD with rfl | rfl <;> omega
                have hDk : ∀ D ∈ [D2, D1], V2.heap[D]? = some (.deferred (some [])) := fun D hD => by simp only [List.mem_cons, List.not_mem_nil, or_false] at hD; rcases hD with rfl | rfl; exact HK2.out; exact HM1.out
                have hDl : ∀ D ∈ [D2, D1], w.heap.size ≤ D := fun D hD => by simp only [List.mem_cons, List.not_mem_nil, or_false] at hD; rcases hD with rfl | rfl <;> omega
                refine leaves_marks [D2, D1] _ (by simp; omega) (fun D hD => ?_) (fun w9 hb9 => ?_)
                · have hm := hDk D hD
                  have hDlt : D < V2.heap.size := (Array.getElem?_eq_some_iff.1 hm).1
                  rw [Below.heap_setCell _ _ _ _ (by simpa using hDm D hD)]
                  exact (HBZ.out.block D hDlt).trans hm
                · have hx5 := (hb9.same _ hx4.lt (fun hD => hDm _ hD rfl)).trans hx4
                  have hx5c := RowAt.cell (i := 0) (v := .bool true) hx5 rfl
                  refine ⟨.bool true, by simp [results, Tryz.results3, go_sem, hx5c], rfl, ?_⟩
                  have hB3 := HOZ.out.below.setCell (show w.heap.size ≤ (⟨w.heap.size + 1, 0, none⟩ : Addr).block by simp) (.bool true)
                  exact hB3.trans (hb9.below (fun D hD => hDl D hD) hB3.size)
            | false =>
              rw [hb2] at hr2
              cases hb3 : Prm.hasB p.flags 32 with
              | true =>
                rw [hb3] at hr3
                have hU : pwU p.flags = [32] := by unfold pwU Prm.wantsL; simp [hb2, hb3]
                have h1 := HV1.out
                rw [hU] at h1
                have hTw : two = 32 := by rw [← HTW.out]; unfold pwTwo pwAt Prm.wantsL; simp [hb2, hb3]
                subst hTw
                have H1 := Lib.hid h1
                have HRA := Lib.hid hr2
                have HRB := Lib.hid hr3
                have HW0 := Lib.hid hw0
                clear hU h1 hr2 hr3 hw0 hb2 hb3
                have Bq := below_alloc V2 (.cells #[] 22)
                have O3 := O2.out.up Bq
                have HBq := Lib.hid Bq
                have x0 := O3.p.cell (i := 0) rfl
                have x1 := O3.p.cell (i := 1) rfl
                have x2 := O3.p.cell (i := 2) rfl
                have x3 := O3.p.cell (i := 3) rfl
                have x4 := O3.p.cell (i := 4) rfl
                have x5 := O3.p.cell (i := 5) rfl
                have x6 := O3.p.cell (i := 6) rfl
                have x7 := O3.p.cell (i := 7) rfl
                have x8 := O3.p.cell (i := 8) rfl
                have x9 := O3.p.cell (i := 9) rfl
                have x10 := O3.p.cell (i := 10) rfl
                clear Bq O3
                go_wp2_with fail
                clear x0 x1 x2 x3 x4 x5 x6 x7 x8 x9 x10
                refine (HRA.out _).mono ?_
                rintro en W4 ⟨rfl, hb4⟩
                have B4 := below_up HBq.out hb4
                have own4 := Lib.hid (own_up HW0.out hb4)
                clear hb4
                have O4 := O2.out.up B4
                have x0 := O4.p.cell (i := 0) rfl
                have x1 := O4.p.cell (i := 1) rfl
                have x2 := O4.p.cell (i := 2) rfl
                have x3 := O4.p.cell (i := 3) rfl
                have x4 := O4.p.cell (i := 4) rfl
                have x5 := O4.p.cell (i := 5) rfl
                have x6 := O4.p.cell (i := 6) rfl
                have x7 := O4.p.cell (i := 7) rfl
                have x8 := O4.p.cell (i := 8) rfl
                have x9 := O4.p.cell (i := 9) rfl
                have x10 := O4.p.cell (i := 10) rfl
                go_wp2_with fail
                clear x0 x1 x2 x3 x4 x5 x6 x7 x8 x9 x10
                clear O4
                refine (HRB.out _).mono ?_
                rintro en W6 ⟨rfl, hb6⟩
                have B6 := below_up B4 hb6
                have own6 := Lib.hid (own_up own4.out hb6)
                clear hb6
                go_wp2_with (at_builtin; go_loud (refine wpList_app (n := 0) (m := 1) rfl _ _ 29 rfl pcS V2.heap.size rfl (own_up own6.out (below_alloc _ _)) rfl (pcS1 _ _ rfl 32) (by simp [Value.oneCell']) (by simp [maxLen]) (by decide) (B6.alloc B6.size _).size ?_); intro v7 W7 hownW7 hgrow _; have BW7 := grown_below (B6.alloc B6.size _) hgrow (fun k hk => (own_of_some own6.out hk).1); have Ox := O2.out.up BW7; have x0 := Ox.p.cell (i := 0) rfl; have x1 := Ox.p.cell (i := 1) rfl; have x2 := Ox.p.cell (i := 2) rfl; have x3 := Ox.p.cell (i := 3) rfl; have x4 := Ox.p.cell (i := 4) rfl; have x5 := Ox.p.cell (i := 5) rfl; have x6 := Ox.p.cell (i := 6) rfl; have x7 := Ox.p.cell (i := 7) rfl; have x8 := Ox.p.cell (i := 8) rfl; have x9 := Ox.p.cell (i := 9) rfl; have x10 := Ox.p.cell (i := 10) rfl)
                have own7 := Lib.hid hownW7
                clear hownW7 hgrow Ox
                clear x0 x1 x2 x3 x4 x5 x6 x7 x8 x9 x10
                have HB := Lib.hid BW7
                have O8 := Lib.hid (O2.out.up BW7)
                have P8 := H1.out.up BW7
                have T8 := Lib.hid ((HR2.out.cnt).below BW7)
                have hown := own7.out
                obtain ⟨a1, c1, rfl⟩ := own_slice P8.row
                obtain ⟨ah, ch, hvh⟩ := own_slice hown
                subst hvh
                obtain ⟨g1, rfl, hg1, hg1l⟩ := own_some P8.row (by decide)
                obtain ⟨gh, rfl, hgh, hghl⟩ := own_some hown (by decide)
                have HE0 := Lib.hid (show W7.cell? ⟨g1, 0, none⟩ = some (.int .u32 32) by simpa using P8.row.cellAt 0 (by decide))
                have HH0 := Lib.hid (show W7.cell? ⟨gh, 0, none⟩ = some (.int .u32 32) by simpa using hown.cellAt 0 (by decide))
                have HA8 := Lib.hid P8.box.cell
                clear hown P8
                refine wp_onlyN ?_
                refine wp_region_ptL (fun _ => False) (.q 0 (.q 1 (.q 2 (.q 3 (.q 4 (.q 5 (.q 6 (.q 7 (.q 8 (.q 9 (.q 10 (.q 11 (.q 12 (.q 13 (.q 14 (.q 15 (.q 16 (.q 17 (.q 18 (.q 19 (.q 20 (.q 21 (.q 22 (.q 23 (.q 24 (.q 25 (.q 26 (.q 27 (.q 28 (.q 29 (.q 30 (.q 31 (.q 32 (.q 33 (.q 34 (.q 35 (.q 36 (.q 37 (.q 38 (.q 39 (.q 40 .done))))))))))))))))))))))))))))))))))))))))) (by kernel_rfl) (by kernel_rfl) (by kernel_rfl) (by decide) onlyN_panic (fun OPS HOP Wd hBd => ?_)
                try simp only [Act.put, List.getElem_toArray, List.getElem_cons_zero, List.getElem_cons_succ, List.setIfInBounds_toArray, List.set_cons_zero, List.set_cons_succ]
                have cA := cell_up hBd HA8.out
                have cT := cell_up hBd (T8.out.cell (i := 0) rfl)
                have e0 := cell_up hBd HE0.out
                have h0 := cell_up hBd HH0.out
                refine pt_q (v := ?_) (by rw [← HOP.out]; simp only [List.getElem?_toArray, List.getElem?_cons_zero, List.getElem?_cons_succ]; rfl) (by rw [← HOP.out]; kernel_rfl) ?_ ?_
                rotate_left
                · intro w' hBw'
                  have qL := hBw'.cell cA (fun e => e)
                  first | (go_simp; done) | (go_simp; with_reducible rfl)
                iterate 5
                  try simp only [Act.put, List.getElem_toArray, List.getElem_cons_zero, List.getElem_cons_succ, List.setIfInBounds_toArray, List.set_cons_zero, List.set_cons_succ]
                  refine pt_q (v := ?_) (by rw [← HOP.out]; simp only [List.getElem?_toArray, List.getElem?_cons_zero, List.getElem?_cons_succ]; rfl) (by rw [← HOP.out]; kernel_rfl) ?_ ?_
                  rotate_left
                  · intro w' hBw'
                    first | (go_simp; done) | (go_simp; with_reducible rfl)
                try simp only [Act.put, List.getElem_toArray, List.getElem_cons_zero, List.getElem_cons_succ, List.setIfInBounds_toArray, List.set_cons_zero, List.set_cons_succ]
                refine pt_q (v := ?_) (by rw [← HOP.out]; simp only [List.getElem?_toArray, List.getElem?_cons_zero, List.getElem?_cons_succ]; rfl) (by rw [← HOP.out]; kernel_rfl) ?_ ?_
                rotate_left
                · intro w' hBw'
                  have qL := hBw'.cell cA (fun e => e)
                  first | (go_simp; done) | (go_simp; with_reducible rfl)
                iterate 3
                  try simp only [Act.put, List.getElem_toArray, List.getElem_cons_zero, List.getElem_cons_succ, List.setIfInBounds_toArray, List.set_cons_zero, List.set_cons_succ]
                  refine pt_q (v := ?_) (by rw [← HOP.out]; simp only [List.getElem?_toArray, List.getElem?_cons_zero, List.getElem?_cons_succ]; rfl) (by rw [← HOP.out]; kernel_rfl) ?_ ?_
                  rotate_left
                  · intro w' hBw'
                    first | (go_simp; done) | (go_simp; with_reducible rfl)
                try simp only [Act.put, List.getElem_toArray, List.getElem_cons_zero, List.getElem_cons_succ, List.setIfInBounds_toArray, List.set_cons_zero, List.set_cons_succ]
                refine pt_q (v := ?_) (by rw [← HOP.out]; simp only [List.getElem?_toArray, List.getElem?_cons_zero, List.getElem?_cons_succ]; rfl) (by rw [← HOP.out]; kernel_rfl) ?_ ?_
                rotate_left
                · intro w' hBw'
                  have qL := hBw'.cell cA (fun e => e)
                  first | (go_simp; done) | (go_simp; with_reducible rfl)
                try simp only [Act.put, List.getElem_toArray, List.getElem_cons_zero, List.getElem_cons_succ, List.setIfInBounds_toArray, List.set_cons_zero, List.set_cons_succ]
                refine pt_q (v := ?_) (by rw [← HOP.out]; simp only [List.getElem?_toArray, List.getElem?_cons_zero, List.getElem?_cons_succ]; rfl) (by rw [← HOP.out]; kernel_rfl) ?_ ?_
                rotate_left
                · intro w' hBw'
                  first | (go_simp; done) | (go_simp; with_reducible rfl)
                try simp only [Act.put, List.getElem_toArray, List.getElem_cons_zero, List.getElem_cons_succ, List.setIfInBounds_toArray, List.set_cons_zero, List.set_cons_succ]
                refine pt_q (v := ?_) (by rw [← HOP.out]; simp only [List.getElem?_toArray, List.getElem?_cons_zero, List.getElem?_cons_succ]; rfl) (by rw [← HOP.out]; kernel_rfl) ?_ ?_
                rotate_left
                · intro w' hBw'
                  have qL := hBw'.cell e0 (fun e => e)
                  first | (go_simp; done) | (go_simp; with_reducible rfl)
                iterate 2
                  try simp only [Act.put, List.getElem_toArray, List.getElem_cons_zero, List.getElem_cons_succ, List.setIfInBounds_toArray, List.set_cons_zero, List.set_cons_succ]
                  refine pt_q (v := ?_) (by rw [← HOP.out]; simp only [List.getElem?_toArray, List.getElem?_cons_zero, List.getElem?_cons_succ]; rfl) (by rw [← HOP.out]; kernel_rfl) ?_ ?_
                  rotate_left
                  · intro w' hBw'
                    first | (go_simp; done) | (go_simp; with_reducible rfl)
                try simp only [Act.put, List.getElem_toArray, List.getElem_cons_zero, List.getElem_cons_succ, List.setIfInBounds_toArray, List.set_cons_zero, List.set_cons_succ]
                refine pt_q (v := ?_) (by rw [← HOP.out]; simp only [List.getElem?_toArray, List.getElem?_cons_zero, List.getElem?_cons_succ]; rfl) (by rw [← HOP.out]; kernel_rfl) ?_ ?_
                rotate_left
                · intro w' hBw'
                  have qL := hBw'.cell h0 (fun e => e)
                  first | (go_simp; done) | (go_simp; with_reducible rfl)
                iterate 2
                  try simp only [Act.put, List.getElem_toArray, List.getElem_cons_zero, List.getElem_cons_succ, List.setIfInBounds_toArray, List.set_cons_zero, List.set_cons_succ]
                  refine pt_q (v := ?_) (by rw [← HOP.out]; simp only [List.getElem?_toArray, List.getElem?_cons_zero, List.getElem?_cons_succ]; rfl) (by rw [← HOP.out]; kernel_rfl) ?_ ?_
                  rotate_left
                  · intro w' hBw'
                    first | (go_simp; done) | (go_simp; with_reducible rfl)
                try simp only [Act.put, List.getElem_toArray, List.getElem_cons_zero, List.getElem_cons_succ, List.setIfInBounds_toArray, List.set_cons_zero, List.set_cons_succ]
                refine pt_q (v := ?_) (by rw [← HOP.out]; simp only [List.getElem?_toArray, List.getElem?_cons_zero, List.getElem?_cons_succ]; rfl) (by rw [← HOP.out]; kernel_rfl) ?_ ?_
                rotate_left
                · intro w' hBw'
                  have qL := hBw'.cell cT (fun e => e)
                  first | (go_simp; done) | (go_simp; with_reducible rfl)
                iterate 2
                  try simp only [Act.put, List.getElem_toArray, List.getElem_cons_zero, List.getElem_cons_succ, List.setIfInBounds_toArray, List.set_cons_zero, List.set_cons_succ]
                  refine pt_q (v := ?_) (by rw [← HOP.out]; simp only [List.getElem?_toArray, List.getElem?_cons_zero, List.getElem?_cons_succ]; rfl) (by rw [← HOP.out]; kernel_rfl) ?_ ?_
                  rotate_left
                  · intro w' hBw'
                    first | (go_simp; done) | (go_simp; with_reducible rfl)
                try simp only [Act.put, List.getElem_toArray, List.getElem_cons_zero, List.getElem_cons_succ, List.setIfInBounds_toArray, List.set_cons_zero, List.set_cons_succ]
                refine pt_q (v := ?_) (by rw [← HOP.out]; simp only [List.getElem?_toArray, List.getElem?_cons_zero, List.getElem?_cons_succ]; rfl) (by rw [← HOP.out]; kernel_rfl) ?_ ?_
                rotate_left
                · intro w' hBw'
                  have qL := hBw'.cell h0 (fun e => e)
                  first | (go_simp; done) | (go_simp; with_reducible rfl)
                iterate 6
                  try simp only [Act.put, List.getElem_toArray, List.getElem_cons_zero, List.getElem_cons_succ, List.setIfInBounds_toArray, List.set_cons_zero, List.set_cons_succ]
                  refine pt_q (v := ?_) (by rw [← HOP.out]; simp only [List.getElem?_toArray, List.getElem?_cons_zero, List.getElem?_cons_succ]; rfl) (by rw [← HOP.out]; kernel_rfl) ?_ ?_
                  rotate_left
                  · intro w' hBw'
                    first | (go_simp; done) | (go_simp; with_reducible rfl)
                try simp only [Act.put, List.getElem_toArray, List.getElem_cons_zero, List.getElem_cons_succ, List.setIfInBounds_toArray, List.set_cons_zero, List.set_cons_succ]
                refine pt_q (v := ?_) (by rw [← HOP.out]; simp only [List.getElem?_toArray, List.getElem?_cons_zero, List.getElem?_cons_succ]; rfl) (by rw [← HOP.out]; kernel_rfl) ?_ ?_
                rotate_left
                · intro w' hBw'
                  have qL := hBw'.cell cA (fun e => e)
                  first | (go_simp; done) | (go_simp; with_reducible rfl)
                iterate 3
                  try simp only [Act.put, List.getElem_toArray, List.getElem_cons_zero, List.getElem_cons_succ, List.setIfInBounds_toArray, List.set_cons_zero, List.set_cons_succ]
                  refine pt_q (v := ?_) (by rw [← HOP.out]; simp only [List.getElem?_toArray, List.getElem?_cons_zero, List.getElem?_cons_succ]; rfl) (by rw [← HOP.out]; kernel_rfl) ?_ ?_
                  rotate_left
                  · intro w' hBw'
                    first | (go_simp; done) | (go_simp; with_reducible rfl)
                iterate 7
                  try simp only [Act.put, List.getElem_toArray, List.getElem_cons_zero, List.getElem_cons_succ, List.setIfInBounds_toArray, List.set_cons_zero, List.set_cons_succ]
                  refine pt_no (by rw [← HOP.out]; simp only [List.getElem?_toArray, List.getElem?_cons_zero, List.getElem?_cons_succ]; rfl) (by rw [← HOP.out]; kernel_rfl) ?_
                iterate 2
                  try simp only [Act.put, List.getElem_toArray, List.getElem_cons_zero, List.getElem_cons_succ, List.setIfInBounds_toArray, List.set_cons_zero, List.set_cons_succ]
                  refine pt_q (v := ?_) (by rw [← HOP.out]; simp only [List.getElem?_toArray, List.getElem?_cons_zero, List.getElem?_cons_succ]; rfl) (by rw [← HOP.out]; kernel_rfl) ?_ ?_
                  rotate_left
                  · intro w' hBw'
                    first | (go_simp; done) | (go_simp; with_reducible rfl)
                try simp only [Act.put, List.getElem_toArray, List.getElem_cons_zero, List.getElem_cons_succ, List.setIfInBounds_toArray, List.set_cons_zero, List.set_cons_succ]
                refine pt_doneN ?_
                have HB9 := Lib.hid (below_up HB.out hBd)
                have O9 := Lib.hid (O8.out.up hBd)
                clear hBd cA cT e0 h0
                go_wp2
                obtain ⟨FN, hFN⟩ : ∃ k : Nat, Prm.flagsN rank l = k := ⟨_, rfl⟩
                obtain ⟨RN, hRN⟩ : ∃ k : Nat, Prm.rankN p.flags = k := ⟨_, rfl⟩
                obtain ⟨EN, hEN⟩ : ∃ k : Int, Clk.addF p.time p.life = k := ⟨_, rfl⟩
                have hf1 : ∀ W, Sl W 1 (.slice a i c) i (l.map fun q : Nat => Value.int .u32 q) → Calls Tryz.prog 16 #[.int .i64 rank, .slice a i c] W (Ret (.int .u32 (FN : Nat)) W) := fun W hv => by have h := prFlagsOf_c rank HRK.out l (.slice a i c) W (by rw [HN.out]; exact hv) HLW.out; rw [hFN] at h; exact h
                have hf2 : ∀ W, Sl W 1 (.slice a i c) i (l.map fun q : Nat => Value.int .u32 q) → Calls Tryz.prog 17 #[.int .i64 rank, .slice a i c] W (Ret (.int .u32 (FN : Nat)) W) := fun W hv => by have h := rFlagsOf_c rank HRK.out l (.slice a i c) W (by rw [HN.out]; exact hv) HLW.out; rw [hFN] at h; exact h
                have hk1 := prRank_c p HPO.out.f
                have hk2 := rRank_c p HPO.out.f
                simp only [hRN] at hk1 hk2
                have hx1 := prExpires_c p
                have hx2 := rExpires_c p
                simp only [hEN] at hx1 hx2
                have Khf1 := Lib.hid hf1
                have Khf2 := Lib.hid hf2
                have Khk1 := Lib.hid hk1
                have Khk2 := Lib.hid hk2
                have Khx1 := Lib.hid hx1
                have Khx2 := Lib.hid hx2
                clear hf1 hf2 hk1 hk2 hx1 hx2 hFN hRN hEN
                refine wp_onlyN ?_
                refine wp_region_ptL (fun q => q = w.heap.size + 1) (.q 0 (.q 1 (.q 3 (.q 4 (.c 2 (.c 5 (.q 6 (.q 7 (.q 8 (.q 10 (.c 9 (.c 11 (.q 12 (.q 13 (.q 14 (.q 15 (.q 17 (.c 16 (.c 18 (.q 19 (.q 20 (.q 21 (.c 22 (.q 23 (.c 24 .done))))))))))))))))))))))))) (by kernel_rfl) (by kernel_rfl) (by kernel_rfl) (by decide) onlyN_panic (fun OPS HOP Wd hBd => ?_)
                try simp only [Act.put, List.getElem_toArray, List.getElem_cons_zero, List.getElem_cons_succ, List.setIfInBounds_toArray, List.set_cons_zero, List.set_cons_succ]
                have O10 := O9.out.up hBd
                iterate 4
                  refine pt_q (v := ?_) (by rw [← HOP.out]; simp only [List.getElem?_toArray, List.getElem?_cons_zero, List.getElem?_cons_succ]; rfl) (by rw [← HOP.out]; kernel_rfl) ?_ ?_
                  rotate_left
                  · intro w' hBw'
                    first | (go_simp; done) | (go_simp; with_reducible rfl)
                  try simp only [Act.put, List.getElem_toArray, List.getElem_cons_zero, List.getElem_cons_succ, List.setIfInBounds_toArray, List.set_cons_zero, List.set_cons_succ]
                refine pt_c ?_
                refine pt_step (by rw [← HOP.out]; simp only [List.getElem?_toArray, List.getElem?_cons_zero, List.getElem?_cons_succ]; rfl) (by rw [← HOP.out]; kernel_rfl) (fun K hK => ?_)
                go_simp
                refine (Khf1.out _ O10.l).mono ?_
                rintro en va ⟨rfl, hbva⟩
                have O11 := O10.up hbva
                refine hK.out _ _ (But.of_below hbva) ?_
                clear hK K
                try simp only [Act.put, List.getElem_toArray, List.getElem_cons_zero, List.getElem_cons_succ, List.setIfInBounds_toArray, List.set_cons_zero, List.set_cons_succ]
                refine pt_c ?_
                refine pt_step (by rw [← HOP.out]; simp only [List.getElem?_toArray, List.getElem?_cons_zero, List.getElem?_cons_succ]; rfl) (by rw [← HOP.out]; kernel_rfl) (fun K hK => ?_)
                go_simp
                refine (Khf2.out _ O11.l).mono ?_
                rintro en vb ⟨rfl, hbvb⟩
                have O12 := O11.up hbvb
                refine hK.out _ _ (But.of_below hbvb) ?_
                clear hK K
                iterate 2
                  try simp only [Act.put, List.getElem_toArray, List.getElem_cons_zero, List.getElem_cons_succ, List.setIfInBounds_toArray, List.set_cons_zero, List.set_cons_succ]
                  refine pt_q (v := ?_) (by rw [← HOP.out]; simp only [List.getElem?_toArray, List.getElem?_cons_zero, List.getElem?_cons_succ]; rfl) (by rw [← HOP.out]; kernel_rfl) ?_ ?_
                  rotate_left
                  · intro w' hBw'
                    first | (go_simp; done) | (go_simp; with_reducible rfl)
                try simp only [Act.put, List.getElem_toArray, List.getElem_cons_zero, List.getElem_cons_succ, List.setIfInBounds_toArray, List.set_cons_zero, List.set_cons_succ]
                have P1 : RowAt vb w.heap.size (prC p).toArray 28 := O12.p
                iterate 2
                  refine pt_load (by rw [← HOP.out]; simp only [List.getElem?_toArray, List.getElem?_cons_zero, List.getElem?_cons_succ]; rfl) (by rw [← HOP.out]; kernel_rfl) 28 (.tmp 3) rfl w.heap.size 0 rfl (prC p) _ P1.range (fun h => by have h2 : w.heap.size = w.heap.size + 1 := h; omega) Tryz.underlying28 rfl (by kernel_rfl) ?_
                  try simp only [Act.put, List.getElem_toArray, List.getElem_cons_zero, List.getElem_cons_succ, List.setIfInBounds_toArray, List.set_cons_zero, List.set_cons_succ]
                refine pt_c ?_
                refine pt_step (by rw [← HOP.out]; simp only [List.getElem?_toArray, List.getElem?_cons_zero, List.getElem?_cons_succ]; rfl) (by rw [← HOP.out]; kernel_rfl) (fun K hK => ?_)
                go_simp
                refine (Khk1.out _).mono ?_
                rintro en vc ⟨rfl, hbvc⟩
                have O13 := O12.up hbvc
                refine hK.out _ _ (But.of_below hbvc) ?_
                clear hK K
                try simp only [Act.put, List.getElem_toArray, List.getElem_cons_zero, List.getElem_cons_succ, List.setIfInBounds_toArray, List.set_cons_zero, List.set_cons_succ]
                refine pt_c ?_
                refine pt_step (by rw [← HOP.out]; simp only [List.getElem?_toArray, List.getElem?_cons_zero, List.getElem?_cons_succ]; rfl) (by rw [← HOP.out]; kernel_rfl) (fun K hK => ?_)
                go_simp
                refine (Khk2.out _).mono ?_
                rintro en vd ⟨rfl, hbvd⟩
                have O14 := O13.up hbvd
                refine hK.out _ _ (But.of_below hbvd) ?_
                clear hK K
                iterate 3
                  try simp only [Act.put, List.getElem_toArray, List.getElem_cons_zero, List.getElem_cons_succ, List.setIfInBounds_toArray, List.set_cons_zero, List.set_cons_succ]
                  refine pt_q (v := ?_) (by rw [← HOP.out]; simp only [List.getElem?_toArray, List.getElem?_cons_zero, List.getElem?_cons_succ]; rfl) (by rw [← HOP.out]; kernel_rfl) ?_ ?_
                  rotate_left
                  · intro w' hBw'
                    first | (go_simp; done) | (go_simp; with_reducible rfl)
                try simp only [Act.put, List.getElem_toArray, List.getElem_cons_zero, List.getElem_cons_succ, List.setIfInBounds_toArray, List.set_cons_zero, List.set_cons_succ]
                have P2 : RowAt vd w.heap.size (prC p).toArray 28 := O14.p
                iterate 2
                  refine pt_load (by rw [← HOP.out]; simp only [List.getElem?_toArray, List.getElem?_cons_zero, List.getElem?_cons_succ]; rfl) (by rw [← HOP.out]; kernel_rfl) 28 (.tmp 3) rfl w.heap.size 0 rfl (prC p) _ P2.range (fun h => by have h2 : w.heap.size = w.heap.size + 1 := h; omega) Tryz.underlying28 rfl (by kernel_rfl) ?_
                  try simp only [Act.put, List.getElem_toArray, List.getElem_cons_zero, List.getElem_cons_succ, List.setIfInBounds_toArray, List.set_cons_zero, List.set_cons_succ]
                refine pt_c ?_
                refine pt_step (by rw [← HOP.out]; simp only [List.getElem?_toArray, List.getElem?_cons_zero, List.getElem?_cons_succ]; rfl) (by rw [← HOP.out]; kernel_rfl) (fun K hK => ?_)
                go_simp
                refine (Khx1.out _).mono ?_
                rintro en ve ⟨rfl, hbve⟩
                have O15 := O14.up hbve
                refine hK.out _ _ (But.of_below hbve) ?_
                clear hK K
                try simp only [Act.put, List.getElem_toArray, List.getElem_cons_zero, List.getElem_cons_succ, List.setIfInBounds_toArray, List.set_cons_zero, List.set_cons_succ]
                refine pt_c ?_
                refine pt_step (by rw [← HOP.out]; simp only [List.getElem?_toArray, List.getElem?_cons_zero, List.getElem?_cons_succ]; rfl) (by rw [← HOP.out]; kernel_rfl) (fun K hK => ?_)
                go_simp
                refine (Khx2.out _).mono ?_
                rintro en vf ⟨rfl, hbvf⟩
                have O16 := O15.up hbvf
                refine hK.out _ _ (But.of_below hbvf) ?_
                clear hK K
                iterate 3
                  try simp only [Act.put, List.getElem_toArray, List.getElem_cons_zero, List.getElem_cons_succ, List.setIfInBounds_toArray, List.set_cons_zero, List.set_cons_succ]
                  refine pt_q (v := ?_) (by rw [← HOP.out]; simp only [List.getElem?_toArray, List.getElem?_cons_zero, List.getElem?_cons_succ]; rfl) (by rw [← HOP.out]; kernel_rfl) ?_ ?_
                  rotate_left
                  · intro w' hBw'
                    first | (go_simp; done) | (go_simp; with_reducible rfl)
                try simp only [Act.put, List.getElem_toArray, List.getElem_cons_zero, List.getElem_cons_succ, List.setIfInBounds_toArray, List.set_cons_zero, List.set_cons_succ]
                refine pt_c ?_
                refine pt_step (by rw [← HOP.out]; simp only [List.getElem?_toArray, List.getElem?_cons_zero, List.getElem?_cons_succ]; rfl) (by rw [← HOP.out]; kernel_rfl) (fun K hK => ?_)
                go_simp
                refine (prWorks_c _ (HT0.out.up O16.below)).mono ?_
                rintro en vg ⟨rfl, hbvg⟩
                have O17 := O16.up hbvg
                refine hK.out _ _ (But.of_below hbvg) ?_
                clear hK K
                try simp only [Act.put, List.getElem_toArray, List.getElem_cons_zero, List.getElem_cons_succ, List.setIfInBounds_toArray, List.set_cons_zero, List.set_cons_succ]
                refine pt_q (v := ?_) (by rw [← HOP.out]; simp only [List.getElem?_toArray, List.getElem?_cons_zero, List.getElem?_cons_succ]; rfl) (by rw [← HOP.out]; kernel_rfl) ?_ ?_
                rotate_left
                · intro w' hBw'
                  first | (go_simp; done) | (go_simp; with_reducible rfl)
                try simp only [Act.put, List.getElem_toArray, List.getElem_cons_zero, List.getElem_cons_succ, List.setIfInBounds_toArray, List.set_cons_zero, List.set_cons_succ]
                have rz := O17.res.cell (i := 0) rfl
                have rf := O17.res.fz 0
                refine pt_c ?_
                refine pt_step (by rw [← HOP.out]; simp only [List.getElem?_toArray, List.getElem?_cons_zero, List.getElem?_cons_succ]; rfl) (by rw [← HOP.out]; kernel_rfl) (fun K hK => ?_)
                go_simp
                refine hK.out _ _ (But.setCell _ _ _ (.inl rfl)) ?_
                clear hK K
                try simp only [Act.put, List.getElem_toArray, List.getElem_cons_zero, List.getElem_cons_succ, List.setIfInBounds_toArray, List.set_cons_zero, List.set_cons_succ]
                refine pt_doneN ?_
                have HBZ := Lib.hid (below_up (below_up (below_up (below_up (below_up (below_up (below_up (below_up HB9.out hBd) hbva) hbvb) hbvc) hbvd) hbve) hbvf) hbvg)
                have HOZ := Lib.hid O17
                clear hBd hbva hbvb hbvc hbvd hbve hbvf hbvg O10 O11 O12 O13 O14 O15 O16 O17 P1 P2 rz rf
                go_wp2
                have hx4 := HOZ.out.res.set 0 (.bool true)
                have d1 := HD1.out
                have d2 := HD2.out
                have d3 := HWR.out
                have hDm : ∀ D ∈ [D2, D1], D ≠ w.heap.size + 1 := fun D hD => by simp only [List.mem_cons, List.not_mem_nil, or_false] at hD; rcases hD with rfl | rfl <;> omega
                have hDk : ∀ D ∈ [D2, D1], V2.heap[D]? = some (.deferred (some [])) := fun D hD => by simp only [List.mem_cons, List.not_mem_nil, or_false] at hD; rcases hD with rfl | rfl; exact HK2.out; exact HM1.out
                have hDl : ∀ D ∈ [D2, D1], w.heap.size ≤ D := fun D hD => by simp only [List.mem_cons, List.not_mem_nil, or_false] at hD; rcases hD with rfl | rfl <;> omega
                refine leaves_marks [D2, D1] _ (by simp; omega) (fun D hD => ?_) (fun w9 hb9 => ?_)
                · have hm := hDk D hD
                  have hDlt : D < V2.heap.size := (Array.getElem?_eq_some_iff.1 hm).1
                  rw [Below.heap_setCell _ _ _ _ (by simpa using hDm D hD)]
                  exact (HBZ.out.block D hDlt).trans hm
                · have hx5 := (hb9.same _ hx4.lt (fun hD => hDm _ hD rfl)).trans hx4
                  have hx5c := RowAt.cell (i := 0) (v := .bool true) hx5 rfl
                  refine ⟨.bool true, by simp [results, Tryz.results3, go_sem, hx5c], rfl, ?_⟩
                  have hB3 := HOZ.out.below.setCell (show w.heap.size ≤ (⟨w.heap.size + 1, 0, none⟩ : Addr).block by simp) (.bool true)
                  exact hB3.trans (hb9.below (fun D hD => hDl D hD) hB3.size)
              | false =>
                rw [hb3] at hr3
                have hU : pwU p.flags = [] := by unfold pwU Prm.wantsL; simp [hb2, hb3]
                have h1 := HV1.out
                rw [hU] at h1
                have hTw : two = 0 := by rw [← HTW.out]; unfold pwTwo pwAt Prm.wantsL; simp [hb2, hb3]
                subst hTw
                have H1 := Lib.hid h1
                have HRA := Lib.hid hr2
                have HRB := Lib.hid hr3
                have HW0 := Lib.hid hw0
                clear hU h1 hr2 hr3 hw0 hb2 hb3
                have Bq := below_alloc V2 (.cells #[] 22)
                have O3 := O2.out.up Bq
                have HBq := Lib.hid Bq
                have x0 := O3.p.cell (i := 0) rfl
                have x1 := O3.p.cell (i := 1) rfl
                have x2 := O3.p.cell (i := 2) rfl
                have x3 := O3.p.cell (i := 3) rfl
                have x4 := O3.p.cell (i := 4) rfl
                have x5 := O3.p.cell (i := 5) rfl
                have x6 := O3.p.cell (i := 6) rfl
                have x7 := O3.p.cell (i := 7) rfl
                have x8 := O3.p.cell (i := 8) rfl
                have x9 := O3.p.cell (i := 9) rfl
                have x10 := O3.p.cell (i := 10) rfl
                clear Bq O3
                go_wp2_with fail
                clear x0 x1 x2 x3 x4 x5 x6 x7 x8 x9 x10
                refine (HRA.out _).mono ?_
                rintro en W4 ⟨rfl, hb4⟩
                have B4 := below_up HBq.out hb4
                have own4 := Lib.hid (own_up HW0.out hb4)
                clear hb4
                have O4 := O2.out.up B4
                have x0 := O4.p.cell (i := 0) rfl
                have x1 := O4.p.cell (i := 1) rfl
                have x2 := O4.p.cell (i := 2) rfl
                have x3 := O4.p.cell (i := 3) rfl
                have x4 := O4.p.cell (i := 4) rfl
                have x5 := O4.p.cell (i := 5) rfl
                have x6 := O4.p.cell (i := 6) rfl
                have x7 := O4.p.cell (i := 7) rfl
                have x8 := O4.p.cell (i := 8) rfl
                have x9 := O4.p.cell (i := 9) rfl
                have x10 := O4.p.cell (i := 10) rfl
                go_wp2_with fail
                clear x0 x1 x2 x3 x4 x5 x6 x7 x8 x9 x10
                clear O4
                refine (HRB.out _).mono ?_
                rintro en W6 ⟨rfl, hb6⟩
                have B6 := below_up B4 hb6
                have own6 := Lib.hid (own_up own4.out hb6)
                clear hb6
                go_wp2_with fail
                have HB := Lib.hid B6
                have O8 := Lib.hid (O2.out.up B6)
                have P8 := H1.out.up B6
                have T8 := Lib.hid ((HR2.out.cnt).below B6)
                have hown := own6.out
                obtain ⟨a1, c1, rfl⟩ := own_slice P8.row
                obtain ⟨ah, ch, hvh⟩ := own_slice hown
                skip
                have HA8 := Lib.hid P8.box.cell
                clear hown P8
                refine wp_onlyN ?_
                refine wp_region_ptL (fun _ => False) (.q 0 (.q 1 (.q 2 (.q 3 (.q 4 (.q 5 (.q 6 (.q 7 (.q 8 (.q 9 (.q 10 (.q 11 (.q 12 (.q 13 (.q 14 (.q 15 (.q 16 (.q 17 (.q 18 (.q 19 (.q 20 (.q 21 (.q 22 (.q 23 (.q 24 (.q 25 (.q 26 (.q 27 (.q 28 (.q 29 (.q 30 (.q 31 (.q 32 (.q 33 (.q 34 (.q 35 (.q 36 (.q 37 (.q 38 (.q 39 (.q 40 .done))))))))))))))))))))))))))))))))))))))))) (by kernel_rfl) (by kernel_rfl) (by kernel_rfl) (by decide) onlyN_panic (fun OPS HOP Wd hBd => ?_)
                try simp only [Act.put, List.getElem_toArray, List.getElem_cons_zero, List.getElem_cons_succ, List.setIfInBounds_toArray, List.set_cons_zero, List.set_cons_succ]
                have cA := cell_up hBd HA8.out
                have cT := cell_up hBd (T8.out.cell (i := 0) rfl)
                refine pt_q (v := ?_) (by rw [← HOP.out]; simp only [List.getElem?_toArray, List.getElem?_cons_zero, List.getElem?_cons_succ]; rfl) (by rw [← HOP.out]; kernel_rfl) ?_ ?_
                rotate_left
                · intro w' hBw'
                  have qL := hBw'.cell cA (fun e => e)
                  first | (go_simp; done) | (go_simp; with_reducible rfl)
                iterate 5
                  try simp only [Act.put, List.getElem_toArray, List.getElem_cons_zero, List.getElem_cons_succ, List.setIfInBounds_toArray, List.set_cons_zero, List.set_cons_succ]
                  refine pt_q (v := ?_) (by rw [← HOP.out]; simp only [List.getElem?_toArray, List.getElem?_cons_zero, List.getElem?_cons_succ]; rfl) (by rw [← HOP.out]; kernel_rfl) ?_ ?_
                  rotate_left
                  · intro w' hBw'
                    first | (go_simp; done) | (go_simp; with_reducible rfl)
                try simp only [Act.put, List.getElem_toArray, List.getElem_cons_zero, List.getElem_cons_succ, List.setIfInBounds_toArray, List.set_cons_zero, List.set_cons_succ]
                refine pt_q (v := ?_) (by rw [← HOP.out]; simp only [List.getElem?_toArray, List.getElem?_cons_zero, List.getElem?_cons_succ]; rfl) (by rw [← HOP.out]; kernel_rfl) ?_ ?_
                rotate_left
                · intro w' hBw'
                  have qL := hBw'.cell cA (fun e => e)
                  first | (go_simp; done) | (go_simp; with_reducible rfl)
                iterate 3
                  try simp only [Act.put, List.getElem_toArray, List.getElem_cons_zero, List.getElem_cons_succ, List.setIfInBounds_toArray, List.set_cons_zero, List.set_cons_succ]
                  refine pt_q (v := ?_) (by rw [← HOP.out]; simp only [List.getElem?_toArray, List.getElem?_cons_zero, List.getElem?_cons_succ]; rfl) (by rw [← HOP.out]; kernel_rfl) ?_ ?_
                  rotate_left
                  · intro w' hBw'
                    first | (go_simp; done) | (go_simp; with_reducible rfl)
                iterate 15
                  try simp only [Act.put, List.getElem_toArray, List.getElem_cons_zero, List.getElem_cons_succ, List.setIfInBounds_toArray, List.set_cons_zero, List.set_cons_succ]
                  refine pt_no (by rw [← HOP.out]; simp only [List.getElem?_toArray, List.getElem?_cons_zero, List.getElem?_cons_succ]; rfl) (by rw [← HOP.out]; kernel_rfl) ?_
                iterate 3
                  try simp only [Act.put, List.getElem_toArray, List.getElem_cons_zero, List.getElem_cons_succ, List.setIfInBounds_toArray, List.set_cons_zero, List.set_cons_succ]
                  refine pt_q (v := ?_) (by rw [← HOP.out]; simp only [List.getElem?_toArray, List.getElem?_cons_zero, List.getElem?_cons_succ]; rfl) (by rw [← HOP.out]; kernel_rfl) ?_ ?_
                  rotate_left
                  · intro w' hBw'
                    first | (go_simp; done) | (go_simp; with_reducible rfl)
                try simp only [Act.put, List.getElem_toArray, List.getElem_cons_zero, List.getElem_cons_succ, List.setIfInBounds_toArray, List.set_cons_zero, List.set_cons_succ]
                refine pt_q (v := ?_) (by rw [← HOP.out]; simp only [List.getElem?_toArray, List.getElem?_cons_zero, List.getElem?_cons_succ]; rfl) (by rw [← HOP.out]; kernel_rfl) ?_ ?_
                rotate_left
                · intro w' hBw'
                  have qL := hBw'.cell cA (fun e => e)
                  first | (go_simp; done) | (go_simp; with_reducible rfl)
                iterate 3
                  try simp only [Act.put, List.getElem_toArray, List.getElem_cons_zero, List.getElem_cons_succ, List.setIfInBounds_toArray, List.set_cons_zero, List.set_cons_succ]
                  refine pt_q (v := ?_) (by rw [← HOP.out]; simp only [List.getElem?_toArray, List.getElem?_cons_zero, List.getElem?_cons_succ]; rfl) (by rw [← HOP.out]; kernel_rfl) ?_ ?_
                  rotate_left
                  · intro w' hBw'
                    first | (go_simp; done) | (go_simp; with_reducible rfl)
                iterate 7
                  try simp only [Act.put, List.getElem_toArray, List.getElem_cons_zero, List.getElem_cons_succ, List.setIfInBounds_toArray, List.set_cons_zero, List.set_cons_succ]
                  refine pt_no (by rw [← HOP.out]; simp only [List.getElem?_toArray, List.getElem?_cons_zero, List.getElem?_cons_succ]; rfl) (by rw [← HOP.out]; kernel_rfl) ?_
                iterate 2
                  try simp only [Act.put, List.getElem_toArray, List.getElem_cons_zero, List.getElem_cons_succ, List.setIfInBounds_toArray, List.set_cons_zero, List.set_cons_succ]
                  refine pt_q (v := ?_) (by rw [← HOP.out]; simp only [List.getElem?_toArray, List.getElem?_cons_zero, List.getElem?_cons_succ]; rfl) (by rw [← HOP.out]; kernel_rfl) ?_ ?_
                  rotate_left
                  · intro w' hBw'
                    first | (go_simp; done) | (go_simp; with_reducible rfl)
                try simp only [Act.put, List.getElem_toArray, List.getElem_cons_zero, List.getElem_cons_succ, List.setIfInBounds_toArray, List.set_cons_zero, List.set_cons_succ]
                refine pt_doneN ?_
                have HB9 := Lib.hid (below_up HB.out hBd)
                have O9 := Lib.hid (O8.out.up hBd)
                clear hBd cA cT 
                go_wp2
                obtain ⟨FN, hFN⟩ : ∃ k : Nat, Prm.flagsN rank l = k := ⟨_, rfl⟩
                obtain ⟨RN, hRN⟩ : ∃ k : Nat, Prm.rankN p.flags = k := ⟨_, rfl⟩
                obtain ⟨EN, hEN⟩ : ∃ k : Int, Clk.addF p.time p.life = k := ⟨_, rfl⟩
                have hf1 : ∀ W, Sl W 1 (.slice a i c) i (l.map fun q : Nat => Value.int .u32 q) → Calls Tryz.prog 16 #[.int .i64 rank, .slice a i c] W (Ret (.int .u32 (FN : Nat)) W) := fun W hv => by have h := prFlagsOf_c rank HRK.out l (.slice a i c) W (by rw [HN.out]; exact hv) HLW.out; rw [hFN] at h; exact h
                have hf2 : ∀ W, Sl W 1 (.slice a i c) i (l.map fun q : Nat => Value.int .u32 q) → Calls Tryz.prog 17 #[.int .i64 rank, .slice a i c] W (Ret (.int .u32 (FN : Nat)) W) := fun W hv => by have h := rFlagsOf_c rank HRK.out l (.slice a i c) W (by rw [HN.out]; exact hv) HLW.out; rw [hFN] at h; exact h
                have hk1 := prRank_c p HPO.out.f
                have hk2 := rRank_c p HPO.out.f
                simp only [hRN] at hk1 hk2
                have hx1 := prExpires_c p
                have hx2 := rExpires_c p
                simp only [hEN] at hx1 hx2
                have Khf1 := Lib.hid hf1
                have Khf2 := Lib.hid hf2
                have Khk1 := Lib.hid hk1
                have Khk2 := Lib.hid hk2
                have Khx1 := Lib.hid hx1
                have Khx2 := Lib.hid hx2
                clear hf1 hf2 hk1 hk2 hx1 hx2 hFN hRN hEN
                refine wp_onlyN ?_
                refine wp_region_ptL (fun q => q = w.heap.size + 1) (.q 0 (.q 1 (.q 3 (.q 4 (.c 2 (.c 5 (.q 6 (.q 7 (.q 8 (.q 10 (.c 9 (.c 11 (.q 12 (.q 13 (.q 14 (.q 15 (.q 17 (.c 16 (.c 18 (.q 19 (.q 20 (.q 21 (.c 22 (.q 23 (.c 24 .done))))))))))))))))))))))))) (by kernel_rfl) (by kernel_rfl) (by kernel_rfl) (by decide) onlyN_panic (fun OPS HOP Wd hBd => ?_)
                try simp only [Act.put, List.getElem_toArray, List.getElem_cons_zero, List.getElem_cons_succ, List.setIfInBounds_toArray, List.set_cons_zero, List.set_cons_succ]
                have O10 := O9.out.up hBd
                iterate 4
                  refine pt_q (v := ?_) (by rw [← HOP.out]; simp only [List.getElem?_toArray, List.getElem?_cons_zero, List.getElem?_cons_succ]; rfl) (by rw [← HOP.out]; kernel_rfl) ?_ ?_
                  rotate_left
                  · intro w' hBw'
                    first | (go_simp; done) | (go_simp; with_reducible rfl)
                  try simp only [Act.put, List.getElem_toArray, List.getElem_cons_zero, List.getElem_cons_succ, List.setIfInBounds_toArray, List.set_cons_zero, List.set_cons_succ]
                refine pt_c ?_
                refine pt_step (by rw [← HOP.out]; simp only [List.getElem?_toArray, List.getElem?_cons_zero, List.getElem?_cons_succ]; rfl) (by rw [← HOP.out]; kernel_rfl) (fun K hK => ?_)
                go_simp
                refine (Khf1.out _ O10.l).mono ?_
                rintro en va ⟨rfl, hbva⟩
                have O11 := O10.up hbva
                refine hK.out _ _ (But.of_below hbva) ?_
                clear hK K
                try simp only [Act.put, List.getElem_toArray, List.getElem_cons_zero, List.getElem_cons_succ, List.setIfInBounds_toArray, List.set_cons_zero, List.set_cons_succ]
                refine pt_c ?_
                refine pt_step (by rw [← HOP.out]; simp only [List.getElem?_toArray, List.getElem?_cons_zero, List.getElem?_cons_succ]; rfl) (by rw [← HOP.out]; kernel_rfl) (fun K hK => ?_)
                go_simp
                refine (Khf2.out _ O11.l).mono ?_
                rintro en vb ⟨rfl, hbvb⟩
                have O12 := O11.up hbvb
                refine hK.out _ _ (But.of_below hbvb) ?_
                clear hK K
                iterate 2
                  try simp only [Act.put, List.getElem_toArray, List.getElem_cons_zero, List.getElem_cons_succ, List.setIfInBounds_toArray, List.set_cons_zero, List.set_cons_succ]
                  refine pt_q (v := ?_) (by rw [← HOP.out]; simp only [List.getElem?_toArray, List.getElem?_cons_zero, List.getElem?_cons_succ]; rfl) (by rw [← HOP.out]; kernel_rfl) ?_ ?_
                  rotate_left
                  · intro w' hBw'
                    first | (go_simp; done) | (go_simp; with_reducible rfl)
                try simp only [Act.put, List.getElem_toArray, List.getElem_cons_zero, List.getElem_cons_succ, List.setIfInBounds_toArray, List.set_cons_zero, List.set_cons_succ]
                have P1 : RowAt vb w.heap.size (prC p).toArray 28 := O12.p
                iterate 2
                  refine pt_load (by rw [← HOP.out]; simp only [List.getElem?_toArray, List.getElem?_cons_zero, List.getElem?_cons_succ]; rfl) (by rw [← HOP.out]; kernel_rfl) 28 (.tmp 3) rfl w.heap.size 0 rfl (prC p) _ P1.range (fun h => by have h2 : w.heap.size = w.heap.size + 1 := h; omega) Tryz.underlying28 rfl (by kernel_rfl) ?_
                  try simp only [Act.put, List.getElem_toArray, List.getElem_cons_zero, List.getElem_cons_succ, List.setIfInBounds_toArray, List.set_cons_zero, List.set_cons_succ]
                refine pt_c ?_
                refine pt_step (by rw [← HOP.out]; simp only [List.getElem?_toArray, List.getElem?_cons_zero, List.getElem?_cons_succ]; rfl) (by rw [← HOP.out]; kernel_rfl) (fun K hK => ?_)
                go_simp
                refine (Khk1.out _).mono ?_
                rintro en vc ⟨rfl, hbvc⟩
                have O13 := O12.up hbvc
                refine hK.out _ _ (But.of_below hbvc) ?_
                clear hK K
                try simp only [Act.put, List.getElem_toArray, List.getElem_cons_zero, List.getElem_cons_succ, List.setIfInBounds_toArray, List.set_cons_zero, List.set_cons_succ]
                refine pt_c ?_
                refine pt_step (by rw [← HOP.out]; simp only [List.getElem?_toArray, List.getElem?_cons_zero, List.getElem?_cons_succ]; rfl) (by rw [← HOP.out]; kernel_rfl) (fun K hK => ?_)
                go_simp
                refine (Khk2.out _).mono ?_
                rintro en vd ⟨rfl, hbvd⟩
                have O14 := O13.up hbvd
                refine hK.out _ _ (But.of_below hbvd) ?_
                clear hK K
                iterate 3
                  try simp only [Act.put, List.getElem_toArray, List.getElem_cons_zero, List.getElem_cons_succ, List.setIfInBounds_toArray, List.set_cons_zero, List.set_cons_succ]
                  refine pt_q (v := ?_) (by rw [← HOP.out]; simp only [List.getElem?_toArray, List.getElem?_cons_zero, List.getElem?_cons_succ]; rfl) (by rw [← HOP.out]; kernel_rfl) ?_ ?_
                  rotate_left
                  · intro w' hBw'
                    first | (go_simp; done) | (go_simp; with_reducible rfl)
                try simp only [Act.put, List.getElem_toArray, List.getElem_cons_zero, List.getElem_cons_succ, List.setIfInBounds_toArray, List.set_cons_zero, List.set_cons_succ]
                have P2 : RowAt vd w.heap.size (prC p).toArray 28 := O14.p
                iterate 2
                  refine pt_load (by rw [← HOP.out]; simp only [List.getElem?_toArray, List.getElem?_cons_zero, List.getElem?_cons_succ]; rfl) (by rw [← HOP.out]; kernel_rfl) 28 (.tmp 3) rfl w.heap.size 0 rfl (prC p) _ P2.range (fun h => by have h2 : w.heap.size = w.heap.size + 1 := h; omega) Tryz.underlying28 rfl (by kernel_rfl) ?_
                  try simp only [Act.put, List.getElem_toArray, List.getElem_cons_zero, List.getElem_cons_succ, List.setIfInBounds_toArray, List.set_cons_zero, List.set_cons_succ]
                refine pt_c ?_
                refine pt_step (by rw [← HOP.out]; simp only [List.getElem?_toArray, List.getElem?_cons_zero, List.getElem?_cons_succ]; rfl) (by rw [← HOP.out]; kernel_rfl) (fun K hK => ?_)
                go_simp
                refine (Khx1.out _).mono ?_
                rintro en ve ⟨rfl, hbve⟩
                have O15 := O14.up hbve
                refine hK.out _ _ (But.of_below hbve) ?_
                clear hK K
                try simp only [Act.put, List.getElem_toArray, List.getElem_cons_zero, List.getElem_cons_succ, List.setIfInBounds_toArray, List.set_cons_zero, List.set_cons_succ]
                refine pt_c ?_
                refine pt_step (by rw [← HOP.out]; simp only [List.getElem?_toArray, List.getElem?_cons_zero, List.getElem?_cons_succ]; rfl) (by rw [← HOP.out]; kernel_rfl) (fun K hK => ?_)
                go_simp
                refine (Khx2.out _).mono ?_
                rintro en vf ⟨rfl, hbvf⟩
                have O16 := O15.up hbvf
                refine hK.out _ _ (But.of_below hbvf) ?_
                clear hK K
                iterate 3
                  try simp only [Act.put, List.getElem_toArray, List.getElem_cons_zero, List.getElem_cons_succ, List.setIfInBounds_toArray, List.set_cons_zero, List.set_cons_succ]
                  refine pt_q (v := ?_) (by rw [← HOP.out]; simp only [List.getElem?_toArray, List.getElem?_cons_zero, List.getElem?_cons_succ]; rfl) (by rw [← HOP.out]; kernel_rfl) ?_ ?_
                  rotate_left
                  · intro w' hBw'
                    first | (go_simp; done) | (go_simp; with_reducible rfl)
                try simp only [Act.put, List.getElem_toArray, List.getElem_cons_zero, List.getElem_cons_succ, List.setIfInBounds_toArray, List.set_cons_zero, List.set_cons_succ]
                refine pt_c ?_
                refine pt_step (by rw [← HOP.out]; simp only [List.getElem?_toArray, List.getElem?_cons_zero, List.getElem?_cons_succ]; rfl) (by rw [← HOP.out]; kernel_rfl) (fun K hK => ?_)
                go_simp
                refine (prWorks_c _ (HT0.out.up O16.below)).mono ?_
                rintro en vg ⟨rfl, hbvg⟩
                have O17 := O16.up hbvg
                refine hK.out _ _ (But.of_below hbvg) ?_
                clear hK K
                try simp only [Act.put, List.getElem_toArray, List.getElem_cons_zero, List.getElem_cons_succ, List.setIfInBounds_toArray, List.set_cons_zero, List.set_cons_succ]
                refine pt_q (v := ?_) (by rw [← HOP.out]; simp only [List.getElem?_toArray, List.getElem?_cons_zero, List.getElem?_cons_succ]; rfl) (by rw [← HOP.out]; kernel_rfl) ?_ ?_
                rotate_left
                · intro w' hBw'
                  first | (go_simp; done) | (go_simp; with_reducible rfl)
                try simp only [Act.put, List.getElem_toArray, List.getElem_cons_zero, List.getElem_cons_succ, List.setIfInBounds_toArray, List.set_cons_zero, List.set_cons_succ]
                have rz := O17.res.cell (i := 0) rfl
                have rf := O17.res.fz 0
                refine pt_c ?_
                refine pt_step (by rw [← HOP.out]; simp only [List.getElem?_toArray, List.getElem?_cons_zero, List.getElem?_cons_succ]; rfl) (by rw [← HOP.out]; kernel_rfl) (fun K hK => ?_)
                go_simp
                refine hK.out _ _ (But.setCell _ _ _ (.inl rfl)) ?_
                clear hK K
                try simp only [Act.put, List.getElem_toArray, List.getElem_cons_zero, List.getElem_cons_succ, List.setIfInBounds_toArray, List.set_cons_zero, List.set_cons_succ]
                refine pt_doneN ?_
                have HBZ := Lib.hid (below_up (below_up (below_up (below_up (below_up (below_up (below_up (below_up HB9.out hBd) hbva) hbvb) hbvc) hbvd) hbve) hbvf) hbvg)
                have HOZ := Lib.hid O17
                clear hBd hbva hbvb hbvc hbvd hbve hbvf hbvg O10 O11 O12 O13 O14 O15 O16 O17 P1 P2 rz rf
                go_wp2
                have hx4 := HOZ.out.res.set 0 (.bool true)
                have d1 := HD1.out
                have d2 := HD2.out
                have d3 := HWR.out
                have hDm : ∀ D ∈ [D2, D1], D ≠ w.heap.size + 1 := fun D hD => by simp only [List.mem_cons, List.not_mem_nil, or_false] at hD; rcases hD with rfl | rfl <;> omega
                have hDk : ∀ D ∈ [D2, D1], V2.heap[D]? = some (.deferred (some [])) := fun D hD => by simp only [List.mem_cons, List.not_mem_nil, or_false] at hD; rcases hD with rfl | rfl; exact HK2.out; exact HM1.out
                have hDl : ∀ D ∈ [D2, D1], w.heap.size ≤ D := fun D hD => by simp only [List.mem_cons, List.not_mem_nil, or_false] at hD; rcases hD with rfl | rfl <;> omega
                refine leaves_marks [D2, D1] _ (by simp; omega) (fun D hD => ?_) (fun w9 hb9 => ?_)
                · have hm := hDk D hD
                  have hDlt : D < V2.heap.size := (Array.getElem?_eq_some_iff.1 hm).1
                  rw [Below.heap_setCell _ _ _ _ (by simpa using hDm D hD)]
                  exact (HBZ.out.block D hDlt).trans hm
                · have hx5 := (hb9.same _ hx4.lt (fun hD => hDm _ hD rfl)).trans hx4
                  have hx5c := RowAt.cell (i := 0) (v := .bool true) hx5 rfl
                  refine ⟨.bool true, by simp [results, Tryz.results3, go_sem, hx5c], rfl, ?_⟩
                  have hB3 := HOZ.out.below.setCell (show w.heap.size ≤ (⟨w.heap.size + 1, 0, none⟩ : Addr).block by simp) (.bool true)
                  exact hB3.trans (hb9.below (fun D hD => hDl D hD) hB3.size)
end Go.Proofs.YtpkonagjnfphkaaGreatDoor

namespace Go.Proofs.YtpkonagjnfphkaaGreatDoor
open Go.RowKit Trc Cb
theorem u32s_of {H : Type} {enc : TypeId × Value → H} {w : World} {base : Nat} {spare : Nat → Bool} {held : Bool} {T : TypeId} (ht : Tryz.prog.underlying T = some (.int .u32)) {v : Value} {n : Nat} {vs : List Value} (hsl : Sl w 1 v n vs)
    (hl : ∀ i, i < n → ∀ (j : Nat) (U : TypeId), [T][j]? = some U → ∃ c, vs[i * 1 + j]? = some c ∧ Leaf enc Tryz.prog w base spare held U c) : ∃ l : List Nat, l.length = n ∧ vs = l.map (fun q : Nat => Value.int .u32 q) ∧ ∀ q ∈ l, q < 4294967296 := by
  have hlen : vs.length = n := by have := hsl.1; omega
  have : ∀ (vs : List Value), (∀ i, i < vs.length → ∃ x : Nat, x < 4294967296 ∧ vs[i]? = some (.int .u32 x)) → ∃ l : List Nat, vs = l.map (fun q : Nat => Value.int .u32 q) ∧ ∀ q ∈ l, q < 4294967296 := by
    intro vs
    induction vs with
    | nil => intro _; exact ⟨[], rfl, fun q hq => by cases hq⟩
    | cons u vs ih =>
      intro h
      obtain ⟨x, hx, hu⟩ := h 0 (by simp)
      obtain ⟨l, hl, hb⟩ := ih (fun i hi => by have := h (i + 1) (by simpa using hi); simpa using this)
      simp at hu
      exact ⟨x :: l, by rw [hu, hl]; rfl, fun q hq => by rcases List.mem_cons.1 hq with rfl | h2; exact hx; exact hb q h2⟩
  obtain ⟨l, h1, h2⟩ := this vs (fun i hi => by
    obtain ⟨c, hc, hL⟩ := hl i (by omega) 0 T rfl
    obtain ⟨m, rfl, hm⟩ := hL.int ht
    obtain ⟨k, rfl, hk⟩ := pr_nat32 hm
    exact ⟨k, hk, by simpa using hc⟩)
  exact ⟨l, by rw [← hlen, h1, List.length_map], h1, h2⟩
theorem primaryTells_l (a0 : Int) (h0 : (Lit.int .u32 a0).wf = true) (a1 : Int) (h1 : (Lit.int .i64 a1).wf = true) (a2 : Int) (h2 : (Lit.int .u32 a2).wf = true) (a3 : Int) (h3 : (Lit.int .u32 a3).wf = true) (a4 : Int) (h4 : (Lit.int .u32 a4).wf = true) (a5 : Int) (h5 : (Lit.int .u32 a5).wf = true) (a6 : Int) (h6 : (Lit.int .u32 a6).wf = true) (a7 : Int) (h7 : (Lit.int .u32 a7).wf = true) (a8 : Int) (h8 : (Lit.int .u64 a8).wf = true) (a9 : Int) (h9 : (Lit.int .u32 a9).wf = true) (a10 : Int) (h10 : (Lit.int .u64 a10).wf = true) (b : Int) (hb : (Lit.int .i64 b).wf = true) {H : Type} {enc : TypeId × Value → H} {base : Nat} {spare : Nat → Bool} {held : Bool} {v : Value} {n : Nat} {vs : List Value} (W : World) (hs : Sl W 1 v n vs) (hl : ∀ i, i < n → ∀ (j : Nat) (U : TypeId), [22][j]? = some U → ∃ c, vs[i * 1 + j]? = some c ∧ Leaf enc Tryz.prog W base spare held U c) (hT : Tabs W) : Calls Tryz.prog 3 #[.agg #[.int .u32 a0, .int .i64 a1, .int .u32 a2, .int .u32 a3, .int .u32 a4, .int .u32 a5, .int .u32 a6, .int .u32 a7, .int .u64 a8, .int .u32 a9, .int .u64 a10], .int .i64 b, v] W (Ret (.bool true) W) := by
  obtain ⟨p, hp, e⟩ := pr_of a0 h0 a1 h1 a2 h2 a3 h3 a4 h4 a5 h5 a6 h6 a7 h7 a8 h8 a9 h9 a10 h10
  rw [e]
  obtain ⟨l, rfl, rfl, hb2⟩ := u32s_of Tryz.underlying22 hs hl
  exact primaryTells_law p hp b (pr_int hb) l hb2 v W hs hT
end Go.Proofs.YtpkonagjnfphkaaGreatDoor

namespace Go.Proofs.YtpkonagjnfphkaaGreatDoor.primaryTellsRow
open Go.ChangeShapes Go.WideShapes Go.ChangeAt Go.RowKit
open Go.ChangeMaps (open_string shut_string)
set_option linter.unusedVariables false

theorem own : ownKnob Tryz.prog.godebug = none := by kernel_rfl
theorem laidOut : laidOutB Tryz.prog = true := by kernel_rfl

open Go.Lib
/-- Where the witness's own objects lie. -/
noncomputable def low : Nat := (World.holding Tryz.prog default ⟨#[], #[], []⟩).heap.size
/-- A world that meets the condition: the settled one, the variables laid. -/
noncomputable def laidWorld (os : Os) : World :=
  let w0 := World.holding Tryz.prog os ⟨#[], #[], []⟩
  let put (h : Array Obj) (g : Nat) (cs : Array Value) : Array Obj := h.modify g fun
    | .cells _ t frozen => .cells cs t frozen
    | o => o
  let h1 := put w0.heap 1 ((List.range 16).flatMap fun i => [Value.int .u8 (Lib.accLo i), Value.int .u8 (Lib.accHi i)]).toArray
  let h2 := put h1 0 (Lib.firstTab.map fun z => Value.int .u8 z).toArray
  { w0 with heap := h2 }
theorem laid_met (os : Os) (args : Array Value) : laidMet Tryz.prog Rows.primaryTellsRow.laid ((laidWorld os).forCall (fun _ _ => 0) ⟨#[], args, []⟩).memory :=
  (LaidIn.of_run (l := [("unicode/utf8.acceptRanges", Rows.laid_unicode_utf8_acceptRanges), ("unicode/utf8.first", Rows.laid_unicode_utf8_first)]) [1, 0] 8 (by kernel_rfl) (by kernel_rfl) (by kernel_rfl) (by kernel_rfl)).met
theorem witness_row (os : Os) {H : Type} (enc : TypeId × Value → H) :
    (OpenSpec.ofChange Rows.primaryTellsSpec).preRow enc Tryz.prog Tryz.f3 Rows.primaryTellsRow.domain false Rows.primaryTellsRow.laid ((laidWorld os).forCall (fun _ _ => 0) ⟨#[], #[.agg #[.int .u32 0, .int .i64 0, .int .u32 0, .int .u32 0, .int .u32 0, .int .u32 0, .int .u32 0, .int .u32 0, .int .u64 0, .int .u32 0, .int .u64 0], .int .i64 0, .slice none 0 0], []⟩).memory #[.agg #[.int .u32 0, .int .i64 0, .int .u32 0, .int .u32 0, .int .u32 0, .int .u32 0, .int .u32 0, .int .u32 0, .int .u64 0, .int .u32 0, .int .u64 0], .int .i64 0, .slice none 0 0] := by
  have hw : (DataW.whole enc Tryz.prog ((laidWorld os).forCall (fun _ _ => 0) ⟨#[], #[.agg #[.int .u32 0, .int .i64 0, .int .u32 0, .int .u32 0, .int .u32 0, .int .u32 0, .int .u32 0, .int .u32 0, .int .u64 0, .int .u32 0, .int .u64 0], .int .i64 0, .slice none 0 0], []⟩).memory Tryz.f3.params.toList (OpenSpec.ofChange Rows.primaryTellsSpec).vars false (#[.agg #[.int .u32 0, .int .i64 0, .int .u32 0, .int .u32 0, .int .u32 0, .int .u32 0, .int .u32 0, .int .u32 0, .int .u64 0, .int .u32 0, .int .u64 0], .int .i64 0, .slice none 0 0] : Array Value).toList 8).map (fun x => (x.1, x.2.1)) =
      some ([.agg [.lit (.int .u32 0), .lit (.int .i64 0), .agg [.lit (.int .u32 0), .lit (.int .u32 0)], .agg [.lit (.int .u32 0), .lit (.int .u32 0)], .agg [.lit (.int .u32 0), .lit (.int .u32 0)], .lit (.int .u64 0), .lit (.int .u32 0), .lit (.int .u64 0)], .lit (.int .i64 0), .nil], []) := by kernel_rfl
  obtain ⟨⟨x1, x2, x3⟩, hx, hx1⟩ := Option.map_eq_some_iff.1 hw
  simp only [Prod.mk.injEq] at hx1
  obtain ⟨rfl, rfl⟩ := hx1
  exact OpenSpec.preRow_of_cond 8 hx (by kernel_rfl) (fun k hk => by cases hk) (by kernel_rfl) (laid_met os _)

set_option maxRecDepth 100000 in
theorem lifted (os : Os) (started : os.Started) (H : Type) (enc : TypeId × Value → H) :
    ReturnsInHanded {} Tryz.checked os 3 .any ((OpenSpec.ofChange Rows.primaryTellsSpec).preRow enc Tryz.prog Tryz.f3 Rows.primaryTellsRow.domain false Rows.primaryTellsRow.laid) (Rows.primaryTellsSpec.post enc Tryz.prog Tryz.f3 false true false false) := by
  refine returnsInHanded_of_row (C := Tryz.checked) (s := OpenSpec.ofChange Rows.primaryTellsSpec) (F := fun _ _ _ => 0) own started (by kernel_rfl) Tryz.func3
    (witness_row_atRef (enc := enc) (C := Tryz.checked) false (laidWorld os) #[.agg #[.int .u32 0, .int .i64 0, .int .u32 0, .int .u32 0, .int .u32 0, .int .u32 0, .int .u32 0, .int .u32 0, .int .u64 0, .int .u32 0, .int .u64 0], .int .i64 0, .slice none 0 0] rfl (by kernel_rfl) (by kernel_rfl) (by kernel_rfl) (witness_row os enc)) ?_
  intro W base args ds gs before hval0 hW hcnd _ hsz0 hL hshp _
  have hsz : (DataW.weightsEach Tryz.prog (Tryz.f3.params.toList ++ Rows.primaryTellsSpec.plain.varTypes Tryz.prog) (ds ++ gs)).all (· ≤ reachBytes) = true := hsz0
  have hval : ∀ (j : Nat) t v, Tryz.f3.params[j]? = some t → args[j]? = some v → Value.okWide Tryz.prog W .any base t v := hval0
  have hT : Tabs W :=
    utf8Tabs_of_readsT (ρ := lays197_ren) { lays197 with } ⟨by kernel_rfl, by kernel_rfl, by kernel_rfl, by kernel_rfl, by kernel_rfl, by kernel_rfl, by kernel_rfl⟩
      (by have := Lib.laidMet.reads hL (n := "unicode/utf8.first") (d := Rows.laid_unicode_utf8_first) ((.tail _ (.head _))); exact Pinned.utf8First_eq ▸ this) (by have := Lib.laidMet.reads hL (n := "unicode/utf8.acceptRanges") (d := Rows.laid_unicode_utf8_acceptRanges) (.head _); rwa [show (Rows.laid_unicode_utf8_acceptRanges : DataW Unit) = acceptData by kernel_rfl] at this)
  have hW' := hW
  obtain ⟨p, q, hA0, hV, rfl, hfz, hnd⟩ := hW
  have hA : DataW.TrodAll enc Tryz.prog W 0 (fun _ => true) true Tryz.f3.params.toList args.toList ds p := hA0
  rw [Tryz.params3] at hA hval hsz
  obtain ⟨v0, vs0, d0, ds0, p0, q0, hargs, rfl, rfl, h0, r0⟩ := trodAll_cons hA
  obtain ⟨v1, vs1, d1, ds1, p1, q1, rfl, rfl, rfl, h1, r1⟩ := trodAll_cons r0
  obtain ⟨v2, vs2, d2, ds2, p2, q2, rfl, rfl, rfl, h2, r2⟩ := trodAll_cons r1
  obtain ⟨rfl, rfl, rfl⟩ := trodAll_nil r2
  obtain rfl : args = #[v0, v1, v2] := by cases args; simp_all
  obtain ⟨rfl, rfl⟩ := trodVars_none hV
  have k0 := h0
  have lt0 : ∀ x ∈ p0, x.block < W.heap.size := by obtain ⟨m, hm⟩ := k0; exact DataW.trod_lt m _ _ _ hm
  have k1 := h1
  have lt1 : ∀ x ∈ p1, x.block < W.heap.size := by obtain ⟨m, hm⟩ := k1; exact DataW.trod_lt m _ _ _ hm
  have k2 := h2
  have lt2 : ∀ x ∈ p2, x.block < W.heap.size := by obtain ⟨m, hm⟩ := k2; exact DataW.trod_lt m _ _ _ hm
  obtain ⟨cs0, rfl, hsz0⟩ : ∃ cs, v0 = .agg cs ∧ cs.size = 11 := by
    have := hval 0 28 v0 rfl rfl
    simp only [Value.okWide, Tryz.underlying28] at this
    obtain ⟨cs, h1, h2, _⟩ := this
    exact ⟨cs, h1, h2.trans (by kernel_rfl)⟩
  obtain ⟨fu0, hf0⟩ := h0
  obtain ⟨_, hl0⟩ := trod_leaves 12 _ _ _ _ [22, 23, 22, 22, 22, 22, 22, 22, 26, 22, 26] hf0 (by kernel_rfl)
  obtain ⟨l0⟩ := cs0
  obtain ⟨c0_0, e0_0, L0_0⟩ := hl0 0 _ rfl
  obtain ⟨p0, rfl, wp0⟩ := Leaf.int Tryz.underlying22 L0_0
  obtain ⟨c0_1, e0_1, L0_1⟩ := hl0 1 _ rfl
  obtain ⟨p1, rfl, wp1⟩ := Leaf.int Tryz.underlying23 L0_1
  obtain ⟨c0_2, e0_2, L0_2⟩ := hl0 2 _ rfl
  obtain ⟨p2, rfl, wp2⟩ := Leaf.int Tryz.underlying22 L0_2
  obtain ⟨c0_3, e0_3, L0_3⟩ := hl0 3 _ rfl
  obtain ⟨p3, rfl, wp3⟩ := Leaf.int Tryz.underlying22 L0_3
  obtain ⟨c0_4, e0_4, L0_4⟩ := hl0 4 _ rfl
  obtain ⟨p4, rfl, wp4⟩ := Leaf.int Tryz.underlying22 L0_4
  obtain ⟨c0_5, e0_5, L0_5⟩ := hl0 5 _ rfl
  obtain ⟨p5, rfl, wp5⟩ := Leaf.int Tryz.underlying22 L0_5
  obtain ⟨c0_6, e0_6, L0_6⟩ := hl0 6 _ rfl
  obtain ⟨p6, rfl, wp6⟩ := Leaf.int Tryz.underlying22 L0_6
  obtain ⟨c0_7, e0_7, L0_7⟩ := hl0 7 _ rfl
  obtain ⟨p7, rfl, wp7⟩ := Leaf.int Tryz.underlying22 L0_7
  obtain ⟨c0_8, e0_8, L0_8⟩ := hl0 8 _ rfl
  obtain ⟨p8, rfl, wp8⟩ := Leaf.int Tryz.underlying26 L0_8
  obtain ⟨c0_9, e0_9, L0_9⟩ := hl0 9 _ rfl
  obtain ⟨p9, rfl, wp9⟩ := Leaf.int Tryz.underlying22 L0_9
  obtain ⟨c0_10, e0_10, L0_10⟩ := hl0 10 _ rfl
  obtain ⟨p10, rfl, wp10⟩ := Leaf.int Tryz.underlying26 L0_10
  obtain rfl : l0 = [.int .u32 p0, .int .i64 p1, .int .u32 p2, .int .u32 p3, .int .u32 p4, .int .u32 p5, .int .u32 p6, .int .u32 p7, .int .u64 p8, .int .u32 p9, .int .u64 p10] := by
    refine List.ext_getElem? fun i => ?_
    match i with
    | 0 => simpa [Value.cells] using e0_0
    | 1 => simpa [Value.cells] using e0_1
    | 2 => simpa [Value.cells] using e0_2
    | 3 => simpa [Value.cells] using e0_3
    | 4 => simpa [Value.cells] using e0_4
    | 5 => simpa [Value.cells] using e0_5
    | 6 => simpa [Value.cells] using e0_6
    | 7 => simpa [Value.cells] using e0_7
    | 8 => simpa [Value.cells] using e0_8
    | 9 => simpa [Value.cells] using e0_9
    | 10 => simpa [Value.cells] using e0_10
    | i + 11 => rw [List.getElem?_eq_none (by simp at hsz0; omega), List.getElem?_eq_none (by simp)]
  obtain ⟨rank, rfl, _, _, wrank⟩ := open_int Tryz.underlying3 (hval 1 3 v1 rfl rfl) h1
  obtain ⟨a2, len2, cap2, rfl⟩ := okWide_slice Tryz.underlying29 (hval 2 29 v2 rfl rfl)
  obtain ⟨fu2, hf2⟩ := h2
  obtain ⟨a2', len2', cap2', vs2', hcs2, sl2, lf2, nl2⟩ := open_flat (ls := [22]) (sz := 1) Tryz.underlying29 (by kernel_rfl) rfl (by kernel_rfl) (by decide) hf2
  simp only [Value.cells, List.cons.injEq, Value.slice.injEq, and_true] at hcs2
  obtain ⟨rfl, rfl, rfl⟩ := hcs2
  have bd2 : len2 * 4 ≤ 140737488351232 := by
    rcases nl2 with ⟨_, h⟩ | ⟨es, sp, h, h'⟩
    · rw [h]; decide
    · have := sized_slice hsz (j := 2) (t := 29) (e := 22) rfl (congrArg some h) Tryz.underlying29
      rw [show Tryz.prog.bytesOf 22 = 4 by kernel_rfl] at this
      simp only [reachBytes] at this
      omega
  clear hA0 hval0
  refine (primaryTells_l p0 wp0 p1 wp1 p2 wp2 p3 wp3 p4 wp4 p5 wp5 p6 wp6 p7 wp7 p8 wp8 p9 wp9 p10 wp10 rank wrank W sl2 lf2 hT).mono fun e W' ⟨he, bel⟩ => ?_
  subst he
  exact ⟨_, rfl, _, _, _, [], _, [], hW', trodAll_mk1 (shut_bool Tryz.underlying4 _), (trodAll_cons_mk (Below.trod laidOut (by kernel_rfl) (of_decide_eq_true (by kernel_rfl)) k0 bel lt0) (trodAll_cons_mk (Below.trod laidOut (by kernel_rfl) (of_decide_eq_true (by kernel_rfl)) k1 bel lt1) (trodAll_cons_mk (Below.trod laidOut (by kernel_rfl) (of_decide_eq_true (by kernel_rfl)) k2 bel lt2) trodAll_mk0))), rfl, bel.frame _, fun h => by cases h⟩

theorem over : Rows.primaryTellsRow.holds Tryz.pinned (OpenSpec.ofChange Rows.primaryTellsSpec) :=
  OpenClaim.holds_of_wide 3 Tryz.f3 rfl rfl rfl rfl rfl rfl rfl ⟨rfl, rfl, rfl, rfl, rfl⟩ rfl rfl rfl rfl rfl (by kernel_rfl) Tryz.func3 (by kernel_rfl)
    (of_decide_eq_true (by kernel_rfl)) (by unfold Func.isWrapper; first | (rw [if_pos (by decide +kernel)]; kernel_rfl) | (rw [if_neg (by decide +kernel)]; exact ⟨rfl, rfl⟩))
    (fun os started H enc _ => by rw [OpenClaim.pre_eq_preRow]; exact lifted os started H enc)

theorem proved : Rows.PrimaryTellsCardSaid :=
  Claim7.holds_tied_plain_at .later [] [.data, .pinned] true (true, "470b2c42ec1d750a811b4303a4b82cb10a471d475c6c98540e3c9cb4d197a111") true
    over (fun _ h => by cases h) (by kernel_rfl) (fun _ h => by cases h) primaryTells_row_tie rfl ⟨rfl, rfl⟩ (by kernel_rfl) rfl
    (fun f fn hf hfn => by
      obtain rfl : f = 3 := Option.some.inj ((show Tryz.prog.funcNamed "packsaddle/packsaddlelaw06.PrimaryTells" = some 3 by kernel_rfl).symm.trans hf) |>.symm
      obtain rfl : fn = Tryz.f3 := (Option.some.inj (Tryz.func3.symm.trans hfn)).symm
      exact ⟨by kernel_rfl, fun j t ht => by
        rw [Tryz.params3] at ht
        have h3 : t ∈ [28, 3, 29] := by
          have := List.mem_of_getElem? (by simpa using ht : ([28, 3, 29] : List TypeId)[j]? = some t)
          exact this
        simp only [List.mem_cons, List.not_mem_nil, or_false] at h3
        rcases h3 with rfl | rfl | rfl
        · exact (show Tryz.prog.wantsStandIn 28 = false by kernel_rfl)
        · exact (show Tryz.prog.wantsStandIn 3 = false by kernel_rfl)
        · exact (show Tryz.prog.wantsStandIn 29 = false by kernel_rfl)⟩)
    (by kernel_rfl)
#print axioms proved
end Go.Proofs.YtpkonagjnfphkaaGreatDoor.primaryTellsRow
