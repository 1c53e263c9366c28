/-
  MemberHolds: the walk.
-/
import Derived.Test.YteakpppabgbpeaaMemL
import Derived.Test.YteakpppabgbpeaaMemM
namespace Go.Proofs.Yteakpppabgbpeaa
open Go.RowKit Mem
set_option linter.unusedSimpArgs false
set_option linter.unusedVariables false

theorem below_tell {w wr w2 : World} {M : Nat} (h : Below w.heap.size w wr) (hb : But (· = M) wr w2) (hM : w.heap.size ≤ M) : Below w.heap.size w w2 := h.trans (hb.below (fun q e => by rw [e]; exact hM) h.size)
instance (a b : Mb) : Decidable (ltM a b) := by unfold ltM; infer_instance
theorem RollAt.other {w w2 : World} {B M M' : Nat} {E : List Mb} (h : RollAt w B M E) (hb : But (· = M') w w2) (h1 : ¬ B = M') (h2 : ¬ M = M') : RollAt w2 B M E := h.but hb h1 h2
theorem memberHolds_big (va vb : Value) (n m : Nat) (w : World) (xs ys : List Value) (ha : Sl w 4 va n xs) (hb : Sl w 4 vb m ys) (hbig : 40 < n ∨ 40 < m) : Calls Try.prog 5 #[va, vb] w (Ret (.bool true) w) := by
  obtain ⟨a, c, rfl⟩ := ha.len
  obtain ⟨a', c', rfl⟩ := hb.len
  have hn := ha.n_max
  have hm := hb.n_max
  by_cases h1 : 40 < n
  · have h1' : (40 : Int) < (n : Int) := by omega
    go_enter Try.func5, Try.ntmps5
    go_wp2_with (go_at_call 10; refine (works_c _).mono ?_; rintro en w1 ⟨rfl, hb⟩)
    go_ret
    exact ⟨rfl, hb⟩
  · have h1' : ¬ (40 : Int) < (n : Int) := by omega
    have h2' : (40 : Int) < (m : Int) := by omega
    go_enter Try.func5, Try.ntmps5
    go_wp2_with (go_at_call 10; refine (works_c _).mono ?_; rintro en w1 ⟨rfl, hb⟩)
    go_ret
    exact ⟨rfl, hb⟩
theorem joinE_take {E l : List Mb} {k : Nat} (hk : k < l.length) : joinE E (l.take (k + 1)) = tellF (joinE E (l.take k)) l[k] := by
  rw [List.take_succ_eq_append_getElem hk, joinE_snoc]
theorem len_join0 (l : List Mb) (hl : l.length ≤ 200) : Top (joinE [] l) (fun x => x ∈ l) ∧ Mem.Keys (joinE [] l) ∧ (joinE [] l).length ≤ l.length := by
  obtain ⟨h1, h2, h3⟩ := Top.join l [] _ Keys.nil Top.nil (by simp; omega)
  exact ⟨h1.congr fun m => by simp, h2, by simpa using h3⟩

def rv (la : List Mb) : Nat → List Mb
  | 0 => []
  | t + 1 => rv la t ++ la.reverse
theorem rv_mem (la : List Mb) (m : Mb) : m ∈ rv la 2 ↔ m ∈ la := by simp [rv]
theorem rv_len (la : List Mb) : (rv la 2).length = la.length + la.length := by simp [rv]
theorem rev_take {la : List Mb} {q i n : Nat} (hl : la.length = n) (h : i + 1 + q = n) (hi : i < la.length) : la.reverse.take (q + 1) = la.reverse.take q ++ [la[i]] := by
  rw [List.take_succ_eq_append_getElem (by simp; omega), List.getElem_reverse]
  congr 3; omega
theorem srt_ex {E : List Mb} (hk : Mem.Keys E) : ∃ L, SrtOf E L := by
  have hle : ∀ a b : Mb, (decide (¬ ltM b a)) = true ↔ ¬ ltM b a := fun a b => decide_eq_true_iff
  have hp := List.pairwise_mergeSort (le := fun a b => decide (¬ ltM b a))
    (fun a b c h1 h2 => by rw [decide_eq_true_eq] at *; unfold ltM at *; omega)
    (fun a b => by rw [Bool.or_eq_true, decide_eq_true_eq, decide_eq_true_eq]; unfold ltM; omega) E
  refine ⟨E.mergeSort (fun a b => decide (¬ ltM b a)), List.mergeSort_perm _ _, ?_⟩
  have hk2 : Mem.Keys (E.mergeSort (fun a b => decide (¬ ltM b a))) := by
    unfold Mem.Keys at *
    exact (List.mergeSort_perm E (fun a b => decide (¬ ltM b a))).symm.pairwise hk (fun h1 h2 => h1 ⟨h2.1.symm, h2.2.symm⟩)
  refine (hp.and hk2).imp fun {a b} h => ?_
  obtain ⟨h1, h2⟩ := h
  rw [decide_eq_true_eq] at h1
  unfold ltM at *
  omega

set_option maxHeartbeats 8000000 in
set_option maxRecDepth 100000 in
theorem memberHolds_c (la lb : List Mb) (va vb : Value) (n m : Nat) (w : World) (ha : Sl w 4 va n (la.flatMap mbC)) (hb : Sl w 4 vb m (lb.flatMap mbC)) (hn : n ≤ 40) (hm : m ≤ 40) (hwa : ∀ x ∈ la, x.Wf) (hwb : ∀ x ∈ lb, x.Wf) :
    Calls Try.prog 5 #[va, vb] w (Ret (.bool true) w) := by
  have hla : la.length = n := Sl.recs (cells := mbC) (sz := 4) (fun _ => rfl) (by decide) ha
  have hlb : lb.length = m := Sl.recs (cells := mbC) (sz := 4) (fun _ => rfl) (by decide) hb
  have HLA := Lib.hid hla
  have HLB := Lib.hid hlb
  have HWA := Lib.hid hwa
  have HWB := Lib.hid hwb
  obtain ⟨aa, ca, rfl⟩ := ha.len
  obtain ⟨ab, cb, rfl⟩ := hb.len
  have HA := Lib.hid ha
  have HBs := Lib.hid hb
  have hn0 : ¬ (40 : Int) < (n : Int) := by omega
  have hm0 : ¬ (40 : Int) < (m : Int) := by omega
  clear hla hlb hwa hwb ha hb
  go_enter Try.func5, Try.ntmps5
  have T1 := Lib.hid True.intro
  go_wp2_with (first
    | (go_at_call 11; have T2 := T1; clear T2 T1; refine (rNew_c _).mono ?_; rintro en w1 ⟨rfl, h1, hb1⟩)
    | (go_at_call 11; refine (rNew_c _).mono ?_; rintro en w2 ⟨rfl, h2, hb2⟩))
  have r1 := h1.below hb2
  have hl1 := h1.var.lt
  have hl2 := h2.var.lt
  have HB2 := Lib.hid (below_up hb1 hb2)
  have hz2 := (below_up hb1 hb2).size
  clear h1 hb1 hb2
  clear hn0 hm0
  obtain ⟨M2, hM2⟩ : ∃ M2, w1.heap.size = M2 := ⟨_, rfl⟩
  rw [hM2] at h2 hl1 hl2 ⊢
  clear hM2
  have hM1 : w.heap.size ≤ M2 := by omega
  go_loopw [7] (fun i wr => ∃ k : Nat, k ≤ n ∧ i = .int .i64 k ∧ RollAt wr (w.heap.size + 1) w.heap.size (joinE [] (la.take k)) ∧ RollAt wr (M2 + 1) M2 [] ∧ Below w.heap.size w wr ∧ M2 + 1 < wr.heap.size) (fun i _ => n - (intOf i).toNat)
  case atStart => exact ⟨0, Nat.zero_le _, rfl, r1, h2, HB2.out, hl2⟩
  case round =>
    obtain ⟨k, hk, rfl, hr1, hr2, hB, hzr⟩ := hrel
    have HB := Lib.hid hB
    by_cases hlt : k < n
    · have hlt' : k < la.length := by rw [HLA.out]; exact hlt
      obtain ⟨b, off, rfl, hr⟩ := (HA.out.up hB).rec_at (cells := mbC) (sz := 4) (fun _ => rfl) hlt hlt'
      have hkn : (k : Int) < (n : Int) := by omega
      have hT := mTell_c la[k] (HWA.out _ (List.getElem_mem hlt')) wr hr1
      rw [← joinE_take hlt'] at hT
      generalize la[k] = m1 at *
      generalize tellE (joinE [] (la.take k)) m1 = e at *
      clear hB hr1 r1 h2
      go_wp2_with (first
        | (refine wpList_load_mid rfl 24 (.tmp 39) rfl b (off + k * 4) rfl (mbC m1) _ hr Try.underlying24 rfl (by kernel_rfl) ?_)
        | (go_at_call 12; refine hT.mono ?_; rintro en w3 ⟨rfl, hr3, hb3⟩))
      have hz3 := hb3.size
      go_roundw
      case rel => exact ⟨k + 1, by omega, by go_num, hr3, hr2.other hb3 (by omega) (by omega), below_tell HB.out hb3 (Nat.le_refl _), by omega⟩
      case measure => simp [intOf]; omega
    · obtain rfl : k = n := by omega
      rw [List.take_of_length_le (by rw [HLA.out]; exact Nat.le_refl _)] at hr1
      clear r1 h2 hB
      go_wp2
      go_loopg [8] 2 (fun gh x wr => ∃ t : Nat, t ≤ 2 ∧ gh = 2 - t ∧ x = .int .i64 t ∧ RollAt wr (w.heap.size + 1) w.heap.size (joinE [] la) ∧ RollAt wr (M2 + 1) M2 (joinE [] (rv la t)) ∧ Below w.heap.size w wr ∧ M2 + 1 < wr.heap.size)
      case atStart => exact ⟨0, by omega, rfl, rfl, hr1, hr2, HB.out, hzr⟩
      case round =>
        clear hr1 hr2 HB hzr
        obtain ⟨t, ht, rfl, rfl, hr1, hr2, hB, hzr⟩ := hrel
        have HB := Lib.hid hB
        clear hB
        by_cases ht2 : t < 2
        · have ht3 : (t : Int) < 2 := by omega
          go_wp2
          go_loopg [9] k (fun gh x wr => ∃ (q : Nat) (z : Int), q ≤ k ∧ gh = k - q ∧ z + q + 1 = k ∧ x = .int .i64 z ∧ RollAt wr (w.heap.size + 1) w.heap.size (joinE [] la) ∧ RollAt wr (M2 + 1) M2 (joinE [] (rv la t ++ la.reverse.take q)) ∧ Below w.heap.size w wr ∧ M2 + 1 < wr.heap.size)
          case atStart => exact ⟨0, (k : Int) - 1, by omega, rfl, by omega, rfl, hr1, by simpa using hr2, HB.out, hzr⟩
          case round =>
            clear hr1 hr2 HB hzr
            obtain ⟨q, z, hq, rfl, hzq, rfl, hr1, hr2, hB, hzr⟩ := hrel
            have HB := Lib.hid hB
            by_cases hqk : q < k
            · obtain ⟨i, rfl⟩ : ∃ i : Nat, z = i := ⟨z.toNat, by omega⟩
              have hik : i < k := by omega
              have hiq : i + 1 + q = k := by omega
              have hi0 : ¬ (i : Int) < 0 := by omega
              have hi1 : (0 : Int) ≤ (i : Int) := by omega
              have hi2 : (i : Int) < (k : Int) := by omega
              have hlt' : i < la.length := by rw [HLA.out]; exact hik
              obtain ⟨b, off, rfl, hr⟩ := (HA.out.up hB).rec_at (cells := mbC) (sz := 4) (fun _ => rfl) hik hlt'
              have hT := mTell_c la[i] (HWA.out _ (List.getElem_mem hlt')) wr hr2
              have hj : joinE [] (rv la t ++ la.reverse.take (q + 1)) = tellF (joinE [] (rv la t ++ la.reverse.take q)) la[i] := by
                rw [rev_take HLA.out hiq hlt', ← List.append_assoc, joinE_snoc]
              rw [← hj] at hT
              clear hj
              generalize la[i] = m1 at *
              generalize tellE (joinE [] (rv la t ++ la.reverse.take q)) m1 = e at *
              have Hzq := Lib.hid hiq
              clear hB hr2 hzq hiq
              go_wp2_with (first
                | (refine wpList_load_mid rfl 24 (.tmp 56) rfl b (off + i * 4) rfl (mbC m1) _ hr Try.underlying24 rfl (by kernel_rfl) ?_)
                | (go_at_call 12; refine hT.mono ?_; rintro en w3 ⟨rfl, hr3, hb3⟩))
              have hz3 := hb3.size
              have hzq := Hzq.out
              go_roundg (k - (q + 1))
              case rel => exact ⟨q + 1, (i : Int) - 1, by omega, rfl, by omega, by go_num, hr1.other hb3 (by omega) (by omega), hr3, below_tell HB.out hb3 hM1, by omega⟩
              case measure => omega
            · obtain rfl : q = k := by omega
              obtain rfl : z = -1 := by omega
              rw [List.take_of_length_le (by rw [List.length_reverse, HLA.out]; exact Nat.le_refl _)] at hr2
              clear hB
              go_wp2
              go_roundg (2 - (t + 1))
              case rel => exact ⟨t + 1, by omega, rfl, by go_num, hr1, hr2, HB.out, hzr⟩
              case measure => omega
        · obtain rfl : t = 2 := by omega
          have hT1 := len_join0 la (by rw [HLA.out]; omega)
          have hT2 := len_join0 (rv la 2) (by rw [rv_len, HLA.out]; omega)
          have heq := Top.eqB hT1.2.1 hT2.2.1 hT1.1 (hT2.1.congr (rv_mem la))
          have hs1 := rSame_c wr hr1 hr2
          rw [heq] at hs1
          have HT1 := Lib.hid hT1
          clear hT1 hT2 heq hr2
          obtain ⟨Er, hEr⟩ : ∃ Er, joinE [] la = Er := ⟨_, rfl⟩
          rw [hEr] at hr1 HT1
          clear hEr
          go_wp2_with (first
            | (go_at_call 15; refine hs1.mono ?_; rintro en w3 ⟨rfl, hb3⟩; have hr1a := hr1.below hb3; have HB3 := Lib.hid (below_up HB.out hb3); have hz3 := hb3.size; clear hr1 hb3)
            | (go_at_call 11; refine (rNew_c _).mono ?_; rintro en w4 ⟨rfl, h4, hb4⟩; have hr1b := hr1a.below hb4; have HB4 := Lib.hid (below_up HB3.out hb4); have hz4 := h4.var.lt; clear hr1a hb4))
          obtain ⟨M3, hM3⟩ : ∃ M3, w3.heap.size = M3 := ⟨_, rfl⟩
          rw [hM3] at h4 hz3 hz4 ⊢
          clear hM3 hs1
          have hM13 : w.heap.size + 1 < M3 := by omega
          go_loopw [11] (fun i wr => ∃ j : Nat, j ≤ m ∧ i = .int .i64 j ∧ RollAt wr (w.heap.size + 1) w.heap.size Er ∧ RollAt wr (M3 + 1) M3 (joinE [] (lb.take j)) ∧ Below w.heap.size w wr ∧ M3 + 1 < wr.heap.size) (fun i _ => m - (intOf i).toNat)
          case atStart => exact ⟨0, Nat.zero_le _, rfl, hr1b, h4, HB4.out, hz4⟩
          case round =>
            clear hr1b h4 HB4 hz4
            obtain ⟨j, hj, rfl, hr1, hr3, hB, hzr⟩ := hrel
            have HB := Lib.hid hB
            by_cases hlt : j < m
            · have hlt' : j < lb.length := by rw [HLB.out]; exact hlt
              obtain ⟨b, off, rfl, hr⟩ := (HBs.out.up hB).rec_at (cells := mbC) (sz := 4) (fun _ => rfl) hlt hlt'
              have hjm : (j : Int) < (m : Int) := by omega
              have hT := mTell_c lb[j] (HWB.out _ (List.getElem_mem hlt')) wr hr3
              rw [← joinE_take hlt'] at hT
              generalize lb[j] = m1 at *
              generalize tellE (joinE [] (lb.take j)) m1 = e at *
              clear hB hr3
              go_wp2_with (first
                | (refine wpList_load_mid rfl 24 (.tmp 73) rfl b (off + j * 4) rfl (mbC m1) _ hr Try.underlying24 rfl (by kernel_rfl) ?_)
                | (go_at_call 12; refine hT.mono ?_; rintro en w5 ⟨rfl, hr5, hb5⟩))
              have hz5 := hb5.size
              go_roundw
              case rel => exact ⟨j + 1, by omega, by go_num, hr1.other hb5 (by omega) (by omega), hr5, below_tell HB.out hb5 (by omega), by omega⟩
              case measure => simp [intOf]; omega
            · obtain rfl : j = m := by omega
              rw [List.take_of_length_le (by rw [HLB.out]; exact Nat.le_refl _)] at hr3
              have hT3 := len_join0 lb (by rw [HLB.out]; omega)
              obtain ⟨Eb, hEb⟩ : ∃ Eb, joinE [] lb = Eb := ⟨_, rfl⟩
              rw [hEb] at hr3 hT3
              clear hEb hB
              obtain ⟨tr, kr, lr⟩ := HT1.out
              obtain ⟨tb, kb, lb0⟩ := hT3
              rw [HLA.out] at lr
              rw [HLB.out] at lb0
              obtain ⟨Lr, sr⟩ := srt_ex kr
              obtain ⟨Lb, sb⟩ := srt_ex kb
              obtain ⟨ty0, ky, ly⟩ := Top.join Lr Eb _ kb tb (by rw [sr.len]; omega)
              have ty := Top.through tr (ty0.congr fun x => by rw [sr.perm.mem_iff])
              obtain ⟨tz0, kz, lz⟩ := Top.join Lb Er _ kr tr (by rw [sb.len]; omega)
              have tz := (Top.through tb (tz0.congr fun x => by rw [sb.perm.mem_iff])).congr (fun x => or_comm (a := x ∈ la))
              rw [sr.len] at ly
              rw [sb.len] at lz
              obtain ⟨Ly, sy⟩ := srt_ex ky
              obtain ⟨js1, js2⟩ := join_same Ly (joinE Er Lb) kz (by omega) (fun x hx => Top.eq ky kz ty tz (sy.perm.mem_iff.1 hx))
              have heq := Top.eqB kz ky tz ty
              have hJ1 := fun w' B4 M4 (h4 : RollAt w' B4 M4 Eb) (h1 : RollAt w' (w.heap.size + 1) w.heap.size Er) => rJoin_c w' h4 h1 sr (by omega)
              have hJ2 := fun w' (h1 : RollAt w' (w.heap.size + 1) w.heap.size Er) (h3 : RollAt w' (M3 + 1) M3 Eb) => rJoin_c w' h1 h3 sb (by omega)
              have hJ3 := fun w' B4 M4 (h1 : RollAt w' (w.heap.size + 1) w.heap.size (joinE Er Lb)) (h4 : RollAt w' B4 M4 (joinE Eb Lr)) => rJoin_c w' h1 h4 sy (by omega)
              rw [js1, js2] at hJ3
              have J1 := Lib.hid hJ1
              have J2 := Lib.hid hJ2
              have J3 := Lib.hid hJ3
              have HE := Lib.hid heq
              clear hJ1 hJ2 hJ3 heq tr tb ty0 ty tz0 tz kr kb ky kz lr lb0 ly lz sr sb sy js1 js2
              go_wp2_with (first
                | (go_at_call 16; refine (rCopy_c _ hr3).mono ?_; rintro en w6 ⟨B4, M4, rfl, h4, hB4, hM4, hb6⟩; have hr1c := hr1.below hb6; have hr3c := hr3.below hb6; have HB6 := Lib.hid (below_up HB.out hb6); have hz6 := hb6.size; have hne := h4.ne; clear hr1 hr3 hb6)
                | (go_at_call 17; refine (J1.out _ _ _ h4 hr1c).mono ?_; rintro en w7 ⟨rfl, h7, hb7⟩; have hr1d := hr1c.other hb7 (by omega) (by omega); have hr3d := hr3c.other hb7 (by omega) (by omega); have HB7 := Lib.hid (below_tell HB6.out hb7 (by omega)); clear hb7 h4 hr1c hr3c)
                | (go_at_call 17; refine (J2.out _ hr1d hr3d).mono ?_; rintro en w8 ⟨rfl, h8, hb8⟩; have h7d := h7.other hb8 (by omega) (by omega); have HB8 := Lib.hid (below_tell HB7.out hb8 (Nat.le_refl _)); clear hb8 h7 hr1d hr3d)
                | (go_at_call 17; refine (J3.out _ _ _ h8 h7d).mono ?_; rintro en w9 ⟨rfl, h9, hb9⟩; have h7e := h7d.other hb9 (by omega) (by omega); have HB9 := Lib.hid (below_tell HB8.out hb9 (Nat.le_refl _)); have hs9 := rSame_c _ h9 h7e; rw [HE.out] at hs9; clear hb9 h8 h7d h9 h7e)
                | (go_at_call 13; refine (num_cc _ _).mono ?_; rintro en w4 ⟨rfl, rfl⟩)
                | (go_at_call 15; refine hs9.mono ?_; rintro en w10 ⟨rfl, hb10⟩)
                | (go_at_call 10; refine (works_c _).mono ?_; rintro en w11 ⟨rfl, hb11⟩))
              go_ret
              exact ⟨rfl, below_up (below_up HB9.out hb10) hb11⟩

theorem memberHolds_law {H : Type} {enc : TypeId × Value → H} {w : World} {base base2 : Nat} {spare spare2 : Nat → Bool} {held held2 : Bool} {va vb : Value} {n m : Nat} {xs ys : List Value} (hsa : Sl w 4 va n xs)
    (hla : ∀ i, i < n → ∀ (j : Nat) (U : TypeId), [22, 22, 22, 4][j]? = some U → ∃ c, xs[i * 4 + j]? = some c ∧ Leaf enc Try.prog w base spare held U c) (hsb : Sl w 4 vb m ys)
    (hlb : ∀ i, i < m → ∀ (j : Nat) (U : TypeId), [22, 22, 22, 4][j]? = some U → ∃ c, ys[i * 4 + j]? = some c ∧ Leaf enc Try.prog w base2 spare2 held2 U c) :
    Calls Try.prog 5 #[va, vb] w (Ret (.bool true) w) := by
  by_cases hbig : 40 < n ∨ 40 < m
  · exact memberHolds_big va vb n m w xs ys hsa hsb hbig
  · obtain ⟨la, rfl, hwa⟩ := mbs_of hsa hla
    obtain ⟨lb, rfl, hwb⟩ := mbs_of hsb hlb
    exact memberHolds_c la lb va vb n m w hsa hsb (by omega) (by omega) hwa hwb
end Go.Proofs.Yteakpppabgbpeaa
