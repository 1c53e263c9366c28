/-
  The contract of disk's Crash.
-/
import Derived.Test.YtekpjbablcoahaaDiskJ
import Derived.Test.YtekpjbablcoahaaDiskG
namespace Go.Proofs.Ytekpjbablcoahaa
open Go.RowKit Go.Maps Dk
set_option linter.unusedSimpArgs false
set_option linter.unusedVariables false

/-- What lies there behind a crash: the first k writes, where kept. -/
def Dk.crashK (E W : List (Int × Sec)) (keep : List Bool) : Nat → List (Int × Sec)
  | 0 => E
  | k + 1 => if keep.getD k false = true then putF (crashK E W keep k) (ptAt W k).1 (ptAt W k).2 else crashK E W keep k
def Dk.crashF (E W : List (Int × Sec)) (keep : List Bool) : List (Int × Sec) := crashK E W keep W.length
theorem fm_look1 {w : World} {F : Nat} (h : FMap w F) : (Instr.lookup 83 (.map (some F)) (.bool true) false).run Try.prog w = .ok (.func (.func 34) #[] #[]) w :=
  MapAt.look_some h (bool_keyed Try.underlying4) Try.underlying83 (keyOf_bool_mk Try.underlying4 true) (by simp) false
theorem fm_look0 {w : World} {F : Nat} (h : FMap w F) : (Instr.lookup 83 (.map (some F)) (.bool false) false).run Try.prog w = .ok (.func (.func 52) #[] #[]) w :=
  MapAt.look_some h (bool_keyed Try.underlying4) Try.underlying83 (keyOf_bool_mk Try.underlying4 false) (by simp) false
theorem FMap.but {w w' : World} {F : Nat} (h : FMap w F) {O : Nat → Prop} (hb : But O w w') (hF : ¬ O F) : FMap w' F := MapAt.heap h (hb.same F (MapAt.lt h) hF)
theorem FMap.below {w w' : World} {F : Nat} (h : FMap w F) (hb : Below w.heap.size w w') : FMap w' F := FMap.but h (O := fun _ => False) (But.of_below hb) (fun h => h)
theorem below_drew (w : World) : Below w.heap.size w w.drew := (Below.refl _ w).drew

set_option maxHeartbeats 4000000 in
set_option maxRecDepth 100000 in
theorem dCrash_c {B M : Nat} {u : Value} {d : Disk} (kv : Value) (kn : Nat) (keep : List Bool) (w : World) (h : DiskAt w B M u d) (hkv : Sl w 1 kv kn (keep.map Value.bool)) : Calls Try.prog 15 #[.pointer (some ⟨B, 0, none⟩), kv] w fun en w' => en = .returned (.int .i64 0) ∧ DiskAt w' B M (.slice none 0 0) ⟨-1, d.many, crashF d.E d.W keep, []⟩ ∧ But (fun i => i = B ∨ i = M) w w' := by
  obtain ⟨left, many, E, W⟩ := d
  have hBl := h.var.lt
  have hMl := h.map.lt
  have hne := h.ne
  have HK := Lib.hid h.keys
  have hn := h.sl.n_max
  have hkn := hkv.n_max
  have hkl : keep.length = kn := by have := hkv.1; simpa using this
  have HKL := Lib.hid hkl
  have hkM := hkv.apartMap (by decide) h.map
  obtain ⟨a, c, rfl⟩ := h.sl.len
  obtain ⟨ka, kc, rfl⟩ := hkv.len
  have V00 := Lib.hid h
  clear hkl
  go_enter Try.func15, Try.ntmps15
  go_wp2_with (first
    | (go_at_call 35; refine (dNone_c _ h).mono ?_; rintro en w1 ⟨rfl, rfl⟩)
    | (go_at_call 39; refine (dFates_c _).mono ?_; rintro en w2 ⟨rfl, hfm, hb2⟩; have V2 := h.below hb2; have k2 := hkv.up hb2; have qw := V2.var.cell (i := 3) rfl))
  have HB := Lib.hid hb2
  have hz2 := hb2.size
  clear qw h hkv hb2
  go_loopw [16] (fun i wr => ∃ k : Nat, k ≤ W.length ∧ i = .int .i64 k ∧ DiskAt wr B M (.slice a W.length c) ⟨left, many, crashK E W keep k, W⟩ ∧ FMap wr w.heap.size ∧ Sl wr 1 (.slice ka kn kc) kn (keep.map Value.bool) ∧ But (· = M) w2 wr) (fun i _ => W.length - (intOf i).toNat)
  case atStart => exact ⟨0, Nat.zero_le _, rfl, V2, hfm, k2, But.refl _ _⟩
  case round =>
    obtain ⟨k, hk, rfl, V, FM, kw, hbr⟩ := hrel
    have hzr := hbr.size
    have HBr := Lib.hid hbr
    clear hbr hfm k2 V2
    by_cases hlt : k < W.length
    · obtain ⟨b, off, rfl, hr⟩ := V.sl.rec_at (cells := putC) (sz := 65) (fun p => putC_len p) hlt hlt
      have hkw := HK.out _ (List.getElem_mem hlt)
      have hpt := ptAt_get hlt
      generalize W[k] = p at *
      have Hpt := Lib.hid hpt
      clear hpt
      by_cases hkk : k < kn
      · obtain ⟨kb, ko, rfl, hkc⟩ := kw.cellAt (k := k) (by omega) (by omega)
        have hkl' : k < keep.length := by rw [HKL.out]; exact hkk
        rw [List.getElem?_map, List.getElem?_eq_getElem hkl'] at hkc
        have hgd : keep.getD k false = keep[k] := by rw [List.getD_eq_getElem?_getD, List.getElem?_eq_getElem hkl']; rfl
        generalize keep[k] = kb1 at *
        cases kb1 with
        | true =>
          have HCK : Hid (crashK E W keep (k + 1) = putF (crashK E W keep k) p.1 p.2) := Lib.hid (by rw [crashK, if_pos hgd, Hpt.out])
          clear hgd
          simp only [Option.map_some] at hkc
          have hki : (k : Int) < (kn : Int) := by omega
          have hdc : decide (k < kn) = true := by simpa using hkk
          go_wp2_with (first
            | (refine wpList_load_mid rfl 78 (.tmp 19) rfl b (off + k * 65) rfl (putC p) _ hr Try.underlying78 rfl (put_info p) ?_)
            | (refine Go.Great.wpList_allocTo rfl (some 7) rfl _ _ (run_alloc_put _ _ _ rfl) ?_)
            | (refine wpList_put_row rfl 78 (.tmp 7) (.tmp 20) rfl wr.heap.size (putC p) rfl rfl (RowAt.new wr _ _) (by rw [putC_len]; exact (putArr _).symm) (put_info p) (put_one p) (fun w4 h4 hb4 => ?_)))
          have hB4 : Below wr.heap.size wr w4 := (below_alloc wr _).trans (hb4.below (fun q e => by omega) (by simp))
          have HB5 := Lib.hid (below_up hB4 (below_drew w4))
          have V5 := V.below HB5.out
          have F5 := FMap.below FM HB5.out
          have k5 := kw.up HB5.out
          have Z4 : RowAt w4.drew wr.heap.size (putC p).toArray 78 := h4
          have fl := fm_look1 F5
          have kc5 := cell_up HB5.out hkc
          clear hb4 hB4 h4
          refine wp_still_tail 14 (by kernel_rfl) (by kernel_rfl) ?_
          simp only [List.take_succ_cons, List.take_zero, List.drop_succ_cons, List.drop_zero]
          still_step
          still_step
          still_step
          still_step
          still_step
          still_step
          still_step
          still_step
          still_step
          still_step
          still_step
          still_step
          still_step
          refine still_load rfl 78 (.tmp 7) rfl wr.heap.size 0 rfl (putC p) _ Z4.range Try.underlying78 rfl (put_info p) ?_
          refine wpStill_nil ?_
          clear fl
          go_wp2_with (go_at_call 34; refine (dWhole_c p hkw _ V5).mono ?_; rintro en w5 ⟨rfl, V6, hb5⟩)
          go_roundw
          case rel => exact ⟨k + 1, by omega, by go_num, by rw [HCK.out]; exact V6, FMap.but F5 hb5 (by omega), k5.but hb5 (hkM.imp id fun h j hj => h j hj), (HBr.out.trans (But.of_below HB5.out)).trans hb5⟩
          case measure => simp [intOf]; omega
        | false =>
          have HCK : Hid (crashK E W keep (k + 1) = crashK E W keep k) := Lib.hid (by rw [crashK, if_neg (by rw [hgd]; decide)])
          clear hgd
          simp only [Option.map_some] at hkc
          have hki : (k : Int) < (kn : Int) := by omega
          have hdc : decide (k < kn) = true := by simpa using hkk
          go_wp2_with (first
            | (refine wpList_load_mid rfl 78 (.tmp 19) rfl b (off + k * 65) rfl (putC p) _ hr Try.underlying78 rfl (put_info p) ?_)
            | (refine Go.Great.wpList_allocTo rfl (some 7) rfl _ _ (run_alloc_put _ _ _ rfl) ?_)
            | (refine wpList_put_row rfl 78 (.tmp 7) (.tmp 20) rfl wr.heap.size (putC p) rfl rfl (RowAt.new wr _ _) (by rw [putC_len]; exact (putArr _).symm) (put_info p) (put_one p) (fun w4 h4 hb4 => ?_)))
          have hB4 : Below wr.heap.size wr w4 := (below_alloc wr _).trans (hb4.below (fun q e => by omega) (by simp))
          have HB5 := Lib.hid (below_up hB4 (below_drew w4))
          have V5 := V.below HB5.out
          have F5 := FMap.below FM HB5.out
          have k5 := kw.up HB5.out
          have Z4 : RowAt w4.drew wr.heap.size (putC p).toArray 78 := h4
          have fl := fm_look0 F5
          have kc5 := cell_up HB5.out hkc
          clear hb4 hB4 h4
          refine wp_still_tail 14 (by kernel_rfl) (by kernel_rfl) ?_
          simp only [List.take_succ_cons, List.take_zero, List.drop_succ_cons, List.drop_zero]
          still_step
          still_step
          still_step
          still_step
          still_step
          still_step
          still_step
          still_step
          still_step
          still_step
          still_step
          still_step
          still_step
          refine still_load rfl 78 (.tmp 7) rfl wr.heap.size 0 rfl (putC p) _ Z4.range Try.underlying78 rfl (put_info p) ?_
          refine wpStill_nil ?_
          clear fl
          go_wp2_with (go_at_call 52; refine (dLost_c _ p _).mono ?_; rintro en w5 ⟨rfl, hb5⟩)
          go_roundw
          case rel => exact ⟨k + 1, by omega, by go_num, by rw [HCK.out]; exact V5.below hb5, FMap.below F5 hb5, k5.up hb5, (HBr.out.trans (But.of_below HB5.out)).trans (But.of_below hb5)⟩
          case measure => simp [intOf]; omega
      · have HCK : Hid (crashK E W keep (k + 1) = crashK E W keep k) := Lib.hid (by
          rw [crashK, if_neg]
          rw [List.getD_eq_getElem?_getD, List.getElem?_eq_none (by rw [HKL.out]; omega)]
          simp)
        have hki : (kn : Int) ≤ (k : Int) := by omega
        have hdc : decide (k < kn) = false := by simpa using hkk
        go_wp2_with (first
          | (refine wpList_load_mid rfl 78 (.tmp 19) rfl b (off + k * 65) rfl (putC p) _ hr Try.underlying78 rfl (put_info p) ?_)
          | (refine Go.Great.wpList_allocTo rfl (some 7) rfl _ _ (run_alloc_put _ _ _ rfl) ?_)
          | (refine wpList_put_row rfl 78 (.tmp 7) (.tmp 20) rfl wr.heap.size (putC p) rfl rfl (RowAt.new wr _ _) (by rw [putC_len]; exact (putArr _).symm) (put_info p) (put_one p) (fun w4 h4 hb4 => ?_)))
        have hB4 : Below wr.heap.size wr w4 := (below_alloc wr _).trans (hb4.below (fun q e => by omega) (by simp))
        have HB5 := Lib.hid (below_up hB4 (below_drew w4))
        have V5 := V.below HB5.out
        have F5 := FMap.below FM HB5.out
        have k5 := kw.up HB5.out
        have Z4 : RowAt w4.drew wr.heap.size (putC p).toArray 78 := h4
        have fl := fm_look0 F5
        clear hb4 hB4 h4
        refine wp_still_tail 14 (by kernel_rfl) (by kernel_rfl) ?_
        simp only [List.take_succ_cons, List.take_zero, List.drop_succ_cons, List.drop_zero]
        still_step
        still_step
        still_step
        still_step
        still_step
        still_step
        still_step
        still_step
        still_step
        still_step
        still_step
        still_step
        still_step
        refine still_load rfl 78 (.tmp 7) rfl wr.heap.size 0 rfl (putC p) _ Z4.range Try.underlying78 rfl (put_info p) ?_
        refine wpStill_nil ?_
        clear fl
        go_wp2_with (go_at_call 52; refine (dLost_c _ p _).mono ?_; rintro en w5 ⟨rfl, hb5⟩)
        go_roundw
        case rel => exact ⟨k + 1, by omega, by go_num, by rw [HCK.out]; exact V5.below hb5, FMap.below F5 hb5, k5.up hb5, (HBr.out.trans (But.of_below HB5.out)).trans (But.of_below hb5)⟩
        case measure => simp [intOf]; omega
    · obtain rfl : k = W.length := by omega
      have hf := V.var.fz 3
      have hf0 := V.var.fz 0
      have hc3 := V.var.cell (i := 3) (v := .slice a W.length c) rfl
      have hc0 := V.var.cell (i := 0) (v := .int .i64 left) rfl
      have hr3 := (V.var.set 3 (.slice none 0 0)).set 0 (.int .i64 (-1))
      have hb3 : But (· = B) wr ((wr.setCell ⟨B, 3, none⟩ (.slice none 0 0)).setCell ⟨B, 0, none⟩ (.int .i64 (-1))) := (But.setCell (O := (· = B)) wr ⟨B, 3, none⟩ _ (.inl rfl)).trans (But.setCell (O := (· = B)) _ ⟨B, 0, none⟩ _ (.inl rfl))
      go_wp2
      go_ret
      have b1 : But (fun i => i = B ∨ i = M) w w2 := But.of_below HB.out
      have b2 : But (fun i => i = B ∨ i = M) w2 wr := HBr.out.mono fun _ _ e => .inr e
      exact ⟨rfl, ⟨hr3, V.map.heap (hb3.same M V.map.lt (fun e => V.ne e.symm)), Sl.nil _ _, V.ne, fun p hp => by cases hp⟩, (b1.trans b2).trans (hb3.mono fun _ _ e => .inl e)⟩
end Go.Proofs.Ytekpjbablcoahaa
