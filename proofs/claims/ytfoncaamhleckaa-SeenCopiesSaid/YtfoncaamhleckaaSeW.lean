/-
  The contract of none.
-/
import Derived.Test.YtfoncaamhleckaaSeV
namespace Go.Proofs.Ytfoncaamhleckaa
open Go.RowKit Go.Maps Trc Sn
set_option linter.unusedSimpArgs false
set_option linter.unusedVariables false
attribute [local go_sem] Oper.semAt_some

/-- What none's loop has at hand: the marks. -/
structure MkI (wr : World) (Ds : List Nat) (W : World) : Prop where
  below : Below wr.heap.size wr W
  marks : ∀ D ∈ Ds, W.heap[D]? = some (.deferred (some [])) ∧ wr.heap.size ≤ D
  nodup : Ds.Nodup
theorem MkI.up {wr : World} {Ds : List Nat} {W W' : World} (h : MkI wr Ds W) (hb : Below W.heap.size W W') : MkI wr Ds W' :=
  ⟨below_up h.below hb, fun D hD => ⟨(hb.block D (Array.getElem?_eq_some_iff.1 (h.marks D hD).1).1).trans (h.marks D hD).1, (h.marks D hD).2⟩, h.nodup⟩
theorem MkI.next {wr : World} {Ds : List Nat} {W W3 : World} (h : MkI wr Ds W) (hb : Below W.heap.size W W3) {D : Nat} (hD : W3.heap[D]? = some (.deferred (some []))) (hl : W.heap.size ≤ D) : MkI wr (D :: Ds) W3 := by
  refine ⟨below_up h.below hb, fun E hE => ?_, List.nodup_cons.2 ⟨fun hE => ?_, h.nodup⟩⟩
  · rcases List.mem_cons.1 hE with rfl | hE
    · exact ⟨hD, Nat.le_trans h.below.size hl⟩
    · exact (h.up hb).marks E hE
  · have := (Array.getElem?_eq_some_iff.1 (h.marks D hE).1).1
    omega
set_option maxHeartbeats 8000000 in
set_option maxRecDepth 100000 in
theorem none_c (w : World) : Calls Try.prog 16 #[] w (Ret (.bool true) w) := by
  refine (callsIn_wide (n := 3)).1 ?_
  refine callsIn_of_wp_marks Try.func16 rfl trivial ?_ rfl
  simp only [Try.ntmps16, List.size_toArray, List.length_cons, List.length_nil, Nat.reduceAdd, Nat.reduceSub, Array.replicate_succ, Array.replicate_zero, List.push_toArray, List.append_toArray, List.nil_append, List.cons_append]
  have he : ∀ (f : FuncId) (caps : Array Value) (w : World), (binOp BinOp.eql 80 (.func (.func f) #[] caps) .nilFunc).run Try.prog w = .ok (.bool false) w := fun _ _ _ => by kernel_rfl
  refine wpIn_wide.2 ?_
  go_wp2
  have hB0 := below_alloc w (.cells #[.bool false] 4)
  have R0 := RowAt.new w #[.bool false] 4
  have hsz : (w.alloc (.cells #[.bool false] 4)).heap.size = w.heap.size + 1 := by simp
  obtain ⟨wr, hwr⟩ : ∃ wr, w.alloc (.cells #[.bool false] 4) = wr := ⟨_, rfl⟩
  rw [hwr] at hB0 R0 hsz ⊢
  have HB0 := Lib.hid hB0
  have HR0 := Lib.hid R0
  clear hwr hB0 R0
  refine wp_loop_ghost_k (fun m9 a' W => ∃ (tn : Nat) (Ds : List Nat), tn ≤ 2 ∧ m9 = 2 - tn ∧ a' = { tmps := #[.pointer (some ⟨w.heap.size, 0, none⟩), .int .i64 (tn : Nat), a'.tmps.getD 2 undef, a'.tmps.getD 3 undef, a'.tmps.getD 4 undef, a'.tmps.getD 5 undef, a'.tmps.getD 6 undef, a'.tmps.getD 7 undef, a'.tmps.getD 8 undef, a'.tmps.getD 9 undef, a'.tmps.getD 10 undef, a'.tmps.getD 11 undef, a'.tmps.getD 12 undef, a'.tmps.getD 13 undef, a'.tmps.getD 14 undef, a'.tmps.getD 15 undef, a'.tmps.getD 16 undef, a'.tmps.getD 17 undef, a'.tmps.getD 18 undef, a'.tmps.getD 19 undef, a'.tmps.getD 20 undef, a'.tmps.getD 21 undef, a'.tmps.getD 22 undef, a'.tmps.getD 23 undef, a'.tmps.getD 24 undef, a'.tmps.getD 25 undef, a'.tmps.getD 26 undef, a'.tmps.getD 27 undef, a'.tmps.getD 28 undef, a'.tmps.getD 29 undef, a'.tmps.getD 30 undef, a'.tmps.getD 31 undef, a'.tmps.getD 32 undef, a'.tmps.getD 33 undef, a'.tmps.getD 34 undef, a'.tmps.getD 35 undef, a'.tmps.getD 36 undef, a'.tmps.getD 37 undef, a'.tmps.getD 38 undef, a'.tmps.getD 39 undef, a'.tmps.getD 40 undef, a'.tmps.getD 41 undef, a'.tmps.getD 42 undef, a'.tmps.getD 43 undef, a'.tmps.getD 44 undef, a'.tmps.getD 45 undef, a'.tmps.getD 46 undef, a'.tmps.getD 47 undef, a'.tmps.getD 48 undef, a'.tmps.getD 49 undef, a'.tmps.getD 50 undef, a'.tmps.getD 51 undef, a'.tmps.getD 52 undef, a'.tmps.getD 53 undef, a'.tmps.getD 54 undef, a'.tmps.getD 55 undef, a'.tmps.getD 56 undef, a'.tmps.getD 57 undef, a'.tmps.getD 58 undef, a'.tmps.getD 59 undef, a'.tmps.getD 60 undef, a'.tmps.getD 61 undef, a'.tmps.getD 62 undef, a'.tmps.getD 63 undef, a'.tmps.getD 64 undef, a'.tmps.getD 65 undef, a'.tmps.getD 66 undef, a'.tmps.getD 67 undef, a'.tmps.getD 68 undef, a'.tmps.getD 69 undef, a'.tmps.getD 70 undef, a'.tmps.getD 71 undef, a'.tmps.getD 72 undef, a'.tmps.getD 73 undef, a'.tmps.getD 74 undef, a'.tmps.getD 75 undef, a'.tmps.getD 76 undef, a'.tmps.getD 77 undef, a'.tmps.getD 78 undef], defers := Ds.map markD } ∧ MkI wr Ds W) 2 ?start ?round
  case start =>
    exact ⟨0, [], by omega, rfl, rfl, Below.refl _ _, (fun D hD => by cases hD), List.nodup_nil⟩
  case round =>
    intro m9 a' W hinv J K hJ hK
    obtain ⟨tn, Ds, htn, hm9, ha, hI⟩ := hinv
    obtain ⟨u, hu⟩ : ∃ u : Nat → Value, ∀ i, a'.tmps.getD i undef = u i := ⟨_, fun _ => rfl⟩
    simp only [hu] at ha
    clear hu
    subst ha hm9
    have HJ := Lib.hid hJ
    clear hJ
    have HI := Lib.hid hI
    have hWs := hI.below.size
    clear hI
    rcases (show tn = 0 ∨ tn = 1 ∨ tn = 2 by omega) with rfl | rfl | rfl
    · have HN := Lib.hid (show NoT W (.pointer none) from .inl rfl)
      have HM := HI
      have T3 := Lib.hid True.intro
      go_wp2_with (first
        | (go_at_call 19; refine (sight_c 1 _).mono ?_; rintro en w1 ⟨rfl, hb⟩; replace HN := Lib.hid (HN.out.up hb); replace HM := Lib.hid (HM.out.up hb); clear hb)
        | (go_at_call 12; refine (nHas_c (sgN 1) _ HN.out).mono ?_; rintro en w2 ⟨rfl, hb⟩; replace HN := Lib.hid (HN.out.up hb); replace HM := Lib.hid (HM.out.up hb); clear hb)
        | (go_at_call 11; refine (nPrune_c _ _ HN.out).mono ?_; rintro en w3 ⟨rfl, hb⟩; replace HN := Lib.hid (HN.out.up hb); replace HM := Lib.hid (HM.out.up hb); clear hb)
        | (go_at_call 20; refine (nNext_c _ HN.out).mono ?_; rintro en w4 ⟨rfl, hb⟩; replace HN := Lib.hid (HN.out.up hb); replace HM := Lib.hid (HM.out.up hb); clear hb)
        | (go_at_call 33; have Tz := T3; clear Tz T3; refine (nAll_c _ HN.out).mono ?_; rintro en w6 ⟨C6, rfl, _, _, hb⟩; replace HN := Lib.hid (HN.out.up hb); replace HM := Lib.hid (HM.out.up hb); clear hb)
        | (go_at_call 33; refine (nAll_c _ HN.out).mono ?_; rintro en w7 ⟨C, rfl, hC0, hC1, hb⟩; replace HN := Lib.hid (HN.out.up hb); replace HM := Lib.hid (HM.out.up hb); clear hb))
      have hC2 := World.block_lt_of_cell? w7 _ hC0
      refine wpIn_wide.1 (wp_range (n := 3) (S := fun q => False) (gf := 39) (lb := #[.pointer (some ⟨C, 0, none⟩)]) rfl enters_seAll1
        (nAll1_x _ w7 hC0) (Below.refl _ _) (fun _ => rfl)
        (fun q => False) (fun k h => h.elim) ?hS
        (fun k G W3 => Below w7.heap.size w7 W3)
        (fun k a' G W3 => Below w7.heap.size w7 W3)
        (fun c k G W3 => False)
        ?abI ?abM (fun c k G A B h _ => h.elim) (Below.refl _ _) ?assign ?body ?done ?stop)
      case hS => exact fun q h => h.elim
      case abI => exact fun k G A B h hb => h.trans (hb.below (fun k e => e.1) h.size)
      case abM => exact fun k a' G A B h hb => h.trans (hb.below (fun k e => e.1) h.size)
      case assign => intro l2 k G W3 K3 hk; exact absurd hk (Nat.not_lt_zero k)
      case body => intro l2 k a' G W3 hk; exact absurd hk (Nat.not_lt_zero k)
      case stop =>
        intro D c k G W3 hD hGD hk hi hKD
        exact hi.elim
      case done =>
        rintro D G W3 hD hGD hi hKD
        have hszw := HM.out.below.size
        have hWm := HI.out
        replace HN := Lib.hid (HN.out.up hi)
        replace HM := Lib.hid (HM.out.next hi hKD hD)
        clear hC0 hC1 hC2 hi hKD hWm
        go_wp2_with (first
          | (go_at_call 21; refine (nLen_c _ HN.out).mono ?_; rintro en w8 ⟨rfl, hb⟩; replace HN := Lib.hid (HN.out.up hb); replace HM := Lib.hid (HM.out.up hb); clear hb)
          | (go_at_call 8; refine (num_c _ _).mono ?_; rintro en w9 ⟨rfl, rfl⟩)
          | (go_at_call 19; refine (sight_c 1 _).mono ?_; rintro en w10 ⟨rfl, hb⟩; replace HN := Lib.hid (HN.out.up hb); replace HM := Lib.hid (HM.out.up hb); clear hb)
          | (go_at_call 9; refine (nSee_c (sgN 1) _ _ HN.out).mono ?_; rintro en w11 ⟨rfl, hb⟩; replace HN := Lib.hid (HN.out.up hb); replace HM := Lib.hid (HM.out.up hb); clear hb)
          | (go_at_call 17; refine (nCopy_c _ HN.out).mono ?_; rintro en w17 ⟨rfl, hb⟩; replace HN := Lib.hid (HN.out.up hb); replace HM := Lib.hid (HM.out.up hb); clear hb)
          | (go_at_call 10; refine (nSame_c _ HN.out).mono ?_; rintro en w18 ⟨rfl, hb⟩; replace HN := Lib.hid (HN.out.up hb); replace HM := Lib.hid (HM.out.up hb); clear hb))
        refine Handed.intro 1 (by omega) (HJ.out _ _ _ ?_)
        exact ⟨1, D :: Ds, by omega, rfl, rfl, HM.out⟩
    · have hbA := below_alloc W (.cells #[.int .i64 0, .map none] 66)
      have HN := Lib.hid (show NoT (W.alloc (.cells #[.int .i64 0, .map none] 66)) (.pointer (some ⟨W.heap.size, 0, none⟩)) from .inr ⟨_, rfl, RowAt.new W _ _⟩)
      have HM := Lib.hid (HI.out.up hbA)
      clear hbA
      have T3 := Lib.hid True.intro
      go_wp2_with (first
        | (go_at_call 19; refine (sight_c 1 _).mono ?_; rintro en w1 ⟨rfl, hb⟩; replace HN := Lib.hid (HN.out.up hb); replace HM := Lib.hid (HM.out.up hb); clear hb)
        | (go_at_call 12; refine (nHas_c (sgN 1) _ HN.out).mono ?_; rintro en w2 ⟨rfl, hb⟩; replace HN := Lib.hid (HN.out.up hb); replace HM := Lib.hid (HM.out.up hb); clear hb)
        | (go_at_call 11; refine (nPrune_c _ _ HN.out).mono ?_; rintro en w3 ⟨rfl, hb⟩; replace HN := Lib.hid (HN.out.up hb); replace HM := Lib.hid (HM.out.up hb); clear hb)
        | (go_at_call 20; refine (nNext_c _ HN.out).mono ?_; rintro en w4 ⟨rfl, hb⟩; replace HN := Lib.hid (HN.out.up hb); replace HM := Lib.hid (HM.out.up hb); clear hb)
        | (go_at_call 33; have Tz := T3; clear Tz T3; refine (nAll_c _ HN.out).mono ?_; rintro en w6 ⟨C6, rfl, _, _, hb⟩; replace HN := Lib.hid (HN.out.up hb); replace HM := Lib.hid (HM.out.up hb); clear hb)
        | (go_at_call 33; refine (nAll_c _ HN.out).mono ?_; rintro en w7 ⟨C, rfl, hC0, hC1, hb⟩; replace HN := Lib.hid (HN.out.up hb); replace HM := Lib.hid (HM.out.up hb); clear hb))
      have hC2 := World.block_lt_of_cell? w7 _ hC0
      refine wpIn_wide.1 (wp_range (n := 3) (S := fun q => False) (gf := 39) (lb := #[.pointer (some ⟨C, 0, none⟩)]) rfl enters_seAll1
        (nAll1_x _ w7 hC0) (Below.refl _ _) (fun _ => rfl)
        (fun q => False) (fun k h => h.elim) ?hS
        (fun k G W3 => Below w7.heap.size w7 W3)
        (fun k a' G W3 => Below w7.heap.size w7 W3)
        (fun c k G W3 => False)
        ?abI ?abM (fun c k G A B h _ => h.elim) (Below.refl _ _) ?assign ?body ?done ?stop)
      case hS => exact fun q h => h.elim
      case abI => exact fun k G A B h hb => h.trans (hb.below (fun k e => e.1) h.size)
      case abM => exact fun k a' G A B h hb => h.trans (hb.below (fun k e => e.1) h.size)
      case assign => intro l2 k G W3 K3 hk; exact absurd hk (Nat.not_lt_zero k)
      case body => intro l2 k a' G W3 hk; exact absurd hk (Nat.not_lt_zero k)
      case stop =>
        intro D c k G W3 hD hGD hk hi hKD
        exact hi.elim
      case done =>
        rintro D G W3 hD hGD hi hKD
        have hszw := HM.out.below.size
        have hWm := HI.out
        replace HN := Lib.hid (HN.out.up hi)
        replace HM := Lib.hid (HM.out.next hi hKD hD)
        clear hC0 hC1 hC2 hi hKD hWm
        go_wp2_with (first
          | (go_at_call 21; refine (nLen_c _ HN.out).mono ?_; rintro en w8 ⟨rfl, hb⟩; replace HN := Lib.hid (HN.out.up hb); replace HM := Lib.hid (HM.out.up hb); clear hb)
          | (go_at_call 8; refine (num_c _ _).mono ?_; rintro en w9 ⟨rfl, rfl⟩)
          | (go_at_call 19; refine (sight_c 1 _).mono ?_; rintro en w10 ⟨rfl, hb⟩; replace HN := Lib.hid (HN.out.up hb); replace HM := Lib.hid (HM.out.up hb); clear hb)
          | (go_at_call 9; refine (nSee_c (sgN 1) _ _ HN.out).mono ?_; rintro en w11 ⟨rfl, hb⟩; replace HN := Lib.hid (HN.out.up hb); replace HM := Lib.hid (HM.out.up hb); clear hb)
          | (go_at_call 17; refine (nCopy_c _ HN.out).mono ?_; rintro en w17 ⟨rfl, hb⟩; replace HN := Lib.hid (HN.out.up hb); replace HM := Lib.hid (HM.out.up hb); clear hb)
          | (go_at_call 10; refine (nSame_c _ HN.out).mono ?_; rintro en w18 ⟨rfl, hb⟩; replace HN := Lib.hid (HN.out.up hb); replace HM := Lib.hid (HM.out.up hb); clear hb))
        refine Handed.intro 0 (by omega) (HJ.out _ _ _ ?_)
        exact ⟨2, D :: Ds, by omega, rfl, rfl, HM.out⟩
    · have hr := HR0.out.below HI.out.below
      have rf := hr.fz 0
      have rc := hr.cell (i := 0) (v := .bool false) rfl
      have hmk := HI.out.marks
      have hnd := HI.out.nodup
      have hnb : w.heap.size ∉ Ds := fun hD2 => by have := (hmk _ hD2).2; omega
      go_wp2
      refine leaves_marks Ds _ hnd (fun D2 hD2 => ?_) (fun w9 hb9 => ?_)
      · have hne : D2 ≠ w.heap.size := fun e => hnb (e ▸ hD2)
        exact (Below.heap_setCell W ⟨w.heap.size, 0, none⟩ (.bool true) D2 (by simpa using hne)).trans (hmk D2 hD2).1
      · have hx4 := hr.set 0 (.bool true)
        have hx5 : RowAt w9 w.heap.size #[.bool true] 4 := (hb9.same _ hx4.lt hnb).trans hx4
        have hx5c := hx5.cell (i := 0) (v := .bool true) rfl
        refine ⟨.bool true, by simp [results, Try.results16, go_sem, hx5c], rfl, ?_⟩
        have hB3 := (below_up HB0.out (HI.out.below)).setCell (show w.heap.size ≤ (⟨w.heap.size, 0, none⟩ : Addr).block from Nat.le_refl _) (.bool true)
        exact hB3.trans (hb9.below (fun D2 hD2 => by have := (hmk D2 hD2).2; omega) hB3.size)
end Go.Proofs.Ytfoncaamhleckaa
