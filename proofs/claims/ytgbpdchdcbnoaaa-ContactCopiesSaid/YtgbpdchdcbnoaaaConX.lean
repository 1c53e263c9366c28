/-
  The contract of none.
-/
import Derived.Test.YtgbpdchdcbnoaaaConW
namespace Go.Proofs.Ytgbpdchdcbnoaaa
open Go.RowKit Vol
set_option linter.unusedSimpArgs false
set_option linter.unusedVariables false
attribute [local go_sem] Oper.semAt_some

/-- What holds in none: its result lies in the first block; Ds: the marks. -/
structure NnI (w : World) (Ds : List Nat) (W : World) : Prop where
  below : Below w.heap.size w W
  res : RowAt W w.heap.size #[.bool false] 4
  marks : ∀ D ∈ Ds, W.heap[D]? = some (.deferred (some [])) ∧ w.heap.size ≤ D
  nodup : Ds.Nodup
theorem NnI.up {w : World} {Ds : List Nat} {W W' : World} (h : NnI w Ds W) (hb : Below W.heap.size W W') : NnI w Ds W' :=
  ⟨below_up h.below hb, h.res.below hb, fun D hd => ⟨(hb.block D (Array.getElem?_eq_some_iff.1 (h.marks D hd).1).1).trans (h.marks D hd).1, (h.marks D hd).2⟩, h.nodup⟩
theorem NnI.add {w : World} {Ds : List Nat} {W W3 : World} (h : NnI w Ds W) (hb : Below W.heap.size W W3) {D : Nat} (hD : W3.heap[D]? = some (.deferred (some []))) (hl : W.heap.size ≤ D) : NnI w (D :: Ds) W3 :=
  have h3 := h.up hb
  have hn : D ∉ Ds := fun e => by have := (Array.getElem?_eq_some_iff.1 (h.marks D e).1).1; omega
  ⟨h3.below, h3.res, fun D' hD' => by
    rcases List.mem_cons.1 hD' with rfl | hD'
    · exact ⟨hD, by have := h.below.size; omega⟩
    · exact h3.marks D' hD', List.nodup_cons.2 ⟨hn, h.nodup⟩⟩

set_option maxHeartbeats 8000000 in
set_option maxRecDepth 100000 in
theorem cNone_c (w : World) : Calls Try.prog 21 #[] w (Ret (.bool true) w) := by
  refine (callsIn_wide (n := 3)).1 ?_
  refine callsIn_of_wp_marks Try.func21 rfl trivial ?_ rfl
  simp only [Try.ntmps21, List.size_toArray, List.length_cons, List.length_nil, Nat.reduceAdd, Nat.reduceSub, Array.replicate_succ, Array.replicate_zero, List.push_toArray, List.append_toArray, List.nil_append, List.cons_append]
  have he : ∀ (f : FuncId) (caps : Array Value) (w : World), (binOp BinOp.eql 56 (.func (.func f) #[] caps) .nilFunc).run Try.prog w = .ok (.bool false) w := fun _ _ _ => by kernel_rfl
  refine wpIn_wide.2 ?_
  go_wp2
  refine wp_loop_ghost_k (fun m a' W => ∃ (tn : Nat) (Ds : List Nat), tn ≤ 2 ∧ m = 2 - tn ∧ a' = { tmps := #[.pointer (some ⟨w.heap.size, 0, none⟩), .int .i64 tn, a'.tmps.getD 2 undef, a'.tmps.getD 3 undef, a'.tmps.getD 4 undef, a'.tmps.getD 5 undef, a'.tmps.getD 6 undef, a'.tmps.getD 7 undef, a'.tmps.getD 8 undef, a'.tmps.getD 9 undef, a'.tmps.getD 10 undef, a'.tmps.getD 11 undef, a'.tmps.getD 12 undef, a'.tmps.getD 13 undef, a'.tmps.getD 14 undef, a'.tmps.getD 15 undef, a'.tmps.getD 16 undef, a'.tmps.getD 17 undef, a'.tmps.getD 18 undef, a'.tmps.getD 19 undef, a'.tmps.getD 20 undef, a'.tmps.getD 21 undef, a'.tmps.getD 22 undef, a'.tmps.getD 23 undef, a'.tmps.getD 24 undef, a'.tmps.getD 25 undef, a'.tmps.getD 26 undef, a'.tmps.getD 27 undef, a'.tmps.getD 28 undef, a'.tmps.getD 29 undef, a'.tmps.getD 30 undef, a'.tmps.getD 31 undef, a'.tmps.getD 32 undef, a'.tmps.getD 33 undef, a'.tmps.getD 34 undef, a'.tmps.getD 35 undef, a'.tmps.getD 36 undef, a'.tmps.getD 37 undef, a'.tmps.getD 38 undef, a'.tmps.getD 39 undef, a'.tmps.getD 40 undef, a'.tmps.getD 41 undef, a'.tmps.getD 42 undef, a'.tmps.getD 43 undef, a'.tmps.getD 44 undef, a'.tmps.getD 45 undef, a'.tmps.getD 46 undef, a'.tmps.getD 47 undef, a'.tmps.getD 48 undef, a'.tmps.getD 49 undef, a'.tmps.getD 50 undef, a'.tmps.getD 51 undef, a'.tmps.getD 52 undef, a'.tmps.getD 53 undef, a'.tmps.getD 54 undef, a'.tmps.getD 55 undef, a'.tmps.getD 56 undef, a'.tmps.getD 57 undef, a'.tmps.getD 58 undef, a'.tmps.getD 59 undef, a'.tmps.getD 60 undef, a'.tmps.getD 61 undef, a'.tmps.getD 62 undef, a'.tmps.getD 63 undef, a'.tmps.getD 64 undef, a'.tmps.getD 65 undef, a'.tmps.getD 66 undef, a'.tmps.getD 67 undef, a'.tmps.getD 68 undef, a'.tmps.getD 69 undef, a'.tmps.getD 70 undef, a'.tmps.getD 71 undef, a'.tmps.getD 72 undef, a'.tmps.getD 73 undef, a'.tmps.getD 74 undef, a'.tmps.getD 75 undef, a'.tmps.getD 76 undef, a'.tmps.getD 77 undef, a'.tmps.getD 78 undef, a'.tmps.getD 79 undef, a'.tmps.getD 80 undef, a'.tmps.getD 81 undef, a'.tmps.getD 82 undef, a'.tmps.getD 83 undef, a'.tmps.getD 84 undef, a'.tmps.getD 85 undef, a'.tmps.getD 86 undef, a'.tmps.getD 87 undef, a'.tmps.getD 88 undef, a'.tmps.getD 89 undef, a'.tmps.getD 90 undef, a'.tmps.getD 91 undef, a'.tmps.getD 92 undef, a'.tmps.getD 93 undef, a'.tmps.getD 94 undef, a'.tmps.getD 95 undef, a'.tmps.getD 96 undef], defers := Ds.map markD } ∧ NnI w Ds W) 2 ?start ?round
  case start =>
    exact ⟨0, [], by omega, rfl, rfl, below_alloc _ _, RowAt.new _ _ _, (fun D hD => by cases hD), List.nodup_nil⟩
  case round =>
    intro m a' W hinv J K hJ hK
    obtain ⟨tn, Ds, htn, hm, ha, hI⟩ := hinv
    obtain ⟨u, hu⟩ : ∃ u : Nat → Value, ∀ i, a'.tmps.getD i undef = u i := ⟨_, fun _ => rfl⟩
    simp only [hu] at ha
    clear hu
    subst ha hm
    have HJ := Lib.hid hJ
    clear hJ
    have HI := Lib.hid hI
    clear hI
    rcases (show tn = 0 ∨ tn = 1 ∨ tn = 2 by omega) with rfl | rfl | rfl
    · have HV := Lib.hid (void_nil W)
      go_wp2_with (first
        | (go_at_call 17; refine (vDrop_c _ _ _ _ _ HV.out).mono ?_; rintro en w1 ⟨rfl, hb⟩; replace HV := Lib.hid (HV.out.up (below_up hb (below_alloc w1 (.cells (ctC zct0).toArray 27)))); replace HI := Lib.hid (HI.out.up (below_up hb (below_alloc w1 (.cells (ctC zct0).toArray 27)))))
        | (go_at_call 28; refine (vPrune_c _ _ _ HV.out).mono ?_; rintro en w1 ⟨rfl, hb⟩; replace HV := Lib.hid (HV.out.up hb); replace HI := Lib.hid (HI.out.up hb))
        | (go_at_call 18; refine (vAt_c _ _ _ _ _ HV.out).mono ?_; rintro en w1 ⟨rfl, hb⟩; replace HV := Lib.hid (HV.out.up (below_up hb (below_alloc w1 (.cells (ctC zct0).toArray 27)))); replace HI := Lib.hid (HI.out.up (below_up hb (below_alloc w1 (.cells (ctC zct0).toArray 27)))))
        | (go_at_call 49; refine (vGet_c _ _ _ HV.out).mono ?_; rintro en w1 ⟨rfl, hb⟩; replace HV := Lib.hid (HV.out.up (below_up hb (below_alloc w1 (.cells (ctC zct0).toArray 27)))); replace HI := Lib.hid (HI.out.up (below_up hb (below_alloc w1 (.cells (ctC zct0).toArray 27)))))
        | (go_at_call 27; refine (vNext_c _ _ _ HV.out).mono ?_; rintro en w1 ⟨rfl, hb⟩; obtain ⟨wn, rfl⟩ : ∃ wn, wn = w1 := ⟨_, rfl⟩; replace HV := Lib.hid (HV.out.up hb); replace HI := Lib.hid (HI.out.up hb))
        | (go_at_call 23; refine (vAll_c _ _ HV.out).mono ?_; rintro en w2 ⟨rfl, rfl⟩; replace HV := Lib.hid (HV.out.up (below_alloc _ (.cells #[.slice none 0 0] 65))); replace HI := Lib.hid (HI.out.up (below_alloc _ (.cells #[.slice none 0 0] 65)))))
      have hA := AllAt.void (wn.alloc (.cells #[.slice none 0 0] 65))
      rw [World.size_alloc] at hA
      have hzx : ((wn.alloc (.cells #[.slice none 0 0] 65)).alloc (.cells #[.slice none 0 0] 65)).heap.size = wn.heap.size + 2 := by simp
      obtain ⟨Wx, hWx⟩ : ∃ Wx, (wn.alloc (.cells #[.slice none 0 0] 65)).alloc (.cells #[.slice none 0 0] 65) = Wx := ⟨_, rfl⟩
      simp only [hWx] at HV HI hA hzx ⊢
      clear hWx
      refine wpIn_wide.1 (wp_range (n := 3) (S := fun q => q = wn.heap.size + 1) (gf := 55) (lb := #[.pointer (some ⟨wn.heap.size + 1, 0, none⟩)]) rfl enters_all1
        (all1_x [] _ 0 (.slice none 0 0) _ _ hA ⟨rfl, .inl rfl⟩) (Below.refl _ _) (fun _ => rfl) (fun _ => False) (fun k h => h.elim) (fun q hq => ⟨by omega, fun h => h⟩)
        (fun k G W3 => Below Wx.heap.size Wx W3) (fun _ _ _ _ => True) (fun _ _ _ _ => False) (fun k G A B h hb => h.trans (hb.below (fun j e => e.1) h.size)) (fun _ _ _ _ _ _ _ => trivial) (fun _ _ _ _ _ h _ => h) (Below.refl _ _)
        (fun l k G W K hk => absurd hk (Nat.not_lt_zero _)) (fun l k a' G W hk => absurd hk (Nat.not_lt_zero _)) ?_ (fun D c k G W hD hGD hk => absurd hk (Nat.not_lt_zero _)))
      rintro D G W3 hD hGD hb3 hK3
      replace HV := Lib.hid (HV.out.up hb3)
      replace HI := Lib.hid (HI.out.add hb3 hK3 hD)
      clear hK3 hA hzx
      go_wp2_with (go_at_call 52; refine (vFrom_c _ _ _ HV.out).mono ?_; rintro en w8 ⟨rfl, hF, hb8, hz8⟩; replace HV := Lib.hid (HV.out.up hb8); replace HI := Lib.hid (HI.out.up hb8))
      refine wpIn_wide.1 (wp_range (n := 3) (S := fun q => q = W3.heap.size ∨ q = W3.heap.size + 1 ∨ q = W3.heap.size + 2) (gf := 72) (lb := #[.pointer (some ⟨W3.heap.size + 2, 0, none⟩), .pointer (some ⟨W3.heap.size, 0, none⟩)]) rfl enters_from1
        (from1_x [] 1 _ _ _ 0 (.slice none 0 0) _ w8 hF ⟨.inr (.inr rfl), .inl rfl, .inr (.inl rfl), .inl rfl⟩) (Below.refl _ _) (fun _ => rfl) (fun _ => False) (fun k h => h.elim) (fun q hq => ⟨by omega, fun h => h⟩)
        (fun k G W4 => Below w8.heap.size w8 W4) (fun _ _ _ _ => True) (fun _ _ _ _ => False) (fun k G A B h hb => h.trans (hb.below (fun j e => e.1) h.size)) (fun _ _ _ _ _ _ _ => trivial) (fun _ _ _ _ _ h _ => h) (Below.refl _ _)
        (fun l k G W K hk => absurd hk (Nat.not_lt_zero _)) (fun l k a' G W hk => absurd hk (Nat.not_lt_zero _)) ?_ (fun D c k G W hD hGD hk => absurd hk (Nat.not_lt_zero _)))
      rintro D2 G2 W4 hD2 hGD2 hb4 hK4
      replace HV := Lib.hid (HV.out.up hb4)
      replace HI := Lib.hid (HI.out.add hb4 hK4 hD2)
      clear hK4 hF hz8
      go_wp2_with (first
        | (go_at_call 14; refine (met_c _ _ _ _ _ _).mono ?_; rintro en w1 ⟨rfl, hb⟩; replace HV := Lib.hid (HV.out.up hb); replace HI := Lib.hid (HI.out.up hb))
        | (go_at_call 13; refine (vAdd_c _ ⟨1, 2, 3, 4, 5⟩ _ HV.out).mono ?_; rintro en w1 ⟨rfl, hb⟩; replace HV := Lib.hid (HV.out.up hb); replace HI := Lib.hid (HI.out.up hb))
        | (go_at_call 9; refine (num_cc _ _).mono ?_; rintro en w1 ⟨rfl, rfl⟩)
        | (go_at_call 15; refine (vLen_c _ _ HV.out).mono ?_; rintro en w1 ⟨rfl, rfl⟩)
        | (go_at_call 22; refine (vCopy_c _ _ HV.out).mono ?_; rintro en w1 ⟨rfl, rfl⟩)
        | (go_at_call 16; refine (vSame_c _ _ _ HV.out (void_nil _)).mono ?_; rintro en w1 ⟨rfl, rfl⟩))
      refine Handed.intro 1 (by omega) (HJ.out _ _ _ ?_)
      exact ⟨1, D2 :: D :: Ds, by omega, rfl, rfl, HI.out⟩
    · have hvd : Void (W.alloc (.cells #[.slice none 0 0, .bool false] 67)) (.pointer (some ⟨W.heap.size, 0, none⟩)) := .inr ⟨_, rfl, RowAt.new _ _ _⟩
      have HV := Lib.hid hvd
      clear hvd
      replace HI := Lib.hid (HI.out.up (below_alloc W (.cells #[.slice none 0 0, .bool false] 67)))
      go_wp2_with (first
        | (go_at_call 17; refine (vDrop_c _ _ _ _ _ HV.out).mono ?_; rintro en w1 ⟨rfl, hb⟩; replace HV := Lib.hid (HV.out.up (below_up hb (below_alloc w1 (.cells (ctC zct0).toArray 27)))); replace HI := Lib.hid (HI.out.up (below_up hb (below_alloc w1 (.cells (ctC zct0).toArray 27)))))
        | (go_at_call 28; refine (vPrune_c _ _ _ HV.out).mono ?_; rintro en w1 ⟨rfl, hb⟩; replace HV := Lib.hid (HV.out.up hb); replace HI := Lib.hid (HI.out.up hb))
        | (go_at_call 18; refine (vAt_c _ _ _ _ _ HV.out).mono ?_; rintro en w1 ⟨rfl, hb⟩; replace HV := Lib.hid (HV.out.up (below_up hb (below_alloc w1 (.cells (ctC zct0).toArray 27)))); replace HI := Lib.hid (HI.out.up (below_up hb (below_alloc w1 (.cells (ctC zct0).toArray 27)))))
        | (go_at_call 49; refine (vGet_c _ _ _ HV.out).mono ?_; rintro en w1 ⟨rfl, hb⟩; replace HV := Lib.hid (HV.out.up (below_up hb (below_alloc w1 (.cells (ctC zct0).toArray 27)))); replace HI := Lib.hid (HI.out.up (below_up hb (below_alloc w1 (.cells (ctC zct0).toArray 27)))))
        | (go_at_call 27; refine (vNext_c _ _ _ HV.out).mono ?_; rintro en w1 ⟨rfl, hb⟩; obtain ⟨wn, rfl⟩ : ∃ wn, wn = w1 := ⟨_, rfl⟩; replace HV := Lib.hid (HV.out.up hb); replace HI := Lib.hid (HI.out.up hb))
        | (go_at_call 23; refine (vAll_c _ _ HV.out).mono ?_; rintro en w2 ⟨rfl, rfl⟩; replace HV := Lib.hid (HV.out.up (below_alloc _ (.cells #[.slice none 0 0] 65))); replace HI := Lib.hid (HI.out.up (below_alloc _ (.cells #[.slice none 0 0] 65)))))
      have hA := AllAt.void (wn.alloc (.cells #[.slice none 0 0] 65))
      rw [World.size_alloc] at hA
      have hzx : ((wn.alloc (.cells #[.slice none 0 0] 65)).alloc (.cells #[.slice none 0 0] 65)).heap.size = wn.heap.size + 2 := by simp
      obtain ⟨Wx, hWx⟩ : ∃ Wx, (wn.alloc (.cells #[.slice none 0 0] 65)).alloc (.cells #[.slice none 0 0] 65) = Wx := ⟨_, rfl⟩
      simp only [hWx] at HV HI hA hzx ⊢
      clear hWx
      refine wpIn_wide.1 (wp_range (n := 3) (S := fun q => q = wn.heap.size + 1) (gf := 55) (lb := #[.pointer (some ⟨wn.heap.size + 1, 0, none⟩)]) rfl enters_all1
        (all1_x [] _ 0 (.slice none 0 0) _ _ hA ⟨rfl, .inl rfl⟩) (Below.refl _ _) (fun _ => rfl) (fun _ => False) (fun k h => h.elim) (fun q hq => ⟨by omega, fun h => h⟩)
        (fun k G W3 => Below Wx.heap.size Wx W3) (fun _ _ _ _ => True) (fun _ _ _ _ => False) (fun k G A B h hb => h.trans (hb.below (fun j e => e.1) h.size)) (fun _ _ _ _ _ _ _ => trivial) (fun _ _ _ _ _ h _ => h) (Below.refl _ _)
        (fun l k G W K hk => absurd hk (Nat.not_lt_zero _)) (fun l k a' G W hk => absurd hk (Nat.not_lt_zero _)) ?_ (fun D c k G W hD hGD hk => absurd hk (Nat.not_lt_zero _)))
      rintro D G W3 hD hGD hb3 hK3
      replace HV := Lib.hid (HV.out.up hb3)
      replace HI := Lib.hid (HI.out.add hb3 hK3 hD)
      clear hK3 hA hzx
      go_wp2_with (go_at_call 52; refine (vFrom_c _ _ _ HV.out).mono ?_; rintro en w8 ⟨rfl, hF, hb8, hz8⟩; replace HV := Lib.hid (HV.out.up hb8); replace HI := Lib.hid (HI.out.up hb8))
      refine wpIn_wide.1 (wp_range (n := 3) (S := fun q => q = W3.heap.size ∨ q = W3.heap.size + 1 ∨ q = W3.heap.size + 2) (gf := 72) (lb := #[.pointer (some ⟨W3.heap.size + 2, 0, none⟩), .pointer (some ⟨W3.heap.size, 0, none⟩)]) rfl enters_from1
        (from1_x [] 1 _ _ _ 0 (.slice none 0 0) _ w8 hF ⟨.inr (.inr rfl), .inl rfl, .inr (.inl rfl), .inl rfl⟩) (Below.refl _ _) (fun _ => rfl) (fun _ => False) (fun k h => h.elim) (fun q hq => ⟨by omega, fun h => h⟩)
        (fun k G W4 => Below w8.heap.size w8 W4) (fun _ _ _ _ => True) (fun _ _ _ _ => False) (fun k G A B h hb => h.trans (hb.below (fun j e => e.1) h.size)) (fun _ _ _ _ _ _ _ => trivial) (fun _ _ _ _ _ h _ => h) (Below.refl _ _)
        (fun l k G W K hk => absurd hk (Nat.not_lt_zero _)) (fun l k a' G W hk => absurd hk (Nat.not_lt_zero _)) ?_ (fun D c k G W hD hGD hk => absurd hk (Nat.not_lt_zero _)))
      rintro D2 G2 W4 hD2 hGD2 hb4 hK4
      replace HV := Lib.hid (HV.out.up hb4)
      replace HI := Lib.hid (HI.out.add hb4 hK4 hD2)
      clear hK4 hF hz8
      go_wp2_with (first
        | (go_at_call 14; refine (met_c _ _ _ _ _ _).mono ?_; rintro en w1 ⟨rfl, hb⟩; replace HV := Lib.hid (HV.out.up hb); replace HI := Lib.hid (HI.out.up hb))
        | (go_at_call 13; refine (vAdd_c _ ⟨1, 2, 3, 4, 5⟩ _ HV.out).mono ?_; rintro en w1 ⟨rfl, hb⟩; replace HV := Lib.hid (HV.out.up hb); replace HI := Lib.hid (HI.out.up hb))
        | (go_at_call 9; refine (num_cc _ _).mono ?_; rintro en w1 ⟨rfl, rfl⟩)
        | (go_at_call 15; refine (vLen_c _ _ HV.out).mono ?_; rintro en w1 ⟨rfl, rfl⟩)
        | (go_at_call 22; refine (vCopy_c _ _ HV.out).mono ?_; rintro en w1 ⟨rfl, rfl⟩)
        | (go_at_call 16; refine (vSame_c _ _ _ HV.out (void_nil _)).mono ?_; rintro en w1 ⟨rfl, rfl⟩))
      refine Handed.intro 0 (by omega) (HJ.out _ _ _ ?_)
      exact ⟨2, D2 :: D :: Ds, by omega, rfl, rfl, HI.out⟩
    · have hr := HI.out.res
      have hrc := hr.cell (i := 0) (v := .bool false) rfl
      have hrf := hr.fz 0
      go_wp2
      have hx4 := hr.set 0 (.bool true)
      refine leaves_marks Ds _ HI.out.nodup (fun D hD => ?_) (fun w9 hb9 => ?_)
      · have hm := HI.out.marks D hD
        have hne : D ≠ w.heap.size := fun e => by have h1 := hr; rw [← e] at h1; unfold RowAt at h1; rw [hm.1] at h1; cases h1
        exact (Below.heap_setCell W ⟨w.heap.size, 0, none⟩ (.bool true) D (by simpa using hne)).trans hm.1
      · have hne : w.heap.size ∉ Ds := fun hD => by have hm := HI.out.marks _ hD; have h1 := hr; unfold RowAt at h1; rw [hm.1] at h1; cases h1
        have hx5 : RowAt w9 w.heap.size #[.bool true] 4 := (hb9.same _ hx4.lt hne).trans hx4
        have hx5c := hx5.cell (i := 0) (v := .bool true) rfl
        refine ⟨.bool true, by simp [results, Try.results21, go_sem, hx5c], rfl, ?_⟩
        have hB3 := HI.out.below.setCell (show w.heap.size ≤ (⟨w.heap.size, 0, none⟩ : Addr).block from Nat.le_refl _) (.bool true)
        exact hB3.trans (hb9.below (fun D hD => (HI.out.marks D hD).2) hB3.size)
end Go.Proofs.Ytgbpdchdcbnoaaa
