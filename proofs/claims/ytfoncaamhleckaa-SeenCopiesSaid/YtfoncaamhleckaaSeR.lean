/-
  The reference's See.
-/
import Derived.Test.YtfoncaamhleckaaSeQ
namespace Go.Proofs.Ytfoncaamhleckaa
open Go.RowKit Go.Maps Trc Sn
set_option linter.unusedSimpArgs false
set_option linter.unusedVariables false

theorem rRightS_c (s : Sg) (hs : s.wf) (w : World) : Calls Try.prog 37 #[nmV s.n] w (Ret (.bool (nmOk s)) w) := by
  obtain ⟨⟨a, b, c, d⟩, e, f⟩ := s
  obtain ⟨h1, h2, h3, h4⟩ := nm_bounds hs.1
  simp only at h1 h2 h3 h4
  obtain ⟨a', rfl⟩ : ∃ n : Nat, a = (n : Int) := ⟨a.toNat, by omega⟩
  obtain ⟨b', rfl⟩ : ∃ n : Nat, b = (n : Int) := ⟨b.toNat, by omega⟩
  obtain ⟨c', rfl⟩ : ∃ n : Nat, c = (n : Int) := ⟨c.toNat, by omega⟩
  obtain ⟨d', rfl⟩ : ∃ n : Nat, d = (n : Int) := ⟨d.toNat, by omega⟩
  have h := rRightName_c a' b' c' d' w
  have he : decide (Dig.chkN a' c' = 0) = nmOk ⟨⟨(a' : Int), (b' : Int), (c' : Int), (d' : Int)⟩, e, f⟩ := by
    unfold Dig.chkN nmOk
    simp only
    by_cases h5 : a' = 0 ∨ 4611686018427387903 < c'
    · rw [if_pos h5, decide_eq_false (by decide), decide_eq_false (by omega)]
    · rw [if_neg h5, decide_eq_true rfl, decide_eq_true (by omega)]
  rw [he] at h
  exact h
namespace Sn
def posT (L : List (Sg × Int)) (s : Sg) : Nat := (L.takeWhile fun p => ltB p.1 s).length
def insT (L : List (Sg × Int)) (s : Sg) (u : Int) : List (Sg × Int) := L.take (posT L s) ++ (s, u) :: L.drop (posT L s)
def seeT (most : Int) (L : List (Sg × Int)) (s : Sg) (u : Int) : List (Sg × Int) := if seeE most L s u = 0 then insT L s u else L
theorem takeWhile_lenT {α : Type} {p : α → Bool} : ∀ {L : List α} {i : Nat}, i ≤ L.length → (∀ j (hj : j < L.length), j < i → p L[j] = true) → (∀ hj : i < L.length, p L[i] = false) → (L.takeWhile p).length = i
  | [], i, h0, _, _ => by simp at h0; simp [h0]
  | x :: L, 0, _, _, h2 => by
    have := h2 (by simp)
    simp at this
    simp [List.takeWhile, this]
  | x :: L, i + 1, h0, h1, h2 => by
    have hx := h1 0 (by simp) (by omega)
    simp at hx
    rw [List.takeWhile_cons_of_pos (by simpa using hx), List.length_cons, takeWhile_lenT (i := i) (by simp at h0; omega) (fun j hj hji => by have := h1 (j + 1) (by simp; omega) (by omega); simpa using this) (fun hj => by have := h2 (by simp; omega); simpa using this)]
end Sn
theorem slOneR (w : World) (k : Nat) (hk : k = w.heap.size) (T : TypeId) (p : Sg × Int) : Sl (w.alloc (.cells (rwC p).toArray T)) 7 (.slice (some ⟨k, 0, none⟩) 1 1) 1 ([p].flatMap rwC) := by
  have := sl_lit w k hk 7 1 (rwC p) T rfl (by decide)
  simpa using this
theorem own0R (w : World) {base k : Nat} (hb : base ≤ w.heap.size) (hk : k = w.heap.size) : (w.alloc (.cells #[] 78)).ownsRow base 78 7 (.slice (some ⟨k, 0, none⟩) 0 0) 0 [] := by
  subst hk
  exact World.ownsRow_lit w #[] 0 hb (by decide) rfl
theorem rw_take (l : List (Sg × Int)) (k : Nat) : (l.flatMap rwC).take (k * 7) = (l.take k).flatMap rwC := rec_take (cells := rwC) (sz := 7) (fun _ => rfl) l k
theorem rw_drop : ∀ (l : List (Sg × Int)) (k : Nat), (l.flatMap rwC).drop (k * 7) = (l.drop k).flatMap rwC
  | [], k => by simp
  | x :: l, 0 => by simp
  | x :: l, k + 1 => by
    rw [List.flatMap_cons, show (k + 1) * 7 = (rwC x).length + k * 7 by show _ = 7 + k * 7; omega, List.drop_append, List.drop_of_length_le (by omega), List.nil_append, show (rwC x).length + k * 7 - (rwC x).length = k * 7 by omega, rw_drop l k, List.drop_succ_cons]
theorem Sl.block_ltR {w : World} {sz : Nat} {v : Value} {n : Nat} {cs : List Value} (h : Sl w sz v n cs) (h0 : 0 < sz) : n = 0 ∨ ∀ k, v.ownBlock = some k → k < w.heap.size := by
  obtain ⟨hl, ⟨a, c, rfl, rfl⟩ | ⟨b, off, cap, rfl, hn, hm, hc⟩⟩ := h
  · exact .inl rfl
  · rcases Nat.eq_zero_or_pos n with h1 | h1
    · exact .inl h1
    · refine .inr fun k hk => ?_
      have hp : 0 < cs.length := by rw [hl]; exact Nat.mul_pos h1 h0
      have hc0 := hc 0 cs[0] (List.getElem?_eq_getElem hp)
      have hlt : b < w.heap.size := World.block_lt_of_cell? w ⟨b, off + 0, none⟩ hc0
      have hk' : b = k := Option.some.inj hk
      omega
/-- What the reference's See has at hand. -/
structure RsW (w w1 : World) (v : Value) (most : Int) (s : Sg) : Prop where
  below : Below w.heap.size w w1
  p : RowAt w1 w.heap.size #[v, .int .i64 most] 49
  c : RowAt w1 (w.heap.size + 1) (sgC s).toArray 38
  r : RowAt w1 (w.heap.size + 1 + 1) #[.slice none 0 0, .int .i64 0] 49
  big : w.heap.size + 3 ≤ w1.heap.size
theorem RsW.up {w w1 w2 : World} {v : Value} {most : Int} {s : Sg} (h : RsW w w1 v most s) {O : Nat → Prop} (hb : But O w1 w2) (hO : ∀ i, O i → w.heap.size + 3 ≤ i) (_ : True ∨ 0 ≤ 0 := .inl trivial) : RsW w w2 v most s :=
  ⟨h.below.trans (hb.below (fun k e => by have := hO k e; omega) h.below.size), (hb.same _ h.p.lt (fun e => by have := hO _ e; omega)).trans h.p, (hb.same _ h.c.lt (fun e => by have := hO _ e; omega)).trans h.c, (hb.same _ h.r.lt (fun e => by have := hO _ e; omega)).trans h.r, Nat.le_trans h.big hb.size⟩
theorem RsW.upB {w w1 w2 : World} {v : Value} {most : Int} {s : Sg} (h : RsW w w1 v most s) (hb : Below w1.heap.size w1 w2) : RsW w w2 v most s := h.up (O := fun _ => False) (But.of_below hb) (fun i e => e.elim)
theorem RsW.start (w : World) (v : Value) (most : Int) (s : Sg) : RsW w (((w.alloc (.cells #[v, .int .i64 most] 49)).alloc (.cells (sgC s).toArray 38)).alloc (.cells #[.slice none 0 0, .int .i64 0] 49)) v most s := by
  have hB3 : Below w.heap.size w (((w.alloc (.cells #[v, .int .i64 most] 49)).alloc (.cells (sgC s).toArray 38)).alloc (.cells #[.slice none 0 0, .int .i64 0] 49)) := ((below_alloc w _).alloc (by simp) _).alloc (by simp; omega) _
  have h2 := RowAt.new (w.alloc (.cells #[v, .int .i64 most] 49)) (sgC s).toArray 38
  rw [World.size_alloc] at h2
  have h3 := RowAt.new ((w.alloc (.cells #[v, .int .i64 most] 49)).alloc (.cells (sgC s).toArray 38)) #[.slice none 0 0, .int .i64 0] 49
  rw [World.size_alloc, World.size_alloc] at h3
  exact ⟨hB3, ((RowAt.new w _ _).below (below_alloc _ _)).below (below_alloc _ _), h2.below (below_alloc _ _), h3, by simp⟩
/-- What the reference's See leaves. -/
def Sn.RSe (L : List (Sg × Int)) (v : Value) (most : Int) (s : Sg) (u : Int) (w : World) (en : Ending) (w' : World) : Prop :=
  ∃ v' : Value, en = .returned (.tuple #[tbV v' most, .int .i64 (seeE most L s u)]) ∧ Sl w' 7 v' (seeT most L s u).length ((seeT most L s u).flatMap rwC) ∧ Below w.heap.size w w' ∧ (v' = v ∨ ∀ k, v'.ownBlock = some k → w.heap.size ≤ k ∧ k < w'.heap.size)
theorem Sn.atF_neg {L : List (Sg × Int)} {s : Sg} : (decide (atF L s ≥ 0)) = hasB L s := by
  unfold atF
  cases hasB L s <;> simp <;> omega

set_option maxHeartbeats 4000000 in
set_option maxRecDepth 100000 in
theorem rSee_c (L : List (Sg × Int)) (v : Value) (k : Nat) (most : Int) (s : Sg) (hs : s.wf) (u : Int) (w : World) (hv : Sl w 7 v k (L.flatMap rwC)) (hwf : ∀ p ∈ L, p.1.wf) (hN : k ≤ 5000) :
    Calls Try.prog 30 #[tbV v most, sgV s, .int .u64 u] w (RSe L v most s u w) := by
  have Hln := Lib.hid (Sl.recs (cells := rwC) (sz := 7) (fun _ => rfl) (by decide) hv)
  have hn := hv.n_max
  have HWF := Lib.hid hwf
  clear hwf
  obtain ⟨av, cv, rfl⟩ := hv.len
  have V0 := RsW.start w (.slice av k cv) most s
  have HRN := Lib.hid (fun w => rRightS_c s hs w)
  have HAT := Lib.hid (fun (w1 : World) (h : Below w.heap.size w w1) => rAt_c L (.slice av k cv) k most s w1 (hv.up h))
  have X0 := sg_nm V0.c
  obtain ⟨e, he⟩ : ∃ e, seeE most L s u = e := ⟨_, rfl⟩
  have HE := Lib.hid he
  unfold seeE at he
  have HLE := Lib.hid (show seeT most L s u = if e = 0 then insT L s u else L by unfold seeT; rw [HE.out])
  have hf0 : farB u = decide (u ≥ 4611686018427387903) := rfl
  rw [hf0] at he
  clear hf0
  obtain ⟨W0, hW0⟩ : ∃ W0, (((w.alloc (.cells #[.slice av k cv, .int .i64 most] 49)).alloc (.cells (sgC s).toArray 38)).alloc (.cells #[.slice none 0 0, .int .i64 0] 49)) = W0 := ⟨_, rfl⟩
  rw [hW0] at V0 X0
  obtain ⟨ob, hob⟩ : ∃ b, nmOk s = b := ⟨_, rfl⟩
  rw [hob] at he HRN
  clear hob
  cases ob with
  | false =>
    simp only [Bool.not_false, Bool.true_or, if_true] at he
    subst he
    go_enter Try.func30, Try.ntmps30
    go_wp2_with (first
      | (refine wpList_load_mid rfl 36 (.tmp 9) rfl (w.heap.size + 1) 0 rfl (nmC s.n) _ X0 Try.underlying36 rfl (by kernel_rfl) ?_)
      | (go_at_call 37; refine (HRN.out _).mono ?_; rintro en w1 ⟨rfl, hb⟩; have V1 := V0.upB hb; have p0 := V1.p.cell (i := 0) (v := .slice av k cv) rfl; have p1 := V1.p.cell (i := 1) (v := .int .i64 most) rfl)
      | (refine wpList_put_row rfl 49 (.tmp 6) (.tmp 17) rfl (w.heap.size + 1 + 1) [.slice av k cv, .int .i64 most] rfl rfl V1.r rfl (by kernel_rfl) rfl ?_; intro wA hRA hbA; have rA := hRA.cell (i := 0) rfl; have rA1 := hRA.cell (i := 1) rfl))
    have qA := Lib.hid (V1.below.trans (hbA.below (fun i e => by omega) V1.below.size))
    refine bodyPost_ret (v := .tuple #[tbV (.slice av k cv) most, .int .i64 2]) (by simp [results, Try.results30, go_sem, rA, rA1]) rfl ⟨.slice av k cv, by rw [HE.out], ?_, qA.out, .inl rfl⟩
    rw [HLE.out, if_neg (by decide), Hln.out]
    exact hv.up qA.out
  | true =>
    simp only [Bool.not_true, Bool.false_or] at he
    by_cases hfar : u ≥ 4611686018427387903
    · rw [decide_eq_true hfar, if_pos rfl] at he
      subst he
      go_enter Try.func30, Try.ntmps30
      go_wp2_with (first
        | (refine wpList_load_mid rfl 36 (.tmp 9) rfl (w.heap.size + 1) 0 rfl (nmC s.n) _ X0 Try.underlying36 rfl (by kernel_rfl) ?_)
        | (go_at_call 37; refine (HRN.out _).mono ?_; rintro en w1 ⟨rfl, hb⟩; have V1 := V0.upB hb; have p0 := V1.p.cell (i := 0) (v := .slice av k cv) rfl; have p1 := V1.p.cell (i := 1) (v := .int .i64 most) rfl)
        | (refine wpList_put_row rfl 49 (.tmp 6) (.tmp 17) rfl (w.heap.size + 1 + 1) [.slice av k cv, .int .i64 most] rfl rfl V1.r rfl (by kernel_rfl) rfl ?_; intro wA hRA hbA; have rA := hRA.cell (i := 0) rfl; have rA1 := hRA.cell (i := 1) rfl))
      have qA := Lib.hid (V1.below.trans (hbA.below (fun i e => by omega) V1.below.size))
      refine bodyPost_ret (v := .tuple #[tbV (.slice av k cv) most, .int .i64 2]) (by simp [results, Try.results30, go_sem, rA, rA1]) rfl ⟨.slice av k cv, by rw [HE.out], ?_, qA.out, .inl rfl⟩
      rw [HLE.out, if_neg (by decide), Hln.out]
      exact hv.up qA.out
    · rw [decide_eq_false hfar, if_neg (by decide)] at he
      obtain ⟨z, hz⟩ : ∃ z, atF L s = z := ⟨_, rfl⟩
      have hzb := atF_neg (L := L) (s := s)
      rw [hz] at HAT hzb
      clear hz
      by_cases hz0 : z ≥ 0
      · rw [← hzb, decide_eq_true hz0, if_pos rfl] at he
        clear hzb
        subst he
        go_enter Try.func30, Try.ntmps30
        go_wp2_with (first
          | (refine wpList_load_mid rfl 36 (.tmp 9) rfl (w.heap.size + 1) 0 rfl (nmC s.n) _ X0 Try.underlying36 rfl (by kernel_rfl) ?_)
          | (go_at_call 37; refine (HRN.out _).mono ?_; rintro en w1 ⟨rfl, hb⟩; have V1 := V0.upB hb; have p0 := V1.p.cell (i := 0) (v := .slice av k cv) rfl; have p1 := V1.p.cell (i := 1) (v := .int .i64 most) rfl)
          | (refine wpList_load_mid rfl 38 (.tmp 4) rfl (w.heap.size + 1) 0 rfl (sgC s) _ V1.c.range Try.underlying38 rfl (by kernel_rfl) ?_)
          | (go_at_call 32; refine (HAT.out _ V1.below).mono ?_; rintro en w2 ⟨rfl, hb2⟩; have V2 := V1.upB hb2; have q0 := V2.p.cell (i := 0) (v := .slice av k cv) rfl; have q1 := V2.p.cell (i := 1) (v := .int .i64 most) rfl)
          | (refine wpList_put_row rfl 49 (.tmp 6) (.tmp 22) rfl (w.heap.size + 1 + 1) [.slice av k cv, .int .i64 most] rfl rfl V2.r rfl (by kernel_rfl) rfl ?_; intro wA hRA hbA; have rA := hRA.cell (i := 0) rfl; have rA1 := hRA.cell (i := 1) rfl))
        have qA := Lib.hid (V2.below.trans (hbA.below (fun i e => by omega) V2.below.size))
        refine bodyPost_ret (v := .tuple #[tbV (.slice av k cv) most, .int .i64 150]) (by simp [results, Try.results30, go_sem, rA, rA1]) rfl ⟨.slice av k cv, by rw [HE.out], ?_, qA.out, .inl rfl⟩
        rw [HLE.out, if_neg (by decide), Hln.out]
        exact hv.up qA.out
      · rw [← hzb, decide_eq_false hz0, if_neg (by decide)] at he
        have HHB := Lib.hid (show hasB L s = false by rw [← hzb, decide_eq_false hz0])
        clear hzb
        by_cases hmo : (k : Int) ≥ most
        · rw [Hln.out, if_pos (by omega)] at he
          subst he
          go_enter Try.func30, Try.ntmps30
          go_wp2_with (first
            | (refine wpList_load_mid rfl 36 (.tmp 9) rfl (w.heap.size + 1) 0 rfl (nmC s.n) _ X0 Try.underlying36 rfl (by kernel_rfl) ?_)
            | (go_at_call 37; refine (HRN.out _).mono ?_; rintro en w1 ⟨rfl, hb⟩; have V1 := V0.upB hb; have p0 := V1.p.cell (i := 0) (v := .slice av k cv) rfl; have p1 := V1.p.cell (i := 1) (v := .int .i64 most) rfl)
            | (refine wpList_load_mid rfl 38 (.tmp 4) rfl (w.heap.size + 1) 0 rfl (sgC s) _ V1.c.range Try.underlying38 rfl (by kernel_rfl) ?_)
            | (go_at_call 32; refine (HAT.out _ V1.below).mono ?_; rintro en w2 ⟨rfl, hb2⟩; have V2 := V1.upB hb2; have q0 := V2.p.cell (i := 0) (v := .slice av k cv) rfl; have q1 := V2.p.cell (i := 1) (v := .int .i64 most) rfl)
            | (refine wpList_put_row rfl 49 (.tmp 6) (.tmp 29) rfl (w.heap.size + 1 + 1) [.slice av k cv, .int .i64 most] rfl rfl V2.r rfl (by kernel_rfl) rfl ?_; intro wA hRA hbA; have rA := hRA.cell (i := 0) rfl; have rA1 := hRA.cell (i := 1) rfl))
          have qA := Lib.hid (V2.below.trans (hbA.below (fun i e => by omega) V2.below.size))
          refine bodyPost_ret (v := .tuple #[tbV (.slice av k cv) most, .int .i64 230]) (by simp [results, Try.results30, go_sem, rA, rA1]) rfl ⟨.slice av k cv, by rw [HE.out], ?_, qA.out, .inl rfl⟩
          rw [HLE.out, if_neg (by decide), Hln.out]
          exact hv.up qA.out
        · rw [Hln.out, if_neg (by omega)] at he
          subst he
          replace HLE := Lib.hid (show seeT most L s u = insT L s u by rw [HLE.out, if_pos rfl])
          go_enter Try.func30, Try.ntmps30
          go_wp2_with (first
            | (refine wpList_load_mid rfl 36 (.tmp 9) rfl (w.heap.size + 1) 0 rfl (nmC s.n) _ X0 Try.underlying36 rfl (by kernel_rfl) ?_)
            | (go_at_call 37; refine (HRN.out _).mono ?_; rintro en w1 ⟨rfl, hb⟩; have V1 := V0.upB hb; have p0 := V1.p.cell (i := 0) (v := .slice av k cv) rfl; have p1 := V1.p.cell (i := 1) (v := .int .i64 most) rfl)
            | (refine wpList_load_mid rfl 38 (.tmp 4) rfl (w.heap.size + 1) 0 rfl (sgC s) _ V1.c.range Try.underlying38 rfl (by kernel_rfl) ?_)
            | (go_at_call 32; refine (HAT.out _ V1.below).mono ?_; rintro en w2 ⟨rfl, hb2⟩; have V2 := V1.upB hb2; have q0 := V2.p.cell (i := 0) (v := .slice av k cv) rfl; have q1 := V2.p.cell (i := 1) (v := .int .i64 most) rfl))
          clear hW0 V0 V1 p0 p1 hb hb2 q0 q1 X0 HRN HAT
          go_loopw [8] (fun i wr => ∃ j : Nat, j ≤ k ∧ i = .int .i64 j ∧ RowKit.Hid (∀ q (hq : q < L.length), q < j → ltB L[q].1 s = true) ∧ RsW w wr (.slice av k cv) most s) (fun i _ => k - (intOf i).toNat)
          case atStart => exact ⟨0, Nat.zero_le _, rfl, Lib.hid (fun q hq h => by omega), V2⟩
          case round =>
            clear V2
            obtain ⟨j, hj, rfl, Hyes, V⟩ := hrel
            have hO : ∀ i, i < wr.heap.size → ¬ wr.heap.size ≤ i := fun i h => by omega
            have hp := V.p.lt
            have hc := V.c.lt
            have hr := V.r.lt
            by_cases hlt : j < k
            · have hltI : (j : Int) < (k : Int) := by omega
              have hlt' : j < L.length := by rw [Hln.out]; exact hlt
              obtain ⟨b, off, rfl, hr⟩ := (hv.up V.below).rec_at (cells := rwC) (sz := 7) (fun _ => rfl) hlt hlt'
              have hbb : b < wr.heap.size := World.block_lt_of_cell? wr ⟨b, off + j * 7 + 0, none⟩ (hr 0 _ rfl)
              have Hend := Lib.hid (fun h : ltB L[j].1 s = false => (show posT L s = j from takeWhile_lenT (by rw [Hln.out]; omega) (fun q hq hqj => Hyes.out q hq hqj) (fun _ => h)))
              have Hstep := Lib.hid (fun (h : ltB L[j].1 s = true) q (hq : q < L.length) (hqj : q < j + 1) => (show ltB L[q].1 s = true from by
                rcases Nat.lt_or_ge q j with h' | h'
                · exact Hyes.out q hq h'
                · obtain rfl : q = j := by omega
                  exact h))
              have hxw : L[j].1.wf := HWF.out _ (List.getElem_mem hlt')
              generalize L[j] = x at *
              have hah := fun w => rAhead_c x.1 s hxw hs w
              obtain ⟨bo, hbo⟩ : ∃ bo, bo = ltB x.1 s := ⟨_, rfl⟩
              rw [← hbo] at hah Hend Hstep
              have hrS := rw_sight hr
              clear hbo
              go_wp2
              refine wp_region_pt (fun i => wr.heap.size ≤ i) (.q 0 (.q 1 (.q 2 (.q 3 (.q 4 (.q 5 (.q 6 (.q 7 (.q 8 (.q 9 (.q 10 (.q 11 (.q 12 (.c 13 (.q 14 .done))))))))))))))) (by kernel_rfl) (by kernel_rfl) (by kernel_rfl) (by decide) (fun _ _ d _ _ h => by cases d <;> exact h) (fun Wd hBd => ?_)
              try simp only [Act.put, List.getElem_toArray, List.getElem_cons_zero, List.getElem_cons_succ, List.setIfInBounds_toArray, List.set_cons_zero, List.set_cons_succ]
              have V2 := V.upB hBd
              have hr2 := rangeAt_up hBd hrS
              have cp : ∀ w', But (fun i => wr.heap.size ≤ i) Wd w' → w'.cell? ⟨w.heap.size, 0, none⟩ = some (.slice (some ⟨b, off, none⟩) k cv) := fun w' hb => hb.cell (V2.p.cell (i := 0) rfl) (by omega)
              refine pt_q (v := ?_) rfl (by rfl) ?_ ?_
              rotate_left
              · intro w' hBw'
                first | (go_simp; done) | (go_simp; with_reducible rfl)
              try simp only [Act.put, List.getElem_toArray, List.getElem_cons_zero, List.getElem_cons_succ, List.setIfInBounds_toArray, List.set_cons_zero, List.set_cons_succ]
              refine pt_q (v := ?_) rfl (by rfl) ?_ ?_
              rotate_left
              · intro w' hBw'
                first | (go_simp; done) | (go_simp; with_reducible rfl)
              try simp only [Act.put, List.getElem_toArray, List.getElem_cons_zero, List.getElem_cons_succ, List.setIfInBounds_toArray, List.set_cons_zero, List.set_cons_succ]
              refine pt_q (v := ?_) rfl (by rfl) ?_ ?_
              rotate_left
              · intro w' hBw'
                first | (go_simp; done) | (go_simp; with_reducible rfl)
              try simp only [Act.put, List.getElem_toArray, List.getElem_cons_zero, List.getElem_cons_succ, List.setIfInBounds_toArray, List.set_cons_zero, List.set_cons_succ]
              refine pt_q (v := ?_) rfl (by rfl) ?_ ?_
              rotate_left
              · intro w' hBw'
                first | (go_simp; done) | (go_simp; with_reducible rfl)
              try simp only [Act.put, List.getElem_toArray, List.getElem_cons_zero, List.getElem_cons_succ, List.setIfInBounds_toArray, List.set_cons_zero, List.set_cons_succ]
              refine pt_q (v := ?_) rfl (by rfl) ?_ ?_
              rotate_left
              · intro w' hBw'
                first | (go_simp; done) | (go_simp; with_reducible rfl)
              try simp only [Act.put, List.getElem_toArray, List.getElem_cons_zero, List.getElem_cons_succ, List.setIfInBounds_toArray, List.set_cons_zero, List.set_cons_succ]
              refine pt_q (v := ?_) rfl (by rfl) ?_ ?_
              rotate_left
              · intro w' hBw'
                first | (go_simp; done) | (go_simp; with_reducible rfl)
              try simp only [Act.put, List.getElem_toArray, List.getElem_cons_zero, List.getElem_cons_succ, List.setIfInBounds_toArray, List.set_cons_zero, List.set_cons_succ]
              refine pt_q (v := ?_) rfl (by rfl) ?_ ?_
              rotate_left
              · intro w' hBw'
                first | (go_simp; done) | (go_simp; with_reducible rfl)
              try simp only [Act.put, List.getElem_toArray, List.getElem_cons_zero, List.getElem_cons_succ, List.setIfInBounds_toArray, List.set_cons_zero, List.set_cons_succ]
              refine pt_q (v := ?_) rfl (by rfl) ?_ ?_
              rotate_left
              · intro w' hBw'
                first | (go_simp; done) | (go_simp; with_reducible rfl)
              try simp only [Act.put, List.getElem_toArray, List.getElem_cons_zero, List.getElem_cons_succ, List.setIfInBounds_toArray, List.set_cons_zero, List.set_cons_succ]
              refine pt_q (v := ?_) rfl (by rfl) ?_ ?_
              rotate_left
              · intro w' hBw'
                first | (go_simp; done) | (go_simp; with_reducible rfl)
              try simp only [Act.put, List.getElem_toArray, List.getElem_cons_zero, List.getElem_cons_succ, List.setIfInBounds_toArray, List.set_cons_zero, List.set_cons_succ]
              refine pt_q (v := ?_) rfl (by rfl) ?_ ?_
              rotate_left
              · intro w' hBw'
                first | (go_simp; done) | (go_simp; with_reducible rfl)
              try simp only [Act.put, List.getElem_toArray, List.getElem_cons_zero, List.getElem_cons_succ, List.setIfInBounds_toArray, List.set_cons_zero, List.set_cons_succ]
              refine pt_q (v := ?_) rfl (by rfl) ?_ ?_
              rotate_left
              · intro w' hBw'
                first | (go_simp; done) | (go_simp; with_reducible rfl)
              try simp only [Act.put, List.getElem_toArray, List.getElem_cons_zero, List.getElem_cons_succ, List.setIfInBounds_toArray, List.set_cons_zero, List.set_cons_succ]
              refine pt_load rfl (by rfl) 38 (.tmp 40) rfl b (off + j * 7) rfl (sgC x.1) _ hr2 (by omega) Try.underlying38 rfl (by kernel_rfl) ?_
              try simp only [Act.put, List.getElem_toArray, List.getElem_cons_zero, List.getElem_cons_succ, List.setIfInBounds_toArray, List.set_cons_zero, List.set_cons_succ]
              refine pt_load rfl (by rfl) 38 (.tmp 4) rfl (w.heap.size + 1) 0 rfl (sgC s) _ V2.c.range (by omega) Try.underlying38 rfl (by kernel_rfl) ?_
              try simp only [Act.put, List.getElem_toArray, List.getElem_cons_zero, List.getElem_cons_succ, List.setIfInBounds_toArray, List.set_cons_zero, List.set_cons_succ]
              refine pt_c ?_
              refine pt_step rfl (by rfl) (fun K hK => ?_)
              go_simp
              refine (hah _).mono ?_
              rintro en w3 ⟨rfl, hb3⟩
              refine hK.out _ _ (But.of_below hb3) ?_
              clear hK K
              try simp only [Act.put, List.getElem_toArray, List.getElem_cons_zero, List.getElem_cons_succ, List.setIfInBounds_toArray, List.set_cons_zero, List.set_cons_succ]
              refine pt_q (v := ?_) rfl (by rfl) ?_ ?_
              rotate_left
              · intro w' hBw'
                first | (go_simp; done) | (go_simp; with_reducible rfl)
              try simp only [Act.put, List.getElem_toArray, List.getElem_cons_zero, List.getElem_cons_succ, List.setIfInBounds_toArray, List.set_cons_zero, List.set_cons_succ]
              refine pt_done ?_
              have V3 := V2.upB hb3
              cases bo with
              | true =>
                go_wp2
                go_roundw
                case rel => exact ⟨j + 1, by omega, by go_num, Lib.hid (Hstep.out rfl), V3⟩
                case measure => simp [intOf]; omega
              | false =>
                have hpos : posT L s = j := Hend.out rfl
                obtain ⟨a1, hs1, sl1⟩ := cut_h slR hv j (by omega)
                obtain ⟨a2, hs2, sl2⟩ := cut_l slR hv j (by omega)
                replace hs1 := fun w' => hs1 .i64 w'
                replace hs2 := fun w' => hs2 .i64 w'
                rw [rw_take] at sl1
                rw [rw_drop] at sl2
                have hbl := sl2.block_ltR (by decide)
                have hwl := V3.below.size
                clear cp hltI hlt hlt' hr2 hr hrS hbb
                go_wp2
                refine wp_region_pz (fun i => w3.heap.size ≤ i) 17 (.q 1 (.q 2 (.q 3 (.q 4 (.q 6 (.q 7 (.q 8 (.q 11 (.q 12 (.q 13 (.q 14 (.f 0 (.f 5 (.c 9 (.c 10 (.c 15 (.q 16 .done)))) 9 (.c 5 (.c 10 (.c 15 (.q 16 .done))))) 9 (.c 0 (.c 5 (.c 10 (.c 15 (.q 16 .done))))))))))))))))) (by kernel_rfl) (by kernel_rfl) (by kernel_rfl) (by decide) (fun _ _ d _ _ h => by cases d <;> exact h) (fun Wd hBd => ?_)
                try simp only [Act.put, List.getElem_toArray, List.getElem_cons_zero, List.getElem_cons_succ, List.setIfInBounds_toArray, List.set_cons_zero, List.set_cons_succ]
                have hrlt := V3.r.lt
                have V2 := V3.up (But.of_below (O := fun i => w.heap.size + 3 ≤ i) hBd) (fun i e => e) (by omega)
                have hsz := hBd.size
                have hq3 := V2.big
                have cp : ∀ w', But (fun i => w3.heap.size ≤ i) Wd w' → w'.cell? ⟨w.heap.size, 0, none⟩ = some (.slice (some ⟨b, off, none⟩) k cv) := fun w' hb => hb.cell (V2.p.cell (i := 0) rfl) (by omega)
                refine pt_q (v := ?_) rfl (by rfl) ?_ ?_
                rotate_left
                · intro w' hBw'
                  first | (go_simp; done) | (go_simp; with_reducible rfl)
                try simp only [Act.put, List.getElem_toArray, List.getElem_cons_zero, List.getElem_cons_succ, List.setIfInBounds_toArray, List.set_cons_zero, List.set_cons_succ]
                refine pt_q (v := ?_) rfl (by rfl) ?_ ?_
                rotate_left
                · intro w' hBw'
                  first | (go_simp; done) | (go_simp; with_reducible rfl)
                try simp only [Act.put, List.getElem_toArray, List.getElem_cons_zero, List.getElem_cons_succ, List.setIfInBounds_toArray, List.set_cons_zero, List.set_cons_succ]
                refine pt_q (v := ?_) rfl (by rfl) ?_ ?_
                rotate_left
                · intro w' hBw'
                  first | (go_simp; done) | (go_simp; with_reducible rfl)
                try simp only [Act.put, List.getElem_toArray, List.getElem_cons_zero, List.getElem_cons_succ, List.setIfInBounds_toArray, List.set_cons_zero, List.set_cons_succ]
                refine pt_q (v := ?_) rfl (by rfl) ?_ ?_
                rotate_left
                · intro w' hBw'
                  first | (go_simp; done) | (go_simp; with_reducible rfl)
                try simp only [Act.put, List.getElem_toArray, List.getElem_cons_zero, List.getElem_cons_succ, List.setIfInBounds_toArray, List.set_cons_zero, List.set_cons_succ]
                refine pt_load rfl (by rfl) 38 (.tmp 4) rfl (w.heap.size + 1) 0 rfl (sgC s) _ V2.c.range (by omega) Try.underlying38 rfl (by kernel_rfl) ?_
                try simp only [Act.put, List.getElem_toArray, List.getElem_cons_zero, List.getElem_cons_succ, List.setIfInBounds_toArray, List.set_cons_zero, List.set_cons_succ]
                refine pt_q (v := ?_) rfl (by rfl) ?_ ?_
                rotate_left
                · intro w' hBw'
                  first | (go_simp; done) | (go_simp; with_reducible rfl)
                try simp only [Act.put, List.getElem_toArray, List.getElem_cons_zero, List.getElem_cons_succ, List.setIfInBounds_toArray, List.set_cons_zero, List.set_cons_succ]
                refine pt_q (v := ?_) rfl (by rfl) ?_ ?_
                rotate_left
                · intro w' hBw'
                  first | (go_simp; done) | (go_simp; with_reducible rfl)
                try simp only [Act.put, List.getElem_toArray, List.getElem_cons_zero, List.getElem_cons_succ, List.setIfInBounds_toArray, List.set_cons_zero, List.set_cons_succ]
                refine pt_q (v := ?_) rfl (by rfl) ?_ ?_
                rotate_left
                · intro w' hBw'
                  first | (go_simp; done) | (go_simp; with_reducible rfl)
                try simp only [Act.put, List.getElem_toArray, List.getElem_cons_zero, List.getElem_cons_succ, List.setIfInBounds_toArray, List.set_cons_zero, List.set_cons_succ]
                refine pt_q (v := ?_) rfl (by rfl) ?_ ?_
                rotate_left
                · intro w' hBw'
                  first | (go_simp; done) | (go_simp; with_reducible rfl)
                try simp only [Act.put, List.getElem_toArray, List.getElem_cons_zero, List.getElem_cons_succ, List.setIfInBounds_toArray, List.set_cons_zero, List.set_cons_succ]
                refine pt_q (v := ?_) rfl (by rfl) ?_ ?_
                rotate_left
                · intro w' hBw'
                  first | (go_simp; done) | (go_simp; with_reducible rfl)
                try simp only [Act.put, List.getElem_toArray, List.getElem_cons_zero, List.getElem_cons_succ, List.setIfInBounds_toArray, List.set_cons_zero, List.set_cons_succ]
                refine pt_q (v := ?_) rfl (by rfl) ?_ ?_
                rotate_left
                · intro w' hBw'
                  first | (go_simp; done) | (go_simp; with_reducible rfl)
                try simp only [Act.put, List.getElem_toArray, List.getElem_cons_zero, List.getElem_cons_succ, List.setIfInBounds_toArray, List.set_cons_zero, List.set_cons_succ]
                refine pt_f ?_ ?_
                · refine pt_step rfl (by rfl) (fun K hK => ?_)
                  go_simp
                  refine hK.out _ _ (But.alloc _ _) ?_
                  clear hK K
                  try simp only [Act.put, List.getElem_toArray, List.getElem_cons_zero, List.getElem_cons_succ, List.setIfInBounds_toArray, List.set_cons_zero, List.set_cons_succ]
                  have hE := below_alloc Wd (.cells #[] 78)
                  have h0 : (Wd.alloc (.cells #[] 78)).ownsRow w3.heap.size 78 7 (.slice (some ⟨Wd.heap.size, 0, none⟩) 0 0) 0 [] := World.ownsRow_lit Wd #[] 0 hBd.size (by decide) rfl
                  have hg0 := fun q hq => (own_of_some h0 (k := q) hq).1
                  have z0 := hE.size
                  refine pt_f ?_ ?_
                  · refine pt_app2 rfl (by rfl) _ _ 47 rfl slR w3.heap.size rfl h0 rfl ((sl1.up V2.below).up hE) (one_rw _) (by simp only [maxLen]; omega) (by omega) (by first | omega | (simp only [World.size_alloc] at *; omega)) (fun i hi => hi) (fun v5 w5 h5 hb5 => ?_)
                    try simp only [Act.put, List.getElem_toArray, List.getElem_cons_zero, List.getElem_cons_succ, List.setIfInBounds_toArray, List.set_cons_zero, List.set_cons_succ]
                    have r5 := (V2.up (But.of_below (O := fun i => w.heap.size + 3 ≤ i) hE) (fun i e => e) (by omega)).up hb5 (fun i e => by have := hg0 _ e; omega) (by omega)
                    have l5 := ((sl2.up V2.below).up hE).but hb5 (hbl.imp id fun h q hq e => by have := h q hq; have := hg0 _ e; omega)
                    have z5 := hb5.size
                    refine pt_c ?_
                    refine pt_step rfl (by rfl) (fun K hK => ?_)
                    go_simp
                    refine hK.out _ _ (But.alloc _ _) ?_
                    clear hK K
                    try simp only [Act.put, List.getElem_toArray, List.getElem_cons_zero, List.getElem_cons_succ, List.setIfInBounds_toArray, List.set_cons_zero, List.set_cons_succ]
                    have hX := below_alloc w5 (.cells (rwC (s, u)).toArray 78)
                    have s7 := slOneR w5 _ rfl 78 (s, u)
                    replace h5 := own_up h5 hX
                    have r7 := r5.up (But.of_below (O := fun i => w.heap.size + 3 ≤ i) hX) (fun i e => e) (by omega)
                    have l7 := l5.up hX
                    have z7 := hX.size
                    refine pt_c ?_
                    refine pt_app2 rfl (by rfl) _ _ 47 rfl slR w3.heap.size rfl h5 rfl (s7) (one_rw _) (by simp only [maxLen]; omega) (by omega) (by first | omega | (simp only [World.size_alloc] at *; omega)) (fun i hi => hi) (fun v8 w8 h8 hb8 => ?_)
                    try simp only [Act.put, List.getElem_toArray, List.getElem_cons_zero, List.getElem_cons_succ, List.setIfInBounds_toArray, List.set_cons_zero, List.set_cons_succ]
                    have hg8 := fun q hq => (own_of_some h5 (k := q) hq).1
                    have r8 := r7.up hb8 (fun i e => by have := hg8 _ e; omega) (by omega)
                    have l8 := l7.but hb8 (hbl.imp id fun h q hq e => by have := h q hq; have := hg8 _ e; omega)
                    have z8 := hb8.size
                    refine pt_c ?_
                    refine pt_app2 rfl (by rfl) _ _ 47 rfl slR w3.heap.size rfl h8 rfl (l8) (one_rw _) (by simp only [maxLen]; omega) (by omega) (by first | omega | (simp only [World.size_alloc] at *; omega)) (fun i hi => hi) (fun v9 w9 h9 hb9 => ?_)
                    try simp only [Act.put, List.getElem_toArray, List.getElem_cons_zero, List.getElem_cons_succ, List.setIfInBounds_toArray, List.set_cons_zero, List.set_cons_succ]
                    have hg9 := fun q hq => (own_of_some h8 (k := q) hq).1
                    have r9 := r8.up hb9 (fun i e => by have := hg9 _ e; omega) (by omega)
                    have z9 := hb9.size
                    obtain ⟨a9, c9, rfl⟩ := own_slice h9
                    obtain ⟨N9, hN9⟩ : ∃ N, N = 0 + j + 1 + (k - j) := ⟨_, rfl⟩
                    rw [← hN9] at h9
                    try rw [← hN9]
                    have HN9 := Lib.hid hN9
                    clear hN9
                    have k0 := r9.p.cell (i := 0) rfl
                    have kf := r9.p.fz 0
                    refine pt_q (v := ?_) rfl (by rfl) ?_ ?_
                    rotate_left
                    · intro w' hBw'
                      first | (go_simp; done) | (go_simp; with_reducible rfl)
                    try simp only [Act.put, List.getElem_toArray, List.getElem_cons_zero, List.getElem_cons_succ, List.setIfInBounds_toArray, List.set_cons_zero, List.set_cons_succ]
                    refine pz_last rfl (by rfl) (fun K hK => ?_)
                    go_simp
                    refine hK.out _ _ ?_
                    clear hK K
                    try simp only [Act.put, List.getElem_toArray, List.getElem_cons_zero, List.getElem_cons_succ, List.setIfInBounds_toArray, List.set_cons_zero, List.set_cons_succ]
                    have P1 := r9.p.set 0 (.slice a9 N9 c9)
                    have R1 := r9.r.other (a := ⟨w.heap.size, 0, none⟩) (by show w.heap.size + 1 + 1 ≠ w.heap.size; omega) (.slice a9 N9 c9)
                    have g0 := P1.cell (i := 0) (v := .slice a9 N9 c9) rfl
                    have g1 := P1.cell (i := 1) (v := .int .i64 most) rfl
                    have hbs : But (fun j => j = w.heap.size) w9 (w9.setCell ⟨w.heap.size, 0, none⟩ (.slice a9 N9 c9)) := But.setCell _ _ _ (.inl rfl)
                    have hbS := Lib.hid hbs
                    clear hbs
                    go_wp2_with (refine wpList_put_row rfl 49 (.tmp 6) (.tmp 64) rfl (w.heap.size + 1 + 1) [.slice a9 N9 c9, .int .i64 most] rfl rfl R1 rfl (by kernel_rfl) rfl ?_; intro wA hRA hbA)
                    have rA := hRA.cell (i := 0) rfl
                    have rA1 := hRA.cell (i := 1) rfl
                    have qA := (r9.below.trans (hbS.out.below (fun i e => by omega) r9.below.size)).trans (hbA.below (fun i e => by omega) (by have := r9.below.size; simp; omega))
                    have hgA := fun q hq => (own_of_some h9 (k := q) hq)
                    have sA := ((Sl.of_own h9).but hbS.out (.inr fun q hq e => by have := hgA q hq; omega)).but hbA (.inr fun q hq e => by have := hgA q hq; omega)
                    have zA := hbA.size
                    have zS := hbS.out.size
                    have hins : insT L s u = L.take j ++ (s, u) :: L.drop j := by unfold insT; rw [hpos]
                    have hlen : (insT L s u).length = N9 := by have h1 := Hln.out; have h2 := HN9.out; rw [hins]; simp only [List.length_append, List.length_cons, List.length_take, List.length_drop]; omega
                    refine bodyPost_ret (v := .tuple #[tbV (.slice a9 N9 c9) most, .int .i64 0]) (by simp [results, Try.results30, go_sem, rA, rA1]) rfl ⟨.slice a9 N9 c9, by rw [HE.out], ?_, qA, .inr fun q hq => by have := hgA q hq; exact ⟨by omega, by omega⟩⟩
                    rw [HLE.out, hlen, hins]
                    simpa using sA
                  · refine pt_step rfl (by rfl) (fun K hK => ?_)
                    go_simp
                    refine hK.out _ _ (But.alloc _ _) ?_
                    clear hK K
                    try simp only [Act.put, List.getElem_toArray, List.getElem_cons_zero, List.getElem_cons_succ, List.setIfInBounds_toArray, List.set_cons_zero, List.set_cons_succ]
                    have hX := below_alloc (Wd.alloc (.cells #[] 78)) (.cells (rwC (s, u)).toArray 78)
                    have s70 := slOneR (Wd.alloc (.cells #[] 78)) (Wd.heap.size + 1) (by rw [World.size_alloc]) 78 (s, u)
                    have r70 := (V2.up (But.of_below (O := fun i => w.heap.size + 3 ≤ i) hE) (fun i e => e) (by omega)).up (But.of_below (O := fun i => w.heap.size + 3 ≤ i) hX) (fun i e => e) (by omega)
                    have l70 := ((sl2.up V2.below).up hE).up hX
                    have h00 := own_up h0 hX
                    have z70 := hX.size
                    refine pt_c ?_
                    refine pt_app2 rfl (by rfl) _ _ 47 rfl slR w3.heap.size rfl h00 rfl (((sl1.up V2.below).up hE).up hX) (one_rw _) (by simp only [maxLen]; omega) (by omega) (by first | omega | (simp only [World.size_alloc] at *; omega)) (fun i hi => hi) (fun v5 w5 h5 hb5 => ?_)
                    try simp only [Act.put, List.getElem_toArray, List.getElem_cons_zero, List.getElem_cons_succ, List.setIfInBounds_toArray, List.set_cons_zero, List.set_cons_succ]
                    have s7 := s70.but hb5 (.inr fun q hq e => by have h1 := Option.some.inj hq; have h2 := Option.some.inj e; simp only [World.size_alloc] at *; omega)
                    have r7 := r70.up hb5 (fun i e => by have h2 := Option.some.inj e; simp only [World.size_alloc] at *; omega) (by omega)
                    have l7 := l70.but hb5 (hbl.imp id fun h q hq e => by have := h q hq; have h2 := Option.some.inj e; simp only [World.size_alloc] at *; omega)
                    have z7 := hb5.size
                    refine pt_c ?_
                    refine pt_app2 rfl (by rfl) _ _ 47 rfl slR w3.heap.size rfl h5 rfl (s7) (one_rw _) (by simp only [maxLen]; omega) (by omega) (by first | omega | (simp only [World.size_alloc] at *; omega)) (fun i hi => hi) (fun v8 w8 h8 hb8 => ?_)
                    try simp only [Act.put, List.getElem_toArray, List.getElem_cons_zero, List.getElem_cons_succ, List.setIfInBounds_toArray, List.set_cons_zero, List.set_cons_succ]
                    have hg8 := fun q hq => (own_of_some h5 (k := q) hq).1
                    have r8 := r7.up hb8 (fun i e => by have := hg8 _ e; omega) (by omega)
                    have l8 := l7.but hb8 (hbl.imp id fun h q hq e => by have := h q hq; have := hg8 _ e; omega)
                    have z8 := hb8.size
                    refine pt_c ?_
                    refine pt_app2 rfl (by rfl) _ _ 47 rfl slR w3.heap.size rfl h8 rfl (l8) (one_rw _) (by simp only [maxLen]; omega) (by omega) (by first | omega | (simp only [World.size_alloc] at *; omega)) (fun i hi => hi) (fun v9 w9 h9 hb9 => ?_)
                    try simp only [Act.put, List.getElem_toArray, List.getElem_cons_zero, List.getElem_cons_succ, List.setIfInBounds_toArray, List.set_cons_zero, List.set_cons_succ]
                    have hg9 := fun q hq => (own_of_some h8 (k := q) hq).1
                    have r9 := r8.up hb9 (fun i e => by have := hg9 _ e; omega) (by omega)
                    have z9 := hb9.size
                    obtain ⟨a9, c9, rfl⟩ := own_slice h9
                    obtain ⟨N9, hN9⟩ : ∃ N, N = 0 + j + 1 + (k - j) := ⟨_, rfl⟩
                    rw [← hN9] at h9
                    try rw [← hN9]
                    have HN9 := Lib.hid hN9
                    clear hN9
                    have k0 := r9.p.cell (i := 0) rfl
                    have kf := r9.p.fz 0
                    refine pt_q (v := ?_) rfl (by rfl) ?_ ?_
                    rotate_left
                    · intro w' hBw'
                      first | (go_simp; done) | (go_simp; with_reducible rfl)
                    try simp only [Act.put, List.getElem_toArray, List.getElem_cons_zero, List.getElem_cons_succ, List.setIfInBounds_toArray, List.set_cons_zero, List.set_cons_succ]
                    refine pz_last rfl (by rfl) (fun K hK => ?_)
                    go_simp
                    refine hK.out _ _ ?_
                    clear hK K
                    try simp only [Act.put, List.getElem_toArray, List.getElem_cons_zero, List.getElem_cons_succ, List.setIfInBounds_toArray, List.set_cons_zero, List.set_cons_succ]
                    have P1 := r9.p.set 0 (.slice a9 N9 c9)
                    have R1 := r9.r.other (a := ⟨w.heap.size, 0, none⟩) (by show w.heap.size + 1 + 1 ≠ w.heap.size; omega) (.slice a9 N9 c9)
                    have g0 := P1.cell (i := 0) (v := .slice a9 N9 c9) rfl
                    have g1 := P1.cell (i := 1) (v := .int .i64 most) rfl
                    have hbs : But (fun j => j = w.heap.size) w9 (w9.setCell ⟨w.heap.size, 0, none⟩ (.slice a9 N9 c9)) := But.setCell _ _ _ (.inl rfl)
                    have hbS := Lib.hid hbs
                    clear hbs
                    go_wp2_with (refine wpList_put_row rfl 49 (.tmp 6) (.tmp 64) rfl (w.heap.size + 1 + 1) [.slice a9 N9 c9, .int .i64 most] rfl rfl R1 rfl (by kernel_rfl) rfl ?_; intro wA hRA hbA)
                    have rA := hRA.cell (i := 0) rfl
                    have rA1 := hRA.cell (i := 1) rfl
                    have qA := (r9.below.trans (hbS.out.below (fun i e => by omega) r9.below.size)).trans (hbA.below (fun i e => by omega) (by have := r9.below.size; simp; omega))
                    have hgA := fun q hq => (own_of_some h9 (k := q) hq)
                    have sA := ((Sl.of_own h9).but hbS.out (.inr fun q hq e => by have := hgA q hq; omega)).but hbA (.inr fun q hq e => by have := hgA q hq; omega)
                    have zA := hbA.size
                    have zS := hbS.out.size
                    have hins : insT L s u = L.take j ++ (s, u) :: L.drop j := by unfold insT; rw [hpos]
                    have hlen : (insT L s u).length = N9 := by have h1 := Hln.out; have h2 := HN9.out; rw [hins]; simp only [List.length_append, List.length_cons, List.length_take, List.length_drop]; omega
                    refine bodyPost_ret (v := .tuple #[tbV (.slice a9 N9 c9) most, .int .i64 0]) (by simp [results, Try.results30, go_sem, rA, rA1]) rfl ⟨.slice a9 N9 c9, by rw [HE.out], ?_, qA, .inr fun q hq => by have := hgA q hq; exact ⟨by omega, by omega⟩⟩
                    rw [HLE.out, hlen, hins]
                    simpa using sA
                · refine pt_step rfl (by rfl) (fun K hK => ?_)
                  go_simp
                  refine hK.out _ _ (But.alloc _ _) ?_
                  clear hK K
                  try simp only [Act.put, List.getElem_toArray, List.getElem_cons_zero, List.getElem_cons_succ, List.setIfInBounds_toArray, List.set_cons_zero, List.set_cons_succ]
                  have hX := below_alloc Wd (.cells (rwC (s, u)).toArray 78)
                  have s70 := slOneR Wd _ rfl 78 (s, u)
                  have zX := hX.size
                  refine pt_c ?_
                  refine pt_step rfl (by rfl) (fun K hK => ?_)
                  go_simp
                  refine hK.out _ _ (But.alloc _ _) ?_
                  clear hK K
                  try simp only [Act.put, List.getElem_toArray, List.getElem_cons_zero, List.getElem_cons_succ, List.setIfInBounds_toArray, List.set_cons_zero, List.set_cons_succ]
                  have hE := below_alloc (Wd.alloc (.cells (rwC (s, u)).toArray 78)) (.cells #[] 78)
                  have h0 : ((Wd.alloc (.cells (rwC (s, u)).toArray 78)).alloc (.cells #[] 78)).ownsRow w3.heap.size 78 7 (.slice (some ⟨Wd.heap.size + 1, 0, none⟩) 0 0) 0 [] := own0R (Wd.alloc (.cells (rwC (s, u)).toArray 78)) (by omega) (by rw [World.size_alloc])
                  have zE := hE.size
                  refine pt_c ?_
                  refine pt_app2 rfl (by rfl) _ _ 47 rfl slR w3.heap.size rfl h0 rfl (((sl1.up V2.below).up hX).up hE) (one_rw _) (by simp only [maxLen]; omega) (by omega) (by first | omega | (simp only [World.size_alloc] at *; omega)) (fun i hi => hi) (fun v5 w5 h5 hb5 => ?_)
                  try simp only [Act.put, List.getElem_toArray, List.getElem_cons_zero, List.getElem_cons_succ, List.setIfInBounds_toArray, List.set_cons_zero, List.set_cons_succ]
                  have s7 := (s70.up hE).but hb5 (.inr fun q hq e => by have h1 := Option.some.inj hq; have h2 := Option.some.inj e; simp only [World.size_alloc] at *; omega)
                  have r7 := ((V2.up (But.of_below (O := fun i => w.heap.size + 3 ≤ i) hX) (fun i e => e) (by omega)).up (But.of_below (O := fun i => w.heap.size + 3 ≤ i) hE) (fun i e => e) (by omega)).up hb5 (fun i e => by have h2 := Option.some.inj e; simp only [World.size_alloc] at *; omega) (by omega)
                  have l7 := (((sl2.up V2.below).up hX).up hE).but hb5 (hbl.imp id fun h q hq e => by have := h q hq; have h2 := Option.some.inj e; simp only [World.size_alloc] at *; omega)
                  have z7 := hb5.size
                  refine pt_c ?_
                  refine pt_app2 rfl (by rfl) _ _ 47 rfl slR w3.heap.size rfl h5 rfl (s7) (one_rw _) (by simp only [maxLen]; omega) (by omega) (by first | omega | (simp only [World.size_alloc] at *; omega)) (fun i hi => hi) (fun v8 w8 h8 hb8 => ?_)
                  try simp only [Act.put, List.getElem_toArray, List.getElem_cons_zero, List.getElem_cons_succ, List.setIfInBounds_toArray, List.set_cons_zero, List.set_cons_succ]
                  have hg8 := fun q hq => (own_of_some h5 (k := q) hq).1
                  have r8 := r7.up hb8 (fun i e => by have := hg8 _ e; omega) (by omega)
                  have l8 := l7.but hb8 (hbl.imp id fun h q hq e => by have := h q hq; have := hg8 _ e; omega)
                  have z8 := hb8.size
                  refine pt_c ?_
                  refine pt_app2 rfl (by rfl) _ _ 47 rfl slR w3.heap.size rfl h8 rfl (l8) (one_rw _) (by simp only [maxLen]; omega) (by omega) (by first | omega | (simp only [World.size_alloc] at *; omega)) (fun i hi => hi) (fun v9 w9 h9 hb9 => ?_)
                  try simp only [Act.put, List.getElem_toArray, List.getElem_cons_zero, List.getElem_cons_succ, List.setIfInBounds_toArray, List.set_cons_zero, List.set_cons_succ]
                  have hg9 := fun q hq => (own_of_some h8 (k := q) hq).1
                  have r9 := r8.up hb9 (fun i e => by have := hg9 _ e; omega) (by omega)
                  have z9 := hb9.size
                  obtain ⟨a9, c9, rfl⟩ := own_slice h9
                  obtain ⟨N9, hN9⟩ : ∃ N, N = 0 + j + 1 + (k - j) := ⟨_, rfl⟩
                  rw [← hN9] at h9
                  try rw [← hN9]
                  have HN9 := Lib.hid hN9
                  clear hN9
                  have k0 := r9.p.cell (i := 0) rfl
                  have kf := r9.p.fz 0
                  refine pt_q (v := ?_) rfl (by rfl) ?_ ?_
                  rotate_left
                  · intro w' hBw'
                    first | (go_simp; done) | (go_simp; with_reducible rfl)
                  try simp only [Act.put, List.getElem_toArray, List.getElem_cons_zero, List.getElem_cons_succ, List.setIfInBounds_toArray, List.set_cons_zero, List.set_cons_succ]
                  refine pz_last rfl (by rfl) (fun K hK => ?_)
                  go_simp
                  refine hK.out _ _ ?_
                  clear hK K
                  try simp only [Act.put, List.getElem_toArray, List.getElem_cons_zero, List.getElem_cons_succ, List.setIfInBounds_toArray, List.set_cons_zero, List.set_cons_succ]
                  have P1 := r9.p.set 0 (.slice a9 N9 c9)
                  have R1 := r9.r.other (a := ⟨w.heap.size, 0, none⟩) (by show w.heap.size + 1 + 1 ≠ w.heap.size; omega) (.slice a9 N9 c9)
                  have g0 := P1.cell (i := 0) (v := .slice a9 N9 c9) rfl
                  have g1 := P1.cell (i := 1) (v := .int .i64 most) rfl
                  have hbs : But (fun j => j = w.heap.size) w9 (w9.setCell ⟨w.heap.size, 0, none⟩ (.slice a9 N9 c9)) := But.setCell _ _ _ (.inl rfl)
                  have hbS := Lib.hid hbs
                  clear hbs
                  go_wp2_with (refine wpList_put_row rfl 49 (.tmp 6) (.tmp 64) rfl (w.heap.size + 1 + 1) [.slice a9 N9 c9, .int .i64 most] rfl rfl R1 rfl (by kernel_rfl) rfl ?_; intro wA hRA hbA)
                  have rA := hRA.cell (i := 0) rfl
                  have rA1 := hRA.cell (i := 1) rfl
                  have qA := (r9.below.trans (hbS.out.below (fun i e => by omega) r9.below.size)).trans (hbA.below (fun i e => by omega) (by have := r9.below.size; simp; omega))
                  have hgA := fun q hq => (own_of_some h9 (k := q) hq)
                  have sA := ((Sl.of_own h9).but hbS.out (.inr fun q hq e => by have := hgA q hq; omega)).but hbA (.inr fun q hq e => by have := hgA q hq; omega)
                  have zA := hbA.size
                  have zS := hbS.out.size
                  have hins : insT L s u = L.take j ++ (s, u) :: L.drop j := by unfold insT; rw [hpos]
                  have hlen : (insT L s u).length = N9 := by have h1 := Hln.out; have h2 := HN9.out; rw [hins]; simp only [List.length_append, List.length_cons, List.length_take, List.length_drop]; omega
                  refine bodyPost_ret (v := .tuple #[tbV (.slice a9 N9 c9) most, .int .i64 0]) (by simp [results, Try.results30, go_sem, rA, rA1]) rfl ⟨.slice a9 N9 c9, by rw [HE.out], ?_, qA, .inr fun q hq => by have := hgA q hq; exact ⟨by omega, by omega⟩⟩
                  rw [HLE.out, hlen, hins]
                  simpa using sA
            · have hgeI : ¬ (j : Int) < (k : Int) := by omega
              have hpos : posT L s = j := takeWhile_lenT (by rw [Hln.out]; omega) (fun q hq hqj => Hyes.out q hq hqj) (fun h => by rw [Hln.out] at h; omega)
              obtain ⟨a1, hs1, sl1⟩ := cut_h slR hv j (by omega)
              obtain ⟨a2, hs2, sl2⟩ := cut_l slR hv j (by omega)
              replace hs1 := fun w' => hs1 .i64 w'
              replace hs2 := fun w' => hs2 .i64 w'
              rw [rw_take] at sl1
              rw [rw_drop] at sl2
              have hbl := sl2.block_ltR (by decide)
              have hwl := V.below.size
              go_wp2
              refine wp_region_pt (fun i => wr.heap.size ≤ i) (.q 0 (.q 1 (.q 2 (.q 3 (.q 4 (.q 5 (.q 6 (.q 7 (.q 8 (.q 9 (.q 10 (.q 11 (.q 12 (.q 13 (.q 14 .done))))))))))))))) (by kernel_rfl) (by kernel_rfl) (by kernel_rfl) (by decide) (fun _ _ d _ _ h => by cases d <;> exact h) (fun Wd hBd => ?_)
              try simp only [Act.put, List.getElem_toArray, List.getElem_cons_zero, List.getElem_cons_succ, List.setIfInBounds_toArray, List.set_cons_zero, List.set_cons_succ]
              have V2 := V.upB hBd
              have cp : ∀ w', But (fun i => wr.heap.size ≤ i) Wd w' → w'.cell? ⟨w.heap.size, 0, none⟩ = some (.slice av k cv) := fun w' hb => hb.cell (V2.p.cell (i := 0) rfl) (by omega)
              refine pt_q (v := ?_) rfl (by rfl) ?_ ?_
              rotate_left
              · intro w' hBw'
                first | (go_simp; done) | (go_simp; with_reducible rfl)
              try simp only [Act.put, List.getElem_toArray, List.getElem_cons_zero, List.getElem_cons_succ, List.setIfInBounds_toArray, List.set_cons_zero, List.set_cons_succ]
              refine pt_q (v := ?_) rfl (by rfl) ?_ ?_
              rotate_left
              · intro w' hBw'
                first | (go_simp; done) | (go_simp; with_reducible rfl)
              try simp only [Act.put, List.getElem_toArray, List.getElem_cons_zero, List.getElem_cons_succ, List.setIfInBounds_toArray, List.set_cons_zero, List.set_cons_succ]
              refine pt_q (v := ?_) rfl (by rfl) ?_ ?_
              rotate_left
              · intro w' hBw'
                first | (go_simp; done) | (go_simp; with_reducible rfl)
              try simp only [Act.put, List.getElem_toArray, List.getElem_cons_zero, List.getElem_cons_succ, List.setIfInBounds_toArray, List.set_cons_zero, List.set_cons_succ]
              refine pt_q (v := ?_) rfl (by rfl) ?_ ?_
              rotate_left
              · intro w' hBw'
                first | (go_simp; done) | (go_simp; with_reducible rfl)
              try simp only [Act.put, List.getElem_toArray, List.getElem_cons_zero, List.getElem_cons_succ, List.setIfInBounds_toArray, List.set_cons_zero, List.set_cons_succ]
              refine pt_q (v := ?_) rfl (by rfl) ?_ ?_
              rotate_left
              · intro w' hBw'
                first | (go_simp; done) | (go_simp; with_reducible rfl)
              try simp only [Act.put, List.getElem_toArray, List.getElem_cons_zero, List.getElem_cons_succ, List.setIfInBounds_toArray, List.set_cons_zero, List.set_cons_succ]
              refine pt_q (v := ?_) rfl (by rfl) ?_ ?_
              rotate_left
              · intro w' hBw'
                first | (go_simp; done) | (go_simp; with_reducible rfl)
              try simp only [Act.put, List.getElem_toArray, List.getElem_cons_zero, List.getElem_cons_succ, List.setIfInBounds_toArray, List.set_cons_zero, List.set_cons_succ]
              refine pt_no rfl (by rfl) ?_
              try simp only [Act.put, List.getElem_toArray, List.getElem_cons_zero, List.getElem_cons_succ, List.setIfInBounds_toArray, List.set_cons_zero, List.set_cons_succ]
              refine pt_no rfl (by rfl) ?_
              try simp only [Act.put, List.getElem_toArray, List.getElem_cons_zero, List.getElem_cons_succ, List.setIfInBounds_toArray, List.set_cons_zero, List.set_cons_succ]
              refine pt_no rfl (by rfl) ?_
              try simp only [Act.put, List.getElem_toArray, List.getElem_cons_zero, List.getElem_cons_succ, List.setIfInBounds_toArray, List.set_cons_zero, List.set_cons_succ]
              refine pt_no rfl (by rfl) ?_
              try simp only [Act.put, List.getElem_toArray, List.getElem_cons_zero, List.getElem_cons_succ, List.setIfInBounds_toArray, List.set_cons_zero, List.set_cons_succ]
              refine pt_no rfl (by rfl) ?_
              try simp only [Act.put, List.getElem_toArray, List.getElem_cons_zero, List.getElem_cons_succ, List.setIfInBounds_toArray, List.set_cons_zero, List.set_cons_succ]
              refine pt_no rfl (by rfl) ?_
              try simp only [Act.put, List.getElem_toArray, List.getElem_cons_zero, List.getElem_cons_succ, List.setIfInBounds_toArray, List.set_cons_zero, List.set_cons_succ]
              refine pt_no rfl (by rfl) ?_
              try simp only [Act.put, List.getElem_toArray, List.getElem_cons_zero, List.getElem_cons_succ, List.setIfInBounds_toArray, List.set_cons_zero, List.set_cons_succ]
              refine pt_no rfl (by rfl) ?_
              try simp only [Act.put, List.getElem_toArray, List.getElem_cons_zero, List.getElem_cons_succ, List.setIfInBounds_toArray, List.set_cons_zero, List.set_cons_succ]
              refine pt_q (v := ?_) rfl (by rfl) ?_ ?_
              rotate_left
              · intro w' hBw'
                first | (go_simp; done) | (go_simp; with_reducible rfl)
              try simp only [Act.put, List.getElem_toArray, List.getElem_cons_zero, List.getElem_cons_succ, List.setIfInBounds_toArray, List.set_cons_zero, List.set_cons_succ]
              refine pt_done ?_
              have hwl2 := V2.below.size
              clear cp
              obtain ⟨Wk, hWk⟩ : ∃ W, W = Wd := ⟨_, rfl⟩
              subst hWk
              go_wp2
              refine wp_region_pz (fun i => Wk.heap.size ≤ i) 17 (.q 1 (.q 2 (.q 3 (.q 4 (.q 6 (.q 7 (.q 8 (.q 11 (.q 12 (.q 13 (.q 14 (.f 0 (.f 5 (.c 9 (.c 10 (.c 15 (.q 16 .done)))) 9 (.c 5 (.c 10 (.c 15 (.q 16 .done))))) 9 (.c 0 (.c 5 (.c 10 (.c 15 (.q 16 .done))))))))))))))))) (by kernel_rfl) (by kernel_rfl) (by kernel_rfl) (by decide) (fun _ _ d _ _ h => by cases d <;> exact h) (fun Wd hBd => ?_)
              try simp only [Act.put, List.getElem_toArray, List.getElem_cons_zero, List.getElem_cons_succ, List.setIfInBounds_toArray, List.set_cons_zero, List.set_cons_succ]
              have hrlt := V2.r.lt
              have V2 := V2.up (But.of_below (O := fun i => w.heap.size + 3 ≤ i) hBd) (fun i e => e) (by omega)
              have hsz := hBd.size
              have hq3 := V2.big
              have cp : ∀ w', But (fun i => Wk.heap.size ≤ i) Wd w' → w'.cell? ⟨w.heap.size, 0, none⟩ = some (.slice av k cv) := fun w' hb => hb.cell (V2.p.cell (i := 0) rfl) (by omega)
              refine pt_q (v := ?_) rfl (by rfl) ?_ ?_
              rotate_left
              · intro w' hBw'
                first | (go_simp; done) | (go_simp; with_reducible rfl)
              try simp only [Act.put, List.getElem_toArray, List.getElem_cons_zero, List.getElem_cons_succ, List.setIfInBounds_toArray, List.set_cons_zero, List.set_cons_succ]
              refine pt_q (v := ?_) rfl (by rfl) ?_ ?_
              rotate_left
              · intro w' hBw'
                first | (go_simp; done) | (go_simp; with_reducible rfl)
              try simp only [Act.put, List.getElem_toArray, List.getElem_cons_zero, List.getElem_cons_succ, List.setIfInBounds_toArray, List.set_cons_zero, List.set_cons_succ]
              refine pt_q (v := ?_) rfl (by rfl) ?_ ?_
              rotate_left
              · intro w' hBw'
                first | (go_simp; done) | (go_simp; with_reducible rfl)
              try simp only [Act.put, List.getElem_toArray, List.getElem_cons_zero, List.getElem_cons_succ, List.setIfInBounds_toArray, List.set_cons_zero, List.set_cons_succ]
              refine pt_q (v := ?_) rfl (by rfl) ?_ ?_
              rotate_left
              · intro w' hBw'
                first | (go_simp; done) | (go_simp; with_reducible rfl)
              try simp only [Act.put, List.getElem_toArray, List.getElem_cons_zero, List.getElem_cons_succ, List.setIfInBounds_toArray, List.set_cons_zero, List.set_cons_succ]
              refine pt_load rfl (by rfl) 38 (.tmp 4) rfl (w.heap.size + 1) 0 rfl (sgC s) _ V2.c.range (by omega) Try.underlying38 rfl (by kernel_rfl) ?_
              try simp only [Act.put, List.getElem_toArray, List.getElem_cons_zero, List.getElem_cons_succ, List.setIfInBounds_toArray, List.set_cons_zero, List.set_cons_succ]
              refine pt_q (v := ?_) rfl (by rfl) ?_ ?_
              rotate_left
              · intro w' hBw'
                first | (go_simp; done) | (go_simp; with_reducible rfl)
              try simp only [Act.put, List.getElem_toArray, List.getElem_cons_zero, List.getElem_cons_succ, List.setIfInBounds_toArray, List.set_cons_zero, List.set_cons_succ]
              refine pt_q (v := ?_) rfl (by rfl) ?_ ?_
              rotate_left
              · intro w' hBw'
                first | (go_simp; done) | (go_simp; with_reducible rfl)
              try simp only [Act.put, List.getElem_toArray, List.getElem_cons_zero, List.getElem_cons_succ, List.setIfInBounds_toArray, List.set_cons_zero, List.set_cons_succ]
              refine pt_q (v := ?_) rfl (by rfl) ?_ ?_
              rotate_left
              · intro w' hBw'
                first | (go_simp; done) | (go_simp; with_reducible rfl)
              try simp only [Act.put, List.getElem_toArray, List.getElem_cons_zero, List.getElem_cons_succ, List.setIfInBounds_toArray, List.set_cons_zero, List.set_cons_succ]
              refine pt_q (v := ?_) rfl (by rfl) ?_ ?_
              rotate_left
              · intro w' hBw'
                first | (go_simp; done) | (go_simp; with_reducible rfl)
              try simp only [Act.put, List.getElem_toArray, List.getElem_cons_zero, List.getElem_cons_succ, List.setIfInBounds_toArray, List.set_cons_zero, List.set_cons_succ]
              refine pt_q (v := ?_) rfl (by rfl) ?_ ?_
              rotate_left
              · intro w' hBw'
                first | (go_simp; done) | (go_simp; with_reducible rfl)
              try simp only [Act.put, List.getElem_toArray, List.getElem_cons_zero, List.getElem_cons_succ, List.setIfInBounds_toArray, List.set_cons_zero, List.set_cons_succ]
              refine pt_q (v := ?_) rfl (by rfl) ?_ ?_
              rotate_left
              · intro w' hBw'
                first | (go_simp; done) | (go_simp; with_reducible rfl)
              try simp only [Act.put, List.getElem_toArray, List.getElem_cons_zero, List.getElem_cons_succ, List.setIfInBounds_toArray, List.set_cons_zero, List.set_cons_succ]
              refine pt_f ?_ ?_
              · refine pt_step rfl (by rfl) (fun K hK => ?_)
                go_simp
                refine hK.out _ _ (But.alloc _ _) ?_
                clear hK K
                try simp only [Act.put, List.getElem_toArray, List.getElem_cons_zero, List.getElem_cons_succ, List.setIfInBounds_toArray, List.set_cons_zero, List.set_cons_succ]
                have hE := below_alloc Wd (.cells #[] 78)
                have h0 : (Wd.alloc (.cells #[] 78)).ownsRow Wk.heap.size 78 7 (.slice (some ⟨Wd.heap.size, 0, none⟩) 0 0) 0 [] := World.ownsRow_lit Wd #[] 0 hBd.size (by decide) rfl
                have hg0 := fun q hq => (own_of_some h0 (k := q) hq).1
                have z0 := hE.size
                refine pt_f ?_ ?_
                · refine pt_app2 rfl (by rfl) _ _ 47 rfl slR Wk.heap.size rfl h0 rfl ((sl1.up V2.below).up hE) (one_rw _) (by simp only [maxLen]; omega) (by omega) (by first | omega | (simp only [World.size_alloc] at *; omega)) (fun i hi => hi) (fun v5 w5 h5 hb5 => ?_)
                  try simp only [Act.put, List.getElem_toArray, List.getElem_cons_zero, List.getElem_cons_succ, List.setIfInBounds_toArray, List.set_cons_zero, List.set_cons_succ]
                  have r5 := (V2.up (But.of_below (O := fun i => w.heap.size + 3 ≤ i) hE) (fun i e => e) (by omega)).up hb5 (fun i e => by have := hg0 _ e; omega) (by omega)
                  have l5 := ((sl2.up V2.below).up hE).but hb5 (hbl.imp id fun h q hq e => by have := h q hq; have := hg0 _ e; omega)
                  have z5 := hb5.size
                  refine pt_c ?_
                  refine pt_step rfl (by rfl) (fun K hK => ?_)
                  go_simp
                  refine hK.out _ _ (But.alloc _ _) ?_
                  clear hK K
                  try simp only [Act.put, List.getElem_toArray, List.getElem_cons_zero, List.getElem_cons_succ, List.setIfInBounds_toArray, List.set_cons_zero, List.set_cons_succ]
                  have hX := below_alloc w5 (.cells (rwC (s, u)).toArray 78)
                  have s7 := slOneR w5 _ rfl 78 (s, u)
                  replace h5 := own_up h5 hX
                  have r7 := r5.up (But.of_below (O := fun i => w.heap.size + 3 ≤ i) hX) (fun i e => e) (by omega)
                  have l7 := l5.up hX
                  have z7 := hX.size
                  refine pt_c ?_
                  refine pt_app2 rfl (by rfl) _ _ 47 rfl slR Wk.heap.size rfl h5 rfl (s7) (one_rw _) (by simp only [maxLen]; omega) (by omega) (by first | omega | (simp only [World.size_alloc] at *; omega)) (fun i hi => hi) (fun v8 w8 h8 hb8 => ?_)
                  try simp only [Act.put, List.getElem_toArray, List.getElem_cons_zero, List.getElem_cons_succ, List.setIfInBounds_toArray, List.set_cons_zero, List.set_cons_succ]
                  have hg8 := fun q hq => (own_of_some h5 (k := q) hq).1
                  have r8 := r7.up hb8 (fun i e => by have := hg8 _ e; omega) (by omega)
                  have l8 := l7.but hb8 (hbl.imp id fun h q hq e => by have := h q hq; have := hg8 _ e; omega)
                  have z8 := hb8.size
                  refine pt_c ?_
                  refine pt_app2 rfl (by rfl) _ _ 47 rfl slR Wk.heap.size rfl h8 rfl (l8) (one_rw _) (by simp only [maxLen]; omega) (by omega) (by first | omega | (simp only [World.size_alloc] at *; omega)) (fun i hi => hi) (fun v9 w9 h9 hb9 => ?_)
                  try simp only [Act.put, List.getElem_toArray, List.getElem_cons_zero, List.getElem_cons_succ, List.setIfInBounds_toArray, List.set_cons_zero, List.set_cons_succ]
                  have hg9 := fun q hq => (own_of_some h8 (k := q) hq).1
                  have r9 := r8.up hb9 (fun i e => by have := hg9 _ e; omega) (by omega)
                  have z9 := hb9.size
                  obtain ⟨a9, c9, rfl⟩ := own_slice h9
                  obtain ⟨N9, hN9⟩ : ∃ N, N = 0 + j + 1 + (k - j) := ⟨_, rfl⟩
                  rw [← hN9] at h9
                  try rw [← hN9]
                  have HN9 := Lib.hid hN9
                  clear hN9
                  have k0 := r9.p.cell (i := 0) rfl
                  have kf := r9.p.fz 0
                  refine pt_q (v := ?_) rfl (by rfl) ?_ ?_
                  rotate_left
                  · intro w' hBw'
                    first | (go_simp; done) | (go_simp; with_reducible rfl)
                  try simp only [Act.put, List.getElem_toArray, List.getElem_cons_zero, List.getElem_cons_succ, List.setIfInBounds_toArray, List.set_cons_zero, List.set_cons_succ]
                  refine pz_last rfl (by rfl) (fun K hK => ?_)
                  go_simp
                  refine hK.out _ _ ?_
                  clear hK K
                  try simp only [Act.put, List.getElem_toArray, List.getElem_cons_zero, List.getElem_cons_succ, List.setIfInBounds_toArray, List.set_cons_zero, List.set_cons_succ]
                  have P1 := r9.p.set 0 (.slice a9 N9 c9)
                  have R1 := r9.r.other (a := ⟨w.heap.size, 0, none⟩) (by show w.heap.size + 1 + 1 ≠ w.heap.size; omega) (.slice a9 N9 c9)
                  have g0 := P1.cell (i := 0) (v := .slice a9 N9 c9) rfl
                  have g1 := P1.cell (i := 1) (v := .int .i64 most) rfl
                  have hbs : But (fun j => j = w.heap.size) w9 (w9.setCell ⟨w.heap.size, 0, none⟩ (.slice a9 N9 c9)) := But.setCell _ _ _ (.inl rfl)
                  have hbS := Lib.hid hbs
                  clear hbs
                  go_wp2_with (refine wpList_put_row rfl 49 (.tmp 6) (.tmp 64) rfl (w.heap.size + 1 + 1) [.slice a9 N9 c9, .int .i64 most] rfl rfl R1 rfl (by kernel_rfl) rfl ?_; intro wA hRA hbA)
                  have rA := hRA.cell (i := 0) rfl
                  have rA1 := hRA.cell (i := 1) rfl
                  have qA := (r9.below.trans (hbS.out.below (fun i e => by omega) r9.below.size)).trans (hbA.below (fun i e => by omega) (by have := r9.below.size; simp; omega))
                  have hgA := fun q hq => (own_of_some h9 (k := q) hq)
                  have sA := ((Sl.of_own h9).but hbS.out (.inr fun q hq e => by have := hgA q hq; omega)).but hbA (.inr fun q hq e => by have := hgA q hq; omega)
                  have zA := hbA.size
                  have zS := hbS.out.size
                  have hins : insT L s u = L.take j ++ (s, u) :: L.drop j := by unfold insT; rw [hpos]
                  have hlen : (insT L s u).length = N9 := by have h1 := Hln.out; have h2 := HN9.out; rw [hins]; simp only [List.length_append, List.length_cons, List.length_take, List.length_drop]; omega
                  refine bodyPost_ret (v := .tuple #[tbV (.slice a9 N9 c9) most, .int .i64 0]) (by simp [results, Try.results30, go_sem, rA, rA1]) rfl ⟨.slice a9 N9 c9, by rw [HE.out], ?_, qA, .inr fun q hq => by have := hgA q hq; exact ⟨by omega, by omega⟩⟩
                  rw [HLE.out, hlen, hins]
                  simpa using sA
                · refine pt_step rfl (by rfl) (fun K hK => ?_)
                  go_simp
                  refine hK.out _ _ (But.alloc _ _) ?_
                  clear hK K
                  try simp only [Act.put, List.getElem_toArray, List.getElem_cons_zero, List.getElem_cons_succ, List.setIfInBounds_toArray, List.set_cons_zero, List.set_cons_succ]
                  have hX := below_alloc (Wd.alloc (.cells #[] 78)) (.cells (rwC (s, u)).toArray 78)
                  have s70 := slOneR (Wd.alloc (.cells #[] 78)) (Wd.heap.size + 1) (by rw [World.size_alloc]) 78 (s, u)
                  have r70 := (V2.up (But.of_below (O := fun i => w.heap.size + 3 ≤ i) hE) (fun i e => e) (by omega)).up (But.of_below (O := fun i => w.heap.size + 3 ≤ i) hX) (fun i e => e) (by omega)
                  have l70 := ((sl2.up V2.below).up hE).up hX
                  have h00 := own_up h0 hX
                  have z70 := hX.size
                  refine pt_c ?_
                  refine pt_app2 rfl (by rfl) _ _ 47 rfl slR Wk.heap.size rfl h00 rfl (((sl1.up V2.below).up hE).up hX) (one_rw _) (by simp only [maxLen]; omega) (by omega) (by first | omega | (simp only [World.size_alloc] at *; omega)) (fun i hi => hi) (fun v5 w5 h5 hb5 => ?_)
                  try simp only [Act.put, List.getElem_toArray, List.getElem_cons_zero, List.getElem_cons_succ, List.setIfInBounds_toArray, List.set_cons_zero, List.set_cons_succ]
                  have s7 := s70.but hb5 (.inr fun q hq e => by have h1 := Option.some.inj hq; have h2 := Option.some.inj e; simp only [World.size_alloc] at *; omega)
                  have r7 := r70.up hb5 (fun i e => by have h2 := Option.some.inj e; simp only [World.size_alloc] at *; omega) (by omega)
                  have l7 := l70.but hb5 (hbl.imp id fun h q hq e => by have := h q hq; have h2 := Option.some.inj e; simp only [World.size_alloc] at *; omega)
                  have z7 := hb5.size
                  refine pt_c ?_
                  refine pt_app2 rfl (by rfl) _ _ 47 rfl slR Wk.heap.size rfl h5 rfl (s7) (one_rw _) (by simp only [maxLen]; omega) (by omega) (by first | omega | (simp only [World.size_alloc] at *; omega)) (fun i hi => hi) (fun v8 w8 h8 hb8 => ?_)
                  try simp only [Act.put, List.getElem_toArray, List.getElem_cons_zero, List.getElem_cons_succ, List.setIfInBounds_toArray, List.set_cons_zero, List.set_cons_succ]
                  have hg8 := fun q hq => (own_of_some h5 (k := q) hq).1
                  have r8 := r7.up hb8 (fun i e => by have := hg8 _ e; omega) (by omega)
                  have l8 := l7.but hb8 (hbl.imp id fun h q hq e => by have := h q hq; have := hg8 _ e; omega)
                  have z8 := hb8.size
                  refine pt_c ?_
                  refine pt_app2 rfl (by rfl) _ _ 47 rfl slR Wk.heap.size rfl h8 rfl (l8) (one_rw _) (by simp only [maxLen]; omega) (by omega) (by first | omega | (simp only [World.size_alloc] at *; omega)) (fun i hi => hi) (fun v9 w9 h9 hb9 => ?_)
                  try simp only [Act.put, List.getElem_toArray, List.getElem_cons_zero, List.getElem_cons_succ, List.setIfInBounds_toArray, List.set_cons_zero, List.set_cons_succ]
                  have hg9 := fun q hq => (own_of_some h8 (k := q) hq).1
                  have r9 := r8.up hb9 (fun i e => by have := hg9 _ e; omega) (by omega)
                  have z9 := hb9.size
                  obtain ⟨a9, c9, rfl⟩ := own_slice h9
                  obtain ⟨N9, hN9⟩ : ∃ N, N = 0 + j + 1 + (k - j) := ⟨_, rfl⟩
                  rw [← hN9] at h9
                  try rw [← hN9]
                  have HN9 := Lib.hid hN9
                  clear hN9
                  have k0 := r9.p.cell (i := 0) rfl
                  have kf := r9.p.fz 0
                  refine pt_q (v := ?_) rfl (by rfl) ?_ ?_
                  rotate_left
                  · intro w' hBw'
                    first | (go_simp; done) | (go_simp; with_reducible rfl)
                  try simp only [Act.put, List.getElem_toArray, List.getElem_cons_zero, List.getElem_cons_succ, List.setIfInBounds_toArray, List.set_cons_zero, List.set_cons_succ]
                  refine pz_last rfl (by rfl) (fun K hK => ?_)
                  go_simp
                  refine hK.out _ _ ?_
                  clear hK K
                  try simp only [Act.put, List.getElem_toArray, List.getElem_cons_zero, List.getElem_cons_succ, List.setIfInBounds_toArray, List.set_cons_zero, List.set_cons_succ]
                  have P1 := r9.p.set 0 (.slice a9 N9 c9)
                  have R1 := r9.r.other (a := ⟨w.heap.size, 0, none⟩) (by show w.heap.size + 1 + 1 ≠ w.heap.size; omega) (.slice a9 N9 c9)
                  have g0 := P1.cell (i := 0) (v := .slice a9 N9 c9) rfl
                  have g1 := P1.cell (i := 1) (v := .int .i64 most) rfl
                  have hbs : But (fun j => j = w.heap.size) w9 (w9.setCell ⟨w.heap.size, 0, none⟩ (.slice a9 N9 c9)) := But.setCell _ _ _ (.inl rfl)
                  have hbS := Lib.hid hbs
                  clear hbs
                  go_wp2_with (refine wpList_put_row rfl 49 (.tmp 6) (.tmp 64) rfl (w.heap.size + 1 + 1) [.slice a9 N9 c9, .int .i64 most] rfl rfl R1 rfl (by kernel_rfl) rfl ?_; intro wA hRA hbA)
                  have rA := hRA.cell (i := 0) rfl
                  have rA1 := hRA.cell (i := 1) rfl
                  have qA := (r9.below.trans (hbS.out.below (fun i e => by omega) r9.below.size)).trans (hbA.below (fun i e => by omega) (by have := r9.below.size; simp; omega))
                  have hgA := fun q hq => (own_of_some h9 (k := q) hq)
                  have sA := ((Sl.of_own h9).but hbS.out (.inr fun q hq e => by have := hgA q hq; omega)).but hbA (.inr fun q hq e => by have := hgA q hq; omega)
                  have zA := hbA.size
                  have zS := hbS.out.size
                  have hins : insT L s u = L.take j ++ (s, u) :: L.drop j := by unfold insT; rw [hpos]
                  have hlen : (insT L s u).length = N9 := by have h1 := Hln.out; have h2 := HN9.out; rw [hins]; simp only [List.length_append, List.length_cons, List.length_take, List.length_drop]; omega
                  refine bodyPost_ret (v := .tuple #[tbV (.slice a9 N9 c9) most, .int .i64 0]) (by simp [results, Try.results30, go_sem, rA, rA1]) rfl ⟨.slice a9 N9 c9, by rw [HE.out], ?_, qA, .inr fun q hq => by have := hgA q hq; exact ⟨by omega, by omega⟩⟩
                  rw [HLE.out, hlen, hins]
                  simpa using sA
              · refine pt_step rfl (by rfl) (fun K hK => ?_)
                go_simp
                refine hK.out _ _ (But.alloc _ _) ?_
                clear hK K
                try simp only [Act.put, List.getElem_toArray, List.getElem_cons_zero, List.getElem_cons_succ, List.setIfInBounds_toArray, List.set_cons_zero, List.set_cons_succ]
                have hX := below_alloc Wd (.cells (rwC (s, u)).toArray 78)
                have s70 := slOneR Wd _ rfl 78 (s, u)
                have zX := hX.size
                refine pt_c ?_
                refine pt_step rfl (by rfl) (fun K hK => ?_)
                go_simp
                refine hK.out _ _ (But.alloc _ _) ?_
                clear hK K
                try simp only [Act.put, List.getElem_toArray, List.getElem_cons_zero, List.getElem_cons_succ, List.setIfInBounds_toArray, List.set_cons_zero, List.set_cons_succ]
                have hE := below_alloc (Wd.alloc (.cells (rwC (s, u)).toArray 78)) (.cells #[] 78)
                have h0 : ((Wd.alloc (.cells (rwC (s, u)).toArray 78)).alloc (.cells #[] 78)).ownsRow Wk.heap.size 78 7 (.slice (some ⟨Wd.heap.size + 1, 0, none⟩) 0 0) 0 [] := own0R (Wd.alloc (.cells (rwC (s, u)).toArray 78)) (by omega) (by rw [World.size_alloc])
                have zE := hE.size
                refine pt_c ?_
                refine pt_app2 rfl (by rfl) _ _ 47 rfl slR Wk.heap.size rfl h0 rfl (((sl1.up V2.below).up hX).up hE) (one_rw _) (by simp only [maxLen]; omega) (by omega) (by first | omega | (simp only [World.size_alloc] at *; omega)) (fun i hi => hi) (fun v5 w5 h5 hb5 => ?_)
                try simp only [Act.put, List.getElem_toArray, List.getElem_cons_zero, List.getElem_cons_succ, List.setIfInBounds_toArray, List.set_cons_zero, List.set_cons_succ]
                have s7 := (s70.up hE).but hb5 (.inr fun q hq e => by have h1 := Option.some.inj hq; have h2 := Option.some.inj e; simp only [World.size_alloc] at *; omega)
                have r7 := ((V2.up (But.of_below (O := fun i => w.heap.size + 3 ≤ i) hX) (fun i e => e) (by omega)).up (But.of_below (O := fun i => w.heap.size + 3 ≤ i) hE) (fun i e => e) (by omega)).up hb5 (fun i e => by have h2 := Option.some.inj e; simp only [World.size_alloc] at *; omega) (by omega)
                have l7 := (((sl2.up V2.below).up hX).up hE).but hb5 (hbl.imp id fun h q hq e => by have := h q hq; have h2 := Option.some.inj e; simp only [World.size_alloc] at *; omega)
                have z7 := hb5.size
                refine pt_c ?_
                refine pt_app2 rfl (by rfl) _ _ 47 rfl slR Wk.heap.size rfl h5 rfl (s7) (one_rw _) (by simp only [maxLen]; omega) (by omega) (by first | omega | (simp only [World.size_alloc] at *; omega)) (fun i hi => hi) (fun v8 w8 h8 hb8 => ?_)
                try simp only [Act.put, List.getElem_toArray, List.getElem_cons_zero, List.getElem_cons_succ, List.setIfInBounds_toArray, List.set_cons_zero, List.set_cons_succ]
                have hg8 := fun q hq => (own_of_some h5 (k := q) hq).1
                have r8 := r7.up hb8 (fun i e => by have := hg8 _ e; omega) (by omega)
                have l8 := l7.but hb8 (hbl.imp id fun h q hq e => by have := h q hq; have := hg8 _ e; omega)
                have z8 := hb8.size
                refine pt_c ?_
                refine pt_app2 rfl (by rfl) _ _ 47 rfl slR Wk.heap.size rfl h8 rfl (l8) (one_rw _) (by simp only [maxLen]; omega) (by omega) (by first | omega | (simp only [World.size_alloc] at *; omega)) (fun i hi => hi) (fun v9 w9 h9 hb9 => ?_)
                try simp only [Act.put, List.getElem_toArray, List.getElem_cons_zero, List.getElem_cons_succ, List.setIfInBounds_toArray, List.set_cons_zero, List.set_cons_succ]
                have hg9 := fun q hq => (own_of_some h8 (k := q) hq).1
                have r9 := r8.up hb9 (fun i e => by have := hg9 _ e; omega) (by omega)
                have z9 := hb9.size
                obtain ⟨a9, c9, rfl⟩ := own_slice h9
                obtain ⟨N9, hN9⟩ : ∃ N, N = 0 + j + 1 + (k - j) := ⟨_, rfl⟩
                rw [← hN9] at h9
                try rw [← hN9]
                have HN9 := Lib.hid hN9
                clear hN9
                have k0 := r9.p.cell (i := 0) rfl
                have kf := r9.p.fz 0
                refine pt_q (v := ?_) rfl (by rfl) ?_ ?_
                rotate_left
                · intro w' hBw'
                  first | (go_simp; done) | (go_simp; with_reducible rfl)
                try simp only [Act.put, List.getElem_toArray, List.getElem_cons_zero, List.getElem_cons_succ, List.setIfInBounds_toArray, List.set_cons_zero, List.set_cons_succ]
                refine pz_last rfl (by rfl) (fun K hK => ?_)
                go_simp
                refine hK.out _ _ ?_
                clear hK K
                try simp only [Act.put, List.getElem_toArray, List.getElem_cons_zero, List.getElem_cons_succ, List.setIfInBounds_toArray, List.set_cons_zero, List.set_cons_succ]
                have P1 := r9.p.set 0 (.slice a9 N9 c9)
                have R1 := r9.r.other (a := ⟨w.heap.size, 0, none⟩) (by show w.heap.size + 1 + 1 ≠ w.heap.size; omega) (.slice a9 N9 c9)
                have g0 := P1.cell (i := 0) (v := .slice a9 N9 c9) rfl
                have g1 := P1.cell (i := 1) (v := .int .i64 most) rfl
                have hbs : But (fun j => j = w.heap.size) w9 (w9.setCell ⟨w.heap.size, 0, none⟩ (.slice a9 N9 c9)) := But.setCell _ _ _ (.inl rfl)
                have hbS := Lib.hid hbs
                clear hbs
                go_wp2_with (refine wpList_put_row rfl 49 (.tmp 6) (.tmp 64) rfl (w.heap.size + 1 + 1) [.slice a9 N9 c9, .int .i64 most] rfl rfl R1 rfl (by kernel_rfl) rfl ?_; intro wA hRA hbA)
                have rA := hRA.cell (i := 0) rfl
                have rA1 := hRA.cell (i := 1) rfl
                have qA := (r9.below.trans (hbS.out.below (fun i e => by omega) r9.below.size)).trans (hbA.below (fun i e => by omega) (by have := r9.below.size; simp; omega))
                have hgA := fun q hq => (own_of_some h9 (k := q) hq)
                have sA := ((Sl.of_own h9).but hbS.out (.inr fun q hq e => by have := hgA q hq; omega)).but hbA (.inr fun q hq e => by have := hgA q hq; omega)
                have zA := hbA.size
                have zS := hbS.out.size
                have hins : insT L s u = L.take j ++ (s, u) :: L.drop j := by unfold insT; rw [hpos]
                have hlen : (insT L s u).length = N9 := by have h1 := Hln.out; have h2 := HN9.out; rw [hins]; simp only [List.length_append, List.length_cons, List.length_take, List.length_drop]; omega
                refine bodyPost_ret (v := .tuple #[tbV (.slice a9 N9 c9) most, .int .i64 0]) (by simp [results, Try.results30, go_sem, rA, rA1]) rfl ⟨.slice a9 N9 c9, by rw [HE.out], ?_, qA, .inr fun q hq => by have := hgA q hq; exact ⟨by omega, by omega⟩⟩
                rw [HLE.out, hlen, hins]
                simpa using sA
end Go.Proofs.Ytfoncaamhleckaa
