/-
  MemberJoins: the walk.
-/
import Derived.Test.YteakpppabgbpeaaMemV
import Derived.Test.YteakpppabgbpeaaMemL
namespace Go.Proofs.Yteakpppabgbpeaa
open Go.RowKit Mem
set_option linter.unusedSimpArgs false
set_option linter.unusedVariables false

/-- A slice's cells lie in no map's block. -/
theorem Sl.butMap {w w' : World} {sz n M : Nat} {v : Value} {cs : List Value} {E : List Mb} (h : Sl w sz v n cs) (hsz : 0 < sz) (hM : MMap w M E) (hb : But (· = M) w w') : Sl w' sz v n cs := by
  refine h.but hb ?_
  rcases Nat.eq_zero_or_pos n with h0 | h0
  · exact .inl h0
  · refine .inr fun k hk e => ?_
    obtain ⟨es, clock, hmm, _⟩ := hM.ex
    have hl := h.1
    rcases h.2 with ⟨a, c, rfl, h1⟩ | ⟨b, off, cap, rfl, hn, hm, hc⟩
    · omega
    · simp only [Value.ownBlock, Option.some.injEq] at hk
      have hp : 0 < n * sz := Nat.mul_pos h0 hsz
      have hc0 := hc 0 cs[0] (List.getElem?_eq_getElem (by omega))
      rw [hk, e] at hc0
      simp [World.cell?, hmm] at hc0
theorem RollAt.other {w w2 : World} {B M M' : Nat} {E : List Mb} (h : RollAt w B M E) (hb : But (· = M') w w2) (h1 : ¬ B = M') (h2 : ¬ M = M') : RollAt w2 B M E := h.but hb h1 h2
/-- What the law has at hand: the rolls r, o; the document's x, y. -/
structure JsI (w W : World) (M2 X1 : Nat) (m : Mb) (E1 E2 L1 L2 : List Mb) (u1 u2 : Value) : Prop where
  below : Below w.heap.size w W
  mb : RowAt W w.heap.size (mbC m).toArray 24
  r : RollAt W (w.heap.size + 1 + 1) (w.heap.size + 1) E1
  o : RollAt W (M2 + 1) M2 E2
  x : RowAt W X1 #[u1] 40
  y : RowAt W (X1 + 1) #[u2] 40
  sx : Sl W 4 u1 L1.length (L1.flatMap mbC)
  sy : Sl W 4 u2 L2.length (L2.flatMap mbC)
  n1 : w.heap.size + 1 + 1 < M2
  n2 : M2 + 1 < X1
theorem JsI.up {w W : World} {M2 X1 : Nat} {m : Mb} {E1 E2 L1 L2 : List Mb} {u1 u2 : Value} {W' : World} (h : JsI w W M2 X1 m E1 E2 L1 L2 u1 u2) (hb : Below W.heap.size W W') : JsI w W' M2 X1 m E1 E2 L1 L2 u1 u2 :=
  ⟨below_up h.below hb, h.mb.below hb, h.r.below hb, h.o.below hb, h.x.below hb, h.y.below hb, h.sx.up hb, h.sy.up hb, h.n1, h.n2⟩
theorem JsI.putX {w W : World} {M2 X1 : Nat} {m : Mb} {E1 E2 L1 L2 : List Mb} {u1 u2 : Value} {W' : World} {u3 : Value} {L3 : List Mb} (h : JsI w W M2 X1 m E1 E2 L1 L2 u1 u2) (hx : RowAt W' X1 #[u3] 40) (hb : But (· = X1) W W') (hs : Sl W 4 u3 L3.length (L3.flatMap mbC)) : JsI w W' M2 X1 m E1 E2 L3 L2 u3 u2 := by
  have h1 := h.n1
  have h2 := h.n2
  exact ⟨h.below.trans (hb.below (fun q e => by omega) h.below.size), h.mb.but hb (by omega), h.r.but hb (by omega) (by omega), h.o.but hb (by omega) (by omega), hx, h.y.but hb (by omega), hs.past4 h.x (by simp) hb, h.sy.past4 h.x (by simp) hb, h1, h2⟩
theorem JsI.putY {w W : World} {M2 X1 : Nat} {m : Mb} {E1 E2 L1 L2 : List Mb} {u1 u2 : Value} {W' : World} {u3 : Value} {L3 : List Mb} (h : JsI w W M2 X1 m E1 E2 L1 L2 u1 u2) (hy : RowAt W' (X1 + 1) #[u3] 40) (hb : But (· = X1 + 1) W W') (hs : Sl W 4 u3 L3.length (L3.flatMap mbC)) : JsI w W' M2 X1 m E1 E2 L1 L3 u1 u3 := by
  have h1 := h.n1
  have h2 := h.n2
  exact ⟨h.below.trans (hb.below (fun q e => by omega) h.below.size), h.mb.but hb (by omega), h.r.but hb (by omega) (by omega), h.o.but hb (by omega) (by omega), h.x.but hb (by omega), hy, h.sx.past4 h.y (by simp) hb, hs.past4 h.y (by simp) hb, h1, h2⟩
theorem JsI.tellR {w W : World} {M2 X1 : Nat} {m : Mb} {E1 E2 L1 L2 : List Mb} {u1 u2 : Value} {W' : World} {E3 : List Mb} (h : JsI w W M2 X1 m E1 E2 L1 L2 u1 u2) (hr : RollAt W' (w.heap.size + 1 + 1) (w.heap.size + 1) E3) (hb : But (· = w.heap.size + 1) W W') : JsI w W' M2 X1 m E3 E2 L1 L2 u1 u2 := by
  have h1 := h.n1
  have h2 := h.n2
  exact ⟨h.below.trans (hb.below (fun q e => by omega) h.below.size), h.mb.but hb (by omega), hr, h.o.but hb (by omega) (by omega), h.x.but hb (by omega), h.y.but hb (by omega), h.sx.butMap (by decide) h.r.map hb, h.sy.butMap (by decide) h.r.map hb, h1, h2⟩
theorem JsI.tellO {w W : World} {M2 X1 : Nat} {m : Mb} {E1 E2 L1 L2 : List Mb} {u1 u2 : Value} {W' : World} {E3 : List Mb} (h : JsI w W M2 X1 m E1 E2 L1 L2 u1 u2) (hr : RollAt W' (M2 + 1) M2 E3) (hb : But (· = M2) W W') : JsI w W' M2 X1 m E1 E3 L1 L2 u1 u2 := by
  have h1 := h.n1
  have h2 := h.n2
  exact ⟨h.below.trans (hb.below (fun q e => by omega) h.below.size), h.mb.but hb (by omega), h.r.but hb (by omega) (by omega), hr, h.x.but hb (by omega), h.y.but hb (by omega), h.sx.butMap (by decide) h.o.map hb, h.sy.butMap (by decide) h.o.map hb, h1, h2⟩
/-- .. where another roll's map is turned. -/
theorem JsI.tellC {w W : World} {M2 X1 : Nat} {m : Mb} {E1 E2 L1 L2 : List Mb} {u1 u2 : Value} {W' : World} {B3 M3 : Nat} {E3 : List Mb} (h : JsI w W M2 X1 m E1 E2 L1 L2 u1 u2) (hc : RollAt W B3 M3 E3) (hM : X1 + 1 < M3) (hb : But (· = M3) W W') : JsI w W' M2 X1 m E1 E2 L1 L2 u1 u2 := by
  have h1 := h.n1
  have h2 := h.n2
  exact ⟨h.below.trans (hb.below (fun q e => by omega) h.below.size), h.mb.but hb (by omega), h.r.but hb (by omega) (by omega), h.o.but hb (by omega) (by omega), h.x.but hb (by omega), h.y.but hb (by omega), h.sx.butMap (by decide) hc.map hb, h.sy.butMap (by decide) hc.map hb, h1, h2⟩
theorem joinE_take {E l : List Mb} {k : Nat} (hk : k < l.length) : joinE E (l.take (k + 1)) = tellF (joinE E (l.take k)) l[k] := by
  rw [List.take_succ_eq_append_getElem hk, joinE_snoc]
theorem rjF_take {E l : List Mb} {k : Nat} (hk : k < l.length) : rjF E (l.take (k + 1)) = rtF (rjF E (l.take k)) l[k] := by
  rw [List.take_succ_eq_append_getElem hk, rjF_snoc]
theorem memberJoins_big (va vb : Value) (n k : Nat) (m : Mb) (w : World) (xs ys : List Value) (ha : Sl w 4 va n xs) (hb : Sl w 4 vb k ys) (hbig : 30 < n ∨ 30 < k) : Calls Try.prog 7 #[va, vb, mbV m] w (Ret (.bool true) w) := by
  obtain ⟨a, c, rfl⟩ := ha.len
  obtain ⟨a', c', rfl⟩ := hb.len
  have hn := ha.n_max
  have hm := hb.n_max
  have hB0 := below_alloc w (.cells (mbC m).toArray 24)
  by_cases h1 : 30 < n
  · have h1' : (30 : Int) < (n : Int) := by omega
    go_enter Try.func7, Try.ntmps7
    go_wp2_with (go_at_call 10; refine (works_c _).mono ?_; rintro en w1 ⟨rfl, hb⟩)
    go_ret
    exact ⟨rfl, below_up hB0 hb⟩
  · have h1' : ¬ (30 : Int) < (n : Int) := by omega
    have h2' : (30 : Int) < (k : Int) := by omega
    go_enter Try.func7, Try.ntmps7
    go_wp2_with (go_at_call 10; refine (works_c _).mono ?_; rintro en w1 ⟨rfl, hb⟩)
    go_ret
    exact ⟨rfl, below_up hB0 hb⟩

set_option maxHeartbeats 16000000 in
set_option maxRecDepth 100000 in
theorem memberJoins_c (la lb : List Mb) (m : Mb) (va vb : Value) (n nb : Nat) (w : World) (ha : Sl w 4 va n (la.flatMap mbC)) (hb : Sl w 4 vb nb (lb.flatMap mbC)) (hn : n ≤ 30) (hnb : nb ≤ 30) (hwa : ∀ x ∈ la, x.Wf) (hwb : ∀ x ∈ lb, x.Wf) (hm : m.Wf) :
    Calls Try.prog 7 #[va, vb, mbV m] w (Ret (.bool true) w) := by
  have HLA := Lib.hid (Sl.recs (cells := mbC) (sz := 4) (fun _ => rfl) (by decide) ha)
  have HLB := Lib.hid (Sl.recs (cells := mbC) (sz := 4) (fun _ => rfl) (by decide) hb)
  have HWA := Lib.hid hwa
  have HWB := Lib.hid hwb
  obtain ⟨aa, ca, rfl⟩ := ha.len
  obtain ⟨ab, cb, rfl⟩ := hb.len
  have HA := Lib.hid ha
  have HBs := Lib.hid hb
  have hn0 : ¬ (30 : Int) < (n : Int) := by omega
  have hm0 : ¬ (30 : Int) < (nb : Int) := by omega
  have hB0 := below_alloc w (.cells (mbC m).toArray 24)
  have C0 := RowAt.new w (mbC m).toArray 24
  clear hwa hwb ha hb
  have T1 := Lib.hid True.intro
  go_enter Try.func7, Try.ntmps7
  go_wp2_with (first
    | (go_at_call 11; have Tz := T1; clear Tz T1; refine (rNew_c _).mono ?_; rintro en w1 ⟨rfl, h1, hb1⟩)
    | (go_at_call 11; refine (rNew_c _).mono ?_; rintro en w2 ⟨rfl, h2, hb2⟩))
  simp only [World.size_alloc] at h1
  have hl1 := h1.var.lt
  have hl2 := h2.var.lt
  have hbr := below_alloc w2 (.cells #[.slice none 0 0] 40)
  have hbs := below_alloc (w2.alloc (.cells #[.slice none 0 0] 40)) (.cells #[.slice none 0 0] 40)
  have hb4 := below_up hbr hbs
  have Y0 := RowAt.new (w2.alloc (.cells #[.slice none 0 0] 40)) #[.slice none 0 0] 40
  rw [World.size_alloc] at Y0
  have V0 : JsI w ((w2.alloc (.cells #[.slice none 0 0] 40)).alloc (.cells #[.slice none 0 0] 40)) w1.heap.size w2.heap.size m [] [] [] [] (.slice none 0 0) (.slice none 0 0) :=
    ⟨below_up (below_up (below_up hB0 hb1) hb2) hb4, ((C0.below hb1).below hb2).below hb4, (h1.below hb2).below hb4, h2.below hb4, (RowAt.new w2 _ _).below hbs, Y0, Sl.nil _ _, Sl.nil _ _, hl1, hl2⟩
  obtain ⟨M2, hM2⟩ : ∃ M2, w1.heap.size = M2 := ⟨_, rfl⟩
  obtain ⟨X1, hX1⟩ : ∃ X1, w2.heap.size = X1 := ⟨_, rfl⟩
  obtain ⟨w3, hw3⟩ : ∃ W, (w2.alloc (.cells #[.slice none 0 0] 40)).alloc (.cells #[.slice none 0 0] 40) = W := ⟨_, rfl⟩
  rw [hw3] at V0 ⊢
  rw [hM2, hX1] at V0
  simp only [hM2, hX1]
  clear hw3 hM2 hX1 h1 h2 hb1 hb2 hl1 hl2 hbr hbs hb4 Y0 C0 hB0 hn0 hm0
  go_loopw [11] (fun i wr => ∃ (k : Nat) (u1 : Value), k ≤ n ∧ i = .int .i64 k ∧ JsI w wr M2 X1 m (joinE [] (la.take k)) [] (rjF [] (la.take k)) [] u1 (.slice none 0 0)) (fun i _ => n - (intOf i).toNat)
  case atStart => exact ⟨0, _, Nat.zero_le _, rfl, V0⟩
  case round =>
    clear V0
    obtain ⟨k, u1, hk, rfl, V⟩ := hrel
    by_cases hlt : k < n
    · have hlt' : k < la.length := by rw [HLA.out]; exact hlt
      obtain ⟨b, off, rfl, hr⟩ := (HA.out.up V.below).rec_at (cells := mbC) (sz := 4) (fun _ => rfl) hlt hlt'
      have hbl : b < w.heap.size := by
        obtain ⟨b', off', e', hr0⟩ := HA.out.rec_at (cells := mbC) (sz := 4) (fun _ => rfl) hlt hlt'
        have h1 := hr0 0 (.int .u32 la[k].node) rfl
        have h2 : b = b' := by simp only [Option.some.injEq, Addr.mk.injEq] at e'; exact e'.1
        rw [h2]; exact World.block_lt_of_cell? w _ h1
      have Hj := Lib.hid (joinE_take (E := []) hlt').symm
      have Hx := Lib.hid (rjF_take (E := []) hlt')
      have hwf := HWA.out _ (List.getElem_mem hlt')
      have hlen := rjF_len (la.take k) []
      have htl := List.length_take_le k la
      have hki0 : (0 : Int) ≤ (k : Int) := by omega
      have hkn : (k : Int) < (n : Int) := by omega
      generalize la[k] = m1 at *
      obtain ⟨Lk, hLk⟩ : ∃ Lk, rjF [] (la.take k) = Lk := ⟨_, rfl⟩
      rw [hLk] at V Hx hlen
      have hL6 : Lk.length ≤ 100000 := by simp at hlen; omega
      have hzw := V.below.size
      have hn1 := V.n1
      have hn2 := V.n2
      have hxl := V.x.lt
      have hyl := V.y.lt
      clear hLk hlen htl
      obtain ⟨ak, ck, rfl⟩ := V.sx.len
      go_wp2
      refine wp_region_pt (fun i => i = X1 ∨ wr.heap.size ≤ i) (.q 1 (.q 2 (.q 3 (.q 4 (.c 0 (.c 5 (.q 6 (.q 7 (.q 8 (.c 9 .done)))))))))) (by kernel_rfl) (by kernel_rfl) (by kernel_rfl) (by decide) (fun _ _ d _ _ h => by cases d <;> exact h) (fun Wd hBd => ?_)
      try simp only [Act.put, List.getElem_toArray, List.getElem_cons_zero, List.getElem_cons_succ, List.setIfInBounds_toArray, List.set_cons_zero, List.set_cons_succ]
      have V2 := V.up hBd
      have hszd := hBd.size
      have hrd := rangeAt_up hBd hr
      have KW := V2.x.cell (i := 0) (v := .slice ak Lk.length ck) rfl
      refine pt_q (v := ?_) rfl (by rfl) ?_ ?_
      rotate_left
      · intro w' hBw'
        try have p0 := hBw'.cell KW (by omega)
        first | (go_simp; done) | (go_simp; with_reducible rfl)
      try simp only [Act.put, List.getElem_toArray, List.getElem_cons_zero, List.getElem_cons_succ, List.setIfInBounds_toArray, List.set_cons_zero, List.set_cons_succ]
      refine pt_q (v := ?_) rfl (by rfl) ?_ ?_
      rotate_left
      · intro w' hBw'
        try have p0 := hBw'.cell KW (by omega)
        first | (go_simp; done) | (go_simp; with_reducible rfl)
      try simp only [Act.put, List.getElem_toArray, List.getElem_cons_zero, List.getElem_cons_succ, List.setIfInBounds_toArray, List.set_cons_zero, List.set_cons_succ]
      refine pt_q (v := ?_) rfl (by rfl) ?_ ?_
      rotate_left
      · intro w' hBw'
        try have p0 := hBw'.cell KW (by omega)
        first | (go_simp; done) | (go_simp; with_reducible rfl)
      try simp only [Act.put, List.getElem_toArray, List.getElem_cons_zero, List.getElem_cons_succ, List.setIfInBounds_toArray, List.set_cons_zero, List.set_cons_succ]
      refine pt_load rfl (by rfl) 24 (.tmp 43) rfl b (off + k * 4) rfl (mbC m1) _ hrd (by omega) Try.underlying24 rfl (by kernel_rfl) ?_
      try simp only [Act.put, List.getElem_toArray, List.getElem_cons_zero, List.getElem_cons_succ, List.setIfInBounds_toArray, List.set_cons_zero, List.set_cons_succ]
      refine pt_c ?_
      refine pt_step rfl (by rfl) (fun K hK => ?_)
      go_simp
      refine hK.out _ _ (But.refl _ _) ?_
      clear hK K
      try simp only [Act.put, List.getElem_toArray, List.getElem_cons_zero, List.getElem_cons_succ, List.setIfInBounds_toArray, List.set_cons_zero, List.set_cons_succ]
      refine pt_c ?_
      refine pt_step rfl (by rfl) (fun K hK => ?_)
      go_simp
      refine (rfTell_c Lk _ Lk.length m1 _ V2.sx hL6).mono ?_
      rintro en w3 ⟨u3, rfl, hsl3, hb3⟩
      refine hK.out _ _ (But.of_below hb3) ?_
      clear hK K
      try simp only [Act.put, List.getElem_toArray, List.getElem_cons_zero, List.getElem_cons_succ, List.setIfInBounds_toArray, List.set_cons_zero, List.set_cons_succ]
      have V3 := V2.up hb3
      have hz3 := hb3.size
      obtain ⟨x1, x2, rfl⟩ := hsl3.len
      refine pt_q (v := ?_) rfl (by rfl) ?_ ?_
      rotate_left
      · intro w' hBw'
        try have p0 := hBw'.cell KW (by omega)
        first | (go_simp; done) | (go_simp; with_reducible rfl)
      try simp only [Act.put, List.getElem_toArray, List.getElem_cons_zero, List.getElem_cons_succ, List.setIfInBounds_toArray, List.set_cons_zero, List.set_cons_succ]
      refine pt_q (v := ?_) rfl (by rfl) ?_ ?_
      rotate_left
      · intro w' hBw'
        try have p0 := hBw'.cell KW (by omega)
        first | (go_simp; done) | (go_simp; with_reducible rfl)
      try simp only [Act.put, List.getElem_toArray, List.getElem_cons_zero, List.getElem_cons_succ, List.setIfInBounds_toArray, List.set_cons_zero, List.set_cons_succ]
      refine pt_q (v := ?_) rfl (by rfl) ?_ ?_
      rotate_left
      · intro w' hBw'
        try have p0 := hBw'.cell KW (by omega)
        first | (go_simp; done) | (go_simp; with_reducible rfl)
      try simp only [Act.put, List.getElem_toArray, List.getElem_cons_zero, List.getElem_cons_succ, List.setIfInBounds_toArray, List.set_cons_zero, List.set_cons_succ]
      refine pt_c ?_
      refine pt_put_row rfl (by rfl) 40 _ _ rfl X1 [.slice x1 (rtF Lk m1).length x2] rfl rfl V3.x rfl (by kernel_rfl) rfl (by show X1 = X1 ∨ _; exact .inl rfl) (fun wA hRA hbA => ?_)
      try simp only [Act.put, List.getElem_toArray, List.getElem_cons_zero, List.getElem_cons_succ, List.setIfInBounds_toArray, List.set_cons_zero, List.set_cons_succ]
      refine pt_done ?_
      have VA := V3.putX hRA hbA hsl3
      have hrA : wA.rangeAt b (off + k * 4) (mbC m1) := fun j v hj => hbA.cell (rangeAt_up hb3 hrd j v hj) (by omega)
      have hT := mTell_c m1 hwf wA VA.r
      rw [Hj.out] at hT
      generalize tellE _ m1 = e9 at hT
      go_wp2_with (first
        | (refine wpList_load_mid rfl 24 (.tmp 51) rfl b (off + k * 4) rfl (mbC m1) _ hrA Try.underlying24 rfl (by kernel_rfl) ?_)
        | (go_at_call 12; refine hT.mono ?_; rintro en w5 ⟨rfl, hr5, hb5⟩))
      have V9 := VA.tellR hr5 hb5
      rw [← Hx.out] at V9
      go_roundw
      case rel => exact ⟨k + 1, _, by omega, by go_num, V9⟩
      case measure => simp [intOf]; omega
    · obtain rfl : k = n := by omega
      rw [List.take_of_length_le (by rw [HLA.out]; exact Nat.le_refl _)] at V
      have V0 := V
      clear V
      go_wp2
      go_loopw [12] (fun i wr => ∃ (k : Nat) (u2 : Value), k ≤ nb ∧ i = .int .i64 k ∧ JsI w wr M2 X1 m (joinE [] la) (joinE [] (lb.take k)) (rjF [] la) (rjF [] (lb.take k)) u1 u2) (fun i _ => nb - (intOf i).toNat)
      case atStart => exact ⟨0, _, Nat.zero_le _, rfl, V0⟩
      case round =>
        clear V0
        obtain ⟨k, u2, hk, rfl, V⟩ := hrel
        by_cases hlt : k < nb
        · have hlt' : k < lb.length := by rw [HLB.out]; exact hlt
          obtain ⟨b, off, rfl, hr⟩ := (HBs.out.up V.below).rec_at (cells := mbC) (sz := 4) (fun _ => rfl) hlt hlt'
          have hbl : b < w.heap.size := by
            obtain ⟨b', off', e', hr0⟩ := HBs.out.rec_at (cells := mbC) (sz := 4) (fun _ => rfl) hlt hlt'
            have h1 := hr0 0 (.int .u32 lb[k].node) rfl
            have h2 : b = b' := by simp only [Option.some.injEq, Addr.mk.injEq] at e'; exact e'.1
            rw [h2]; exact World.block_lt_of_cell? w _ h1
          have Hj := Lib.hid (joinE_take (E := []) hlt').symm
          have Hx := Lib.hid (rjF_take (E := []) hlt')
          have hwf := HWB.out _ (List.getElem_mem hlt')
          have hlen := rjF_len (lb.take k) []
          have htl := List.length_take_le k lb
          have hki0 : (0 : Int) ≤ (k : Int) := by omega
          have hkn : (k : Int) < (nb : Int) := by omega
          generalize lb[k] = m1 at *
          obtain ⟨Lk, hLk⟩ : ∃ Lk, rjF [] (lb.take k) = Lk := ⟨_, rfl⟩
          rw [hLk] at V Hx hlen
          have hL6 : Lk.length ≤ 100000 := by simp at hlen; omega
          have hzw := V.below.size
          have hn1 := V.n1
          have hn2 := V.n2
          have hxl := V.x.lt
          have hyl := V.y.lt
          clear hLk hlen htl
          obtain ⟨ak, ck, rfl⟩ := V.sy.len
          go_wp2
          refine wp_region_pt (fun i => i = (X1 + 1) ∨ wr.heap.size ≤ i) (.q 1 (.q 2 (.q 3 (.q 4 (.c 0 (.c 5 (.q 6 (.q 7 (.q 8 (.c 9 .done)))))))))) (by kernel_rfl) (by kernel_rfl) (by kernel_rfl) (by decide) (fun _ _ d _ _ h => by cases d <;> exact h) (fun Wd hBd => ?_)
          try simp only [Act.put, List.getElem_toArray, List.getElem_cons_zero, List.getElem_cons_succ, List.setIfInBounds_toArray, List.set_cons_zero, List.set_cons_succ]
          have V2 := V.up hBd
          have hszd := hBd.size
          have hrd := rangeAt_up hBd hr
          have KW := V2.y.cell (i := 0) (v := .slice ak Lk.length ck) rfl
          refine pt_q (v := ?_) rfl (by rfl) ?_ ?_
          rotate_left
          · intro w' hBw'
            try have p0 := hBw'.cell KW (by omega)
            first | (go_simp; done) | (go_simp; with_reducible rfl)
          try simp only [Act.put, List.getElem_toArray, List.getElem_cons_zero, List.getElem_cons_succ, List.setIfInBounds_toArray, List.set_cons_zero, List.set_cons_succ]
          refine pt_q (v := ?_) rfl (by rfl) ?_ ?_
          rotate_left
          · intro w' hBw'
            try have p0 := hBw'.cell KW (by omega)
            first | (go_simp; done) | (go_simp; with_reducible rfl)
          try simp only [Act.put, List.getElem_toArray, List.getElem_cons_zero, List.getElem_cons_succ, List.setIfInBounds_toArray, List.set_cons_zero, List.set_cons_succ]
          refine pt_q (v := ?_) rfl (by rfl) ?_ ?_
          rotate_left
          · intro w' hBw'
            try have p0 := hBw'.cell KW (by omega)
            first | (go_simp; done) | (go_simp; with_reducible rfl)
          try simp only [Act.put, List.getElem_toArray, List.getElem_cons_zero, List.getElem_cons_succ, List.setIfInBounds_toArray, List.set_cons_zero, List.set_cons_succ]
          refine pt_load rfl (by rfl) 24 (.tmp 64) rfl b (off + k * 4) rfl (mbC m1) _ hrd (by omega) Try.underlying24 rfl (by kernel_rfl) ?_
          try simp only [Act.put, List.getElem_toArray, List.getElem_cons_zero, List.getElem_cons_succ, List.setIfInBounds_toArray, List.set_cons_zero, List.set_cons_succ]
          refine pt_c ?_
          refine pt_step rfl (by rfl) (fun K hK => ?_)
          go_simp
          refine hK.out _ _ (But.refl _ _) ?_
          clear hK K
          try simp only [Act.put, List.getElem_toArray, List.getElem_cons_zero, List.getElem_cons_succ, List.setIfInBounds_toArray, List.set_cons_zero, List.set_cons_succ]
          refine pt_c ?_
          refine pt_step rfl (by rfl) (fun K hK => ?_)
          go_simp
          refine (rfTell_c Lk _ Lk.length m1 _ V2.sy hL6).mono ?_
          rintro en w3 ⟨u3, rfl, hsl3, hb3⟩
          refine hK.out _ _ (But.of_below hb3) ?_
          clear hK K
          try simp only [Act.put, List.getElem_toArray, List.getElem_cons_zero, List.getElem_cons_succ, List.setIfInBounds_toArray, List.set_cons_zero, List.set_cons_succ]
          have V3 := V2.up hb3
          have hz3 := hb3.size
          obtain ⟨x1, x2, rfl⟩ := hsl3.len
          refine pt_q (v := ?_) rfl (by rfl) ?_ ?_
          rotate_left
          · intro w' hBw'
            try have p0 := hBw'.cell KW (by omega)
            first | (go_simp; done) | (go_simp; with_reducible rfl)
          try simp only [Act.put, List.getElem_toArray, List.getElem_cons_zero, List.getElem_cons_succ, List.setIfInBounds_toArray, List.set_cons_zero, List.set_cons_succ]
          refine pt_q (v := ?_) rfl (by rfl) ?_ ?_
          rotate_left
          · intro w' hBw'
            try have p0 := hBw'.cell KW (by omega)
            first | (go_simp; done) | (go_simp; with_reducible rfl)
          try simp only [Act.put, List.getElem_toArray, List.getElem_cons_zero, List.getElem_cons_succ, List.setIfInBounds_toArray, List.set_cons_zero, List.set_cons_succ]
          refine pt_q (v := ?_) rfl (by rfl) ?_ ?_
          rotate_left
          · intro w' hBw'
            try have p0 := hBw'.cell KW (by omega)
            first | (go_simp; done) | (go_simp; with_reducible rfl)
          try simp only [Act.put, List.getElem_toArray, List.getElem_cons_zero, List.getElem_cons_succ, List.setIfInBounds_toArray, List.set_cons_zero, List.set_cons_succ]
          refine pt_c ?_
          refine pt_put_row rfl (by rfl) 40 _ _ rfl (X1 + 1) [.slice x1 (rtF Lk m1).length x2] rfl rfl V3.y rfl (by kernel_rfl) rfl (by show (X1 + 1) = (X1 + 1) ∨ _; exact .inl rfl) (fun wA hRA hbA => ?_)
          try simp only [Act.put, List.getElem_toArray, List.getElem_cons_zero, List.getElem_cons_succ, List.setIfInBounds_toArray, List.set_cons_zero, List.set_cons_succ]
          refine pt_done ?_
          have VA := V3.putY hRA hbA hsl3
          have hrA : wA.rangeAt b (off + k * 4) (mbC m1) := fun j v hj => hbA.cell (rangeAt_up hb3 hrd j v hj) (by omega)
          have hT := mTell_c m1 hwf wA VA.o
          rw [Hj.out] at hT
          generalize tellE _ m1 = e9 at hT
          go_wp2_with (first
            | (refine wpList_load_mid rfl 24 (.tmp 72) rfl b (off + k * 4) rfl (mbC m1) _ hrA Try.underlying24 rfl (by kernel_rfl) ?_)
            | (go_at_call 12; refine hT.mono ?_; rintro en w5 ⟨rfl, hr5, hb5⟩))
          have V9 := VA.tellO hr5 hb5
          rw [← Hx.out] at V9
          go_roundw
          case rel => exact ⟨k + 1, _, by omega, by go_num, V9⟩
          case measure => simp [intOf]; omega
        · obtain rfl : k = nb := by omega
          rw [List.take_of_length_le (by rw [HLB.out]; exact Nat.le_refl _)] at V
          obtain ⟨ss1, _, ks1, ln1⟩ := join_ref la [] [] Keys.nil srt_nil (by rw [HLA.out]; simp; omega)
          obtain ⟨ss2, _, ks2, ln2⟩ := join_ref lb [] [] Keys.nil srt_nil (by rw [HLB.out]; simp; omega)
          rw [HLA.out] at ln1
          rw [HLB.out] at ln2
          simp only [List.length_nil, Nat.zero_add] at ln1 ln2
          obtain ⟨E1, hE1⟩ : ∃ E, joinE [] la = E := ⟨_, rfl⟩
          obtain ⟨E2, hE2⟩ : ∃ E, joinE [] lb = E := ⟨_, rfl⟩
          obtain ⟨L1, hL1⟩ : ∃ E, rjF [] la = E := ⟨_, rfl⟩
          obtain ⟨L2, hL2⟩ : ∃ E, rjF [] lb = E := ⟨_, rfl⟩
          rw [hE1, hE2, hL1, hL2] at V
          rw [hE1, hL1] at ss1
          rw [hE1] at ks1 ln1
          rw [hE2, hL2] at ss2
          rw [hE2] at ks2 ln2
          clear hE1 hE2 hL1 hL2
          have e1 := ss1.len
          have e2 := ss2.len
          obtain ⟨sj, nj, kj, lj⟩ := join_ref L2 E1 L1 ks1 ss1 (by omega)
          have kt := ks1.tell m (by omega)
          have st := tellF_ref ks1 ss1 m
          have hq := tellE_ref ks1 ss1 m
          obtain ⟨SV, hSV⟩ : ∃ SV, decide (rjF L1 L2 = rtF L1 m) = SV := ⟨_, rfl⟩
          have s1 := (eqB_ref kj kt.1 sj st).trans hSV
          have s2 : eqB (tellF E1 m) (joinE E1 L2) = SV := by
            rw [eqB_ref kt.1 kj st sj, ← hSV]
            exact decide_eq_decide.2 eq_comm
          have b1 : (rjF L1 L2).length ≤ 100000 := by rw [sj.len]; omega
          have b2 : (rtF L1 m).length ≤ 100000 := by rw [st.len]; omega
          have b3 : L2.length ≤ 100000 := by omega
          have b4 : L1.length ≤ 10000 := by omega
          have b5 : L2.length ≤ 10000 := by omega
          have b6 : E2.length ≤ 100000 := by omega
          have b7 : L1.length ≤ 100000 := by omega
          have HS1 := Lib.hid s1
          have HS2 := Lib.hid s2
          have HSV := Lib.hid hSV
          have HQ := Lib.hid hq
          have HNJ := Lib.hid nj
          have HSS2 := Lib.hid ss2
          have HSJ := Lib.hid sj
          have HST := Lib.hid st
          have B1 := Lib.hid b1
          have B2 := Lib.hid b2
          have B3 := Lib.hid b3
          have B4 := Lib.hid b4
          have B5 := Lib.hid b5
          have B6 := Lib.hid b6
          have B7 := Lib.hid b7
          have hNn := rjN_le L2 L1
          have hnn : rjN L1 L2 ≤ 10000 := by omega
          clear ss1 ss2 ks1 ks2 ln1 ln2 sj nj kj lj kt st hq s1 s2 hSV b1 b2 b3 b4 b5 b6 b7 hNn e1 e2
          obtain ⟨a1, c1, rfl⟩ := V.sx.len
          obtain ⟨a2, c2, rfl⟩ := V.sy.len
          have VV := Lib.hid V
          have hn1 := V.n1
          have hn2 := V.n2
          have hyl := V.y.lt
          have kx := V.x.cell (i := 0) (v := .slice a1 L1.length c1) rfl
          have ky := V.y.cell (i := 0) (v := .slice a2 L2.length c2) rfl
          clear V
          have T2 := Lib.hid True.intro
          have T3 := Lib.hid True.intro
          have T4 := Lib.hid True.intro
          have T5 := Lib.hid True.intro
          go_wp2_with (first
            | (go_at_call 16; refine (rCopy_c _ VV.out.r).mono ?_; rintro en w5 ⟨B3', M3, rfl, hc, hB3, hM3, hb⟩; replace VV := Lib.hid (VV.out.up hb); replace kx := cell_up hb kx; replace ky := cell_up hb ky; have hcn := hc.ne; clear hb)
            | (go_at_call 21; refine (rfJoin_c L1 L2 _ _ L2.length _ VV.out.sx VV.out.sy B4.out B5.out).mono ?_; rintro en w6 ⟨z, rfl, hz, hb⟩; replace VV := Lib.hid (VV.out.up hb); replace hc := hc.below hb; replace kx := cell_up hb kx; replace ky := cell_up hb ky; obtain ⟨az, cz, rfl⟩ := hz.len; have hcq := hc.map.lt; have hcq2 := hc.var.lt; clear hb; have hb := below_alloc w6 (.cells #[.slice az (rjF L1 L2).length cz] 40); have Z := RowAt.new w6 #[.slice az (rjF L1 L2).length cz] 40; replace VV := Lib.hid (VV.out.up hb); replace hc := hc.below hb; replace hz := hz.up hb; replace kx := cell_up hb kx; replace ky := cell_up hb ky; have hcl := hc.map.lt; have hzl := Z.lt; have hcl2 := hc.var.lt; have hw6 := VV.out.r.map.lt; clear hb)
            | (go_at_call 17; refine (rJoin_c _ VV.out.r VV.out.o HSS2.out B6.out).mono ?_; rw [HNJ.out]; rintro en w7 ⟨rfl, hr7, hb⟩; replace hz := hz.butMap (by decide) VV.out.r.map hb; replace VV := Lib.hid (VV.out.tellR hr7 hb); replace hc := hc.other hb (by omega) (by omega); replace Z := RowAt.but Z hb (by omega); replace kx := hb.cell kx (by omega); replace ky := hb.cell ky (by omega); clear hb hr7)
            | (refine wpList_load_mid rfl 24 (.tmp 5) rfl w.heap.size 0 rfl (mbC m) _ VV.out.mb.range Try.underlying24 rfl (by kernel_rfl) ?_)
            | (go_at_call 18; refine (rfTell_c L1 _ L1.length m _ VV.out.sx B7.out).mono ?_; rintro en w8 ⟨u9, rfl, hu, hb⟩; replace VV := Lib.hid (VV.out.up hb); replace hc := hc.below hb; replace hz := hz.up hb; replace Z := RowAt.below Z hb; obtain ⟨au, cu, rfl⟩ := hu.len; have hcp := hc.map.lt; have hzp := Z.lt; have ky9 := cell_up hb ky; clear hb kx ky; have hb := below_alloc w8 (.cells #[.slice au (rtF L1 m).length cu] 40); have U := RowAt.new w8 #[.slice au (rtF L1 m).length cu] 40; replace VV := Lib.hid (VV.out.up hb); replace hc := hc.below hb; replace hz := hz.up hb; replace hu := hu.up hb; replace Z := RowAt.below Z hb; have ky8 := cell_up hb ky9; have hul := U.lt; have hcu := hc.map.lt; have hw8 := (VV.out.r.map.lt); clear hb ky9)
            | (go_at_call 12; refine (mTell_c m hm _ hc).mono ?_; rw [HQ.out]; rintro en w9 ⟨rfl, hr9, hb⟩; have hz9 := hz.butMap (by decide) hc.map hb; have hu9 := hu.butMap (by decide) hc.map hb; have Z9 := RowAt.but Z hb (by omega); have U9 := RowAt.but U hb (by omega); have ky9 := hb.cell ky8 (by omega); replace VV := Lib.hid (VV.out.tellC hc (by omega) hb); have cz9 := RowAt.cell Z9 (i := 0) (v := .slice az (rjF L1 L2).length cz) rfl; have cu9 := RowAt.cell U9 (i := 0) (v := .slice au (rtF L1 m).length cu) rfl; clear hb hc hz hu Z U ky8)
            | (go_at_call 22; refine (rfSame_c (rjF L1 L2) (rtF L1 m) _ _ _ hz9 hu9).mono ?_; rw [HSV.out]; rintro en w10 ⟨rfl, hb⟩; replace VV := Lib.hid (VV.out.up hb); replace hr9 := hr9.below hb; replace hz9 := hz9.up hb; replace hu9 := hu9.up hb; replace cz9 := cell_up hb cz9; replace cu9 := cell_up hb cu9; replace ky9 := cell_up hb ky9; have mc0 := VV.out.mb.cell (i := 0) (v := .int .u32 m.node) rfl; have mc1 := VV.out.mb.cell (i := 1) (v := .int .u32 m.region) rfl; have mc2 := VV.out.mb.cell (i := 2) (v := .int .u32 m.epoch) rfl; have mc3 := VV.out.mb.cell (i := 3) (v := .bool m.in_) rfl; clear hb)
            | (go_at_call 13; refine (num_cc _ _).mono ?_; rintro en w11 ⟨rfl, rfl⟩)
            | (go_at_call 19; have Tz := T2; clear Tz T2; refine (is_c 1 m _ VV.out.r HSJ.out hz9 hm B1.out).mono ?_; rintro en w12 ⟨rfl, hb⟩; replace VV := Lib.hid (VV.out.up hb); clear mc0 mc1 mc2 mc3; have mc0 := VV.out.mb.cell (i := 0) (v := .int .u32 m.node) rfl; have mc1 := VV.out.mb.cell (i := 1) (v := .int .u32 m.region) rfl; have mc2 := VV.out.mb.cell (i := 2) (v := .int .u32 m.epoch) rfl; have mc3 := VV.out.mb.cell (i := 3) (v := .bool m.in_) rfl; replace hr9 := hr9.below hb; replace hu9 := hu9.up hb; replace cu9 := cell_up hb cu9; replace ky9 := cell_up hb ky9; clear hb)
            | (go_at_call 19; have Tz := T3; clear Tz T3; refine (is_c 2 m _ hr9 HST.out hu9 hm B2.out).mono ?_; rintro en w13 ⟨rfl, hb⟩; replace VV := Lib.hid (VV.out.up hb); clear mc0 mc1 mc2 mc3; have mc0 := VV.out.mb.cell (i := 0) (v := .int .u32 m.node) rfl; have mc1 := VV.out.mb.cell (i := 1) (v := .int .u32 m.region) rfl; have mc2 := VV.out.mb.cell (i := 2) (v := .int .u32 m.epoch) rfl; have mc3 := VV.out.mb.cell (i := 3) (v := .bool m.in_) rfl; replace hr9 := hr9.below hb; replace ky9 := cell_up hb ky9; clear hb)
            | (go_at_call 19; refine (is_c 3 m _ VV.out.o HSS2.out VV.out.sy hm B3.out).mono ?_; rintro en w14 ⟨rfl, hb⟩; replace VV := Lib.hid (VV.out.up hb); replace hr9 := hr9.below hb; clear hb)
            | (go_at_call 15; have Tz := T4; clear Tz T4; refine (rSame_c _ VV.out.r hr9).mono ?_; rw [HS1.out]; rintro en w15 ⟨rfl, hb⟩; replace VV := Lib.hid (VV.out.up hb); replace hr9 := hr9.below hb; clear hb)
            | (go_at_call 15; have Tz := T5; clear Tz T5; refine (rSame_c _ hr9 VV.out.r).mono ?_; rw [HS2.out]; rintro en w16 ⟨rfl, hb⟩; replace VV := Lib.hid (VV.out.up hb); replace hr9 := hr9.below hb; clear hb)
            | (go_at_call 15; refine (rSameNil_c _ VV.out.r).mono ?_; rintro en w17 ⟨rfl, hb⟩; replace VV := Lib.hid (VV.out.up hb); clear hb)
            | (go_at_call 10; refine (works_c _).mono ?_; rintro en w18 ⟨rfl, hb⟩; replace VV := Lib.hid (VV.out.up hb); clear hb))
          go_ret
          exact ⟨rfl, VV.out.below⟩

theorem memberJoins_law {H : Type} {enc : TypeId × Value → H} {w : World} {base base2 : Nat} {spare spare2 : Nat → Bool} {held held2 : Bool} {va vb : Value} {n k : Nat} {xs ys : List Value} (m : Mb) (hm : m.Wf) (hsa : Sl w 4 va n xs)
    (hla : ∀ i, i < n → ∀ (j : Nat) (U : TypeId), [22, 22, 22, 4][j]? = some U → ∃ c, xs[i * 4 + j]? = some c ∧ Leaf enc Try.prog w base spare held U c) (hsb : Sl w 4 vb k ys)
    (hlb : ∀ i, i < k → ∀ (j : Nat) (U : TypeId), [22, 22, 22, 4][j]? = some U → ∃ c, ys[i * 4 + j]? = some c ∧ Leaf enc Try.prog w base2 spare2 held2 U c) :
    Calls Try.prog 7 #[va, vb, mbV m] w (Ret (.bool true) w) := by
  by_cases hbig : 30 < n ∨ 30 < k
  · exact memberJoins_big va vb n k m w xs ys hsa hsb hbig
  · obtain ⟨la, rfl, hwa⟩ := mbs_of hsa hla
    obtain ⟨lb, rfl, hwb⟩ := mbs_of hsb hlb
    exact memberJoins_c la lb m va vb n k w hsa hsb (by omega) (by omega) hwa hwb hm
theorem mb_wf {a b c : Int} {d : Bool} (h1 : (Lit.int .u32 a).wf = true) (h2 : (Lit.int .u32 b).wf = true) : Mb.Wf ⟨a, b, c, d⟩ := by
  simp [Lit.wf, IntKind.min, IntKind.max, IntKind.signed, IntKind.bits] at h1 h2
  exact ⟨h1.1, h1.2, h2.1, h2.2⟩
end Go.Proofs.Yteakpppabgbpeaa
