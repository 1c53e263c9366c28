/-
  The reference: Write.
-/
import Derived.Test.YtekpjbablcoahaaDiskS
namespace Go.Proofs.Ytekpjbablcoahaa
open Go.RowKit Go.Maps Dk
set_option linter.unusedSimpArgs false
set_option linter.unusedVariables false

/-- What the document's write answers. -/
def Dk.rwriteE (r : RDisk) (k : Int) (n : Nat) : Int := if n ≠ 64 then 2 else if offB k r.L.length = true then 4 else if r.armed = 0 then 190 else 0
set_option maxRecDepth 100000 in
theorem rWriteLen_c (r : RDisk) (k : Int) (b : ByteArray) (hb : b.size ≠ 64) (hbs : b.size ≤ maxLen) (v : Value) (w : World) (h : RefAt w v r) : Calls Try.prog 44 #[v, .int .i64 k, .string b] w (GivesR2 r 2 w) := by
  obtain ⟨lv, wv, rfl, hl, hw⟩ := h.ex
  obtain ⟨la, lc, rfl⟩ := hl.len
  obtain ⟨wa, wc, rfl⟩ := hw.len
  have hd : ((b.size : Int) != 64) = true := by simp; omega
  have hne : ¬ (b.size : Int) = 64 := by omega
  go_enter Try.func44, Try.ntmps44
  go_wp2
  refine bodyPost_ret (v := .tuple #[.agg #[.slice la r.L.length lc, .slice wa r.W.length wc, .int .i64 r.armed], .int .i64 2]) (by simp [results, Try.results44, go_sem]) rfl ⟨_, rfl, RefAt.mk' (hl.up ?_) (hw.up ?_), ?_⟩
  all_goals (repeat (first | exact Below.refl _ _ | refine Below.setCell ?_ (by simp <;> omega) _ | refine Below.alloc ?_ (by simp <;> omega) _))
set_option maxRecDepth 100000 in
theorem rWriteOff_c (r : RDisk) (k : Int) (b : ByteArray) (hb : b.size = 64) (ho : offB k r.L.length = true) (v : Value) (w : World) (h : RefAt w v r) : Calls Try.prog 44 #[v, .int .i64 k, .string b] w (GivesR2 r 4 w) := by
  obtain ⟨lv, wv, rfl, hl, hw⟩ := h.ex
  obtain ⟨la, lc, rfl⟩ := hl.len
  obtain ⟨wa, wc, rfl⟩ := hw.len
  have hd : ((b.size : Int) != 64) = false := by simp; omega
  have hd2 : (b.size : Int) = 64 := by omega
  unfold offB at ho
  simp only [Bool.or_eq_true, decide_eq_true_eq] at ho
  by_cases h1 : k < 0
  · have k1 : decide (k < 0) = true := decide_eq_true h1
    go_enter Try.func44, Try.ntmps44
    go_wp2
    refine bodyPost_ret (v := .tuple #[.agg #[.slice la r.L.length lc, .slice wa r.W.length wc, .int .i64 r.armed], .int .i64 4]) (by simp [results, Try.results44, go_sem]) rfl ⟨_, rfl, RefAt.mk' (hl.up ?_) (hw.up ?_), ?_⟩
    all_goals (repeat (first | exact Below.refl _ _ | refine Below.setCell ?_ (by simp <;> omega) _ | refine Below.alloc ?_ (by simp <;> omega) _))
  · have h2 : (r.L.length : Int) ≤ k := ho.resolve_left h1
    have k1 : decide (k < 0) = false := decide_eq_false h1
    have k1' : 0 ≤ k := by omega
    clear h1 ho
    go_enter Try.func44, Try.ntmps44
    go_wp2
    refine bodyPost_ret (v := .tuple #[.agg #[.slice la r.L.length lc, .slice wa r.W.length wc, .int .i64 r.armed], .int .i64 4]) (by simp [results, Try.results44, go_sem]) rfl ⟨_, rfl, RefAt.mk' (hl.up ?_) (hw.up ?_), ?_⟩
    all_goals (repeat (first | exact Below.refl _ _ | refine Below.setCell ?_ (by simp <;> omega) _ | refine Below.alloc ?_ (by simp <;> omega) _))
set_option maxRecDepth 100000 in
theorem rWriteNo_c (r : RDisk) (k : Int) (b : ByteArray) (hb : b.size = 64) (ho : offB k r.L.length = false) (h0 : r.armed = 0) (v : Value) (w : World) (h : RefAt w v r) : Calls Try.prog 44 #[v, .int .i64 k, .string b] w (GivesR2 r 190 w) := by
  obtain ⟨lv, wv, rfl, hl, hw⟩ := h.ex
  obtain ⟨la, lc, rfl⟩ := hl.len
  obtain ⟨wa, wc, rfl⟩ := hw.len
  have hd : ((b.size : Int) != 64) = false := by simp; omega
  have hd2 : (b.size : Int) = 64 := by omega
  unfold offB at ho
  simp only [Bool.or_eq_false_iff, decide_eq_false_iff_not] at ho
  have k1 : decide (k < 0) = false := decide_eq_false ho.1
  have k1' : 0 ≤ k := by omega
  have k2 : k < (r.L.length : Int) := by omega
  obtain ⟨L, W, am⟩ := r
  simp only at h0 hl hw k2
  subst h0
  clear ho
  go_enter Try.func44, Try.ntmps44
  go_wp2
  refine bodyPost_ret (v := .tuple #[.agg #[.slice la L.length lc, .slice wa W.length wc, .int .i64 0], .int .i64 190]) (by simp [results, Try.results44, go_sem]) rfl ⟨_, rfl, RefAt.mk' (r := ⟨L, W, 0⟩) (hl.up ?_) (hw.up ?_), ?_⟩
  all_goals (repeat (first | exact Below.refl _ _ | refine Below.setCell ?_ (by simp <;> omega) _ | refine Below.alloc ?_ (by simp <;> omega) _))
theorem sl_rp1 (w : World) (k : Int) (b : ByteArray) : Sl (w.alloc (.cells #[.int .i64 k, .string b] 62)) 2 (.slice (some ⟨w.heap.size, 0, none⟩) 1 1) 1 [.int .i64 k, .string b] := by
  refine ⟨rfl, .inr ⟨_, 0, 1, rfl, Nat.le_refl _, by decide, fun j u hj => ?_⟩⟩
  rw [Nat.zero_add]
  exact (RowAt.new w _ _).cell (by simpa using hj)
theorem one_rp1 (k : Int) (b : ByteArray) : ∀ u ∈ [Value.int .i64 k, .string b], u.oneCell' = true := by
  intro u hu
  simp only [List.mem_cons, List.not_mem_nil, or_false] at hu
  rcases hu with rfl | rfl <;> rfl
theorem write_after {w w1 : World} {a b c : Value} (h : World.grownBy (((w.alloc (.cells #[a, b, c] 47)).alloc (.cells #[.slice none 0 0, .slice none 0 0, .int .i64 0] 47)).alloc (.cells #[] 62)) w1 (Value.slice (some ⟨w.heap.size + 1 + 1, 0, none⟩) 0 0).ownBlock) :
    RowAt w1 w.heap.size #[a, b, c] 47 ∧ RowAt w1 (w.heap.size + 1) #[.slice none 0 0, .slice none 0 0, .int .i64 0] 47 ∧ Below w.heap.size w w1 := by
  have hbg : But (· = w.heap.size + 1 + 1) _ w1 := But.grown h (fun r e => .inl (by cases e; rfl))
  have hb3 : Below w.heap.size w (((w.alloc (.cells #[a, b, c] 47)).alloc (.cells #[.slice none 0 0, .slice none 0 0, .int .i64 0] 47)).alloc (.cells #[] 62)) := ((below_alloc w _).alloc (by simp) _).alloc (by simp; omega) _
  refine ⟨(hbg.same _ (by simp; omega) (by omega)).trans (RowAt.alloc (RowAt.alloc (RowAt.new w _ _) _) _), ?_, hb3.trans (hbg.below (fun k e => by omega) hb3.size)⟩
  have := RowAt.alloc (RowAt.new (w.alloc (.cells #[a, b, c] 47)) #[.slice none 0 0, .slice none 0 0, .int .i64 0] 47) (.cells #[] 62)
  rw [World.size_alloc] at this
  exact (hbg.same _ this.lt (by omega)).trans this
set_option maxHeartbeats 2000000 in
set_option maxRecDepth 100000 in
theorem rWrite_c (r : RDisk) (k : Int) (s : Sec) (hW : r.W.length ≤ 100000) (ho : offB k r.L.length = false) (ha : -1 ≤ r.armed) (ha2 : r.armed ≤ 9223372036854775807) (h0 : ¬ r.armed = 0) (v : Value) (w : World) (h : RefAt w v r) :
    Calls Try.prog 44 #[v, .int .i64 k, strV s] w (GivesR2 ⟨r.L, r.W ++ [(k, s)], doneF r.armed⟩ 0 w) := by
  obtain ⟨lv, wv, rfl, hl, hw⟩ := h.ex
  obtain ⟨la, lc, rfl⟩ := hl.len
  obtain ⟨wa, wc, rfl⟩ := hw.len
  obtain ⟨b, hbe⟩ : ∃ b : ByteArray, b = ⟨s.1.toArray⟩ := ⟨_, rfl⟩
  have hb : b.size = 64 := by rw [hbe]; show s.1.toArray.size = 64; rw [List.size_toArray]; exact s.2
  rw [show strV s = .string b by rw [hbe]]
  have HBE := Lib.hid hbe
  clear hbe
  have hd : ((b.size : Int) != 64) = false := by simp; omega
  have hd2 : (b.size : Int) = 64 := by omega
  unfold offB at ho
  simp only [Bool.or_eq_false_iff, decide_eq_false_iff_not] at ho
  have k1 : decide (k < 0) = false := decide_eq_false ho.1
  have k1' : 0 ≤ k := by omega
  have k2 : k < (r.L.length : Int) := by omega
  have hmax : ∃ m, doneF r.armed = m ∧ ∀ ts t w, (Builtin.max_ ts t #[.int .i64 (-1), .int .i64 (r.armed - 1)]).run Try.prog w = .ok (.int .i64 m) w := by
    refine ⟨_, rfl, fun ts t w => ?_⟩
    rw [run_max_int2]
    unfold doneF
    by_cases h1 : -1 < r.armed - 1
    · rw [if_pos h1, show max (-1) (r.armed - 1) = r.armed - 1 by omega]
    · rw [if_neg h1, show max (-1) (r.armed - 1) = -1 by omega]
  obtain ⟨m, hm, hmx⟩ := hmax
  have HM := Lib.hid hm
  have hda : (r.armed == 0) = false := by simpa using h0
  have hb3 : Below w.heap.size w (((w.alloc (.cells #[.slice la r.L.length lc, .slice wa r.W.length wc, .int .i64 m] 47)).alloc (.cells #[.slice none 0 0, .slice none 0 0, .int .i64 0] 47)).alloc (.cells #[] 62)) := ((below_alloc w _).alloc (by simp) _).alloc (by simp; omega) _
  have hw3 := hw.up hb3
  have ho3 := own_empty ((w.alloc (.cells #[.slice la r.L.length lc, .slice wa r.W.length wc, .int .i64 m] 47)).alloc (.cells #[.slice none 0 0, .slice none 0 0, .int .i64 0] 47)) 62 (w.heap.size + 1 + 1) 2 (by simp)
  clear hm h0 ho
  go_enter Try.func44, Try.ntmps44
  go_wp2_with (first
    | (at_builtin; refine wpList_app (n := 0) (m := r.W.length) rfl (.tmp 31) (.tmp 33) 45 rfl slRp (w.heap.size + 1 + 1) rfl ho3 rfl hw3 (one_rp _) (by simp only [maxLen]; omega) (by omega) (by simp) ?_; intro v1 w1 hown hgrow _; obtain ⟨R0, R1, hB3⟩ := write_after hgrow; simp only [Nat.zero_add, List.nil_append] at hown; obtain ⟨va, vc, rfl⟩ := own_slice hown)
    | (at_builtin; refine wpList_app (n := r.W.length) (m := 1) rfl (.tmp 34) (.tmp 38) 45 rfl slRp (w.heap.size + 1 + 1) rfl (own_up hown (below_alloc w1 _)) rfl (sl_rp1 w1 k b) (one_rp1 k b) (by simp only [maxLen]; omega) (by omega) (by have := hB3.size; simp only [World.size_alloc]; have := R1.lt; omega) ?_; intro v2 w2 hown2 hgrow2 _; obtain ⟨vb, vd, rfl⟩ := own_slice hown2; have hbg2 : But (fun i => w.heap.size + 1 + 1 ≤ i) (w1.alloc (.cells #[.int .i64 k, .string b] 62)) w2 := But.grown hgrow2 (fun q hq => .inl (own_of_some hown hq).1); have hl1 := R1.lt; have hbg3 : But (fun i => w.heap.size + 1 + 1 ≤ i) w1 w2 := (But.alloc w1 _).trans hbg2; have S0 := (hbg3.same _ R0.lt (by omega)).trans R0; have S1 := (hbg3.same _ R1.lt (by omega)).trans R1; have k0 := RowAt.cell S0 (i := 0) rfl; have k1 := RowAt.cell S0 (i := 1) rfl; have k2 := RowAt.cell S0 (i := 2) rfl; have z1 := RowAt.fz S0 1; have q0 := RowAt.cell S1 (i := 0) rfl; have q1 := RowAt.cell S1 (i := 1) rfl; have q2 := RowAt.cell S1 (i := 2) rfl; have y0 := RowAt.fz S1 0; have y1 := RowAt.fz S1 1; have y2 := RowAt.fz S1 2; have HB2 := Lib.hid (hB3.trans (hbg3.below (fun i e => Nat.le_trans (by omega) e) hB3.size)); clear S0 S1 hgrow2 hbg2 hbg3))
  have bF : But (fun i => i = w.heap.size ∨ i = w.heap.size + 1) w2 ((((w2.setCell ⟨w.heap.size, 1, none⟩ (.slice vb (r.W.length + 1) vd)).setCell ⟨w.heap.size + 1, 0, none⟩ (.slice la r.L.length lc)).setCell ⟨w.heap.size + 1, 1, none⟩ (.slice vb (r.W.length + 1) vd)).setCell ⟨w.heap.size + 1, 2, none⟩ (.int .i64 m)) :=
    (((But.setCell (O := fun i => i = w.heap.size ∨ i = w.heap.size + 1) _ ⟨w.heap.size, 1, none⟩ _ (.inl (.inl rfl))).trans (But.setCell (O := fun i => i = w.heap.size ∨ i = w.heap.size + 1) _ ⟨w.heap.size + 1, 0, none⟩ _ (.inl (.inr rfl)))).trans (But.setCell (O := fun i => i = w.heap.size ∨ i = w.heap.size + 1) _ ⟨w.heap.size + 1, 1, none⟩ _ (.inl (.inr rfl)))).trans (But.setCell (O := fun i => i = w.heap.size ∨ i = w.heap.size + 1) _ ⟨w.heap.size + 1, 2, none⟩ _ (.inl (.inr rfl)))
  have o5 := own_but hown2 bF (fun q hq e => by have := (own_of_some hown2 hq).1; rcases e with e | e <;> omega)
  have hB5 : Below w.heap.size w _ := HB2.out.trans (bF.below (fun q e => by omega) HB2.out.size)
  refine bodyPost_ret (v := .tuple #[.agg #[.slice la r.L.length lc, .slice vb (r.W.length + 1) vd, .int .i64 m], .int .i64 0]) (by simp [results, Try.results44, go_sem, k0, k1, k2, q0, q1, q2]) rfl ⟨_, rfl, ?_, hB5⟩
  rw [HM.out]
  refine RefAt.mk' (r := ⟨r.L, r.W ++ [(k, s)], m⟩) (hl.up hB5) ?_
  have := Sl.of_own o5
  rw [HBE.out] at this
  rw [List.length_append, List.flatMap_append]
  exact this
end Go.Proofs.Ytekpjbablcoahaa
