/-
  NmRd: several texts in one (bundle.py).
-/
import Derived.Test.YtpfgepgjpnekdaaDoorNmI10
namespace Go.Proofs.YtpfgepgjpnekdaaDoor
open Go.RowKit Cb
set_option linter.unusedSimpArgs false
set_option linter.unusedVariables false
attribute [local go_sem] Oper.semAt_some
theorem slU : SlT Tryd.prog 106 29 1 8 := SlT.mk' Tryd.underlying106 (z := .int .u64 0) (by kernel_rfl) rfl (by decide)
theorem slU1 (w : World) (k : Nat) (hk : k = w.heap.size) (m : Int) : Sl (w.alloc (.cells #[.int .u64 m] 29)) 1 (.slice (some ⟨k, 0, none⟩) 1 1) 1 [.int .u64 m] := by
  subst hk
  exact Sl.of_own (World.ownsRow_lit w #[.int .u64 m] 1 (size := 1) (e := 29) (Nat.le_refl _) (by decide) rfl)
abbrev uC (U : List Int) : List Value := U.map (Value.int .u64)
/-- The variable in block C holds a slice of one's own that reads U. -/
structure Acc (base C : Nat) (v : Value) (U : List Int) (W : World) : Prop where
  box : Boxed W C 106 v
  row : W.ownsRow base 29 1 v U.length (uC U)
  le : base ≤ C
theorem Acc.but {base C : Nat} {v : Value} {U : List Int} {W W' : World} (h : Acc base C v U W) {O : Nat → Prop} (hb : But O W W') (h1 : ¬ O C) (h2 : ∀ k, v.ownBlock = some k → ¬ O k) : Acc base C v U W' :=
  ⟨hb.boxed h.box h1, own_but h.row hb h2, h.le⟩
theorem Acc.up {base C : Nat} {v : Value} {U : List Int} {W W' : World} (h : Acc base C v U W) (hb : Below W.heap.size W W') : Acc base C v U W' := h.but (O := fun _ => False) (But.of_below hb) (fun e => e) (fun _ _ e => e)
/-- What is collected on the way: v0 was the slice at the beginning, in W0. -/
structure AccI (W0 : World) (base C : Nat) (v0 : Value) (U : List Int) (G : Nat → Prop) (W : World) : Prop where
  acc : ∃ v, Acc base C v U W ∧ (∀ j, v.ownBlock = some j → G j) ∧ (v.ownBlock = v0.ownBlock ∨ ∀ j, v.ownBlock = some j → W0.heap.size ≤ j)
  own : G C
  low : ∀ j, G j → j = C ∨ v0.ownBlock = some j ∨ W0.heap.size ≤ j
  but : But (fun k => k = C ∨ v0.ownBlock = some k) W0 W
theorem AccI.abide {W0 : World} {base C : Nat} {v0 : Value} {U : List Int} {B : Nat} (hB : W0.heap.size ≤ B) : Abide B (AccI W0 base C v0 U) := by
  intro G W W' h hb
  obtain ⟨v, h1, h2, h3⟩ := h.acc
  exact ⟨⟨v, h1.but hb (fun e => e.2 h.own) (fun j hj e => e.2 (h2 j hj)), h2, h3⟩, h.own, h.low, h.but.then hb (fun j hj e => by have := e.1; omega)⟩
theorem AccI.start {W0 : World} {base C : Nat} {v0 : Value} {U : List Int} (h : Acc base C v0 U W0) : AccI W0 base C v0 U (fun j => j = C ∨ v0.ownBlock = some j) W0 :=
  ⟨⟨v0, h, fun j hj => .inr hj, .inl rfl⟩, .inl rfl, fun j h => by rcases h with h | h; exact .inl h; exact .inr (.inl h), But.refl _ _⟩
theorem AccI.step {W0 : World} {base C : Nat} {v0 : Value} {U : List Int} {m : Int} {G : Nat → Prop} {W w1 : World} (hi : AccI W0 base C v0 U G W) {v v' : Value} (ha : Acc base C v U W) (hvG : ∀ j, v.ownBlock = some j → G j) (hv0 : v.ownBlock = v0.ownBlock ∨ ∀ j, v.ownBlock = some j → W0.heap.size ≤ j) {tmp : Obj} (hbase : base ≤ W.heap.size)
    (hown : w1.ownsRow base 29 1 v' (U.length + 1) (uC U ++ [.int .u64 m])) (hgrow : (W.alloc tmp).grownBy w1 v.ownBlock) (hat : v'.ownBlock = v.ownBlock ∨ v'.ownBlock = some (W.alloc tmp).heap.size) :
    Boxed w1 C 106 v ∧ But G W (w1.setCell ⟨C, 0, none⟩ v') ∧ AccI W0 base C v0 (U ++ [m]) (newG G W (w1.setCell ⟨C, 0, none⟩ v')) (w1.setCell ⟨C, 0, none⟩ v') := by
  obtain ⟨h1, h2, h3, _, _⟩ := ha.box.appended (by decide) ha.row hbase ha.le hown hgrow
  have hb1 : But G W w1 := (But.alloc W _).then (But.grown (O := G) hgrow (fun r e => .inl (hvG r e))) (fun _ _ h => h)
  have hb : But G W (w1.setCell ⟨C, 0, none⟩ v') := hb1.trans (But.setCell _ _ _ (.inl hi.own))
  refine ⟨h1, hb, ⟨v', ⟨h2, by rw [List.length_append]; simpa using h3, ha.le⟩, fun j hj => ?_, ?_⟩, newG_old hi.own, fun j hj => ?_, hi.but.then hb (fun j hj e => ?_)⟩
  · rcases hat with h | h
    · exact newG_old (hvG j (h ▸ hj))
    · have hlt := (own_of_some hown hj).2
      rw [h] at hj
      simp only [World.size_alloc, Option.some.injEq] at hj
      exact .inr ⟨by omega, by simpa using hlt⟩
  · have hs := hi.but.size
    rcases hat with h | h
    · rw [h]; exact hv0
    · refine .inr fun j hj => ?_
      rw [h] at hj
      simp only [World.size_alloc, Option.some.injEq] at hj
      omega
  · rcases hj with h | h
    · exact hi.low j h
    · have := hi.but.size; exact .inr (.inr (by omega))
  · rcases hi.low j e with h | h | h
    · exact .inl h
    · exact .inr h
    · omega
theorem us_take (us : List Int) (k : Nat) (hk : k < us.length) : us.take (k + 1) = us.take k ++ [usAt us k] := by
  rw [List.take_succ_eq_append_getElem hk]
  unfold usAt
  rw [List.getD_eq_getElem?_getD, List.getElem?_eq_getElem hk]; rfl
/-- What add tells. -/
def AddE (base C : Nat) (v : Value) (U : List Int) (w : World) (en : Ending) (w' : World) : Prop := en = .returned (.tuple #[]) ∧ But (fun k => k = C ∨ v.ownBlock = some k) w w' ∧ ∃ v', Acc base C v' U w' ∧ (v'.ownBlock = v.ownBlock ∨ ∀ j, v'.ownBlock = some j → w.heap.size ≤ j)
set_option maxHeartbeats 2000000 in
set_option maxRecDepth 100000 in
theorem addE_c (r : Rw) (L : List Rw) (n base C : Nat) (v0 : Value) (U : List Int) (w : World) (ha : Acc base C v0 U w) (hbase : base ≤ w.heap.size) (hl : Sl w 5 r.l n (L.flatMap rwC)) (hsh : ∀ r ∈ L, Shp r) (hs : Shp r) (hlow : n = 0 ∨ ∀ k, r.l.ownBlock = some k → k < base) (hlen : U.length + (usI r L).length ≤ 1000000) :
    Calls Tryd.prog 88 #[rwV r, .pointer (some ⟨C, 0, none⟩)] w (AddE base C v0 (U ++ usI r L) w) := by
  have hCl := (Array.getElem?_eq_some_iff.1 ha.box).1
  have hsh0 := hs
  have HU : ∀ N, usI r L = N → RowKit.Hid (usI r L = N) := fun _ h => Lib.hid h
  obtain ⟨k0, n0, ba, bn, bc, s0, la, ln, lc, rfl⟩ := hs
  have hq1 := below_alloc w (.cells (rwC ⟨k0, n0, .slice ba bn bc, s0, .slice la ln lc⟩).toArray 48)
  have B0 := RowAt.new w (rwC ⟨k0, n0, .slice ba bn bc, s0, .slice la ln lc⟩).toArray 48
  have huc := fun W => uints_c ⟨k0, n0, .slice ba bn bc, s0, .slice la ln lc⟩ hsh0 W
  obtain ⟨us, hus⟩ : ∃ us, usI ⟨k0, n0, .slice ba bn bc, s0, .slice la ln lc⟩ L = us := ⟨_, rfl⟩
  have hseq := fun W (hW : Below w.heap.size w W) X (hX : RowAt W X (rwC ⟨k0, n0, .slice ba bn bc, s0, .slice la ln lc⟩).toArray 48) => ui1_x ⟨k0, n0, .slice ba bn bc, s0, .slice la ln lc⟩ L X n (fun k => k = X ∨ k < base) W hX (hl.up hW) hsh hsh0 ⟨.inl rfl, hlow.imp id fun h k hk => .inr (h k hk)⟩
  rw [hus] at hlen hseq ⊢
  have HSQ := Lib.hid hseq
  have HUC := Lib.hid huc
  have HLEN := Lib.hid hlen
  clear hus HU hseq huc hl hsh hlow hlen hsh0
  refine (callsIn_wide (n := 3)).1 ?_
  refine callsIn_of_wp_marks Tryd.func88 rfl trivial ?_ rfl
  simp only [Tryd.ntmps88, List.size_toArray, List.length_cons, List.length_nil, Nat.reduceAdd, Nat.reduceSub, Array.replicate_succ, Array.replicate_zero, List.push_toArray, List.append_toArray, List.nil_append, List.cons_append]
  refine wpIn_wide.2 ?_
  have b0 := B0.cell (i := 0) rfl
  have b1 := B0.cell (i := 1) rfl
  have b2 := B0.cell (i := 2) rfl
  have b3 := B0.cell (i := 3) rfl
  have b4 := B0.cell (i := 4) rfl
  go_wp2_with fail
  refine (HUC.out _).mono ?_
  rintro en w2 ⟨rfl, hw2⟩
  have HWW := Lib.hid hw2
  clear hw2 b0 b1 b2 b3 b4
  go_wp2_with fail
  have hw2 := HWW.out
  clear HWW
  have hW2 : w2.heap.size = w.heap.size + 2 := by rw [hw2]; simp
  have hb2 : Below w.heap.size w w2 := by rw [hw2]; exact hq1.alloc (by simp) _
  have X2 : RowAt w2 (w.heap.size + 1) (rwC ⟨k0, n0, .slice ba bn bc, s0, .slice la ln lc⟩).toArray 48 := by
    rw [hw2]
    have := RowAt.new (w.alloc (.cells (rwC ⟨k0, n0, .slice ba bn bc, s0, .slice la ln lc⟩).toArray 48)) (rwC ⟨k0, n0, .slice ba bn bc, s0, .slice la ln lc⟩).toArray 48
    rwa [World.size_alloc] at this
  have hsq := HSQ.out w2 hb2 _ X2
  have h0 : AccI w base C v0 (U ++ us.take 0) (fun j => j = C ∨ v0.ownBlock = some j) w2 := by
    have := AccI.start (ha.up hb2)
    rw [List.take_zero, List.append_nil]
    exact ⟨⟨v0, ha.up hb2, fun j hj => .inr hj, .inl rfl⟩, .inl rfl, fun j h => by rcases h with h | h; exact .inl h; exact .inr (.inl h), But.of_below hb2⟩
  have HW2 := Lib.hid hW2
  have hown := fun k hk => own_of_some ha.row (k := k) hk
  have hCb := ha.le
  clear hw2 hq1 B0 X2
  refine wpIn_wide.1 (wp_range (n := 3) (S := fun k => k = w.heap.size + 1 ∨ k < base) (gf := 97) (lb := #[.pointer (some ⟨w.heap.size + 1, 0, none⟩)]) rfl enters_ui1
    hsq (Below.refl _ _) (fun _ => rfl) (fun j => j = C ∨ v0.ownBlock = some j) (fun k h => by rcases h with h | h; rw [HW2.out]; omega; have := (hown k h).2; rw [HW2.out]; omega)
    (fun k h => by
      rw [HW2.out]
      refine ⟨by rcases h with h | h <;> omega, fun e => ?_⟩
      rcases e with e | e
      · rcases h with h | h <;> omega
      · have h1 := (hown k e).1; have h2 := (hown k e).2; rcases h with h | h <;> omega)
    (fun k G W => AccI w base C v0 (U ++ us.take k) G W)
    (fun k a' G W => a' = { tmps := #[rwV ⟨k0, n0, .slice ba bn bc, s0, .slice la ln lc⟩, .pointer (some ⟨C, 0, none⟩), .pointer (some ⟨w.heap.size, 0, none⟩), .int .u64 (usAt us k), rwV ⟨k0, n0, .slice ba bn bc, s0, .slice la ln lc⟩, .func (.func 97) #[] #[.pointer (some ⟨w.heap.size + 1, 0, none⟩)], .int .u64 (usAt us k), undef, undef, undef, undef], defers := [] } ∧ AccI w base C v0 (U ++ us.take k) G W)
    (fun _ _ _ _ => False)
    (fun k => AccI.abide (by rw [HW2.out]; omega)) (fun k a' G A B h hb => ⟨h.1, AccI.abide (B := w2.heap.size) (by rw [HW2.out]; omega) G A B h.2 hb⟩) (fun c k G A B h _ => h.elim) h0 ?assign ?body ?done ?stop)
  case assign =>
    intro l2 k G W K hk hi hK
    simp only [usArgs]
    gi_wp2
    exact hK _ _ (But.refl _ _) ⟨rfl, by
      obtain ⟨v, h1, h2, h3⟩ := hi.acc
      exact ⟨⟨v, h1, fun j hj => newG_old (h2 j hj), h3⟩, newG_old hi.own, fun j hj => by rcases hj with h | h; exact hi.low j h; (have := hi.but.size; exact .inr (.inr (by omega))), hi.but⟩⟩
  case body =>
    rintro l2 k a' G W hk hl2 hl3 hGl ⟨rfl, hi⟩
    obtain ⟨v, h1, h2, h3⟩ := hi.acc
    have hsW := hi.but.size
    have hbW : base ≤ W.heap.size := by omega
    have hlE : (U ++ us.take k).length + 1 ≤ 1000000 := by have := HLEN.out; rw [List.length_append, List.length_take]; omega
    have HTK := Lib.hid (us_take us k hk)
    have cl := h1.box.cell
    have fl := h1.box.frozen
    have hro := h1.row
    obtain ⟨m, hm⟩ : ∃ m, usAt us k = m := ⟨_, rfl⟩
    rw [hm] at HTK ⊢
    obtain ⟨A, hA⟩ : ∃ A, U ++ us.take k = A := ⟨_, rfl⟩
    rw [hA] at h1 hi hro hlE
    have HA := Lib.hid hA
    obtain ⟨av, cv, rfl⟩ := own_slice hro
    clear hm hA
    gi_wp2_with (first
      | (gi_at_builtin; refine wpListIn_app rfl _ _ 106 rfl slU base rfl (hro.alloc _) rfl (slU1 _ _ rfl _) (by simp [Value.oneCell']) (by simp [maxLen]; omega) (by omega) (by simp; omega) ?_; intro v' w1 hown' hgrow _ hat; obtain ⟨g', cap', rfl⟩ := ownsRow_succ hown'; obtain ⟨hv1, hbut, hstep⟩ := hi.step h1 h2 h3 hbW hown' hgrow hat; have HS := Lib.hid hstep; have HB := Lib.hid hbut; clear hstep hbut; have hc1 := hv1.cell; have hf1 := hv1.frozen))
    exact ⟨HB.out, by show AccI w base C v0 (U ++ us.take (k + 1)) _ _; rw [HTK.out, ← List.append_assoc, HA.out]; exact HS.out⟩
  case done =>
    rintro D G W hD hGD hi hK
    have HK := Lib.hid hK
    rw [List.take_length] at hi
    obtain ⟨v, h1, h2, h3⟩ := hi.acc
    have HI := Lib.hid hi
    have H1 := Lib.hid h1
    go_wp2
    refine ⟨by simp, .inl ⟨_, _, rfl, run_takeDeferred HK.out, ?_⟩⟩
    have hp : But (· = D) W (W.putObj D (.deferred none)) := But.putObj _ _ _ (.inl rfl)
    have hDC : ¬ C = D := fun e => hGD (e ▸ HI.out.own)
    refine ⟨.tuple #[], by simp [results, Tryd.results88, go_sem], rfl, HI.out.but.then hp (fun j hj e => by rw [HW2.out] at hD; omega), v, H1.out.but hp hDC (fun j hj e => hGD (by rw [← e]; exact h2 j hj)), h3⟩
  case stop =>
    intro D c k G W _ _ _ hi _
    exact hi.elim
set_option maxHeartbeats 2000000 in
set_option maxRecDepth 100000 in
theorem addN_c (r : Rw) (L : List Rw) (n base C : Nat) (v0 : Value) (U : List Int) (w : World) (ha : Acc base C v0 U w) (hbase : base ≤ w.heap.size) (hl : Sl w 5 r.l n (L.flatMap rwC)) (hsh : ∀ r ∈ L, Shp r) (hs : Shp r) (hlow : n = 0 ∨ ∀ k, r.l.ownBlock = some k → k < base) (hlen : U.length + (usI r L).length ≤ 1000000) :
    Calls Tryd.prog 85 #[rwV r, .pointer (some ⟨C, 0, none⟩)] w (AddE base C v0 (U ++ usI r L) w) := by
  have hCl := (Array.getElem?_eq_some_iff.1 ha.box).1
  have hsh0 := hs
  have HU : ∀ N, usI r L = N → RowKit.Hid (usI r L = N) := fun _ h => Lib.hid h
  obtain ⟨k0, n0, ba, bn, bc, s0, la, ln, lc, rfl⟩ := hs
  have hq1 := below_alloc w (.cells (rwC ⟨k0, n0, .slice ba bn bc, s0, .slice la ln lc⟩).toArray 48)
  have B0 := RowAt.new w (rwC ⟨k0, n0, .slice ba bn bc, s0, .slice la ln lc⟩).toArray 48
  have huc := fun W => uints_c ⟨k0, n0, .slice ba bn bc, s0, .slice la ln lc⟩ hsh0 W
  obtain ⟨us, hus⟩ : ∃ us, usI ⟨k0, n0, .slice ba bn bc, s0, .slice la ln lc⟩ L = us := ⟨_, rfl⟩
  have hseq := fun W (hW : Below w.heap.size w W) X (hX : RowAt W X (rwC ⟨k0, n0, .slice ba bn bc, s0, .slice la ln lc⟩).toArray 48) => ui1_x ⟨k0, n0, .slice ba bn bc, s0, .slice la ln lc⟩ L X n (fun k => k = X ∨ k < base) W hX (hl.up hW) hsh hsh0 ⟨.inl rfl, hlow.imp id fun h k hk => .inr (h k hk)⟩
  rw [hus] at hlen hseq ⊢
  have HSQ := Lib.hid hseq
  have HUC := Lib.hid huc
  have HLEN := Lib.hid hlen
  clear hus HU hseq huc hl hsh hlow hlen hsh0
  refine (callsIn_wide (n := 3)).1 ?_
  refine callsIn_of_wp_marks Tryd.func85 rfl trivial ?_ rfl
  simp only [Tryd.ntmps85, List.size_toArray, List.length_cons, List.length_nil, Nat.reduceAdd, Nat.reduceSub, Array.replicate_succ, Array.replicate_zero, List.push_toArray, List.append_toArray, List.nil_append, List.cons_append]
  refine wpIn_wide.2 ?_
  have b0 := B0.cell (i := 0) rfl
  have b1 := B0.cell (i := 1) rfl
  have b2 := B0.cell (i := 2) rfl
  have b3 := B0.cell (i := 3) rfl
  have b4 := B0.cell (i := 4) rfl
  go_wp2_with fail
  refine (HUC.out _).mono ?_
  rintro en w2 ⟨rfl, hw2⟩
  have HWW := Lib.hid hw2
  clear hw2 b0 b1 b2 b3 b4
  go_wp2_with fail
  have hw2 := HWW.out
  clear HWW
  have hW2 : w2.heap.size = w.heap.size + 2 := by rw [hw2]; simp
  have hb2 : Below w.heap.size w w2 := by rw [hw2]; exact hq1.alloc (by simp) _
  have X2 : RowAt w2 (w.heap.size + 1) (rwC ⟨k0, n0, .slice ba bn bc, s0, .slice la ln lc⟩).toArray 48 := by
    rw [hw2]
    have := RowAt.new (w.alloc (.cells (rwC ⟨k0, n0, .slice ba bn bc, s0, .slice la ln lc⟩).toArray 48)) (rwC ⟨k0, n0, .slice ba bn bc, s0, .slice la ln lc⟩).toArray 48
    rwa [World.size_alloc] at this
  have hsq := HSQ.out w2 hb2 _ X2
  have h0 : AccI w base C v0 (U ++ us.take 0) (fun j => j = C ∨ v0.ownBlock = some j) w2 := by
    have := AccI.start (ha.up hb2)
    rw [List.take_zero, List.append_nil]
    exact ⟨⟨v0, ha.up hb2, fun j hj => .inr hj, .inl rfl⟩, .inl rfl, fun j h => by rcases h with h | h; exact .inl h; exact .inr (.inl h), But.of_below hb2⟩
  have HW2 := Lib.hid hW2
  have hown := fun k hk => own_of_some ha.row (k := k) hk
  have hCb := ha.le
  clear hw2 hq1 B0 X2
  refine wpIn_wide.1 (wp_range (n := 3) (S := fun k => k = w.heap.size + 1 ∨ k < base) (gf := 97) (lb := #[.pointer (some ⟨w.heap.size + 1, 0, none⟩)]) rfl enters_ui1
    hsq (Below.refl _ _) (fun _ => rfl) (fun j => j = C ∨ v0.ownBlock = some j) (fun k h => by rcases h with h | h; rw [HW2.out]; omega; have := (hown k h).2; rw [HW2.out]; omega)
    (fun k h => by
      rw [HW2.out]
      refine ⟨by rcases h with h | h <;> omega, fun e => ?_⟩
      rcases e with e | e
      · rcases h with h | h <;> omega
      · have h1 := (hown k e).1; have h2 := (hown k e).2; rcases h with h | h <;> omega)
    (fun k G W => AccI w base C v0 (U ++ us.take k) G W)
    (fun k a' G W => a' = { tmps := #[rwV ⟨k0, n0, .slice ba bn bc, s0, .slice la ln lc⟩, .pointer (some ⟨C, 0, none⟩), .pointer (some ⟨w.heap.size, 0, none⟩), .int .u64 (usAt us k), rwV ⟨k0, n0, .slice ba bn bc, s0, .slice la ln lc⟩, .func (.func 97) #[] #[.pointer (some ⟨w.heap.size + 1, 0, none⟩)], .int .u64 (usAt us k), undef, undef, undef, undef], defers := [] } ∧ AccI w base C v0 (U ++ us.take k) G W)
    (fun _ _ _ _ => False)
    (fun k => AccI.abide (by rw [HW2.out]; omega)) (fun k a' G A B h hb => ⟨h.1, AccI.abide (B := w2.heap.size) (by rw [HW2.out]; omega) G A B h.2 hb⟩) (fun c k G A B h _ => h.elim) h0 ?assign ?body ?done ?stop)
  case assign =>
    intro l2 k G W K hk hi hK
    simp only [usArgs]
    gi_wp2
    exact hK _ _ (But.refl _ _) ⟨rfl, by
      obtain ⟨v, h1, h2, h3⟩ := hi.acc
      exact ⟨⟨v, h1, fun j hj => newG_old (h2 j hj), h3⟩, newG_old hi.own, fun j hj => by rcases hj with h | h; exact hi.low j h; (have := hi.but.size; exact .inr (.inr (by omega))), hi.but⟩⟩
  case body =>
    rintro l2 k a' G W hk hl2 hl3 hGl ⟨rfl, hi⟩
    obtain ⟨v, h1, h2, h3⟩ := hi.acc
    have hsW := hi.but.size
    have hbW : base ≤ W.heap.size := by omega
    have hlE : (U ++ us.take k).length + 1 ≤ 1000000 := by have := HLEN.out; rw [List.length_append, List.length_take]; omega
    have HTK := Lib.hid (us_take us k hk)
    have cl := h1.box.cell
    have fl := h1.box.frozen
    have hro := h1.row
    obtain ⟨m, hm⟩ : ∃ m, usAt us k = m := ⟨_, rfl⟩
    rw [hm] at HTK ⊢
    obtain ⟨A, hA⟩ : ∃ A, U ++ us.take k = A := ⟨_, rfl⟩
    rw [hA] at h1 hi hro hlE
    have HA := Lib.hid hA
    obtain ⟨av, cv, rfl⟩ := own_slice hro
    clear hm hA
    gi_wp2_with (first
      | (gi_at_builtin; refine wpListIn_app rfl _ _ 106 rfl slU base rfl (hro.alloc _) rfl (slU1 _ _ rfl _) (by simp [Value.oneCell']) (by simp [maxLen]; omega) (by omega) (by simp; omega) ?_; intro v' w1 hown' hgrow _ hat; obtain ⟨g', cap', rfl⟩ := ownsRow_succ hown'; obtain ⟨hv1, hbut, hstep⟩ := hi.step h1 h2 h3 hbW hown' hgrow hat; have HS := Lib.hid hstep; have HB := Lib.hid hbut; clear hstep hbut; have hc1 := hv1.cell; have hf1 := hv1.frozen))
    exact ⟨HB.out, by show AccI w base C v0 (U ++ us.take (k + 1)) _ _; rw [HTK.out, ← List.append_assoc, HA.out]; exact HS.out⟩
  case done =>
    rintro D G W hD hGD hi hK
    have HK := Lib.hid hK
    rw [List.take_length] at hi
    obtain ⟨v, h1, h2, h3⟩ := hi.acc
    have HI := Lib.hid hi
    have H1 := Lib.hid h1
    go_wp2
    refine ⟨by simp, .inl ⟨_, _, rfl, run_takeDeferred HK.out, ?_⟩⟩
    have hp : But (· = D) W (W.putObj D (.deferred none)) := But.putObj _ _ _ (.inl rfl)
    have hDC : ¬ C = D := fun e => hGD (e ▸ HI.out.own)
    refine ⟨.tuple #[], by simp [results, Tryd.results85, go_sem], rfl, HI.out.but.then hp (fun j hj e => by rw [HW2.out] at hD; omega), v, H1.out.but hp hDC (fun j hj e => hGD (by rw [← e]; exact h2 j hj)), h3⟩
  case stop =>
    intro D c k G W _ _ _ hi _
    exact hi.elim
end Go.Proofs.YtpfgepgjpnekdaaDoor
