/-
  Join.
-/
import Derived.Test.YteakpppabgbpeaaMemJ
namespace Go.Proofs.Yteakpppabgbpeaa
open Go.RowKit Go.Maps Mem
set_option linter.unusedSimpArgs false
set_option linter.unusedVariables false
attribute [local go_sem] Oper.semAt_some

namespace Mem
def joinE (E : List Mb) (l : List Mb) : List Mb := l.foldl tellF E
def joinN : List Mb → List Mb → Nat
  | _, [] => 0
  | E, m :: r => (if tellE E m = 0 then 1 else 0) + joinN (tellF E m) r
theorem joinE_snoc (E l : List Mb) (m : Mb) : joinE E (l ++ [m]) = tellF (joinE E l) m := by simp [joinE]
theorem joinN_snoc (m : Mb) : ∀ (l E : List Mb), joinN E (l ++ [m]) = joinN E l + if tellE (joinE E l) m = 0 then 1 else 0
  | [], E => by
    show (if tellE E m = 0 then 1 else 0) + 0 = 0 + _
    rw [Nat.add_zero, Nat.zero_add]; rfl
  | x :: l, E => by
    have h1 := joinN_snoc m l (tellF E x)
    show (if tellE E x = 0 then 1 else 0) + joinN (tellF E x) (l ++ [m]) = _
    rw [h1, ← Nat.add_assoc]
    rfl
theorem joinN_le : ∀ (l E : List Mb), joinN E l ≤ l.length
  | [], E => Nat.zero_le _
  | x :: l, E => by
    have h1 := joinN_le l (tellF E x)
    show (if tellE E x = 0 then 1 else 0) + joinN (tellF E x) l ≤ _
    simp only [List.length_cons]
    split <;> omega
end Mem
/-- What Join has behind k of the other's tellings. -/
structure JnI (w : World) (B1 M1 : Nat) (E : List Mb) (n : Int) (G : Nat → Prop) (W : World) : Prop where
  roll : RollAt W B1 M1 E
  cnt : RowAt W (w.heap.size + 1) #[.int .i64 n] 3
  ptr : W.cell? ⟨w.heap.size, 0, none⟩ = some (.pointer (some ⟨B1, 0, none⟩))
  but : But (· = M1) w W
  gm : G M1
  gn : G (w.heap.size + 1)
  low : ∀ j, G j → j = M1 ∨ w.heap.size < j
theorem JnI.abide {w : World} {B1 M1 : Nat} {E : List Mb} {n : Int} {B : Nat} (hB : w.heap.size + 1 < B) (hB1 : B1 < w.heap.size) : Abide B (JnI w B1 M1 E n) := by
  intro G P Q h hb
  exact ⟨h.roll.but hb (fun e => by omega) (fun e => e.2 h.gm), (hb.same _ h.cnt.lt (fun e => by omega)).trans h.cnt, hb.cell h.ptr (fun e => by omega), h.but.then hb (fun j hj e => by omega), h.gm, h.gn, h.low⟩

theorem JnI.stay {w : World} {B1 M1 : Nat} {E E' : List Mb} {n : Int} {G : Nat → Prop} {W w3 : World} (hi : JnI w B1 M1 E n G W) (hM : M1 < w.heap.size) (hr : RollAt w3 B1 M1 E') (hb : But (· = M1) W w3) :
    But G W w3 ∧ JnI w B1 M1 E' n (newG G W w3) w3 := by
  have hc := hi.cnt.lt
  exact ⟨hb.mono fun k _ e => by rw [e]; exact hi.gm, hr, (hb.same _ hi.cnt.lt (by omega)).trans hi.cnt, hb.cell hi.ptr (by omega), hi.but.then hb (fun _ _ h => h), newG_old hi.gm, newG_old hi.gn, fun j hj => by
    rcases hj with h | h
    · exact hi.low j h
    · exact .inr (by omega)⟩
theorem JnI.step {w : World} {B1 M1 : Nat} {E E' : List Mb} {n : Int} (n' : Int) {G : Nat → Prop} {W w3 : World} (hi : JnI w B1 M1 E n G W) (hM : M1 < w.heap.size) (hB : B1 < w.heap.size) (hr : RollAt w3 B1 M1 E') (hb : But (· = M1) W w3) :
    But G W (w3.setCell ⟨w.heap.size + 1, 0, none⟩ (.int .i64 n')) ∧ JnI w B1 M1 E' n' (newG G W (w3.setCell ⟨w.heap.size + 1, 0, none⟩ (.int .i64 n'))) (w3.setCell ⟨w.heap.size + 1, 0, none⟩ (.int .i64 n')) := by
  obtain ⟨h1, h2⟩ := hi.stay hM hr hb
  have hs : But (· = w.heap.size + 1) w3 (w3.setCell ⟨w.heap.size + 1, 0, none⟩ (.int .i64 n')) := But.setCell _ _ _ (.inl rfl)
  have hz := h1.size
  have hc := hi.cnt.lt
  exact ⟨h1.trans (hs.mono fun k _ e => by rw [e]; exact hi.gn), h2.roll.but hs (by omega) (by omega), h2.cnt.set 0 _, hs.cell h2.ptr (by omega), h2.but.then hs (fun j hj e => by omega), newG_old hi.gm, newG_old hi.gn, fun j hj => by
    rcases hj with h | h
    · exact hi.low j h
    · exact .inr (by omega)⟩

set_option maxHeartbeats 4000000 in
set_option maxRecDepth 100000 in
theorem rJoin_c {B1 M1 B2 M2 : Nat} {E1 E2 L2 : List Mb} (w : World) (h1 : RollAt w B1 M1 E1) (h2 : RollAt w B2 M2 E2) (hs : SrtOf E2 L2) (hE : E2.length ≤ 100000) :
    Calls Try.prog 17 #[.pointer (some ⟨B1, 0, none⟩), .pointer (some ⟨B2, 0, none⟩)] w fun en w' => en = .returned (.tuple #[.int .i64 (joinN E1 L2 : Nat), .int .i64 0]) ∧ RollAt w' B1 M1 (joinE E1 L2) ∧ But (· = M1) w w' := by
  have hb0 : Below w.heap.size w ((w.alloc (.cells #[.pointer (some ⟨B1, 0, none⟩)] 27)).alloc (.cells #[.int .i64 0] 3)) := (below_alloc w _).alloc (by simp) _
  have h1a := h1.below hb0
  have h2a := h2.below hb0
  have hc0 := cell_up (below_alloc _ (.cells #[.int .i64 0] 3)) (cell_new w (.pointer (some ⟨B1, 0, none⟩)) 27)
  have N0 := RowAt.new (w.alloc (.cells #[.pointer (some ⟨B1, 0, none⟩)] 27)) #[.int .i64 0] 3
  rw [World.size_alloc] at N0
  have hMl := h1.map.lt
  have hBl := h1.var.lt
  have hWf := Lib.hid (fun m (hm : m ∈ L2) => h2.wf m (hs.perm.mem_iff.1 hm))
  have hLl : L2.length ≤ 100000 := by rw [hs.len]; exact hE
  refine (callsIn_wide (n := 3)).1 ?_
  refine callsIn_of_wp_marks Try.func17 rfl trivial ?_ rfl
  simp only [Try.ntmps17, List.size_toArray, List.length_cons, List.length_nil, Nat.reduceAdd, Nat.reduceSub, Array.replicate_succ, Array.replicate_zero, List.push_toArray, List.append_toArray, List.nil_append, List.cons_append]
  refine wpIn_wide.2 ?_
  have T1 := Lib.hid True.intro
  go_wp2_with (first
    | (go_at_call 26; have T2 := T1; clear T2 T1; refine (rNone_c _ h1a).mono ?_; rintro en w1 ⟨rfl, rfl⟩)
    | (go_at_call 26; refine (rNone_c _ h2a).mono ?_; rintro en w1 ⟨rfl, rfl⟩)
    | (go_at_call 34; refine (rAllIt_c _ h2a hs hE).mono ?_; rintro en w1 ⟨C, v, rfl, hov, hC0, hC1, hvk, hb1⟩))
  have hz := hb1.size
  simp only [World.size_alloc] at hz hC0
  have I0 : JnI w B1 M1 E1 0 (fun q => q = M1 ∨ q = w.heap.size + 1) w1 :=
    ⟨h1a.below hb1, N0.below hb1, cell_up hb1 hc0, But.of_below (below_up hb0 hb1), .inl rfl, .inr rfl, fun j hj => by rcases hj with h | h; exact .inl h; exact .inr (by omega)⟩
  clear h1a h2a hc0 N0 hb0 hb1 hs
  refine wpIn_wide.1 (wp_range (n := 3) (S := fun q => q = C ∨ v.ownBlock = some q) (gf := 61) (lb := #[.pointer (some ⟨C, 0, none⟩)]) rfl enters_overM
    (overM_x L2 C L2.length v _ w1 hov ⟨.inl rfl, .inr fun k hk => .inr hk⟩) (Below.refl _ _) (fun _ => rfl)
    (fun q => q = M1 ∨ q = w.heap.size + 1) (fun k h => by omega) ?hS
    (fun k G W => JnI w B1 M1 (joinE E1 (L2.take k)) (joinN E1 (L2.take k) : Nat) G W)
    (fun k a' G W => (∃ V, a' = { tmps := #[.pointer (some ⟨B1, 0, none⟩), .pointer (some ⟨B2, 0, none⟩), .pointer (some ⟨w.heap.size, 0, none⟩), undef, .pointer (some ⟨w.heap.size + 1, 0, none⟩), .int .i64 0, .pointer (some ⟨V, 0, none⟩), .pointer (some ⟨B1, 0, none⟩), .bool false, .bool false, .pointer (some ⟨B2, 0, none⟩), .bool false, .bool false, .pointer (some ⟨B2, 0, none⟩), .func (.func 61) #[] #[.pointer (some ⟨C, 0, none⟩)], mbV (mbAt L2 k), undef, undef, undef, undef, undef, undef, undef], defers := [] } ∧ RowAt W V (mbC (mbAt L2 k)).toArray 24 ∧ G V) ∧ JnI w B1 M1 (joinE E1 (L2.take k)) (joinN E1 (L2.take k) : Nat) G W)
    (fun c k G W => False)
    (fun k => JnI.abide (by omega) hBl) ?abM (fun c k G A B h _ => h.elim) I0 ?assign ?body ?done ?stop)
  case hS =>
    rintro q (rfl | hq)
    · exact ⟨hC1, by omega⟩
    · have := hvk q hq; simp only [World.size_alloc] at this; exact ⟨this.2, by omega⟩
  case abM =>
    rintro k a' G A B ⟨⟨V, ha, hV, hG⟩, h⟩ hb
    exact ⟨⟨V, ha, (hb.same V hV.lt (fun e => e.2 hG)).trans hV, hG⟩, JnI.abide (by omega) hBl G A B h hb⟩
  case assign =>
    intro l2 k G W K hk hi hK
    gi_wp2
    refine hK _ _ (But.alloc _ _) ⟨⟨_, rfl, RowAt.new _ _ _, .inr ⟨Nat.le_refl _, by simp⟩⟩, ?_⟩
    have hs := hi.but.size
    exact ⟨hi.roll.below (below_alloc _ _), hi.cnt.below (below_alloc _ _), cell_up (below_alloc _ _) hi.ptr, hi.but.then (But.alloc (O := fun _ => False) _ _) (fun _ _ h => h.elim), newG_old hi.gm, newG_old hi.gn, fun j hj => by rcases hj with h | h; exact hi.low j h; have := hi.cnt.lt; exact .inr (by omega)⟩
  case body =>
    rintro l2 k a' G W hk hl2 _ hGl ⟨⟨V, rfl, hV, hGV⟩, hi⟩
    have hlk : k < L2.length := hk
    have htk : L2.take (k + 1) = L2.take k ++ [L2[k]] := List.take_succ_eq_append_getElem hlk
    have hwf := hWf.out L2[k] (List.getElem_mem hlk)
    have hle := Nat.le_trans (joinN_le (L2.take k) E1) (List.length_take_le k L2)
    have Hx := Lib.hid (show joinE E1 (L2.take (k + 1)) = tellF (joinE E1 (L2.take k)) L2[k] by rw [htk, joinE_snoc])
    have Hn := Lib.hid (show joinN E1 (L2.take (k + 1)) = joinN E1 (L2.take k) + if tellE (joinE E1 (L2.take k)) L2[k] = 0 then 1 else 0 by rw [htk, joinN_snoc])
    rw [mbAt_get hlk] at hV ⊢
    clear htk
    generalize L2[k] = m at *
    generalize joinE E1 (L2.take k) = E at *
    generalize joinN E1 (L2.take k) = n at *
    have hsz := hi.but.size
    have v0 := hV.cell (i := 0) (v := .int .u32 m.node) rfl
    have v1 := hV.cell (i := 1) (v := .int .u32 m.region) rfl
    have v2 := hV.cell (i := 2) (v := .int .u32 m.epoch) rfl
    have v3 := hV.cell (i := 3) (v := .bool m.in_) rfl
    have p0 := hi.ptr
    have hcl := mTell_c m hwf W hi.roll
    obtain ⟨e, he⟩ : ∃ e, tellE E m = e := ⟨_, rfl⟩
    rw [he] at hcl Hn
    have HI := Lib.hid hi
    have HE := Lib.hid he
    clear hi he
    by_cases h0 : e = 0
    · subst h0
      have Hn2 := Lib.hid (Hn.out.trans (by rw [if_pos rfl]) : joinN E1 (L2.take (k + 1)) = n + 1)
      clear Hn
      gi_wp2_with ((try refine ⟨trivial, ?_⟩); gi_at_call 12; refine (CallsIn.inRound l2 (callsIn_wide.2 hcl)).mono ?_; rintro en w3 ⟨rfl, hr3, hb3⟩; have c3 := HI.out.cnt; have c4 : RowAt w3 (w.heap.size + 1) #[.int .i64 (n : Nat)] 3 := (hb3.same _ c3.lt (by omega)).trans c3; have c5 := c4.cell (i := 0) (v := .int .i64 (n : Nat)) rfl; have f5 := c4.fz 0)
      rw [← Hx.out] at hr3
      obtain ⟨hs1, hs2⟩ := HI.out.step ((n : Int) + 1) hMl hBl hr3 hb3
      exact ⟨hs1, by show JnI w B1 M1 _ (joinN E1 (L2.take (k + 1)) : Nat) _ _; rw [Hn2.out]; exact hs2⟩
    · have Hn2 := Lib.hid (Hn.out.trans (by rw [if_neg h0]) : joinN E1 (L2.take (k + 1)) = n + 0)
      have h0e : (e == 0) = false := by simpa using h0
      clear Hn h0
      gi_wp2_with ((try refine ⟨trivial, ?_⟩); gi_at_call 12; refine (CallsIn.inRound l2 (callsIn_wide.2 hcl)).mono ?_; rintro en w3 ⟨rfl, hr3, hb3⟩)
      rw [← Hx.out] at hr3
      obtain ⟨hs1, hs2⟩ := HI.out.stay hMl hr3 hb3
      exact ⟨hs1, by show JnI w B1 M1 _ (joinN E1 (L2.take (k + 1)) : Nat) _ _; rw [Hn2.out]; exact hs2⟩
  case done =>
    rintro D G W hD hGD hi hK
    rw [List.take_of_length_le (Nat.le_refl _)] at hi
    have c0 := hi.cnt.cell (i := 0) (v := .int .i64 (joinN E1 L2 : Nat)) rfl
    have f0 := hi.cnt.fz 0
    have hN := joinN_le L2 E1
    have HK := Lib.hid hK
    have HI := Lib.hid hi
    have HsC := Lib.hid (hi.cnt.same (i := 0) (v := .int .i64 (joinN E1 L2 : Nat)) rfl)
    clear hi hK
    obtain ⟨N, hNe⟩ : ∃ N, joinN E1 L2 = N := ⟨_, rfl⟩
    rw [hNe] at c0 hN HI HsC
    have HNe := Lib.hid hNe
    clear hNe
    go_wp2
    rw [HsC.out]
    refine ⟨by simp, .inl ⟨_, _, rfl, run_takeDeferred HK.out, ?_⟩⟩
    have hp : But (· = D) W (W.putObj D (.deferred none)) := But.putObj _ _ _ (.inl rfl)
    have hz := HI.out.cnt.lt
    have R1 := (hp.same _ HI.out.cnt.lt (by omega)).trans HI.out.cnt
    have r0 := RowAt.cell R1 (i := 0) (v := .int .i64 (N : Nat)) rfl
    exact ⟨.tuple #[.int .i64 (N : Nat), .int .i64 0], by simp [results, Try.results17, go_sem, r0], by rw [HNe.out], HI.out.roll.but hp (by omega) (by omega), HI.out.but.then hp (fun j hj e => by omega)⟩
  case stop =>
    intro D c k G W hD hGD hk hi hK
    exact hi.elim
end Go.Proofs.Yteakpppabgbpeaa
