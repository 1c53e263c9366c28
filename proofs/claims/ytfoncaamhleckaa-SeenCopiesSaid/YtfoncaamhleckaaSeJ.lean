/-
  The contract of Next.
-/
import Derived.Test.YtfoncaamhleckaaSeI
namespace Go.Proofs.Ytfoncaamhleckaa
open Go.RowKit Go.Maps Trc Sn
set_option linter.unusedSimpArgs false
set_option linter.unusedVariables false
attribute [local go_sem] Oper.semAt_some

namespace Sn
/-- The least time so far, and whether there is one. -/
def nxS (a : Int × Bool) (u : Int) : Int × Bool := if a.2 = true ∧ ¬ u < a.1 then a else (u, true)
def nxF (L : List (Sg × Int)) : Int × Bool := (L.map (·.2)).foldl nxS (0, false)
theorem nxF_succ {L : List (Sg × Int)} {k : Nat} (h : k < L.length) : nxF (L.take (k + 1)) = nxS (nxF (L.take k)) L[k].2 := by
  unfold nxF
  rw [List.take_succ_eq_append_getElem h, List.map_append, List.foldl_append]
  rfl
end Sn
set_option maxRecDepth 100000 in
theorem seLook_c (u n : Int) (b : Bool) {B N : Nat} (w : World) (hB : RowAt w B #[.bool b] 4) (hN : RowAt w N #[.int .u64 n] 23) (hne : B ≠ N) :
    Calls Try.prog 36 #[.int .u64 u, .pointer (some ⟨B, 0, none⟩), .pointer (some ⟨N, 0, none⟩)] w fun en w' => en = .returned (.tuple #[]) ∧ RowAt w' B #[.bool (nxS (n, b) u).2] 4 ∧ RowAt w' N #[.int .u64 (nxS (n, b) u).1] 23 ∧ But (fun j => j = B ∨ j = N) w w' := by
  have b0 := hB.cell (i := 0) (v := .bool b) rfl
  have n0 := hN.cell (i := 0) (v := .int .u64 n) rfl
  have fb := hB.fz 0
  have fn := hN.fz 0
  have hne' : N ≠ B := fun e => hne e.symm
  obtain ⟨r, hr⟩ : ∃ r, nxS (n, b) u = r := ⟨_, rfl⟩
  have HR := Lib.hid hr
  rw [hr]
  have N2 := hN.set 0 (.int .u64 u)
  have B2 : RowAt (w.setCell ⟨N, 0, none⟩ (.int .u64 u)) B #[.bool b] 4 := hB.other (by show B ≠ N; exact hne) _
  have b2 := B2.cell (i := 0) (v := .bool b) rfl
  have fb2 := B2.fz 0
  have B3 := B2.set 0 (.bool true)
  have N3 := N2.other (a := ⟨B, 0, none⟩) (by show N ≠ B; exact hne') (.bool true)
  have hb3 : But (fun j => j = B ∨ j = N) w ((w.setCell ⟨N, 0, none⟩ (.int .u64 u)).setCell ⟨B, 0, none⟩ (.bool true)) := (But.setCell w _ _ (.inl (.inr rfl))).trans (But.setCell _ _ _ (.inl (.inl rfl)))
  have HX := Lib.hid (And.intro B3 (And.intro N3 hb3))
  have HY := Lib.hid (And.intro hB hN)
  clear hr N2 B2 B3 N3 hb3 hB hN
  cases b with
  | false =>
    obtain rfl : r = (u, true) := by rw [← HR.out]; unfold nxS; rw [if_neg (by simp)]
    go_enter Try.func36, Try.ntmps36
    go_wp2
    go_end0
    exact ⟨rfl, HX.out.1, HX.out.2.1, HX.out.2.2⟩
  | true =>
    by_cases hu : u < n
    · obtain rfl : r = (u, true) := by rw [← HR.out]; unfold nxS; rw [if_neg (by simp; omega)]
      go_enter Try.func36, Try.ntmps36
      go_wp2
      go_end0
      exact ⟨rfl, HX.out.1, HX.out.2.1, HX.out.2.2⟩
    · obtain rfl : r = (n, true) := by rw [← HR.out]; unfold nxS; rw [if_pos (by simp; omega)]
      go_enter Try.func36, Try.ntmps36
      go_wp2
      go_end0
      exact ⟨rfl, HY.out.1, HY.out.2, But.refl _ _⟩
theorem enters_seLook : Enters Try.prog 36 := enters_of Try.func36 (by kernel_rfl) rfl
/-- What Next carries through its rounds. -/
structure Sn.NxI (w : World) (z s2 : Nat) (F : Value) (a : Int × Bool) (G : Nat → Prop) (W : World) : Prop where
  n : RowAt W w.heap.size #[.int .u64 a.1] 23
  b : RowAt W (w.heap.size + 1) #[.bool a.2] 4
  f : RowAt W z #[F] 83
  g : G w.heap.size ∧ G (w.heap.size + 1) ∧ ¬ G z
  below : Below w.heap.size w W
  size : s2 ≤ W.heap.size
theorem Sn.NxI.step {w : World} {z s2 : Nat} {F : Value} {a : Int × Bool} {G G' : Nat → Prop} {A B : World} (h : NxI w z s2 F a G A) {O : Nat → Prop} (hb : But O A B) (h1 : ¬ O w.heap.size) (h2 : ¬ O (w.heap.size + 1)) (h3 : ¬ O z) (hO : ∀ j, O j → w.heap.size ≤ j) (hg : G' w.heap.size ∧ G' (w.heap.size + 1) ∧ ¬ G' z) : NxI w z s2 F a G' B :=
  ⟨(hb.same _ h.n.lt h1).trans h.n, (hb.same _ h.b.lt h2).trans h.b, (hb.same _ h.f.lt h3).trans h.f, hg, h.below.trans (hb.below hO h.below.size), Nat.le_trans h.size hb.size⟩
theorem Sn.NxI.abide {w : World} {z s2 : Nat} {F : Value} {a : Int × Bool} {X : Nat} (hX : w.heap.size + 1 < X ∧ z < X) : Abide X (NxI w z s2 F a) :=
  fun G A B h hb => h.step hb (fun e => by have := e.1; omega) (fun e => by have := e.1; omega) (fun e => by have := e.1; omega) (fun j e => by have := e.1; omega) h.g
set_option maxHeartbeats 4000000 in
set_option maxRecDepth 100000 in
theorem seNext_c {T M : Nat} {most : Int} {E L : List (Sg × Int)} (w : World) (h : Tab w T M most E) (hL : SrtE E L) :
    Calls Try.prog 20 #[.pointer (some ⟨T, 0, none⟩)] w (Ret (.tuple #[.int .u64 (nxF L).1, .bool (nxF L).2]) w) := by
  have hmf : ∀ (fn : Fn) (first cap : Array Value) (w : World), (Instr.makeFunc fn first cap).run Try.prog w = .ok (.func fn first cap) w := fun _ _ _ _ => rfl
  have HLL := Lib.hid hL
  have HOK := Lib.hid h.ok
  have HLE := Lib.hid h.len
  obtain ⟨W0, hW0⟩ : ∃ W0, (w.alloc (.cells #[.int .u64 0] 23)).alloc (.cells #[.bool false] 4) = W0 := ⟨_, rfl⟩
  have hb0 : Below w.heap.size w W0 := by rw [← hW0]; exact (below_alloc w _).alloc (by simp) _
  have N0 : RowAt W0 w.heap.size #[.int .u64 0] 23 := by rw [← hW0]; exact (RowAt.new w _ _).alloc _
  have B0 : RowAt W0 (w.heap.size + 1) #[.bool false] 4 := by
    rw [← hW0]; have := RowAt.new (w.alloc (.cells #[.int .u64 0] 23)) #[.bool false] 4; rwa [World.size_alloc] at this
  have h0 := h.below hb0
  have HB0 := Lib.hid hb0
  clear h hL hb0
  refine (callsIn_wide (n := 3)).1 ?_
  refine callsIn_of_wp_marks Try.func20 rfl trivial ?_ rfl
  simp only [Try.ntmps20, List.size_toArray, List.length_cons, List.length_nil, Nat.reduceAdd, Nat.reduceSub, Array.replicate_succ, Array.replicate_zero, List.push_toArray, List.append_toArray, List.nil_append, List.cons_append]
  refine wpIn_wide.2 ?_
  go_wp2_with (first
    | (go_at_call 23; refine (seNone_c _ h0).mono ?_; rintro en w1 ⟨rfl, hb1⟩; have h1 := h0.below hb1; have N1 := N0.below hb1; have B1 := B0.below hb1; have F1 := RowAt.new w1 #[.func (.func 36) #[] #[.pointer (some ⟨w.heap.size + 1, 0, none⟩), .pointer (some ⟨w.heap.size, 0, none⟩)]] 83; have bF := below_alloc w1 (.cells #[.func (.func 36) #[] #[.pointer (some ⟨w.heap.size + 1, 0, none⟩), .pointer (some ⟨w.heap.size, 0, none⟩)]] 83); have HBF := Lib.hid bF; have h2 := h1.below bF; clear bF)
    | (go_at_call 33; refine (seAll_c _ h2).mono ?_; rintro en w2 ⟨C, M2, rfl, hC2, hM2, hCg, hMg, hb2⟩))
  have hF2 := F1.below hb2
  have hb1s := hb1.size
  have hb2s := hb2.size
  have hb0s := HB0.out.size
  have hN2 := (N1.below HBF.out).below hb2
  have hB2 := (B1.below HBF.out).below hb2
  have hBW := below_up (below_up (below_up HB0.out hb1) HBF.out) hb2
  have hW0s : W0.heap.size = w.heap.size + 2 := by rw [← hW0]; simp
  simp only [World.size_alloc] at hb2s
  have hM2l := hM2.lt
  have hC2l := World.block_lt_of_cell? w2 ⟨C, 0, none⟩ hC2
  simp only [World.size_alloc] at hCg hMg
  have I0 : NxI w w1.heap.size w2.heap.size (.func (.func 36) #[] #[.pointer (some ⟨w.heap.size + 1, 0, none⟩), .pointer (some ⟨w.heap.size, 0, none⟩)]) (nxF (L.take 0)) (fun j => j = w.heap.size ∨ j = w.heap.size + 1) w2 := ⟨hN2, hB2, hF2, ⟨.inl rfl, .inr rfl, fun e => by omega⟩, hBW, Nat.le_refl _⟩
  have hSX := seAll1_x (fun k => k = C ∨ k = M2) w2 hC2 hM2 HOK.out HLL.out HLE.out ⟨.inl rfl, .inr rfl⟩
  clear hF2 hb2 hN2 hB2 hBW hW0 h0 h1 h2 N0 B0 N1 B1 F1
  refine (wpIn_wide (n := 3)).1 (wp_range (n := 3) (S := fun k => k = C ∨ k = M2) (gf := 39) (lb := #[.pointer (some ⟨C, 0, none⟩)]) rfl enters_seAll1 hSX (Below.refl _ _) (fun k => rfl)
    (fun j => j = w.heap.size ∨ j = w.heap.size + 1) (fun j h => by omega) (fun j h => ⟨by rcases h with rfl | rfl <;> assumption, fun e => by rcases h with rfl | rfl <;> omega⟩)
    (fun k G wr => NxI w w1.heap.size w2.heap.size (.func (.func 36) #[] #[.pointer (some ⟨w.heap.size + 1, 0, none⟩), .pointer (some ⟨w.heap.size, 0, none⟩)]) (nxF (L.take k)) G wr)
    (fun k a' G wr => (∃ s u, (∀ h : k < L.length, u = L[k].2) ∧ a' = { tmps := #[.pointer (some ⟨T, 0, none⟩), undef, .pointer (some ⟨w.heap.size, 0, none⟩), .pointer (some ⟨w.heap.size + 1, 0, none⟩), .pointer (some ⟨w1.heap.size, 0, none⟩), undef, .int .u64 u, .pointer (some ⟨T, 0, none⟩), .bool false,
      .func (.func 36) #[] #[.pointer (some ⟨w.heap.size + 1, 0, none⟩), .pointer (some ⟨w.heap.size, 0, none⟩)], .pointer (some ⟨T, 0, none⟩), .func (.func 39) #[] #[.pointer (some ⟨C, 0, none⟩)], s, .int .u64 u, undef, undef, undef, undef, undef], defers := [] }) ∧ NxI w w1.heap.size w2.heap.size (.func (.func 36) #[] #[.pointer (some ⟨w.heap.size + 1, 0, none⟩), .pointer (some ⟨w.heap.size, 0, none⟩)]) (nxF (L.take k)) G wr)
    (fun c k G wr => False)
    (fun k => NxI.abide (by omega)) ?abM (fun c k G A B h _ => h.elim) I0 ?assign ?body ?done ?stop)
  case abM =>
    rintro k a' G A B ⟨ha, h⟩ hb
    exact ⟨ha, NxI.abide (by omega) G A B h hb⟩
  case assign =>
    intro l2 k G wr K hk hi hK
    rw [seArgs_at hk]
    gi_wp2
    refine hK _ _ (But.refl _ _) ⟨⟨_, _, fun h => rfl, rfl⟩, hi.step (O := fun _ => False) (But.refl _ _) (fun h => h) (fun h => h) (fun h => h) (fun j h => h.elim) ⟨newG_old hi.g.1, newG_old hi.g.2.1, newG_not hi.g.2.2 hi.f.lt⟩⟩
  case body =>
    rintro l2 k a' G wr hk hl2 _ hGl ⟨⟨s, u, hu, rfl⟩, hi⟩
    have hlk := seLook_c u (nxF (L.take k)).1 (nxF (L.take k)).2 wr hi.b hi.n (by omega)
    rw [show nxS ((nxF (L.take k)).1, (nxF (L.take k)).2) u = nxF (L.take (k + 1)) by rw [nxF_succ hk, ← hu hk]] at hlk
    clear hu
    have f0 := hi.f.cell (i := 0) rfl
    have hent := enters_seLook
    unfold Enters at hent
    obtain ⟨a2, ha2⟩ : ∃ a, nxF (L.take (k + 1)) = a := ⟨_, rfl⟩
    have HA2 := Lib.hid ha2
    rw [ha2] at hlk
    clear ha2
    gi_wp2_with ((try refine ⟨trivial, ?_⟩); refine (CallsIn.inRound l2 (callsIn_wide.2 hlk)).mono ?_; rintro en w3 ⟨rfl, hB3, hN3, hb3⟩)
    refine ⟨hb3.mono (fun j _ e => by rcases e with rfl | rfl; exact hi.g.2.1; exact hi.g.1), ?_⟩
    show NxI _ _ _ _ (nxF (L.take (k + 1))) _ _
    rw [HA2.out]
    exact ⟨hN3, hB3, (hb3.same _ hi.f.lt (fun e => by rcases e with e | e <;> (have h1 := hi.g; rw [e] at h1; first | exact h1.2.2 h1.2.1 | exact h1.2.2 h1.1))).trans hi.f, ⟨newG_old hi.g.1, newG_old hi.g.2.1, newG_not hi.g.2.2 hi.f.lt⟩, hi.below.trans (hb3.below (fun j e => by rcases e with rfl | rfl <;> omega) hi.below.size), Nat.le_trans hi.size hb3.size⟩
  case done =>
    rintro D G wr hD hGD hi hK
    rw [List.take_length] at hi
    obtain ⟨a, ha⟩ : ∃ a, nxF L = a := ⟨_, rfl⟩
    have HA := Lib.hid ha
    rw [ha] at hi
    have HK := Lib.hid hK
    clear ha hK
    go_wp2
    refine wp_onlyN ?_
    refine wp_region_pt (fun _ => False) (.q 0 (.q 1 (.c 2 (.c 3 .done)))) (by kernel_rfl) (by kernel_rfl) (by kernel_rfl) (by decide) onlyN_panic (fun Wd hBd => ?_)
    try simp only [Act.put, List.getElem_toArray, List.getElem_cons_zero, List.getElem_cons_succ, List.setIfInBounds_toArray, List.set_cons_zero, List.set_cons_succ]
    have hiD := hi.step (G' := G) (O := fun _ => False) (But.of_below hBd) (fun h => h) (fun h => h) (fun h => h) (fun j h => h.elim) hi.g
    have n1 := hiD.n.cell (i := 0) rfl
    have b1 := hiD.b.cell (i := 0) rfl
    have fn := hiD.n.fz 0
    have fb := hiD.b.fz 0
    have sn := hiD.n.same (i := 0) (v := .int .u64 a.1) rfl
    have sb := hiD.b.same (i := 0) (v := .bool a.2) rfl
    refine pt_q (v := ?_) rfl (by rfl) ?_ ?_
    rotate_left
    · intro w' hBw'
      have qL := hBw'.cell n1 (fun e => e)
      first | (go_simp; done) | (go_simp; with_reducible rfl)
    try simp only [Act.put, List.getElem_toArray, List.getElem_cons_zero, List.getElem_cons_succ, List.setIfInBounds_toArray, List.set_cons_zero, List.set_cons_succ]
    refine pt_q (v := ?_) rfl (by rfl) ?_ ?_
    rotate_left
    · intro w' hBw'
      have qL := hBw'.cell b1 (fun e => e)
      first | (go_simp; done) | (go_simp; with_reducible rfl)
    try simp only [Act.put, List.getElem_toArray, List.getElem_cons_zero, List.getElem_cons_succ, List.setIfInBounds_toArray, List.set_cons_zero, List.set_cons_succ]
    refine pt_c ?_
    refine pt_step rfl (by rfl) (fun K hK => ?_)
    go_simp
    refine hK.out _ _ (But.refl _ _) ?_
    clear hK K
    try simp only [Act.put, List.getElem_toArray, List.getElem_cons_zero, List.getElem_cons_succ, List.setIfInBounds_toArray, List.set_cons_zero, List.set_cons_succ]
    refine pt_c ?_
    refine pt_step rfl (by rfl) (fun K hK => ?_)
    go_simp
    refine hK.out _ _ (But.refl _ _) ?_
    clear hK K
    try simp only [Act.put, List.getElem_toArray, List.getElem_cons_zero, List.getElem_cons_succ, List.setIfInBounds_toArray, List.set_cons_zero, List.set_cons_succ]
    refine pt_doneN ?_
    go_wp2
    have hDl : D < Wd.heap.size := lt_of_block ((But.of_below (O := fun _ => False) hBd).obj HK.out (fun h => h))
    have hK2 := (But.of_below (O := fun _ => False) hBd).obj HK.out (fun h => h)
    have hp : But (· = D) Wd (Wd.putObj D (.deferred none)) := But.putObj _ _ _ (.inl rfl)
    have n2 := hp.cell n1 (by omega)
    have b2 := hp.cell b1 (by omega)
    have hbE : Below w.heap.size w (Wd.putObj D (.deferred none)) := hiD.below.trans (hp.below (fun j e => by omega) hiD.below.size)
    refine ⟨by simp, .inl ⟨_, _, rfl, run_takeDeferred hK2, ?_⟩⟩
    refine ⟨.tuple #[.int .u64 a.1, .bool a.2], by simp [results, Try.results20, go_sem, n2, b2], ?_⟩
    exact ⟨by rw [HA.out], hbE⟩
  case stop =>
    intro D c k G W hD hGD hk hi hK
    exact hi.elim
end Go.Proofs.Ytfoncaamhleckaa
