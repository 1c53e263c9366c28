/-
  The reference: lay, Write.
-/
import Derived.Test.YtekpjbablcoahaaDiskP
namespace Go.Proofs.Ytekpjbablcoahaa
open Go.RowKit Go.Maps Dk
set_option linter.unusedSimpArgs false
set_option linter.unusedVariables false

theorem slStr : SlT Try.prog 44 9 1 16 := SlT.mk' Try.underlying44 (z := .string ⟨#[]⟩) (by kernel_rfl) rfl (by decide)
theorem slRp : SlT Try.prog 45 62 2 24 := SlT.mk' Try.underlying45 (z := .agg #[.int .i64 0, .string ⟨#[]⟩]) (by kernel_rfl) rfl (by decide)
theorem own_empty (W : World) (e : TypeId) (N sz : Nat) (hN : W.heap.size = N) : (W.alloc (.cells #[] e)).ownsRow N e sz (.slice (some ⟨N, 0, none⟩) 0 0) 0 [] := by
  subst hN
  exact ⟨by simp, .inr ⟨W.heap.size, 0, #[], rfl, Nat.le_refl _, heap_alloc_new W _, Nat.le_refl _, by decide, by simp, by simp⟩⟩
theorem one_str (l : List Sec) : ∀ u ∈ l.map strV, u.oneCell' = true := by
  intro u hu
  obtain ⟨s, _, rfl⟩ := List.mem_map.1 hu
  rfl
theorem one_rp (l : List (Int × Sec)) : ∀ u ∈ l.flatMap rpC, u.oneCell' = true := by
  intro u hu
  obtain ⟨p, _, h⟩ := List.mem_flatMap.1 hu
  simp only [rpC, List.mem_cons, List.not_mem_nil, or_false] at h
  rcases h with rfl | rfl <;> rfl

theorem lay_after {w w1 : World} {a b c : Value} (h : World.grownBy (((w.alloc (.cells #[a, b, c] 47)).alloc (.cells #[.slice none 0 0, .slice none 0 0, .int .i64 0] 47)).alloc (.cells #[] 9)) w1 (Value.slice (some ⟨w.heap.size + 1 + 1, 0, none⟩) 0 0).ownBlock) :
    RowAt w1 w.heap.size #[a, b, c] 47 ∧ RowAt w1 (w.heap.size + 1) #[.slice none 0 0, .slice none 0 0, .int .i64 0] 47 ∧ Below w.heap.size w w1 := by
  have hbg : But (· = w.heap.size + 1 + 1) _ w1 := But.grown h (fun r e => .inl (by cases e; rfl))
  have hb3 : Below w.heap.size w (((w.alloc (.cells #[a, b, c] 47)).alloc (.cells #[.slice none 0 0, .slice none 0 0, .int .i64 0] 47)).alloc (.cells #[] 9)) := ((below_alloc w _).alloc (by simp) _).alloc (by simp; omega) _
  refine ⟨(hbg.same _ (by simp; omega) (by omega)).trans (RowAt.alloc (RowAt.alloc (RowAt.new w _ _) _) _), ?_, hb3.trans (hbg.below (fun k e => by omega) hb3.size)⟩
  have := RowAt.alloc (RowAt.new (w.alloc (.cells #[a, b, c] 47)) #[.slice none 0 0, .slice none 0 0, .int .i64 0] 47) (.cells #[] 9)
  rw [World.size_alloc] at this
  exact (hbg.same _ this.lt (by omega)).trans this
set_option maxHeartbeats 2000000 in
set_option maxRecDepth 100000 in
theorem rLay_c (k : Nat) (s : Sec) (r : RDisk) (hk : k < r.L.length) (hL : r.L.length ≤ 5000) (v : Value) (w : World) (h : RefAt w v r) : Calls Try.prog 55 #[v, .int .i64 (k : Int), strV s] w (GivesR ⟨r.L.set k s, r.W, r.armed⟩ w) := by
  obtain ⟨lv, wv, rfl, hl, hw⟩ := h.ex
  obtain ⟨la, lc, rfl⟩ := hl.len
  obtain ⟨wa, wc, rfl⟩ := hw.len
  have hki : (k : Int) < (r.L.length : Int) := by omega
  have HK := Lib.hid hk
  go_enter Try.func55, Try.ntmps55
  have hb3 : Below w.heap.size w (((w.alloc (.cells #[.slice la r.L.length lc, .slice wa r.W.length wc, .int .i64 r.armed] 47)).alloc (.cells #[.slice none 0 0, .slice none 0 0, .int .i64 0] 47)).alloc (.cells #[] 9)) := ((below_alloc w _).alloc (by simp) _).alloc (by simp; omega) _
  have hl3 := hl.up hb3
  have ho3 := own_empty ((w.alloc (.cells #[.slice la r.L.length lc, .slice wa r.W.length wc, .int .i64 r.armed] 47)).alloc (.cells #[.slice none 0 0, .slice none 0 0, .int .i64 0] 47)) 9 (w.heap.size + 1 + 1) 1 (by simp)
  go_wp2_with (at_builtin; refine wpList_app (n := 0) (m := r.L.length) rfl _ _ 44 rfl slStr (w.heap.size + 1 + 1) rfl ho3 rfl hl3 (one_str _) (by simp only [maxLen]; omega) (by omega) (by simp) ?_; intro v1 w1 hown hgrow _; obtain ⟨R0, R1, hB3⟩ := lay_after hgrow; simp only [Nat.zero_add, List.nil_append] at hown; obtain ⟨va, vc, rfl⟩ := own_slice hown; obtain ⟨gb, rfl, hg1, hg2⟩ := own_some hown (by omega); have kr := hown.cellAt k (by omega); rw [List.getElem?_map, List.getElem?_eq_getElem hk] at kr; simp only [Option.map_some] at kr; have zr := hown.frozenAt k; have o1 := own_but hown (But.setCell (O := (· = w.heap.size)) w1 ⟨w.heap.size, 0, none⟩ (.slice (some ⟨gb, 0, none⟩) r.L.length vc) (.inl rfl)) (fun q hq e => by cases hq; have e : gb = w.heap.size := e; omega); have hst := (o1.stored k (strV s)).1; rw [← List.map_set] at hst; have HST := Lib.hid hst; have k0 := R0.cell (i := 0) rfl; have k1 := R0.cell (i := 1) rfl; have k2 := R0.cell (i := 2) rfl; have z0 := R0.fz 0; have q0 := R1.cell (i := 0) rfl; have q1 := R1.cell (i := 1) rfl; have q2 := R1.cell (i := 2) rfl; have y0 := R1.fz 0; have y1 := R1.fz 1; have y2 := R1.fz 2; have hne0 : gb ≠ w.heap.size := (by omega); have hne1 : gb ≠ w.heap.size + 1 := (by omega); have HB3 := Lib.hid hB3; have HG := Lib.hid hg1; clear hgrow R0 R1 hst hB3 o1)
  have b5 : But (· = w.heap.size + 1) ((w1.setCell ⟨w.heap.size, 0, none⟩ (.slice (some ⟨gb, 0, none⟩) r.L.length vc)).setCell ⟨gb, k, none⟩ (strV s)) ((((w1.setCell ⟨w.heap.size, 0, none⟩ (.slice (some ⟨gb, 0, none⟩) r.L.length vc)).setCell ⟨gb, k, none⟩ (strV s)).setCell ⟨w.heap.size + 1, 0, none⟩ (.slice (some ⟨gb, 0, none⟩) r.L.length vc)).setCell ⟨w.heap.size + 1, 1, none⟩ (.slice wa r.W.length wc) |>.setCell ⟨w.heap.size + 1, 2, none⟩ (.int .i64 r.armed)) :=
    ((But.setCell (O := (· = w.heap.size + 1)) _ ⟨w.heap.size + 1, 0, none⟩ _ (.inl rfl)).trans (But.setCell (O := (· = w.heap.size + 1)) _ ⟨w.heap.size + 1, 1, none⟩ _ (.inl rfl))).trans (But.setCell (O := (· = w.heap.size + 1)) _ ⟨w.heap.size + 1, 2, none⟩ _ (.inl rfl))
  have o5 := own_but HST.out b5 (fun q hq e => by cases hq; have e : gb = w.heap.size + 1 := e; omega)
  have hB5 : Below w.heap.size w _ := ((HB3.out.setCell (p := ⟨w.heap.size, 0, none⟩) (Nat.le_refl _) (.slice (some ⟨gb, 0, none⟩) r.L.length vc)).setCell (p := ⟨gb, k, none⟩) (by simp only; omega) (strV s)).trans (b5.below (fun q e => by omega) (by simp; omega))
  refine bodyPost_ret (v := .agg #[.slice (some ⟨gb, 0, none⟩) r.L.length vc, .slice wa r.W.length wc, .int .i64 r.armed]) (by simp [results, Try.results55, go_sem, k0, k1, k2, q0, q1, q2, hne0, hne1]) rfl ⟨_, rfl, RefAt.mk' (r := ⟨r.L.set k s, r.W, r.armed⟩) ?_ (hw.up hB5), hB5⟩
  rw [List.length_set]
  exact Sl.of_own o5
end Go.Proofs.Ytekpjbablcoahaa
