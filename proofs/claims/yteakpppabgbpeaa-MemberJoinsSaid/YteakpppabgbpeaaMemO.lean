/-
  The reference's Home, Has, Tell.
-/
import Derived.Test.YteakpppabgbpeaaMemN
import Derived.Test.YteakpppabgbpeaaMemM
import Derived.Test.YteakpppabgbpeaaPtApp
namespace Go.Proofs.Yteakpppabgbpeaa
open Go.RowKit Mem
set_option linter.unusedSimpArgs false
set_option linter.unusedVariables false

theorem one_mb (l : List Mb) : ∀ u ∈ l.flatMap mbC, u.oneCell' = true := by
  intro u hu
  obtain ⟨m, _, hm⟩ := List.mem_flatMap.1 hu
  simp only [List.mem_cons, List.mem_nil_iff, or_false] at hm
  rcases hm with rfl | rfl | rfl | rfl <;> rfl
theorem slOneM (w : World) (k : Nat) (hk : k = w.heap.size) (T : TypeId) (m : Mb) : Sl (w.alloc (.cells (mbC m).toArray T)) 4 (.slice (some ⟨k, 0, none⟩) 1 1) 1 ([m].flatMap mbC) := by
  subst hk
  refine ⟨rfl, .inr ⟨w.heap.size, 0, 1, rfl, by decide, by decide, fun j u hj => ?_⟩⟩
  exact (RowAt.new w (mbC m).toArray T).cell (i := 0 + j) (by simpa using hj)
theorem mb_drop : ∀ (l : List Mb) (k : Nat), (l.flatMap mbC).drop (k * 4) = (l.drop k).flatMap mbC
  | [], k => by simp
  | x :: l, 0 => by simp
  | x :: l, k + 1 => by
    rw [List.flatMap_cons, show (k + 1) * 4 = (mbC x).length + k * 4 by show _ = 4 + k * 4; omega, List.drop_append, List.drop_of_length_le (by omega), List.nil_append, show (mbC x).length + k * 4 - (mbC x).length = k * 4 by omega, mb_drop l k]
    rfl
theorem RowAt.but {w w' : World} {H : Nat} {cs : Array Value} {T : TypeId} (h : RowAt w H cs T) {O : Nat → Prop} (hb : But O w w') (hO : ¬ O H) : RowAt w' H cs T := (hb.same H h.lt hO).trans h
theorem own0 (w : World) {base k : Nat} (hb : base ≤ w.heap.size) (hk : k = w.heap.size) : (w.alloc (.cells #[] 24)).ownsRow base 24 4 (.slice (some ⟨k, 0, none⟩) 0 0) 0 [] := by
  subst hk
  exact World.ownsRow_lit w #[] 0 hb (by decide) rfl
theorem rfHome_c (L : List Mb) (u : Value) (n : Nat) (x : Int) (w : World) (hu : Sl w 4 u n (L.flatMap mbC)) (hL : n ≤ 100000) :
    Calls Try.prog 39 #[.agg #[u], .int .u32 x] w (Ret (.int .u32 (homeF L x)) w) := by
  have hu1 := hu.up (below_alloc w (.cells #[u] 40))
  have hu0 := cell_new w u 40
  have HB0 := Lib.hid (below_alloc w (.cells #[u] 40))
  have hH : homeF L x = (regsF L x).headD 0 := rfl
  have hR := rfRegions_c L u n x _ hu1 hL
  obtain ⟨a, c, rfl⟩ := hu.len
  rw [hH]
  generalize regsF L x = U at *
  cases U with
  | nil =>
    go_enter Try.func39, Try.ntmps39
    go_wp2_with (go_at_call 42; refine hR.mono ?_; rintro en w1 ⟨v, rfl, hown, hb⟩; obtain ⟨av, cv, rfl⟩ := own_slice hown)
    go_ret
    exact ⟨rfl, below_up HB0.out hb⟩
  | cons y r =>
    have hl : (y :: r).length = r.length + 1 := rfl
    have hl0 : ¬ ((r.length : Int) + 1 = 0) := by omega
    have hl1 : (((r.length : Int) + 1) == 0) = false := by simpa using hl0
    have hl2 : (0 : Int) < (r.length : Int) + 1 := by omega
    go_enter Try.func39, Try.ntmps39
    go_wp2_with (go_at_call 42; refine hR.mono ?_; rintro en w1 ⟨v, rfl, hown, hb⟩; rw [hl] at hown; obtain ⟨g, cv, rfl⟩ := ownsRow_succ hown; have hc := World.ownsRow.cells hown (g := g) rfl 0 (.int .u32 y) (by simp); simp only [Addr.add_lit, Nat.add_zero, Nat.zero_add] at hc)
    go_ret
    exact ⟨rfl, below_up HB0.out hb⟩

namespace Mem
def hasR (L : List Mb) (x y : Int) : Bool := findB L x y && (mbAt L (findK L x y)).in_
theorem findK_le (L : List Mb) (x y : Int) : findK L x y ≤ L.length := List.findIdx_le_length
theorem findB_lt {L : List Mb} {x y : Int} (h : findB L x y = true) : findK L x y < L.length := by
  rcases Nat.lt_or_ge (findK L x y) L.length with h1 | h1
  · exact h1
  · unfold findB at h; rw [List.getElem?_eq_none h1] at h; cases h
def rtE (L : List Mb) (m : Mb) : Int := if zB m = true then 2 else if findB L m.node m.region = true then (if outB m (mbAt L (findK L m.node m.region)) = true then 0 else 300) else if 512 ≤ L.length then 301 else 0
def rtF (L : List Mb) (m : Mb) : List Mb := if rtE L m = 0 then (if findB L m.node m.region = true then L.set (findK L m.node m.region) m else L.take (findK L m.node m.region) ++ m :: L.drop (findK L m.node m.region)) else L
end Mem
theorem rfHas_c (L : List Mb) (u : Value) (n : Nat) (x y : Int) (w : World) (hu : Sl w 4 u n (L.flatMap mbC)) (hL : n ≤ 100000) :
    Calls Try.prog 38 #[.agg #[u], .int .u32 x, .int .u32 y] w (Ret (.bool (hasR L x y)) w) := by
  have hln : L.length = n := Sl.recs (cells := mbC) (sz := 4) (fun _ => rfl) (by decide) hu
  have hu1 := hu.up (below_alloc w (.cells #[u] 40))
  have hu0 := cell_new w u 40
  have HB0 := Lib.hid (below_alloc w (.cells #[u] 40))
  have hF := rfFind_c L u n x y _ hu1 hL
  unfold findV at hF
  have hK := findK_le L x y
  have hKl := fun h => findB_lt (L := L) (x := x) (y := y) h
  unfold hasR
  generalize findK L x y = K at *
  generalize findB L x y = b at *
  cases b with
  | false =>
    obtain ⟨a, c, rfl⟩ := hu.len
    go_enter Try.func38, Try.ntmps38
    go_wp2_with (go_at_call 35; refine hF.mono ?_; rintro en w1 ⟨rfl, hb⟩)
    go_ret
    exact ⟨rfl, below_up HB0.out hb⟩
  | true =>
    have hKn : K < n := by have := hKl rfl; omega
    have hK' : K < L.length := by omega
    have hKi : (K : Int) < (n : Int) := by omega
    rw [mbAt_get hK']
    obtain ⟨a, c, rfl⟩ := hu.len
    obtain ⟨b0, off, rfl, hr⟩ := hu1.rec_at (cells := mbC) (sz := 4) (fun _ => rfl) hKn hK'
    have r3 := hr 3 (.bool L[K].in_) rfl
    generalize L[K].in_ = z at *
    clear hKl hr hln
    go_enter Try.func38, Try.ntmps38
    go_wp2_with (go_at_call 35; refine hF.mono ?_; rintro en w1 ⟨rfl, hb⟩; have c0 := cell_up hb hu0; have c3 := cell_up hb r3)
    go_ret
    exact ⟨rfl, below_up HB0.out hb⟩
/-- What the reference's Tell has at hand. -/
structure RtW (w w1 : World) (v : Value) (m : Mb) : Prop where
  below : Below w.heap.size w w1
  p : RowAt w1 w.heap.size #[v] 40
  c : RowAt w1 (w.heap.size + 1) (mbC m).toArray 24
  r : RowAt w1 (w.heap.size + 1 + 1) #[.slice none 0 0] 40
theorem RtW.up {w w1 w2 : World} {v : Value} {m : Mb} (h : RtW w w1 v m) (hb : Below w1.heap.size w1 w2) : RtW w w2 v m := ⟨below_up h.below hb, h.p.below hb, h.c.below hb, h.r.below hb⟩
theorem RtW.start (w : World) (v : Value) (m : Mb) : RtW w (((w.alloc (.cells #[v] 40)).alloc (.cells (mbC m).toArray 24)).alloc (.cells #[.slice none 0 0] 40)) v m := by
  have hB3 : Below w.heap.size w (((w.alloc (.cells #[v] 40)).alloc (.cells (mbC m).toArray 24)).alloc (.cells #[.slice none 0 0] 40)) := ((below_alloc w _).alloc (by simp) _).alloc (by simp; omega) _
  have h2 := RowAt.new (w.alloc (.cells #[v] 40)) (mbC m).toArray 24
  rw [World.size_alloc] at h2
  have h3 := RowAt.new ((w.alloc (.cells #[v] 40)).alloc (.cells (mbC m).toArray 24)) #[.slice none 0 0] 40
  rw [World.size_alloc, World.size_alloc] at h3
  exact ⟨hB3, ((RowAt.new w _ _).below (below_alloc _ _)).below (below_alloc _ _), h2.below (below_alloc _ _), h3⟩
/-- What the reference's Tell leaves. -/
def Told (L : List Mb) (m : Mb) (w : World) (en : Ending) (w' : World) : Prop := ∃ v', en = .returned (.tuple #[.agg #[v'], .int .i64 (rtE L m)]) ∧ Sl w' 4 v' (rtF L m).length ((rtF L m).flatMap mbC) ∧ Below w.heap.size w w'

set_option maxHeartbeats 8000000 in
set_option maxRecDepth 100000 in
theorem rfTell_c (L : List Mb) (v : Value) (n : Nat) (m : Mb) (w : World) (hv : Sl w 4 v n (L.flatMap mbC)) (hN : n ≤ 100000) :
    Calls Try.prog 18 #[.agg #[v], mbV m] w (Told L m w) := by
  have Hln := Lib.hid (Sl.recs (cells := mbC) (sz := 4) (fun _ => rfl) (by decide) hv)
  have hn := hv.n_max
  obtain ⟨av, cv, rfl⟩ := hv.len
  have V0 := RtW.start w (.slice av n cv) m
  have hE : rtE L m = (if zB m = true then 2 else if findB L m.node m.region = true then (if outB m (mbAt L (findK L m.node m.region)) = true then 0 else 300) else if 512 ≤ L.length then 301 else 0) := rfl
  have hF : rtF L m = (if rtE L m = 0 then (if findB L m.node m.region = true then L.set (findK L m.node m.region) m else L.take (findK L m.node m.region) ++ m :: L.drop (findK L m.node m.region)) else L) := rfl
  by_cases h1 : m.node = 0
  · have hz : zB m = true := by unfold zB; simp [h1]
    rw [hz, if_pos rfl] at hE
    have HE := Lib.hid hE
    have HF := Lib.hid (show rtF L m = L by rw [hF, HE.out]; rfl)
    have p0 := V0.p.cell (i := 0) (v := .slice av n cv) rfl
    have c0 := V0.c.cell (i := 0) (v := .int .u32 m.node) rfl
    rw [h1] at c0
    have fr := V0.r.fz 0
    have rr0 := V0.r.cell (i := 0) (v := .slice none 0 0) rfl
    have V1 := V0
    go_enter Try.func18, Try.ntmps18
    go_wp2
    have X3 := RowAt.new ((w.alloc (.cells #[.slice av n cv] 40)).alloc (.cells (mbC m).toArray 24)) #[.slice av n cv] 40
    rw [World.size_alloc, World.size_alloc] at X3
    have rf := X3.cell (i := 0) (v := .slice av n cv) rfl
    have hBf : Below w.heap.size w (((w.alloc (.cells #[.slice av n cv] 40)).alloc (.cells (mbC m).toArray 24)).alloc (.cells #[.slice av n cv] 40)) := ((below_alloc w _).alloc (by simp) _).alloc (by simp; omega) _
    exact bodyPost_ret (v := .tuple #[.agg #[.slice av n cv], .int .i64 2]) (by simp [results, Try.results18, go_sem, rf]) rfl ⟨.slice av n cv, by rw [HE.out], by rw [HF.out, Hln.out]; exact hv.up hBf, hBf⟩
  by_cases h2 : m.region = 0
  · have hz : zB m = true := by unfold zB; simp [h2]
    have h1e : (m.node == 0) = false := by simpa using h1
    rw [hz, if_pos rfl] at hE
    have HE := Lib.hid hE
    have HF := Lib.hid (show rtF L m = L by rw [hF, HE.out]; rfl)
    have p0 := V0.p.cell (i := 0) (v := .slice av n cv) rfl
    have c0 := V0.c.cell (i := 0) (v := .int .u32 m.node) rfl
    have c1 := V0.c.cell (i := 1) (v := .int .u32 m.region) rfl
    rw [h2] at c1
    have fr := V0.r.fz 0
    have rr0 := V0.r.cell (i := 0) (v := .slice none 0 0) rfl
    have V1 := V0
    go_enter Try.func18, Try.ntmps18
    go_wp2
    have X3 := RowAt.new ((w.alloc (.cells #[.slice av n cv] 40)).alloc (.cells (mbC m).toArray 24)) #[.slice av n cv] 40
    rw [World.size_alloc, World.size_alloc] at X3
    have rf := X3.cell (i := 0) (v := .slice av n cv) rfl
    have hBf : Below w.heap.size w (((w.alloc (.cells #[.slice av n cv] 40)).alloc (.cells (mbC m).toArray 24)).alloc (.cells #[.slice av n cv] 40)) := ((below_alloc w _).alloc (by simp) _).alloc (by simp; omega) _
    exact bodyPost_ret (v := .tuple #[.agg #[.slice av n cv], .int .i64 2]) (by simp [results, Try.results18, go_sem, rf]) rfl ⟨.slice av n cv, by rw [HE.out], by rw [HF.out, Hln.out]; exact hv.up hBf, hBf⟩
  have h1e : (m.node == 0) = false := by simpa using h1
  have h2e : (m.region == 0) = false := by simpa using h2
  have hz : zB m = false := by unfold zB; simp [h1, h2]
  rw [hz] at hE
  simp only [Bool.false_eq_true, if_false] at hE
  have hFi := rfFind_c L (.slice av n cv) n m.node m.region _ (hv.up V0.below) hN
  unfold findV at hFi
  have hKle := findK_le L m.node m.region
  have hKl := fun h => findB_lt (L := L) (x := m.node) (y := m.region) h
  have HF0 := Lib.hid hF
  have HE0 := Lib.hid hE
  clear hF hE h1 h2 hz
  obtain ⟨j, hj⟩ : ∃ j, findK L m.node m.region = j := ⟨_, rfl⟩
  obtain ⟨b, hb⟩ : ∃ b, findB L m.node m.region = b := ⟨_, rfl⟩
  rw [hj, hb] at hFi HF0 HE0
  rw [hj] at hKle hKl
  rw [hb] at hKl
  clear hj hb
  have p0 := V0.p.cell (i := 0) (v := .slice av n cv) rfl
  have c0 := V0.c.cell (i := 0) (v := .int .u32 m.node) rfl
  have c1 := V0.c.cell (i := 1) (v := .int .u32 m.region) rfl
  cases b with
  | true =>
    have hjl : j < L.length := hKl rfl
    have hjn : j < n := by have := Hln.out; omega
    have hji : (j : Int) < (n : Int) := by omega
    have hji0 : (0 : Int) ≤ (j : Int) := by omega
    obtain ⟨b0, off, rfl, hr⟩ := hv.rec_at (cells := mbC) (sz := 4) (fun _ => rfl) hjn hjl
    have hO := fun w => refOut_c m (L[j]) w
    have HE1 := HE0.out
    rw [if_pos rfl, mbAt_get hjl] at HE1
    generalize L[j] = x at *
    clear hKl hKle
    cases ho : outB m x with
    | false =>
      rw [ho] at hO HE1
      have HE := Lib.hid (show rtE L m = 300 from HE1)
      have HF := Lib.hid (show rtF L m = L by rw [HF0.out, HE.out]; rfl)
      clear ho HE1
      go_enter Try.func18, Try.ntmps18
      go_wp2_with (go_at_call 35; refine hFi.mono ?_; rintro en w1 ⟨rfl, hb⟩; have V1 := V0.up hb)
      refine wp_region_pi [(0, false), (1, false), (2, false), (3, false), (4, false), (5, false), (6, true), (7, false)] (by kernel_rfl) (by kernel_rfl) (by kernel_rfl) rfl (fun _ _ d _ _ h => by cases d <;> exact h) (fun Wd hBd => ?_)
      try simp only [Act.put, List.getElem_toArray, List.getElem_cons_zero, List.getElem_cons_succ, List.setIfInBounds_toArray, List.set_cons_zero, List.set_cons_succ]
      have V2 := V1.up hBd
      have c5 := fun w' (hb : Below Wd.heap.size Wd w') => cell_up hb (V2.p.cell (i := 0) (v := .slice (some ⟨b0, off, none⟩) n cv) rfl)
      have hr2 := rangeAt_up (below_up V1.below hBd) hr
      refine pi_load rfl (by rfl) 24 (.tmp 3) rfl (w.heap.size + 1) 0 rfl (mbC m) _ V2.c.range Try.underlying24 rfl (by kernel_rfl) ?_
      try simp only [Act.put, List.getElem_toArray, List.getElem_cons_zero, List.getElem_cons_succ, List.setIfInBounds_toArray, List.set_cons_zero, List.set_cons_succ]
      refine pi_q (v := ?_) rfl (by rfl) ?_ ?_
      rotate_left
      · intro w' hBw'
        first | (go_simp; done) | (go_simp; with_reducible rfl)
      try simp only [Act.put, List.getElem_toArray, List.getElem_cons_zero, List.getElem_cons_succ, List.setIfInBounds_toArray, List.set_cons_zero, List.set_cons_succ]
      refine pi_q (v := ?_) rfl (by rfl) ?_ ?_
      rotate_left
      · intro w' hBw'
        first | (go_simp; done) | (go_simp; with_reducible rfl)
      try simp only [Act.put, List.getElem_toArray, List.getElem_cons_zero, List.getElem_cons_succ, List.setIfInBounds_toArray, List.set_cons_zero, List.set_cons_succ]
      refine pi_q (v := ?_) rfl (by rfl) ?_ ?_
      rotate_left
      · intro w' hBw'
        first | (go_simp; done) | (go_simp; with_reducible rfl)
      try simp only [Act.put, List.getElem_toArray, List.getElem_cons_zero, List.getElem_cons_succ, List.setIfInBounds_toArray, List.set_cons_zero, List.set_cons_succ]
      refine pi_q (v := ?_) rfl (by rfl) ?_ ?_
      rotate_left
      · intro w' hBw'
        first | (go_simp; done) | (go_simp; with_reducible rfl)
      try simp only [Act.put, List.getElem_toArray, List.getElem_cons_zero, List.getElem_cons_succ, List.setIfInBounds_toArray, List.set_cons_zero, List.set_cons_succ]
      refine pi_load rfl (by rfl) 24 (.tmp 32) rfl b0 (off + j * 4) rfl (mbC x) _ hr2 Try.underlying24 rfl (by kernel_rfl) ?_
      try simp only [Act.put, List.getElem_toArray, List.getElem_cons_zero, List.getElem_cons_succ, List.setIfInBounds_toArray, List.set_cons_zero, List.set_cons_succ]
      refine pi_c rfl (by rfl) (fun K hK => ?_)
      go_simp
      refine (hO _).mono ?_
      rintro en w5 ⟨rfl, hb5⟩
      refine hK.out _ _ hb5 ?_
      clear hK K
      try simp only [Act.put, List.getElem_toArray, List.getElem_cons_zero, List.getElem_cons_succ, List.setIfInBounds_toArray, List.set_cons_zero, List.set_cons_succ]
      refine pi_q (v := ?_) rfl (by rfl) ?_ ?_
      rotate_left
      · intro w' hBw'
        first | (go_simp; done) | (go_simp; with_reducible rfl)
      try simp only [Act.put, List.getElem_toArray, List.getElem_cons_zero, List.getElem_cons_succ, List.setIfInBounds_toArray, List.set_cons_zero, List.set_cons_succ]
      refine pi_nil ?_
      have V3 := V2.up hb5
      have p3 := V3.p.cell (i := 0) (v := .slice (some ⟨b0, off, none⟩) n cv) rfl
      have fr := V3.r.fz 0
      have rr0 := V3.r.cell (i := 0) (v := .slice none 0 0) rfl
      go_wp2
      have rr := V3.r.cell (i := 0) (v := .slice none 0 0) rfl
      have hBf := V3.below.setCell (p := ⟨w.heap.size + 1 + 1, 0, none⟩) (by show w.heap.size ≤ w.heap.size + 1 + 1; omega) (.slice (some ⟨b0, off, none⟩) n cv)
      have rf := (V3.r.set 0 (.slice (some ⟨b0, off, none⟩) n cv)).cell (i := 0) (v := .slice (some ⟨b0, off, none⟩) n cv) rfl
      exact bodyPost_ret (v := .tuple #[.agg #[.slice (some ⟨b0, off, none⟩) n cv], .int .i64 300]) (by simp [results, Try.results18, go_sem, rr, rf]) rfl ⟨.slice (some ⟨b0, off, none⟩) n cv, by rw [HE.out], by rw [HF.out, Hln.out]; exact hv.up hBf, hBf⟩
    | true =>
      rw [ho] at hO HE1
      have HE := Lib.hid (show rtE L m = 0 from HE1)
      have HF := Lib.hid (show rtF L m = L.set j m by rw [HF0.out, HE.out]; rfl)
      clear ho HE1
      go_enter Try.func18, Try.ntmps18
      go_wp2_with (go_at_call 35; refine hFi.mono ?_; rintro en w1 ⟨rfl, hb⟩; have V1 := V0.up hb)
      refine wp_region_pi [(0, false), (1, false), (2, false), (3, false), (4, false), (5, false), (6, true), (7, false)] (by kernel_rfl) (by kernel_rfl) (by kernel_rfl) rfl (fun _ _ d _ _ h => by cases d <;> exact h) (fun Wd hBd => ?_)
      try simp only [Act.put, List.getElem_toArray, List.getElem_cons_zero, List.getElem_cons_succ, List.setIfInBounds_toArray, List.set_cons_zero, List.set_cons_succ]
      have V2 := V1.up hBd
      have c5 := fun w' (hb : Below Wd.heap.size Wd w') => cell_up hb (V2.p.cell (i := 0) (v := .slice (some ⟨b0, off, none⟩) n cv) rfl)
      have hr2 := rangeAt_up (below_up V1.below hBd) hr
      refine pi_load rfl (by rfl) 24 (.tmp 3) rfl (w.heap.size + 1) 0 rfl (mbC m) _ V2.c.range Try.underlying24 rfl (by kernel_rfl) ?_
      try simp only [Act.put, List.getElem_toArray, List.getElem_cons_zero, List.getElem_cons_succ, List.setIfInBounds_toArray, List.set_cons_zero, List.set_cons_succ]
      refine pi_q (v := ?_) rfl (by rfl) ?_ ?_
      rotate_left
      · intro w' hBw'
        first | (go_simp; done) | (go_simp; with_reducible rfl)
      try simp only [Act.put, List.getElem_toArray, List.getElem_cons_zero, List.getElem_cons_succ, List.setIfInBounds_toArray, List.set_cons_zero, List.set_cons_succ]
      refine pi_q (v := ?_) rfl (by rfl) ?_ ?_
      rotate_left
      · intro w' hBw'
        first | (go_simp; done) | (go_simp; with_reducible rfl)
      try simp only [Act.put, List.getElem_toArray, List.getElem_cons_zero, List.getElem_cons_succ, List.setIfInBounds_toArray, List.set_cons_zero, List.set_cons_succ]
      refine pi_q (v := ?_) rfl (by rfl) ?_ ?_
      rotate_left
      · intro w' hBw'
        first | (go_simp; done) | (go_simp; with_reducible rfl)
      try simp only [Act.put, List.getElem_toArray, List.getElem_cons_zero, List.getElem_cons_succ, List.setIfInBounds_toArray, List.set_cons_zero, List.set_cons_succ]
      refine pi_q (v := ?_) rfl (by rfl) ?_ ?_
      rotate_left
      · intro w' hBw'
        first | (go_simp; done) | (go_simp; with_reducible rfl)
      try simp only [Act.put, List.getElem_toArray, List.getElem_cons_zero, List.getElem_cons_succ, List.setIfInBounds_toArray, List.set_cons_zero, List.set_cons_succ]
      refine pi_load rfl (by rfl) 24 (.tmp 32) rfl b0 (off + j * 4) rfl (mbC x) _ hr2 Try.underlying24 rfl (by kernel_rfl) ?_
      try simp only [Act.put, List.getElem_toArray, List.getElem_cons_zero, List.getElem_cons_succ, List.setIfInBounds_toArray, List.set_cons_zero, List.set_cons_succ]
      refine pi_c rfl (by rfl) (fun K hK => ?_)
      go_simp
      refine (hO _).mono ?_
      rintro en w5 ⟨rfl, hb5⟩
      refine hK.out _ _ hb5 ?_
      clear hK K
      try simp only [Act.put, List.getElem_toArray, List.getElem_cons_zero, List.getElem_cons_succ, List.setIfInBounds_toArray, List.set_cons_zero, List.set_cons_succ]
      refine pi_q (v := ?_) rfl (by rfl) ?_ ?_
      rotate_left
      · intro w' hBw'
        first | (go_simp; done) | (go_simp; with_reducible rfl)
      try simp only [Act.put, List.getElem_toArray, List.getElem_cons_zero, List.getElem_cons_succ, List.setIfInBounds_toArray, List.set_cons_zero, List.set_cons_succ]
      refine pi_nil ?_
      have V3 := V2.up hb5
      have p3 := V3.p.cell (i := 0) (v := .slice (some ⟨b0, off, none⟩) n cv) rfl
      have hv3 := hv.up V3.below
      have hlt6 : (mbC m).toArray.size = 4 := rfl
      go_wp2_with (first
        | (at_builtin; refine wpList_app_at rfl _ _ 34 rfl slM w5.heap.size rfl (own0 w5 (Nat.le_refl _) rfl) rfl (hv3.up (below_alloc _ _)) (one_mb _) (by simp only [maxLen]; omega) (by omega) (by simp) ?_; intro v' w6 hown' hgrow _ hat; have hB6 := grown_below (below_alloc w5 _) hgrow (fun q hq => (own_of_some (own0 w5 (base := w5.heap.size) (Nat.le_refl _) rfl) hq).1); simp only [Nat.zero_add, List.nil_append] at hown'; obtain ⟨g6, c6, cur6, rfl, hg6, R6, hnc6, hcm6, hs6, ht6⟩ := own_row hown' (by omega); have V6 := V3.up hB6; have hth : w6.there g6 (j * 4) (mbC m).toArray.size := fun q hq => ⟨by rw [R6.cell (v := cur6[j * 4 + q]'(by omega)) (Array.getElem?_eq_getElem _)]; rfl, R6.fz _⟩; clear hgrow hat hown')
        | (refine wpList_load_mid rfl 24 (.tmp 3) rfl (w.heap.size + 1) 0 rfl (mbC m) _ V6.c.range Try.underlying24 rfl (by kernel_rfl) ?_)
        | (refine wpList_store_mid rfl 24 (.tmp 44) (.tmp 43) rfl g6 (j * 4) (mbC m).toArray rfl rfl hth (by kernel_rfl) (all_oneCell_toArray (fun u hu => one_mb [m] u (by simpa using hu))) ?_; have V7 : RowAt (w6.setCells g6 (j * 4) (mbC m).toArray.toList) g6 (setAllA cur6 (j * 4) (mbC m)) 24 := RowAt.sets (mbC m) (j * 4) R6; have hB7 : But (fun k => k = g6) w6 (w6.setCells g6 (j * 4) (mbC m).toArray.toList) := But.setCells (mbC m) w6 (j * 4) rfl; obtain ⟨W7, hW7⟩ : ∃ W, W = w6.setCells g6 (j * 4) (mbC m).toArray.toList := ⟨_, rfl⟩; rw [← hW7] at V7 hB7 ⊢; clear hW7 hth R6; have hsz5 := V3.r.lt; have r7 := (hB7.same _ V6.r.lt (by omega)).trans V6.r; have r7f := RowAt.fz r7 0; have r7c := RowAt.cell r7 (i := 0) (v := .slice none 0 0) rfl))
      have rA := (RowAt.set r7 0 (.slice (some ⟨g6, 0, none⟩) n c6)).cell (i := 0) (v := .slice (some ⟨g6, 0, none⟩) n c6) rfl
      have qA := ((below_up V3.below hB6).trans (hB7.below (fun k e => by have := V3.below.size; omega) (below_up V3.below hB6).size)).setCell (p := ⟨w.heap.size + 1 + 1, 0, none⟩) (by show w.heap.size ≤ w.heap.size + 1 + 1; omega) (.slice (some ⟨g6, 0, none⟩) n c6)
      have V8 := V7.other (a := ⟨w.heap.size + 1 + 1, 0, none⟩) (by show ¬ g6 = w.heap.size + 1 + 1; omega) (.slice (some ⟨g6, 0, none⟩) n c6)
      have hset := set_recG (cells := mbC) (sz := 4) (fun _ => rfl) (by decide) m hjl (by rw [Hln.out, hs6]; omega) (by rw [Hln.out]; exact ht6)
      rw [Hln.out] at hset
      have hsl := sl_of_rowG (cells := mbC) (sz := 4) (fun _ => rfl) V8 (by rw [List.length_set]; exact Hln.out) hnc6 hcm6 hset
      exact bodyPost_ret (v := .tuple #[.agg #[.slice (some ⟨g6, 0, none⟩) n c6], .int .i64 0]) (by simp [results, Try.results18, go_sem, rA]) rfl ⟨.slice (some ⟨g6, 0, none⟩) n c6, by rw [HE.out], by rw [HF.out, List.length_set, Hln.out]; exact hsl, qA⟩
  | false =>
    have HE1 := HE0.out
    rw [if_neg (by decide), Hln.out] at HE1
    clear hKl
    rw [Hln.out] at hKle
    by_cases h5 : 512 ≤ n
    · rw [if_pos h5] at HE1
      have HE := Lib.hid (show rtE L m = 301 from HE1)
      have HF := Lib.hid (show rtF L m = L by rw [HF0.out, HE.out]; rfl)
      have h5i : (512 : Int) ≤ (n : Int) := by omega
      clear HE1
      go_enter Try.func18, Try.ntmps18
      go_wp2_with (go_at_call 35; refine hFi.mono ?_; rintro en w1 ⟨rfl, hb⟩; have V1 := V0.up hb; have p1 := V1.p.cell (i := 0) (v := .slice av n cv) rfl; have fr := V1.r.fz 0; have rr0 := V1.r.cell (i := 0) (v := .slice none 0 0) rfl)
      have rr := V1.r.cell (i := 0) (v := .slice none 0 0) rfl
      have hBf := V1.below.setCell (p := ⟨w.heap.size + 1 + 1, 0, none⟩) (by show w.heap.size ≤ w.heap.size + 1 + 1; omega) (.slice av n cv)
      have rf := (V1.r.set 0 (.slice av n cv)).cell (i := 0) (v := .slice av n cv) rfl
      exact bodyPost_ret (v := .tuple #[.agg #[.slice av n cv], .int .i64 301]) (by simp [results, Try.results18, go_sem, rr, rf]) rfl ⟨.slice av n cv, by rw [HE.out], by rw [HF.out, Hln.out]; exact hv.up hBf, hBf⟩
    · rw [if_neg h5] at HE1
      have HE := Lib.hid (show rtE L m = 0 from HE1)
      have HF := Lib.hid (show rtF L m = L.take j ++ m :: L.drop j by rw [HF0.out, HE.out]; rfl)
      have h5i : ¬ (512 : Int) ≤ (n : Int) := by omega
      obtain ⟨a1, hs1, sl1⟩ := cut_h slM hv j (by omega)
      obtain ⟨a2, hs2, sl2⟩ := cut_l slM hv j (by omega)
      replace hs1 := fun w' => hs1 .i64 w'
      replace hs2 := fun w' => hs2 .i64 w'
      rw [rec_take (cells := mbC) (sz := 4) (fun _ => rfl)] at sl1
      rw [mb_drop] at sl2
      have hbl := sl2.blk (by decide)
      clear HE1 h5
      go_enter Try.func18, Try.ntmps18
      go_wp2_with (go_at_call 35; refine hFi.mono ?_; rintro en w1 ⟨rfl, hb⟩; have V1 := V0.up hb; have p1 := V1.p.cell (i := 0) (v := .slice av n cv) rfl)
      have hwl := V1.below.size
      clear hFi V0 p0 c0 c1 p1 hb
      refine wp_region_pt (fun i => i = w.heap.size + 1 + 1 ∨ w1.heap.size ≤ i) (.q 1 (.q 2 (.q 3 (.q 4 (.q 6 (.q 9 (.q 10 (.q 11 (.q 12 (.f 0 (.f 5 (.c 7 (.c 8 (.c 13 (.q 14 (.c 15 (.q 16 .done)))))) 7 (.c 5 (.c 8 (.c 13 (.q 14 (.c 15 (.q 16 .done))))))) 7 (.c 0 (.c 5 (.c 8 (.c 13 (.q 14 (.c 15 (.q 16 .done))))))))))))))))) (by kernel_rfl) (by kernel_rfl) (by kernel_rfl) (by decide) (fun _ _ d _ _ h => by cases d <;> exact h) (fun Wd hBd => ?_)
      try simp only [Act.put, List.getElem_toArray, List.getElem_cons_zero, List.getElem_cons_succ, List.setIfInBounds_toArray, List.set_cons_zero, List.set_cons_succ]
      have hrlt := V1.r.lt
      have V2 := V1.up hBd
      have hsz := hBd.size
      have cp : ∀ w', But (fun i => i = w.heap.size + 1 + 1 ∨ w1.heap.size ≤ i) Wd w' → w'.cell? ⟨w.heap.size, 0, none⟩ = some (.slice av n cv) := fun w' hb => hb.cell (V2.p.cell (i := 0) rfl) (by omega)
      refine pt_q (v := ?_) rfl (by rfl) ?_ ?_
      rotate_left
      · intro w' hBw'
        first | (go_simp; done) | (go_simp; with_reducible rfl)
      try simp only [Act.put, List.getElem_toArray, List.getElem_cons_zero, List.getElem_cons_succ, List.setIfInBounds_toArray, List.set_cons_zero, List.set_cons_succ]
      refine pt_q (v := ?_) rfl (by rfl) ?_ ?_
      rotate_left
      · intro w' hBw'
        first | (go_simp; done) | (go_simp; with_reducible rfl)
      try simp only [Act.put, List.getElem_toArray, List.getElem_cons_zero, List.getElem_cons_succ, List.setIfInBounds_toArray, List.set_cons_zero, List.set_cons_succ]
      refine pt_q (v := ?_) rfl (by rfl) ?_ ?_
      rotate_left
      · intro w' hBw'
        first | (go_simp; done) | (go_simp; with_reducible rfl)
      try simp only [Act.put, List.getElem_toArray, List.getElem_cons_zero, List.getElem_cons_succ, List.setIfInBounds_toArray, List.set_cons_zero, List.set_cons_succ]
      refine pt_q (v := ?_) rfl (by rfl) ?_ ?_
      rotate_left
      · intro w' hBw'
        first | (go_simp; done) | (go_simp; with_reducible rfl)
      try simp only [Act.put, List.getElem_toArray, List.getElem_cons_zero, List.getElem_cons_succ, List.setIfInBounds_toArray, List.set_cons_zero, List.set_cons_succ]
      refine pt_load rfl (by rfl) 24 (.tmp 3) rfl (w.heap.size + 1) 0 rfl (mbC m) _ V2.c.range (by omega) Try.underlying24 rfl (by kernel_rfl) ?_
      try simp only [Act.put, List.getElem_toArray, List.getElem_cons_zero, List.getElem_cons_succ, List.setIfInBounds_toArray, List.set_cons_zero, List.set_cons_succ]
      refine pt_q (v := ?_) rfl (by rfl) ?_ ?_
      rotate_left
      · intro w' hBw'
        first | (go_simp; done) | (go_simp; with_reducible rfl)
      try simp only [Act.put, List.getElem_toArray, List.getElem_cons_zero, List.getElem_cons_succ, List.setIfInBounds_toArray, List.set_cons_zero, List.set_cons_succ]
      refine pt_q (v := ?_) rfl (by rfl) ?_ ?_
      rotate_left
      · intro w' hBw'
        first | (go_simp; done) | (go_simp; with_reducible rfl)
      try simp only [Act.put, List.getElem_toArray, List.getElem_cons_zero, List.getElem_cons_succ, List.setIfInBounds_toArray, List.set_cons_zero, List.set_cons_succ]
      refine pt_q (v := ?_) rfl (by rfl) ?_ ?_
      rotate_left
      · intro w' hBw'
        first | (go_simp; done) | (go_simp; with_reducible rfl)
      try simp only [Act.put, List.getElem_toArray, List.getElem_cons_zero, List.getElem_cons_succ, List.setIfInBounds_toArray, List.set_cons_zero, List.set_cons_succ]
      refine pt_q (v := ?_) rfl (by rfl) ?_ ?_
      rotate_left
      · intro w' hBw'
        first | (go_simp; done) | (go_simp; with_reducible rfl)
      try simp only [Act.put, List.getElem_toArray, List.getElem_cons_zero, List.getElem_cons_succ, List.setIfInBounds_toArray, List.set_cons_zero, List.set_cons_succ]
      refine pt_f ?_ ?_
      · refine pt_step rfl (by rfl) (fun K hK => ?_)
        go_simp
        refine hK.out _ _ (But.alloc _ _) ?_
        clear hK K
        try simp only [Act.put, List.getElem_toArray, List.getElem_cons_zero, List.getElem_cons_succ, List.setIfInBounds_toArray, List.set_cons_zero, List.set_cons_succ]
        have hE := below_alloc Wd (.cells #[] 24)
        have h0 : (Wd.alloc (.cells #[] 24)).ownsRow w1.heap.size 24 4 (.slice (some ⟨Wd.heap.size, 0, none⟩) 0 0) 0 [] := World.ownsRow_lit Wd #[] 0 hBd.size (by decide) rfl
        have hg0 := fun q hq => (own_of_some h0 (k := q) hq).1
        have z0 := hE.size
        refine pt_f ?_ ?_
        · refine pt_app2 rfl (by rfl) _ _ 34 rfl slM w1.heap.size rfl h0 rfl ((sl1.up V2.below).up hE) (one_mb _) (by simp only [maxLen]; omega) (by omega) (by first | omega | (simp only [World.size_alloc] at *; omega)) (fun i hi => .inr hi) (fun v5 w5 h5 hb5 => ?_)
          try simp only [Act.put, List.getElem_toArray, List.getElem_cons_zero, List.getElem_cons_succ, List.setIfInBounds_toArray, List.set_cons_zero, List.set_cons_succ]
          have r5 := (V2.r.below hE).but hb5 (fun e => by have := hg0 _ e; omega)
          have l5 := ((sl2.up V2.below).up hE).but hb5 (hbl.imp id fun h q hq e => by have := h q hq; have := hg0 _ e; omega)
          have z5 := hb5.size
          have q5 := (below_up V2.below hE).trans (hb5.below (fun i e => by have := hg0 _ e; omega) (by omega))
          refine pt_c ?_
          refine pt_step rfl (by rfl) (fun K hK => ?_)
          go_simp
          refine hK.out _ _ (But.alloc _ _) ?_
          clear hK K
          try simp only [Act.put, List.getElem_toArray, List.getElem_cons_zero, List.getElem_cons_succ, List.setIfInBounds_toArray, List.set_cons_zero, List.set_cons_succ]
          have hX := below_alloc w5 (.cells (mbC m).toArray 24)
          have s7 := slOneM w5 _ rfl 24 m
          replace h5 := own_up h5 hX
          have r7 := r5.below hX
          have l7 := l5.up hX
          have z7 := hX.size
          have q7 := below_up q5 hX
          refine pt_c ?_
          refine pt_app2 rfl (by rfl) _ _ 34 rfl slM w1.heap.size rfl h5 rfl (s7) (one_mb _) (by simp only [maxLen]; omega) (by omega) (by first | omega | (simp only [World.size_alloc] at *; omega)) (fun i hi => .inr hi) (fun v8 w8 h8 hb8 => ?_)
          try simp only [Act.put, List.getElem_toArray, List.getElem_cons_zero, List.getElem_cons_succ, List.setIfInBounds_toArray, List.set_cons_zero, List.set_cons_succ]
          have hg8 := fun q hq => (own_of_some h5 (k := q) hq).1
          have r8 := r7.but hb8 (fun e => by have := hg8 _ e; omega)
          have l8 := l7.but hb8 (hbl.imp id fun h q hq e => by have := h q hq; have := hg8 _ e; omega)
          have z8 := hb8.size
          have q8 := q7.trans (hb8.below (fun i e => by have := hg8 _ e; omega) q7.size)
          refine pt_c ?_
          refine pt_app2 rfl (by rfl) _ _ 34 rfl slM w1.heap.size rfl h8 rfl (l8) (one_mb _) (by simp only [maxLen]; omega) (by omega) (by first | omega | (simp only [World.size_alloc] at *; omega)) (fun i hi => .inr hi) (fun v9 w9 h9 hb9 => ?_)
          try simp only [Act.put, List.getElem_toArray, List.getElem_cons_zero, List.getElem_cons_succ, List.setIfInBounds_toArray, List.set_cons_zero, List.set_cons_succ]
          have hg9 := fun q hq => (own_of_some h8 (k := q) hq).1
          have r9 := r8.but hb9 (fun e => by have := hg9 _ e; omega)
          have z9 := hb9.size
          have q9 := q8.trans (hb9.below (fun i e => by have := hg9 _ e; omega) q8.size)
          obtain ⟨a9, c9, rfl⟩ := own_slice h9
          obtain ⟨N9, hN9⟩ : ∃ N, N = 0 + j + 1 + (n - j) := ⟨_, rfl⟩
          rw [← hN9] at h9
          try rw [← hN9]
          have HN9 := Lib.hid hN9
          clear hN9
          refine pt_q (v := ?_) rfl (by rfl) ?_ ?_
          rotate_left
          · intro w' hBw'
            first | (go_simp; done) | (go_simp; with_reducible rfl)
          try simp only [Act.put, List.getElem_toArray, List.getElem_cons_zero, List.getElem_cons_succ, List.setIfInBounds_toArray, List.set_cons_zero, List.set_cons_succ]
          refine pt_c ?_
          refine pt_put_row rfl (by rfl) 40 _ _ rfl (w.heap.size + 1 + 1) [.slice a9 N9 c9] rfl rfl r9 rfl (by kernel_rfl) rfl (.inl rfl) (fun wA hRA hbA => ?_)
          try simp only [Act.put, List.getElem_toArray, List.getElem_cons_zero, List.getElem_cons_succ, List.setIfInBounds_toArray, List.set_cons_zero, List.set_cons_succ]
          refine pt_q (v := ?_) rfl (by rfl) ?_ ?_
          rotate_left
          · intro w' hBw'
            first | (go_simp; done) | (go_simp; with_reducible rfl)
          try simp only [Act.put, List.getElem_toArray, List.getElem_cons_zero, List.getElem_cons_succ, List.setIfInBounds_toArray, List.set_cons_zero, List.set_cons_succ]
          refine pt_done ?_
          have rA := hRA.cell (i := 0) rfl
          have qA := q9.trans (hbA.below (fun i e => by omega) q9.size)
          have hgA := fun q hq => (own_of_some h9 (k := q) hq)
          have sA := (Sl.of_own h9).but hbA (.inr fun q hq e => by have := hgA q hq; omega)
          have zA := hbA.size
          go_wp2
          refine bodyPost_ret (v := .tuple #[.agg #[.slice a9 N9 c9], .int .i64 0]) (by simp [results, Try.results18, go_sem, rA]) rfl ⟨.slice a9 N9 c9, by rw [HE.out], ?_, qA⟩
          rw [HF.out]
          have hlen : (L.take j ++ m :: L.drop j).length = N9 := by have h1 := Hln.out; have h2 := HN9.out; simp only [List.length_append, List.length_cons, List.length_take, List.length_drop]; omega
          rw [hlen]
          simpa using sA
        · refine pt_step rfl (by rfl) (fun K hK => ?_)
          go_simp
          refine hK.out _ _ (But.alloc _ _) ?_
          clear hK K
          try simp only [Act.put, List.getElem_toArray, List.getElem_cons_zero, List.getElem_cons_succ, List.setIfInBounds_toArray, List.set_cons_zero, List.set_cons_succ]
          have hX := below_alloc (Wd.alloc (.cells #[] 24)) (.cells (mbC m).toArray 24)
          have s70 := slOneM (Wd.alloc (.cells #[] 24)) (Wd.heap.size + 1) (by rw [World.size_alloc]) 24 m
          have r70 := (V2.r.below hE).below hX
          have l70 := ((sl2.up V2.below).up hE).up hX
          have h00 := own_up h0 hX
          have z70 := hX.size
          refine pt_c ?_
          refine pt_app2 rfl (by rfl) _ _ 34 rfl slM w1.heap.size rfl h00 rfl (((sl1.up V2.below).up hE).up hX) (one_mb _) (by simp only [maxLen]; omega) (by omega) (by first | omega | (simp only [World.size_alloc] at *; omega)) (fun i hi => .inr hi) (fun v5 w5 h5 hb5 => ?_)
          try simp only [Act.put, List.getElem_toArray, List.getElem_cons_zero, List.getElem_cons_succ, List.setIfInBounds_toArray, List.set_cons_zero, List.set_cons_succ]
          have s7 := s70.but hb5 (.inr fun q hq e => by have h1 := Option.some.inj hq; have h2 := Option.some.inj e; simp only [World.size_alloc] at *; omega)
          have r7 := r70.but hb5 (fun e => by have h2 := Option.some.inj e; simp only [World.size_alloc] at *; omega)
          have l7 := l70.but hb5 (hbl.imp id fun h q hq e => by have := h q hq; have h2 := Option.some.inj e; simp only [World.size_alloc] at *; omega)
          have z7 := hb5.size
          have q7 := (below_up (below_up V2.below hE) hX).trans (hb5.below (fun i e => by have h2 := Option.some.inj e; simp only [World.size_alloc] at *; omega) (by simp only [World.size_alloc] at *; omega))
          refine pt_c ?_
          refine pt_app2 rfl (by rfl) _ _ 34 rfl slM w1.heap.size rfl h5 rfl (s7) (one_mb _) (by simp only [maxLen]; omega) (by omega) (by first | omega | (simp only [World.size_alloc] at *; omega)) (fun i hi => .inr hi) (fun v8 w8 h8 hb8 => ?_)
          try simp only [Act.put, List.getElem_toArray, List.getElem_cons_zero, List.getElem_cons_succ, List.setIfInBounds_toArray, List.set_cons_zero, List.set_cons_succ]
          have hg8 := fun q hq => (own_of_some h5 (k := q) hq).1
          have r8 := r7.but hb8 (fun e => by have := hg8 _ e; omega)
          have l8 := l7.but hb8 (hbl.imp id fun h q hq e => by have := h q hq; have := hg8 _ e; omega)
          have z8 := hb8.size
          have q8 := q7.trans (hb8.below (fun i e => by have := hg8 _ e; omega) q7.size)
          refine pt_c ?_
          refine pt_app2 rfl (by rfl) _ _ 34 rfl slM w1.heap.size rfl h8 rfl (l8) (one_mb _) (by simp only [maxLen]; omega) (by omega) (by first | omega | (simp only [World.size_alloc] at *; omega)) (fun i hi => .inr hi) (fun v9 w9 h9 hb9 => ?_)
          try simp only [Act.put, List.getElem_toArray, List.getElem_cons_zero, List.getElem_cons_succ, List.setIfInBounds_toArray, List.set_cons_zero, List.set_cons_succ]
          have hg9 := fun q hq => (own_of_some h8 (k := q) hq).1
          have r9 := r8.but hb9 (fun e => by have := hg9 _ e; omega)
          have z9 := hb9.size
          have q9 := q8.trans (hb9.below (fun i e => by have := hg9 _ e; omega) q8.size)
          obtain ⟨a9, c9, rfl⟩ := own_slice h9
          obtain ⟨N9, hN9⟩ : ∃ N, N = 0 + j + 1 + (n - j) := ⟨_, rfl⟩
          rw [← hN9] at h9
          try rw [← hN9]
          have HN9 := Lib.hid hN9
          clear hN9
          refine pt_q (v := ?_) rfl (by rfl) ?_ ?_
          rotate_left
          · intro w' hBw'
            first | (go_simp; done) | (go_simp; with_reducible rfl)
          try simp only [Act.put, List.getElem_toArray, List.getElem_cons_zero, List.getElem_cons_succ, List.setIfInBounds_toArray, List.set_cons_zero, List.set_cons_succ]
          refine pt_c ?_
          refine pt_put_row rfl (by rfl) 40 _ _ rfl (w.heap.size + 1 + 1) [.slice a9 N9 c9] rfl rfl r9 rfl (by kernel_rfl) rfl (.inl rfl) (fun wA hRA hbA => ?_)
          try simp only [Act.put, List.getElem_toArray, List.getElem_cons_zero, List.getElem_cons_succ, List.setIfInBounds_toArray, List.set_cons_zero, List.set_cons_succ]
          refine pt_q (v := ?_) rfl (by rfl) ?_ ?_
          rotate_left
          · intro w' hBw'
            first | (go_simp; done) | (go_simp; with_reducible rfl)
          try simp only [Act.put, List.getElem_toArray, List.getElem_cons_zero, List.getElem_cons_succ, List.setIfInBounds_toArray, List.set_cons_zero, List.set_cons_succ]
          refine pt_done ?_
          have rA := hRA.cell (i := 0) rfl
          have qA := q9.trans (hbA.below (fun i e => by omega) q9.size)
          have hgA := fun q hq => (own_of_some h9 (k := q) hq)
          have sA := (Sl.of_own h9).but hbA (.inr fun q hq e => by have := hgA q hq; omega)
          have zA := hbA.size
          go_wp2
          refine bodyPost_ret (v := .tuple #[.agg #[.slice a9 N9 c9], .int .i64 0]) (by simp [results, Try.results18, go_sem, rA]) rfl ⟨.slice a9 N9 c9, by rw [HE.out], ?_, qA⟩
          rw [HF.out]
          have hlen : (L.take j ++ m :: L.drop j).length = N9 := by have h1 := Hln.out; have h2 := HN9.out; simp only [List.length_append, List.length_cons, List.length_take, List.length_drop]; omega
          rw [hlen]
          simpa using sA
      · refine pt_step rfl (by rfl) (fun K hK => ?_)
        go_simp
        refine hK.out _ _ (But.alloc _ _) ?_
        clear hK K
        try simp only [Act.put, List.getElem_toArray, List.getElem_cons_zero, List.getElem_cons_succ, List.setIfInBounds_toArray, List.set_cons_zero, List.set_cons_succ]
        have hX := below_alloc Wd (.cells (mbC m).toArray 24)
        have s70 := slOneM Wd _ rfl 24 m
        have zX := hX.size
        refine pt_c ?_
        refine pt_step rfl (by rfl) (fun K hK => ?_)
        go_simp
        refine hK.out _ _ (But.alloc _ _) ?_
        clear hK K
        try simp only [Act.put, List.getElem_toArray, List.getElem_cons_zero, List.getElem_cons_succ, List.setIfInBounds_toArray, List.set_cons_zero, List.set_cons_succ]
        have hE := below_alloc (Wd.alloc (.cells (mbC m).toArray 24)) (.cells #[] 24)
        have h0 : ((Wd.alloc (.cells (mbC m).toArray 24)).alloc (.cells #[] 24)).ownsRow w1.heap.size 24 4 (.slice (some ⟨Wd.heap.size + 1, 0, none⟩) 0 0) 0 [] := own0 (Wd.alloc (.cells (mbC m).toArray 24)) (by omega) (by rw [World.size_alloc])
        have zE := hE.size
        refine pt_c ?_
        refine pt_app2 rfl (by rfl) _ _ 34 rfl slM w1.heap.size rfl h0 rfl (((sl1.up V2.below).up hX).up hE) (one_mb _) (by simp only [maxLen]; omega) (by omega) (by first | omega | (simp only [World.size_alloc] at *; omega)) (fun i hi => .inr hi) (fun v5 w5 h5 hb5 => ?_)
        try simp only [Act.put, List.getElem_toArray, List.getElem_cons_zero, List.getElem_cons_succ, List.setIfInBounds_toArray, List.set_cons_zero, List.set_cons_succ]
        have s7 := (s70.up hE).but hb5 (.inr fun q hq e => by have h1 := Option.some.inj hq; have h2 := Option.some.inj e; simp only [World.size_alloc] at *; omega)
        have r7 := ((V2.r.below hX).below hE).but hb5 (fun e => by have h2 := Option.some.inj e; simp only [World.size_alloc] at *; omega)
        have l7 := (((sl2.up V2.below).up hX).up hE).but hb5 (hbl.imp id fun h q hq e => by have := h q hq; have h2 := Option.some.inj e; simp only [World.size_alloc] at *; omega)
        have z7 := hb5.size
        have q7 := (below_up (below_up V2.below hX) hE).trans (hb5.below (fun i e => by have h2 := Option.some.inj e; simp only [World.size_alloc] at *; omega) (by simp only [World.size_alloc] at *; omega))
        refine pt_c ?_
        refine pt_app2 rfl (by rfl) _ _ 34 rfl slM w1.heap.size rfl h5 rfl (s7) (one_mb _) (by simp only [maxLen]; omega) (by omega) (by first | omega | (simp only [World.size_alloc] at *; omega)) (fun i hi => .inr hi) (fun v8 w8 h8 hb8 => ?_)
        try simp only [Act.put, List.getElem_toArray, List.getElem_cons_zero, List.getElem_cons_succ, List.setIfInBounds_toArray, List.set_cons_zero, List.set_cons_succ]
        have hg8 := fun q hq => (own_of_some h5 (k := q) hq).1
        have r8 := r7.but hb8 (fun e => by have := hg8 _ e; omega)
        have l8 := l7.but hb8 (hbl.imp id fun h q hq e => by have := h q hq; have := hg8 _ e; omega)
        have z8 := hb8.size
        have q8 := q7.trans (hb8.below (fun i e => by have := hg8 _ e; omega) q7.size)
        refine pt_c ?_
        refine pt_app2 rfl (by rfl) _ _ 34 rfl slM w1.heap.size rfl h8 rfl (l8) (one_mb _) (by simp only [maxLen]; omega) (by omega) (by first | omega | (simp only [World.size_alloc] at *; omega)) (fun i hi => .inr hi) (fun v9 w9 h9 hb9 => ?_)
        try simp only [Act.put, List.getElem_toArray, List.getElem_cons_zero, List.getElem_cons_succ, List.setIfInBounds_toArray, List.set_cons_zero, List.set_cons_succ]
        have hg9 := fun q hq => (own_of_some h8 (k := q) hq).1
        have r9 := r8.but hb9 (fun e => by have := hg9 _ e; omega)
        have z9 := hb9.size
        have q9 := q8.trans (hb9.below (fun i e => by have := hg9 _ e; omega) q8.size)
        obtain ⟨a9, c9, rfl⟩ := own_slice h9
        obtain ⟨N9, hN9⟩ : ∃ N, N = 0 + j + 1 + (n - j) := ⟨_, rfl⟩
        rw [← hN9] at h9
        try rw [← hN9]
        have HN9 := Lib.hid hN9
        clear hN9
        refine pt_q (v := ?_) rfl (by rfl) ?_ ?_
        rotate_left
        · intro w' hBw'
          first | (go_simp; done) | (go_simp; with_reducible rfl)
        try simp only [Act.put, List.getElem_toArray, List.getElem_cons_zero, List.getElem_cons_succ, List.setIfInBounds_toArray, List.set_cons_zero, List.set_cons_succ]
        refine pt_c ?_
        refine pt_put_row rfl (by rfl) 40 _ _ rfl (w.heap.size + 1 + 1) [.slice a9 N9 c9] rfl rfl r9 rfl (by kernel_rfl) rfl (.inl rfl) (fun wA hRA hbA => ?_)
        try simp only [Act.put, List.getElem_toArray, List.getElem_cons_zero, List.getElem_cons_succ, List.setIfInBounds_toArray, List.set_cons_zero, List.set_cons_succ]
        refine pt_q (v := ?_) rfl (by rfl) ?_ ?_
        rotate_left
        · intro w' hBw'
          first | (go_simp; done) | (go_simp; with_reducible rfl)
        try simp only [Act.put, List.getElem_toArray, List.getElem_cons_zero, List.getElem_cons_succ, List.setIfInBounds_toArray, List.set_cons_zero, List.set_cons_succ]
        refine pt_done ?_
        have rA := hRA.cell (i := 0) rfl
        have qA := q9.trans (hbA.below (fun i e => by omega) q9.size)
        have hgA := fun q hq => (own_of_some h9 (k := q) hq)
        have sA := (Sl.of_own h9).but hbA (.inr fun q hq e => by have := hgA q hq; omega)
        have zA := hbA.size
        go_wp2
        refine bodyPost_ret (v := .tuple #[.agg #[.slice a9 N9 c9], .int .i64 0]) (by simp [results, Try.results18, go_sem, rA]) rfl ⟨.slice a9 N9 c9, by rw [HE.out], ?_, qA⟩
        rw [HF.out]
        have hlen : (L.take j ++ m :: L.drop j).length = N9 := by have h1 := Hln.out; have h2 := HN9.out; simp only [List.length_append, List.length_cons, List.length_take, List.length_drop]; omega
        rw [hlen]
        simpa using sA
end Go.Proofs.Yteakpppabgbpeaa
