/-
  over and its iterators; the closures; Get, Has; Clone, Copy; Equal, Same.
-/
import Derived.Test.YteakpppabgbpeaaMemG
import Derived.Shelf.SlMaps.Clone
import Derived.Test.YteakpppabgbpeaaMapC
namespace Go.Proofs.Yteakpppabgbpeaa
open Go.RowKit Go.Maps Mem
set_option linter.unusedSimpArgs false
set_option linter.unusedVariables false
attribute [local go_sem] Oper.semAt_some

theorem mixes : Try.prog.follows .mixedOrders = true := by kernel_rfl
/-- What over hands out: the slice lies in block C. -/
structure OvAt (w : World) (C : Nat) (v : Value) (n sz : Nat) (cs : List Value) : Prop where
  var : w.cell? ⟨C, 0, none⟩ = some v
  sl : Sl w sz v n cs
theorem OvAt.but {w w' : World} {C : Nat} {v : Value} {n sz : Nat} {cs : List Value} (h : OvAt w C v n sz cs) {O : Nat → Prop} (hb : But O w w') (hC : ¬ O C) (hv : n = 0 ∨ ∀ k, v.ownBlock = some k → ¬ O k) : OvAt w' C v n sz cs :=
  ⟨hb.cell h.var hC, h.sl.but hb hv⟩
theorem OvAt.up {w w' : World} {C : Nat} {v : Value} {n sz : Nat} {cs : List Value} (h : OvAt w C v n sz cs) (hb : Below w.heap.size w w') : OvAt w' C v n sz cs :=
  h.but (O := fun _ => False) (But.of_below hb) (fun h => h) (.inr fun _ _ h => h)
theorem below_drewN {B : Nat} {w w' : World} (h : Below B w w') (n : Nat) : Below B w (w'.drewN n) := ⟨h.os, h.tape, h.output, h.size, h.block⟩
def mbAt (L : List Mb) (k : Nat) : Mb := L.getD k zmb
theorem mbAt_get {L : List Mb} {k : Nat} (h : k < L.length) : mbAt L k = L[k] := by unfold mbAt; rw [List.getD_eq_getElem?_getD, List.getElem?_eq_getElem h]; rfl
def uAt (L : List Int) (k : Nat) : Int := L.getD k 0
theorem uAt_get {L : List Int} {k : Nat} (h : k < L.length) : uAt L k = L[k] := by unfold uAt; rw [List.getD_eq_getElem?_getD, List.getElem?_eq_getElem h]; rfl

theorem enters_overU : Enters Try.prog 54 := enters_of Try.func54 (by kernel_rfl) rfl
theorem overU_c (v : Value) (n : Nat) (L : List Int) (w : World) (hv : Sl w 1 v n (L.map (Value.int .u32))) :
    Calls Try.prog 44 #[v] w fun en w' => en = .returned (.func (.func 54) #[] #[.pointer (some ⟨w.heap.size, 0, none⟩)]) ∧ OvAt w' w.heap.size v n 1 (L.map (Value.int .u32)) ∧ Below w.heap.size w w' ∧ w'.heap.size = w.heap.size + 1 := by
  have hmf : ∀ (fn : Fn) (first cap : Array Value) (w : World), (Instr.makeFunc fn first cap).run Try.prog w = .ok (.func fn first cap) w := fun _ _ _ _ => rfl
  obtain ⟨a, c, rfl⟩ := hv.len
  go_enter Try.func44, Try.ntmps44
  go_wp2
  go_ret
  exact ⟨rfl, ⟨cell_new _ _ _, hv.up (below_alloc _ _)⟩, below_alloc _ _, by simp⟩
set_option maxHeartbeats 2000000 in
set_option maxRecDepth 100000 in
theorem overU_x (L : List Int) (C n : Nat) (v : Value) (S : Nat → Prop) (w : World) (h : OvAt w C v n 1 (L.map (Value.int .u32))) (hSS : S C ∧ (n = 0 ∨ ∀ k, v.ownBlock = some k → S k)) :
    SeqX Try.prog 54 #[.pointer (some ⟨C, 0, none⟩)] (fun k => #[.int .u32 (uAt L k)]) n S w := by
  intro l' G J Jx W hW hS hG hJ hJx hY h0
  have hE := h.up hW
  have Hln := Lib.hid (show L.length = n by have := hE.sl.1; simpa using this)
  have hn := hE.sl.n_max
  obtain ⟨a, c, rfl⟩ := hE.sl.len
  have hc0 := hE.var
  clear h hW
  refine (callsIn_wide (n := 3)).1 ?_
  refine callsIn_of_wp Try.func54 rfl trivial ?_ rfl
  simp only [Try.ntmps54, List.size_toArray, List.length_cons, List.length_nil, Nat.reduceAdd, Nat.reduceSub, Array.replicate_succ, Array.replicate_zero, List.push_toArray, List.append_toArray, List.nil_append, List.cons_append]
  gi_wp2
  refine wpIn_scope0 ?_
  gi_wp2
  gi_loopw [7] (fun i wr => ∃ (j : Nat) (G : Nat → Prop), j ≤ n ∧ i = .int .i64 j ∧ J j G wr ∧ OvAt wr C (.slice a n c) n 1 (L.map (Value.int .u32)) ∧ (∀ k, S k → ¬ G k) ∧ W.heap.size ≤ wr.heap.size) (fun i _ => n - (intOf i).toNat)
  case atStart => exact ⟨0, G, Nat.zero_le _, rfl, h0, hE, fun k hk => (hS k hk).2, Nat.le_refl _⟩
  case round =>
    obtain ⟨j, G1, hk, rfl, hj, hE1, hG1, hsz⟩ := hrel
    by_cases hlt : j < n
    · have hlt' : j < L.length := by rw [Hln.out]; exact hlt
      obtain ⟨b, off, rfl, hr⟩ := hE1.sl.cellAt (k := j) (by omega) (by omega)
      have hjn : (j : Int) < (n : Int) := by omega
      have hcj : (L.map (Value.int .u32))[j]? = some (.int .u32 (uAt L j)) := by rw [uAt_get hlt']; simp [hlt']
      rw [hcj] at hr
      clear hcj
      obtain ⟨fn, tmps, assign, body, hy, hR⟩ := yieldAt_wide (m' := 2) (hY _ _ _ hlt hj)
      generalize uAt L j = e at *
      gi_wp2
      refine hR.mono ?_
      rintro en W3 ⟨g, rfl, hw⟩
      have hE3 := hE1.but hw.but (hG1 C hSS.1) (hSS.2.elim .inl fun h => .inr fun k hk => hG1 k (h k hk))
      have hs3 := hw.but.size
      cases g with
      | true =>
        gi_wp2
        go_roundw
        case rel => exact ⟨j + 1, _, by omega, by go_num, hw.on rfl, hE3, fun k hk => newG_not (hG1 k hk) (by have := (hS k hk).1; omega), by omega⟩
        case measure => simp [intOf]; omega
      | false =>
        gi_wp2
        rw [Exit.noGoto_normal]
        go_end0
        exact ⟨⟨_, rfl⟩, _, .inr ⟨_, hlt, hw.off rfl⟩⟩
    · obtain rfl : j = n := by omega
      gi_wp2
      rw [Exit.noGoto_normal]
      go_end0
      exact ⟨⟨_, rfl⟩, _, .inl hj⟩

theorem enters_overM : Enters Try.prog 61 := enters_of Try.func61 (by kernel_rfl) rfl
theorem overM_c (v : Value) (n : Nat) (L : List Mb) (w : World) (hv : Sl w 4 v n (L.flatMap mbC)) :
    Calls Try.prog 50 #[v] w fun en w' => en = .returned (.func (.func 61) #[] #[.pointer (some ⟨w.heap.size, 0, none⟩)]) ∧ OvAt w' w.heap.size v n 4 (L.flatMap mbC) ∧ Below w.heap.size w w' ∧ w'.heap.size = w.heap.size + 1 := by
  have hmf : ∀ (fn : Fn) (first cap : Array Value) (w : World), (Instr.makeFunc fn first cap).run Try.prog w = .ok (.func fn first cap) w := fun _ _ _ _ => rfl
  obtain ⟨a, c, rfl⟩ := hv.len
  go_enter Try.func50, Try.ntmps50
  go_wp2
  go_ret
  exact ⟨rfl, ⟨cell_new _ _ _, hv.up (below_alloc _ _)⟩, below_alloc _ _, by simp⟩
set_option maxHeartbeats 2000000 in
set_option maxRecDepth 100000 in
theorem overM_x (L : List Mb) (C n : Nat) (v : Value) (S : Nat → Prop) (w : World) (h : OvAt w C v n 4 (L.flatMap mbC)) (hSS : S C ∧ (n = 0 ∨ ∀ k, v.ownBlock = some k → S k)) :
    SeqX Try.prog 61 #[.pointer (some ⟨C, 0, none⟩)] (fun k => #[mbV (mbAt L k)]) n S w := by
  intro l' G J Jx W hW hS hG hJ hJx hY h0
  have hE := h.up hW
  have Hln := Lib.hid (Sl.recs (cells := mbC) (sz := 4) (fun _ => rfl) (by decide) hE.sl)
  have hn := hE.sl.n_max
  obtain ⟨a, c, rfl⟩ := hE.sl.len
  have hc0 := hE.var
  clear h hW
  refine (callsIn_wide (n := 3)).1 ?_
  refine callsIn_of_wp Try.func61 rfl trivial ?_ rfl
  simp only [Try.ntmps61, List.size_toArray, List.length_cons, List.length_nil, Nat.reduceAdd, Nat.reduceSub, Array.replicate_succ, Array.replicate_zero, List.push_toArray, List.append_toArray, List.nil_append, List.cons_append]
  gi_wp2
  refine wpIn_scope0 ?_
  gi_wp2
  gi_loopw [7] (fun i wr => ∃ (j : Nat) (G : Nat → Prop), j ≤ n ∧ i = .int .i64 j ∧ J j G wr ∧ OvAt wr C (.slice a n c) n 4 (L.flatMap mbC) ∧ (∀ k, S k → ¬ G k) ∧ W.heap.size ≤ wr.heap.size) (fun i _ => n - (intOf i).toNat)
  case atStart => exact ⟨0, G, Nat.zero_le _, rfl, h0, hE, fun k hk => (hS k hk).2, Nat.le_refl _⟩
  case round =>
    obtain ⟨j, G1, hk, rfl, hj, hE1, hG1, hsz⟩ := hrel
    by_cases hlt : j < n
    · have hlt' : j < L.length := by rw [Hln.out]; exact hlt
      obtain ⟨b, off, rfl, hr⟩ := hE1.sl.rec_at (cells := mbC) (sz := 4) (fun _ => rfl) hlt hlt'
      have hjn : (j : Int) < (n : Int) := by omega
      have hJa := (hJ _).alloc (.cells (mbC L[j]).toArray 24) (((hJ _).up (Nat.le_refl _)) _ _ _ hj (But.refl _ _))
      obtain ⟨fn, tmps, assign, body, hy, hR⟩ := yieldAt_wide (m' := 2) (hY _ _ _ hlt hJa)
      rw [mbAt_get hlt'] at hy
      generalize L[j] = e at *
      have E1 := RowAt.new wr (mbC e).toArray 24
      have hEa := hE1.but (But.alloc (O := fun _ => False) wr (.cells (mbC e).toArray 24)) (fun h => h) (.inr fun _ _ h => h)
      have r0 := hr 0 (.int .u32 e.node) rfl
      have r1 := hr 1 (.int .u32 e.region) rfl
      have r2 := hr 2 (.int .u32 e.epoch) rfl
      have r3 := hr 3 (.bool e.in_) rfl
      simp only [Nat.add_zero] at r0
      gi_wp2
      refine hR.mono ?_
      rintro en W3 ⟨g, rfl, hw⟩
      have hE3 := hEa.but hw.but (hG1 C hSS.1) (hSS.2.elim .inl fun h => .inr fun k hk => hG1 k (h k hk))
      have hs3 := hw.but.size
      simp only [World.size_alloc] at hs3
      cases g with
      | true =>
        gi_wp2
        go_roundw
        case rel => exact ⟨j + 1, _, by omega, by go_num, hw.on rfl, hE3, fun k hk => newG_not (hG1 k hk) (by have := (hS k hk).1; simp; omega), by omega⟩
        case measure => simp [intOf]; omega
      | false =>
        gi_wp2
        rw [Exit.noGoto_normal]
        go_end0
        exact ⟨⟨_, rfl⟩, _, .inr ⟨_, hlt, hw.off rfl⟩⟩
    · obtain rfl : j = n := by omega
      gi_wp2
      rw [Exit.noGoto_normal]
      go_end0
      exact ⟨⟨_, rfl⟩, _, .inl hj⟩

theorem enters_regs1 : Enters Try.prog 53 := enters_of Try.func53 (by kernel_rfl) rfl
set_option maxHeartbeats 1000000 in
set_option maxRecDepth 100000 in
theorem regs1_c (P : Nat) (x : Int) (m : Mb) (w : World) (hP : w.cell? ⟨P, 0, none⟩ = some (.int .u32 x)) :
    Calls Try.prog 53 (#[mbV m] ++ #[.pointer (some ⟨P, 0, none⟩)]) w (Ret (.tuple #[.int .u32 m.region, .bool (m.in_ && decide (m.node = x))]) w) := by
  have hb := below_alloc w (.cells (mbC m).toArray 24)
  have hP1 := cell_up hb hP
  have V0 := RowAt.new w (mbC m).toArray 24
  have v0 := V0.cell (i := 0) (v := .int .u32 m.node) rfl
  have v1 := V0.cell (i := 1) (v := .int .u32 m.region) rfl
  have v3 := V0.cell (i := 3) (v := .bool m.in_) rfl
  obtain ⟨W0, hW0⟩ : ∃ W0, w.alloc (.cells (mbC m).toArray 24) = W0 := ⟨_, rfl⟩
  have HB := Lib.hid hb
  clear hb V0 hP
  obtain ⟨m1, m2, m3, m4⟩ := m
  simp only at v0 v1 v3 hW0 HB ⊢
  cases m4 with
  | false =>
    go_enter Try.func53, Try.ntmps53
    go_wp2
    simp only [hW0] at *
    go_quiet (fail)
    go_wp2
    go_ret2
    exact ⟨rfl, below_drewN HB.out _⟩
  | true =>
    by_cases he : m1 = x
    · subst he
      go_enter Try.func53, Try.ntmps53
      go_wp2
      simp only [hW0] at *
      go_quiet (fail)
      go_wp2
      go_ret2
      exact ⟨by simp, below_drewN HB.out _⟩
    · have he1 : (m1 == x) = false := by simpa using he
      have he2 : decide (m1 = x) = false := decide_eq_false he
      go_enter Try.func53, Try.ntmps53
      go_wp2
      simp only [hW0] at *
      go_quiet (fail)
      go_wp2
      go_ret2
      exact ⟨by simp [he2], below_drewN HB.out _⟩

theorem enters_nods1 : Enters Try.prog 46 := enters_of Try.func46 (by kernel_rfl) rfl
set_option maxHeartbeats 1000000 in
set_option maxRecDepth 100000 in
theorem nods1_c (P : Nat) (x : Int) (m : Mb) (w : World) (hP : w.cell? ⟨P, 0, none⟩ = some (.int .u32 x)) :
    Calls Try.prog 46 (#[mbV m] ++ #[.pointer (some ⟨P, 0, none⟩)]) w (Ret (.tuple #[.int .u32 m.node, .bool (m.in_ && decide (m.region = x))]) w) := by
  have hb := below_alloc w (.cells (mbC m).toArray 24)
  have hP1 := cell_up hb hP
  have V0 := RowAt.new w (mbC m).toArray 24
  have v0 := V0.cell (i := 0) (v := .int .u32 m.node) rfl
  have v1 := V0.cell (i := 1) (v := .int .u32 m.region) rfl
  have v3 := V0.cell (i := 3) (v := .bool m.in_) rfl
  obtain ⟨W0, hW0⟩ : ∃ W0, w.alloc (.cells (mbC m).toArray 24) = W0 := ⟨_, rfl⟩
  have HB := Lib.hid hb
  clear hb V0 hP
  obtain ⟨m1, m2, m3, m4⟩ := m
  simp only at v0 v1 v3 hW0 HB ⊢
  cases m4 with
  | false =>
    go_enter Try.func46, Try.ntmps46
    go_wp2
    simp only [hW0] at *
    go_quiet (fail)
    go_wp2
    go_ret2
    exact ⟨rfl, below_drewN HB.out _⟩
  | true =>
    by_cases he : m2 = x
    · subst he
      go_enter Try.func46, Try.ntmps46
      go_wp2
      simp only [hW0] at *
      go_quiet (fail)
      go_wp2
      go_ret2
      exact ⟨by simp, below_drewN HB.out _⟩
    · have he1 : (m2 == x) = false := by simpa using he
      have he2 : decide (m2 = x) = false := decide_eq_false he
      go_enter Try.func46, Try.ntmps46
      go_wp2
      simp only [hW0] at *
      go_quiet (fail)
      go_wp2
      go_ret2
      exact ⟨by simp [he2], below_drewN HB.out _⟩

theorem enters_all1 : Enters Try.prog 52 := enters_of Try.func52 (by kernel_rfl) rfl
set_option maxRecDepth 100000 in
theorem all1_c (m : Mb) (w : World) : Calls Try.prog 52 (#[mbV m] ++ #[]) w (Ret (.tuple #[mbV m, .bool true]) w) := by
  go_enter Try.func52, Try.ntmps52
  go_wp2
  have h2 : ((w.alloc (.cells (mbC m).toArray 24)).alloc (.cells (mbC m).toArray 24)).heap[w.heap.size + 1]? = some (.cells (mbC m).toArray 24) := by
    have := heap_alloc_new (w.alloc (.cells (mbC m).toArray 24)) (.cells (mbC m).toArray 24)
    rwa [World.size_alloc] at this
  have E2 : RowAt ((w.alloc (.cells (mbC m).toArray 24)).alloc (.cells (mbC m).toArray 24)) (w.heap.size + 1) (mbC m).toArray 24 := h2
  have c0 := E2.cell (i := 0) (v := .int .u32 m.node) rfl
  have c1 := E2.cell (i := 1) (v := .int .u32 m.region) rfl
  have c2 := E2.cell (i := 2) (v := .int .u32 m.epoch) rfl
  have c3 := E2.cell (i := 3) (v := .bool m.in_) rfl
  exact bodyPost_ret (v := .tuple #[mbV m, .bool true]) (by simp [results, Try.results52, go_sem, c0, c1, c2, c3]) rfl ⟨rfl, (below_alloc w _).alloc (by simp) _⟩

/-- What Get tells. -/
def getV (E : List Mb) (n r : Int) : Value := .tuple #[mbV ((find E n r).getD zmb), .bool (find E n r).isSome]
set_option maxRecDepth 100000 in
theorem rGet_c {B M : Nat} {E : List Mb} (n r : Int) (hn0 : 0 ≤ n) (hn : n ≤ 4294967295) (hr0 : 0 ≤ r) (hr : r ≤ 4294967295) (w : World) (h : RollAt w B M E) :
    Calls Try.prog 36 #[.pointer (some ⟨B, 0, none⟩), .int .u32 n, .int .u32 r] w (Ret (getV E n r) w) := by
  have hb := below_alloc w (.cells (mbC zmb).toArray 24)
  have h1 := h.below hb
  have hc := h1.var.cell (i := 0) (v := .map (some M)) rfl
  have Z0 := RowAt.new w (mbC zmb).toArray 24
  have ho := fun w' (hb' : Below (w.alloc (.cells (mbC zmb).toArray 24)).heap.size (w.alloc (.cells (mbC zmb).toArray 24)) w') => mOf_c n r hn0 hn hr0 hr w' (h1.below hb').map
  unfold getV
  generalize (find E n r).isSome = sm at *
  generalize (find E n r).getD zmb = x at *
  have HO := Lib.hid ho
  clear ho
  go_enter Try.func36, Try.ntmps36
  go_wp2_with (first
    | (go_at_call 26; refine (rNone_c _ h1).mono ?_; rintro en w1 ⟨rfl, rfl⟩)
    | (go_at_call 29; refine (HO.out _ (Below.refl _ _)).mono ?_; rintro en w1 ⟨rfl, hb1⟩; have Z1 := Z0.below hb1; have z0 := Z1.cell (i := 0) (v := .int .u32 zmb.node) rfl; have z1 := Z1.cell (i := 1) (v := .int .u32 zmb.region) rfl; have z2 := Z1.cell (i := 2) (v := .int .u32 zmb.epoch) rfl; have z3 := Z1.cell (i := 3) (v := .bool zmb.in_) rfl; have f0 := Z1.fz 0; have f1 := Z1.fz 1; have f2 := Z1.fz 2; have f3 := Z1.fz 3))
  have Z5 := (((Z1.set 0 (.int .u32 x.node)).set 1 (.int .u32 x.region)).set 2 (.int .u32 x.epoch)).set 3 (.bool x.in_)
  have c0 := Z5.cell (i := 0) (v := .int .u32 x.node) rfl
  have c1 := Z5.cell (i := 1) (v := .int .u32 x.region) rfl
  have c2 := Z5.cell (i := 2) (v := .int .u32 x.epoch) rfl
  have c3 := Z5.cell (i := 3) (v := .bool x.in_) rfl
  have hB1 := (((below_new hb1).setCell (p := ⟨w.heap.size, 0, none⟩) (Nat.le_refl _) (.int .u32 x.node)).setCell (p := ⟨w.heap.size, 1, none⟩) (Nat.le_refl _) (.int .u32 x.region)).setCell (p := ⟨w.heap.size, 2, none⟩) (Nat.le_refl _) (.int .u32 x.epoch) |>.setCell (p := ⟨w.heap.size, 3, none⟩) (Nat.le_refl _) (.bool x.in_)
  generalize ((((w1.setCell ⟨w.heap.size, 0, none⟩ (.int .u32 x.node)).setCell ⟨w.heap.size, 1, none⟩ (.int .u32 x.region)).setCell ⟨w.heap.size, 2, none⟩ (.int .u32 x.epoch)).setCell ⟨w.heap.size, 3, none⟩ (.bool x.in_)) = W5 at *
  exact bodyPost_ret (v := .tuple #[mbV x, .bool sm]) (by simp [results, Try.results36, go_sem, c0, c1, c2, c3]) rfl ⟨rfl, hB1⟩
def hasB (E : List Mb) (n r : Int) : Bool := ((find E n r).getD zmb).in_
set_option maxRecDepth 100000 in
theorem rHas_c {B M : Nat} {E : List Mb} (n r : Int) (hn0 : 0 ≤ n) (hn : n ≤ 4294967295) (hr0 : 0 ≤ r) (hr : r ≤ 4294967295) (w : World) (h : RollAt w B M E) :
    Calls Try.prog 37 #[.pointer (some ⟨B, 0, none⟩), .int .u32 n, .int .u32 r] w (Ret (.bool (hasB E n r)) w) := by
  have hg := rGet_c n r hn0 hn hr0 hr w h
  unfold getV at hg
  unfold hasB
  generalize (find E n r).isSome = sm at *
  generalize (find E n r).getD zmb = x at *
  go_enter Try.func37, Try.ntmps37
  go_wp2_with (go_at_call 36; refine hg.mono ?_; rintro en w1 ⟨rfl, hb1⟩)
  go_ret
  exact ⟨rfl, hb1.alloc hb1.size _⟩

set_option maxRecDepth 100000 in
theorem rClone_c {M : Nat} {E : List Mb} (w : World) (h : MMap w M E) :
    Calls Try.prog 33 #[.map (some M)] w fun en w' => en = .returned (.map (some w.heap.size)) ∧ MMap w' w.heap.size E ∧ Below w.heap.size w w' := by
  obtain ⟨es, clock, hb, he, hbn⟩ := h.ex
  have hm := fun w => run_eql_map_nil (P := Try.prog) w 53 _ _ (some M) Try.underlying53
  go_enter Try.func33, Try.ntmps33
  go_wp2
  rw [run_callFunc_extern Try.func49 (by kernel_rfl) (by kernel_rfl) (by kernel_rfl) (e := Extern.MapsClone.clone) (by kernel_rfl), run_maps_clone_sl w 53 hb]
  simp only [Result.andThen]
  rw [Oper.upon_value]
  go_wp2
  rw [run_typeAssert_map_sl _ 53 _ _ _ _ Try.underlying53]
  simp only [Result.andThen]
  rw [Oper.upon_value]
  go_wp2
  go_ret
  exact ⟨rfl, ⟨⟨es, clock, heap_alloc_new w _, he, hbn⟩, h.keys, h.one⟩, below_alloc _ _⟩

set_option maxRecDepth 100000 in
theorem rCopy_c {B M : Nat} {E : List Mb} (w : World) (h : RollAt w B M E) :
    Calls Try.prog 16 #[.pointer (some ⟨B, 0, none⟩)] w fun en w' => ∃ B' M' : Nat, en = .returned (.pointer (some ⟨B', 0, none⟩)) ∧ RollAt w' B' M' E ∧ w.heap.size ≤ B' ∧ w.heap.size ≤ M' ∧ Below w.heap.size w w' := by
  have hc := h.var.cell (i := 0) (v := .map (some M)) rfl
  have hcl := rClone_c w h.map
  go_enter Try.func16, Try.ntmps16
  go_wp2_with (first
    | (go_at_call 26; refine (rNone_c _ h).mono ?_; rintro en w1 ⟨rfl, rfl⟩)
    | (go_at_call 33; refine hcl.mono ?_; rintro en w2 ⟨rfl, hm2, hb2⟩))
  go_ret
  refine ⟨w2.heap.size, w.heap.size, rfl, ⟨RowAt.new w2 _ _, hm2.heap (heap_alloc_old _ _ hm2.lt), ?_, h.wf⟩, hb2.size, Nat.le_refl _, hb2.alloc hb2.size _⟩
  have := hm2.lt; omega
namespace Mem
def eqB (E1 E2 : List Mb) : Bool := decide (E1.length = E2.length) && E1.all fun p => decide (find E2 p.node p.region = some p)
end Mem
set_option maxHeartbeats 4000000 in
set_option maxRecDepth 100000 in
theorem rEqual_c {M1 M2 : Nat} {E1 E2 : List Mb} (w : World) (h1 : MMap w M1 E1) (h2 : MMap w M2 E2) (hok : ∀ p ∈ E1, p.Wf) :
    Calls Try.prog 32 #[.map (some M1), .map (some M2)] w (Ret (.bool (eqB E1 E2)) w) := by
  have l1 := h1.len Try.underlying53 3
  have l2 := h2.len Try.underlying53 3
  rw [List.length_map] at l1 l2
  obtain ⟨es, clock, hb, he, hbn, hrg⟩ := h1.range Try.underlying53
  have HE := Lib.hid (fun (e : MapEntry) (hm : e ∈ es.toList) => show ∃ p ∈ E1, e.key = keyV p.node p.region ∧ e.val = mbV p by
    have : (e.key, e.val) ∈ E1.map mEnt := by rw [← he]; exact List.mem_map.2 ⟨e, hm, rfl⟩
    obtain ⟨p, hp, hpe⟩ := List.mem_map.1 this
    exact ⟨p, hp, (congrArg Prod.fst hpe).symm, (congrArg Prod.snd hpe).symm⟩)
  have HI := Lib.hid (fun (p : Mb) (hm : p ∈ E1) => show ∃ e ∈ es.toList, e.key = keyV p.node p.region ∧ e.val = mbV p by
    have : mEnt p ∈ es.toList.map (fun e => (e.key, e.val)) := by rw [he]; exact List.mem_map.2 ⟨p, hm, rfl⟩
    obtain ⟨e, hp, hpe⟩ := List.mem_map.1 this
    exact ⟨e, hp, congrArg Prod.fst hpe, congrArg Prod.snd hpe⟩)
  have HO := Lib.hid hok
  have HN := Lib.hid hbn
  clear he hok hbn
  generalize hres : eqB E1 E2 = res
  have RES := Lib.hid hres
  clear hres
  by_cases hsz : E1.length = E2.length
  · have hsz' : (E1.length : Int) = (E2.length : Int) := by omega
    have R0 := Rng.start hb
    have h20 := h2.heap (heap_alloc_old w (.mapIter (some M1) clock #[] clock) h2.lt)
    have hB0 := below_alloc w (.mapIter (some M1) clock #[] clock)
    have HB := Lib.hid hB0
    clear hB0
    have hM1 := (Array.getElem?_eq_some_iff.1 hb).1
    have hM2 := h2.lt
    clear h1
    go_enter Try.func32, Try.ntmps32
    go_wp2
    go_loopw [18] (fun _ wr => ∃ (seen : Array Nat), Rng wr M1 w.heap.size es clock seen ∧ MMap wr M2 E2 ∧ Below w.heap.size w wr ∧ RowKit.Hid (∀ e ∈ es.toList, seen.contains e.born = true → ∃ p ∈ E1, e.key = keyV p.node p.region ∧ e.val = mbV p ∧ find E2 p.node p.region = some p)) (fun _ wr => rngLeft wr M1 w.heap.size)
    case atStart => exact ⟨#[], R0, h20, HB.out, Lib.hid (fun e _ h => by simp at h)⟩
    case round =>
      obtain ⟨seen, R, h2r, hBr, HG⟩ := hrel
      rcases R.next (P := Try.prog) HN.out 0 with ⟨hl0, hrun⟩ | ⟨e, w1, hme, hrun, R1, hb1⟩
      · have HL := Lib.hid hl0
        clear hl0
        go_wp2
        go_ret
        refine ⟨retB ?_, hBr⟩
        rw [← RES.out]
        unfold eqB
        symm
        rw [Bool.and_eq_true, decide_eq_true_eq, List.all_eq_true]
        refine ⟨hsz, fun p hp => decide_eq_true ?_⟩
        obtain ⟨e, hm, h3, h4⟩ := HI.out p hp
        obtain ⟨q, hq, h5, h6, h7⟩ := HG.out e hm (all_seen es seen HL.out e hm)
        have : q = p := by
          have h8 := congrArg mbOf (h6.symm.trans h4)
          rwa [mbOf_mbV, mbOf_mbV] at h8
        rw [← this]; exact h7
      · have hme' := mem_left hme
        obtain ⟨p, hp, hk, hv⟩ := HE.out e hme'.1
        have hen := R1.entry (P := Try.prog) HN.out hme'.1
        have HK := Lib.hid hk
        have HV := Lib.hid hv
        rw [hk, hv] at hrun hen
        have h2w := h2r.heap (hb1.same M2 h2r.lt (by omega))
        have hlt := left_shrinks es seen e hme
        have HLT := Lib.hid hlt
        have HM := Lib.hid hme'
        replace R := Lib.hid R
        have HB1 := Lib.hid (hBr.trans (hb1.below (fun k hk => by omega) hBr.size))
        clear hk hv hme hme' hlt hBr hb1 hb hrg
        have hc := HO.out p hp
        have hup : MMap ((w1.alloc (.cells #[.int .u32 p.node, .int .u32 p.region] 62)).alloc (.cells (mbC p).toArray 24)) M2 E2 := (h2w.heap (heap_alloc_old _ _ h2w.lt)).heap (heap_alloc_old _ _ (by have := h2w.lt; simp; omega))
        have hl := mlook hup hc.n1 hc.n2 hc.r1 hc.r2
        cases hg : find E2 p.node p.region with
        | none =>
          have HBAD := Lib.hid (show eqB E1 E2 = false by
            unfold eqB
            rw [Bool.and_eq_false_iff]
            right
            rw [List.all_eq_false]
            exact ⟨p, hp, by rw [hg]; simp⟩)
          rw [hg] at hl
          simp only [Option.isSome_none, Option.getD_none] at hl
          clear hg
          go_wp2_with (first
            | (refine wpList_look rfl 53 (.tmp 22) (.tmp 23) true rfl (mv := .map (some M2)) (iv := keyV p.node p.region) rfl rfl hl ?_))
          go_ret
          exact ⟨retB (by rw [← RES.out, HBAD.out]), ((HB1.out.alloc HB1.out.size _).alloc (by have := HB1.out.size; simp; omega) _).alloc (by have := HB1.out.size; simp; omega) _⟩
        | some q =>
          rw [hg] at hl
          simp only [Option.isSome_some, Option.getD_some] at hl
          have hq := mb_neql p q
          by_cases hqp : q = p
          · subst hqp
            have HG1 := Lib.hid hg
            clear hg
            simp only [decide_true, Bool.not_true] at hq
            go_wp2_with (first
              | (refine wpList_look rfl 53 (.tmp 22) (.tmp 23) true rfl (mv := .map (some M2)) (iv := keyV q.node q.region) rfl rfl hl ?_))
            have hB3 : Below w1.heap.size w1 (((w1.alloc (.cells #[.int .u32 q.node, .int .u32 q.region] 62)).alloc (.cells (mbC q).toArray 24)).alloc (.cells (mbC q).toArray 24)) := ((below_alloc _ _).alloc (by simp) _).alloc (by simp; omega) _
            go_roundw
            case rel => exact ⟨_, R1.up hB3, h2w.heap (hB3.block _ h2w.lt), below_up HB1.out hB3, Lib.hid (fun x hx hs => by
              rw [Array.contains_push, Bool.or_eq_true] at hs
              rcases hs with hs | hs
              · exact HG.out x hx hs
              · have hxe : x.born = e.born := by simpa using hs
                have := born_inj HN.out.2 hx HM.out.1 hxe
                subst this
                exact ⟨q, hp, HK.out, HV.out, HG1.out⟩)⟩
            case measure => rw [(R1.up hB3).left, R.out.left]; exact HLT.out
          · have HBAD := Lib.hid (show eqB E1 E2 = false by
              unfold eqB
              rw [Bool.and_eq_false_iff]
              right
              rw [List.all_eq_false]
              exact ⟨p, hp, by rw [hg]; simpa using hqp⟩)
            have hne : decide (p = q) = false := decide_eq_false (fun e => hqp e.symm)
            simp only [hne, Bool.not_false] at hq
            clear hg
            go_wp2_with (first
              | (refine wpList_look rfl 53 (.tmp 22) (.tmp 23) true rfl (mv := .map (some M2)) (iv := keyV p.node p.region) rfl rfl hl ?_))
            go_ret
            exact ⟨retB (by rw [← RES.out, HBAD.out]), ((HB1.out.alloc HB1.out.size _).alloc (by have := HB1.out.size; simp; omega) _).alloc (by have := HB1.out.size; simp; omega) _⟩
  · have hne : ¬ ((E1.length : Int) = (E2.length : Int)) := by omega
    go_enter Try.func32, Try.ntmps32
    go_wp2
    go_ret
    exact ⟨retB (by rw [← RES.out]; simp [eqB, hsz]), Below.refl _ _⟩

set_option maxRecDepth 100000 in
theorem rSame_c {L1 M1 L2 M2 : Nat} {E1 E2 : List Mb} (w : World) (h1 : RollAt w L1 M1 E1) (h2 : RollAt w L2 M2 E2) :
    Calls Try.prog 15 #[.pointer (some ⟨L1, 0, none⟩), .pointer (some ⟨L2, 0, none⟩)] w (Ret (.bool (eqB E1 E2)) w) := by
  go_enter Try.func15, Try.ntmps15
  have T1 := Lib.hid True.intro
  have HB := Lib.hid (Below.refl w.heap.size w)
  go_wp2_with (go_at_call 26; first
    | (have T2 := T1; clear T2 T1; refine (rNone_c _ h1).mono ?_; rintro en w1 ⟨rfl, rfl⟩)
    | (refine (rNone_c _ h2).mono ?_; rintro en w2 ⟨rfl, rfl⟩))
  refine wp_region_pi [(0, false), (1, false), (2, false), (3, false), (4, false), (5, false), (6, false), (7, false), (8, true), (9, false)] (by kernel_rfl) (by kernel_rfl) (by kernel_rfl) rfl (fun _ _ d _ _ h => by cases d <;> exact h) (fun Wd hBd => ?_)
  try simp only [Act.put, List.getElem_toArray, List.getElem_cons_zero, List.getElem_cons_succ, List.setIfInBounds_toArray, List.set_cons_zero, List.set_cons_succ]
  have h3 := h1.below hBd
  have h4 := h2.below hBd
  have c3 : ∀ w', Below Wd.heap.size Wd w' → w'.cell? ⟨L1, 0, none⟩ = some (.map (some M1)) := fun w' h => cell_up h (h3.var.cell (i := 0) rfl)
  have c4 : ∀ w', Below Wd.heap.size Wd w' → w'.cell? ⟨L2, 0, none⟩ = some (.map (some M2)) := fun w' h => cell_up h (h4.var.cell (i := 0) rfl)
  refine pi_q (v := ?_) rfl (by rfl) ?_ ?_
  rotate_left
  · intro w' hBw'
    first | (go_simp; done) | (go_simp; with_reducible rfl)
  try simp only [Act.put, List.getElem_toArray, List.getElem_cons_zero, List.getElem_cons_succ, List.setIfInBounds_toArray, List.set_cons_zero, List.set_cons_succ]
  refine pi_q (v := ?_) rfl (by rfl) ?_ ?_
  rotate_left
  · intro w' hBw'
    first | (go_simp; done) | (go_simp; with_reducible rfl)
  try simp only [Act.put, List.getElem_toArray, List.getElem_cons_zero, List.getElem_cons_succ, List.setIfInBounds_toArray, List.set_cons_zero, List.set_cons_succ]
  refine pi_q (v := ?_) rfl (by rfl) ?_ ?_
  rotate_left
  · intro w' hBw'
    first | (go_simp; done) | (go_simp; with_reducible rfl)
  try simp only [Act.put, List.getElem_toArray, List.getElem_cons_zero, List.getElem_cons_succ, List.setIfInBounds_toArray, List.set_cons_zero, List.set_cons_succ]
  refine pi_q (v := ?_) rfl (by rfl) ?_ ?_
  rotate_left
  · intro w' hBw'
    first | (go_simp; done) | (go_simp; with_reducible rfl)
  try simp only [Act.put, List.getElem_toArray, List.getElem_cons_zero, List.getElem_cons_succ, List.setIfInBounds_toArray, List.set_cons_zero, List.set_cons_succ]
  refine pi_q (v := ?_) rfl (by rfl) ?_ ?_
  rotate_left
  · intro w' hBw'
    first | (go_simp; done) | (go_simp; with_reducible rfl)
  try simp only [Act.put, List.getElem_toArray, List.getElem_cons_zero, List.getElem_cons_succ, List.setIfInBounds_toArray, List.set_cons_zero, List.set_cons_succ]
  refine pi_q (v := ?_) rfl (by rfl) ?_ ?_
  rotate_left
  · intro w' hBw'
    first | (go_simp; done) | (go_simp; with_reducible rfl)
  try simp only [Act.put, List.getElem_toArray, List.getElem_cons_zero, List.getElem_cons_succ, List.setIfInBounds_toArray, List.set_cons_zero, List.set_cons_succ]
  refine pi_q (v := ?_) rfl (by rfl) ?_ ?_
  rotate_left
  · intro w' hBw'
    first | (go_simp; done) | (go_simp; with_reducible rfl)
  try simp only [Act.put, List.getElem_toArray, List.getElem_cons_zero, List.getElem_cons_succ, List.setIfInBounds_toArray, List.set_cons_zero, List.set_cons_succ]
  refine pi_q (v := ?_) rfl (by rfl) ?_ ?_
  rotate_left
  · intro w' hBw'
    first | (go_simp; done) | (go_simp; with_reducible rfl)
  try simp only [Act.put, List.getElem_toArray, List.getElem_cons_zero, List.getElem_cons_succ, List.setIfInBounds_toArray, List.set_cons_zero, List.set_cons_succ]
  refine pi_c rfl (by rfl) (fun K hK => ?_)
  go_simp
  refine (rEqual_c _ h3.map h4.map h3.wf).mono ?_
  rintro en w5 ⟨rfl, hb5⟩
  go_wp2_with fail
  refine hK.out _ _ hb5 ?_
  clear hK K
  try simp only [Act.put, List.getElem_toArray, List.getElem_cons_zero, List.getElem_cons_succ, List.setIfInBounds_toArray, List.set_cons_zero, List.set_cons_succ]
  refine pi_q (v := ?_) rfl (by rfl) ?_ ?_
  rotate_left
  · intro w' hBw'
    first | (go_simp; done) | (go_simp; with_reducible rfl)
  try simp only [Act.put, List.getElem_toArray, List.getElem_cons_zero, List.getElem_cons_succ, List.setIfInBounds_toArray, List.set_cons_zero, List.set_cons_succ]
  refine pi_nil ?_
  go_wp2
  go_ret
  exact ⟨rfl, below_up (below_up HB.out hBd) hb5⟩
end Go.Proofs.Yteakpppabgbpeaa
