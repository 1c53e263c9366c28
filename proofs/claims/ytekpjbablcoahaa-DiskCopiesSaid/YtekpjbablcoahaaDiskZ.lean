/-
  The law's act: what it has at hand; Arm, Sync, Crash.
-/
import Derived.Test.YtekpjbablcoahaaDiskXY
namespace Go.Proofs.Ytekpjbablcoahaa
open Go.RowKit Go.Maps Dk
set_option linter.unusedSimpArgs false
set_option linter.unusedVariables false

theorem i64_hi {n : Int} (h : (Lit.int .i64 n).wf = true) : n ≤ 9223372036854775807 := by
  simp [Lit.wf, IntKind.bits, IntKind.signed] at h
  omega
/-- What reads strings or writes does not lie in a document's disk's variable. -/
theorem RefAt.pastR {w w' : World} {X n1 n2 c1 c2 : Nat} {a1 a2 : Option Addr} {k : Int} {v : Value} {r : RDisk} (h : RefAt w v r) (hr : RowAt w X #[.slice a1 n1 c1, .slice a2 n2 c2, .int .i64 k] 47) (hb : But (· = X) w w') : RefAt w' v r := by
  obtain ⟨lv, wv, rfl, h1, h2⟩ := h.ex
  exact RefAt.mk' (h1.but hb ((str_apart h1 hr).imp id fun h q hq => h q hq)) (h2.but hb ((rp_apart h2 hr).imp id fun h q hq => h q hq))
theorem DiskAt.pastX {w w' : World} {B M X : Nat} {u : Value} {d : Disk} {rs : Array Value} {T : TypeId} (h : DiskAt w B M u d) (hr : RowAt w X rs T) (hs : rs.size < 65) (hX : B ≠ X) (hb : But (· = X) w w') : DiskAt w' B M u d := by
  refine h.but hb hX ?_ ((h.sl.apart65 hr hs).imp id fun h q hq => h q hq)
  intro e
  obtain ⟨es, clock, hmm, _⟩ := h.map.ex
  have := hr
  unfold RowAt at this
  rw [← e, hmm] at this
  cases this
/-- What act has at hand. -/
structure DaW (w w1 : World) (B M : Nat) (d : Disk) (la : Option Addr) (lc : Nat) (wa : Option Addr) (wc : Nat) (r : RDisk) (x : Ac) : Prop where
  but : But (fun i => i = B ∨ i = M) w w1
  p : RowAt w1 w.heap.size #[.slice la r.L.length lc, .slice wa r.W.length wc, .int .i64 r.armed] 47
  c : RowAt w1 (w.heap.size + 1) (acC x).toArray 54
  z : RowAt w1 (w.heap.size + 1 + 1) #[.slice none 0 0, .slice none 0 0, .int .i64 0] 47
  disk : ∃ u, DiskAt w1 B M u d
  want : RefAt w1 (.agg #[.slice la r.L.length lc, .slice wa r.W.length wc, .int .i64 r.armed]) r
  ac : AcAt w1 x
  low : B < w.heap.size ∧ M < w.heap.size
theorem DaW.up {w w1 w2 : World} {B M : Nat} {d : Disk} {la wa : Option Addr} {lc wc : Nat} {r : RDisk} {x : Ac} (h : DaW w w1 B M d la lc wa wc r x) (hb : Below w1.heap.size w1 w2) : DaW w w2 B M d la lc wa wc r x :=
  ⟨h.but.trans (But.of_below hb), h.p.below hb, h.c.below hb, h.z.below hb, h.disk.imp fun _ hd => hd.below hb, h.want.up hb, h.ac.up hb, h.low⟩
theorem DaW.step {w w1 w2 : World} {B M : Nat} {d d' : Disk} {la wa : Option Addr} {lc wc : Nat} {r : RDisk} {x : Ac} (h : DaW w w1 B M d la lc wa wc r x) (hd : ∃ u, DiskAt w2 B M u d') (hb : But (fun i => i = B ∨ i = M) w1 w2) : DaW w w2 B M d' la lc wa wc r x := by
  obtain ⟨u, hD⟩ := h.disk
  have l1 := h.low.1
  have l2 := h.low.2
  exact ⟨h.but.trans hb, (hb.same _ h.p.lt (by omega)).trans h.p, (hb.same _ h.c.lt (by omega)).trans h.c, (hb.same _ h.z.lt (by omega)).trans h.z, hd, h.want.pastD hD hb, h.ac.pastD hD hb, h.low⟩
theorem DaW.start {w : World} {B M : Nat} {u : Value} {d : Disk} {la wa : Option Addr} {lc wc : Nat} {r : RDisk} {x : Ac} (hd : DiskAt w B M u d) (hr : RefAt w (.agg #[.slice la r.L.length lc, .slice wa r.W.length wc, .int .i64 r.armed]) r) (hx : AcAt w x) : DaW w (((w.alloc (.cells #[.slice la r.L.length lc, .slice wa r.W.length wc, .int .i64 r.armed] 47)).alloc (.cells (acC x).toArray 54)).alloc (.cells #[.slice none 0 0, .slice none 0 0, .int .i64 0] 47)) B M d la lc wa wc r x := by
  have hB3 : Below w.heap.size w (((w.alloc (.cells #[.slice la r.L.length lc, .slice wa r.W.length wc, .int .i64 r.armed] 47)).alloc (.cells (acC x).toArray 54)).alloc (.cells #[.slice none 0 0, .slice none 0 0, .int .i64 0] 47)) := ((below_alloc w _).alloc (by simp) _).alloc (by simp; omega) _
  have h2 := RowAt.new (w.alloc (.cells #[.slice la r.L.length lc, .slice wa r.W.length wc, .int .i64 r.armed] 47)) (acC x).toArray 54
  rw [World.size_alloc] at h2
  have h3 := RowAt.new ((w.alloc (.cells #[.slice la r.L.length lc, .slice wa r.W.length wc, .int .i64 r.armed] 47)).alloc (.cells (acC x).toArray 54)) #[.slice none 0 0, .slice none 0 0, .int .i64 0] 47
  rw [World.size_alloc, World.size_alloc] at h3
  exact ⟨But.of_below hB3, ((RowAt.new w _ _).below (below_alloc _ _)).below (below_alloc _ _), h2.below (below_alloc _ _), h3, ⟨u, hd.below hB3⟩, hr.up hB3, hx.up hB3, hd.var.lt, hd.map.lt⟩
/-- What act leaves. -/
def ActP (B M : Nat) (r' : RDisk) (w : World) (en : Ending) (w' : World) : Prop := ∃ v' u' d', en = .returned (.tuple #[v', .bool true]) ∧ RefAt w' v' r' ∧ DiskAt w' B M u' d' ∧ Rel d' r' ∧ But (fun i => i = B ∨ i = M) w w'
/-- The last step of act: its result is laid. -/
theorem DaW.fin {w w6 wA : World} {B M : Nat} {d' : Disk} {la wa : Option Addr} {lc wc : Nat} {r r' : RDisk} {x : Ac} {v' : Value} (h : DaW w w6 B M d' la lc wa wc r x) (hv : RefAt w6 v' r') (hrel : Rel d' r') (hb : But (· = w.heap.size + 1 + 1) w6 wA) : ActP B M r' w (.returned (.tuple #[v', .bool true])) wA := by
  obtain ⟨u, hD⟩ := h.disk
  have l1 := h.low.1
  exact ⟨v', u, d', rfl, hv.pastR h.z hb, hD.pastX h.z (by simp) (by omega) hb, hrel, h.but.then hb (fun j hj e => by omega)⟩
/-- A reference's disk, apart. -/
theorem RefAt.apart {w : World} {v : Value} {r : RDisk} (h : RefAt w v r) : ∃ la lc wa wc, v = .agg #[.slice la r.L.length lc, .slice wa r.W.length wc, .int .i64 r.armed] := by
  obtain ⟨lv, wv, rfl, h1, h2⟩ := h.ex
  obtain ⟨la, lc, rfl⟩ := h1.len
  obtain ⟨wa, wc, rfl⟩ := h2.len
  exact ⟨la, lc, wa, wc, rfl⟩
def Dk.syR (r : RDisk) : RDisk := if r.armed = 0 then r else ⟨laysR r.L r.W, [], doneF r.armed⟩
def Dk.syD (d : Disk) : Disk := if d.left = 0 then d else ⟨doneF d.left, d.many, laysF d.E d.W, []⟩
theorem Dk.Rel.sy {d : Disk} {r : RDisk} (h : Rel d r) : Rel (syD d) (syR r) := by
  unfold syD syR
  rw [h.left]
  split
  · exact h
  · have := h.sync
    rwa [h.left] at this
theorem rSyncAll_c (r : RDisk) (hL : r.L.length ≤ 5000) (hk : ∀ p ∈ r.W, 0 ≤ p.1 ∧ p.1 < (r.L.length : Int)) (ha : -1 ≤ r.armed) (ha2 : r.armed ≤ 9223372036854775807) (v : Value) (w : World) (h : RefAt w v r) :
    Calls Try.prog 45 #[v] w (GivesR2 (syR r) (if r.armed = 0 then 190 else 0) w) := by
  unfold syR
  by_cases h0 : r.armed = 0
  · rw [if_pos h0, if_pos h0]; exact rSyncNo_c r h0 v w h
  · rw [if_neg h0, if_neg h0]; exact rSync_c r hL hk ha ha2 h0 v w h
theorem dSyncAll_c {B M : Nat} {u : Value} {d : Disk} (hl : -1 ≤ d.left) (hl2 : d.left ≤ 9223372036854775807) (w : World) (h : DiskAt w B M u d) : Calls Try.prog 11 #[.pointer (some ⟨B, 0, none⟩)] w fun en w' => en = .returned (.int .i64 (if d.left = 0 then 190 else 0)) ∧ (∃ u', DiskAt w' B M u' (syD d)) ∧ But (fun i => i = B ∨ i = M) w w' := by
  unfold syD
  by_cases h0 : d.left = 0
  · rw [if_pos h0, if_pos h0]
    refine (dSyncNo_c w h h0).mono ?_
    rintro en w' ⟨rfl, hB⟩
    exact ⟨rfl, ⟨u, h.below hB⟩, But.of_below hB⟩
  · rw [if_neg h0, if_neg h0]
    refine (dSync_c hl hl2 w h h0).mono ?_
    rintro en w' ⟨rfl, hD, hb⟩
    exact ⟨rfl, ⟨_, hD⟩, hb⟩

set_option maxHeartbeats 400000 in
set_option maxRecDepth 100000 in
theorem actArm_c (x : Ac) {B M : Nat} {u v : Value} {d : Disk} {r : RDisk} (w : World) (hd : DiskAt w B M u d) (hr : RefAt w v r) (hrel : Rel d r) (hx : AcAt w x) (hw : x.what = 4) :
    Calls Try.prog 20 #[.pointer (some ⟨B, 0, none⟩), v, acV x] w (ActP B M ⟨r.L, r.W, max (-1) x.more⟩ w) := by
  obtain ⟨la, lc, wa, wc, rfl⟩ := hr.apart
  have V0 := DaW.start hd hr hx
  have c0 := V0.c.cell (i := 0) (v := .int .i64 x.what) rfl
  have c1 := V0.c.cell (i := 1) (v := .int .i64 x.sec) rfl
  have c2 := V0.c.cell (i := 2) (v := .int .i64 x.more) rfl
  have c3 := V0.c.cell (i := 3) (v := .int .u8 (x.byte.toNat : Int)) rfl
  have c4 := V0.c.cell (i := 4) (v := .slice x.ka x.kn x.kc) rfl
  have p0 := V0.p.cell (i := 0) (v := .slice la r.L.length lc) rfl
  have p1 := V0.p.cell (i := 1) (v := .slice wa r.W.length wc) rfl
  have p2 := V0.p.cell (i := 2) (v := .int .i64 r.armed) rfl
  have hlow := V0.low
  rw [hw] at c0
  have hmw : x.more ≤ 9223372036854775807 := by have := hx.more_wf; exact i64_hi this
  have HREL := Lib.hid (hrel.arm x.more hmw)
  clear hrel hd hr hx hmw
  go_enter Try.func20, Try.ntmps20
  go_wp2
  refine wp_region_pt (fun i => i = B ∨ i = M ∨ i = w.heap.size + 1 + 1) (.q 0 (.q 1 (.q 2 (.q 4 (.q 5 (.q 6 (.c 3 (.c 7 (.c 8 (.q 9 (.c 10 (.q 11 .done)))))))))))) (by kernel_rfl) (by kernel_rfl) (by kernel_rfl) (by decide) (fun _ _ d _ _ h => by cases d <;> exact h) (fun Wd hBd => ?_)
  try simp only [Act.put, List.getElem_toArray, List.getElem_cons_zero, List.getElem_cons_succ, List.setIfInBounds_toArray, List.set_cons_zero, List.set_cons_succ]
  have V := V0.up hBd
  have qp0 : ∀ w', But (fun i => i = B ∨ i = M ∨ i = w.heap.size + 1 + 1) Wd w' → w'.cell? ⟨w.heap.size, 0, none⟩ = some (.slice la r.L.length lc) := fun w' h => h.cell (V.p.cell (i := 0) rfl) (by omega)
  have qp1 : ∀ w', But (fun i => i = B ∨ i = M ∨ i = w.heap.size + 1 + 1) Wd w' → w'.cell? ⟨w.heap.size, 1, none⟩ = some (.slice wa r.W.length wc) := fun w' h => h.cell (V.p.cell (i := 1) rfl) (by omega)
  have qp2 : ∀ w', But (fun i => i = B ∨ i = M ∨ i = w.heap.size + 1 + 1) Wd w' → w'.cell? ⟨w.heap.size, 2, none⟩ = some (.int .i64 r.armed) := fun w' h => h.cell (V.p.cell (i := 2) rfl) (by omega)
  have qc2 : ∀ w', But (fun i => i = B ∨ i = M ∨ i = w.heap.size + 1 + 1) Wd w' → w'.cell? ⟨w.heap.size + 1, 2, none⟩ = some (.int .i64 x.more) := fun w' h => h.cell (V.c.cell (i := 2) rfl) (by omega)
  have qc4 : ∀ w', But (fun i => i = B ∨ i = M ∨ i = w.heap.size + 1 + 1) Wd w' → w'.cell? ⟨w.heap.size + 1, 4, none⟩ = some (.slice x.ka x.kn x.kc) := fun w' h => h.cell (V.c.cell (i := 4) rfl) (by omega)
  have hlD := V.z.lt
  refine pt_q (v := ?_) rfl (by rfl) ?_ ?_
  rotate_left
  · intro w' hBw'
    first | (go_simp; done) | (go_simp; with_reducible rfl)
  try simp only [Act.put, List.getElem_toArray, List.getElem_cons_zero, List.getElem_cons_succ, List.setIfInBounds_toArray, List.set_cons_zero, List.set_cons_succ]
  refine pt_q (v := ?_) rfl (by rfl) ?_ ?_
  rotate_left
  · intro w' hBw'
    first | (go_simp; done) | (go_simp; with_reducible rfl)
  try simp only [Act.put, List.getElem_toArray, List.getElem_cons_zero, List.getElem_cons_succ, List.setIfInBounds_toArray, List.set_cons_zero, List.set_cons_succ]
  refine pt_q (v := ?_) rfl (by rfl) ?_ ?_
  rotate_left
  · intro w' hBw'
    first | (go_simp; done) | (go_simp; with_reducible rfl)
  try simp only [Act.put, List.getElem_toArray, List.getElem_cons_zero, List.getElem_cons_succ, List.setIfInBounds_toArray, List.set_cons_zero, List.set_cons_succ]
  refine pt_q (v := ?_) rfl (by rfl) ?_ ?_
  rotate_left
  · intro w' hBw'
    first | (go_simp; done) | (go_simp; with_reducible rfl)
  try simp only [Act.put, List.getElem_toArray, List.getElem_cons_zero, List.getElem_cons_succ, List.setIfInBounds_toArray, List.set_cons_zero, List.set_cons_succ]
  refine pt_q (v := ?_) rfl (by rfl) ?_ ?_
  rotate_left
  · intro w' hBw'
    first | (go_simp; done) | (go_simp; with_reducible rfl)
  try simp only [Act.put, List.getElem_toArray, List.getElem_cons_zero, List.getElem_cons_succ, List.setIfInBounds_toArray, List.set_cons_zero, List.set_cons_succ]
  refine pt_q (v := ?_) rfl (by rfl) ?_ ?_
  rotate_left
  · intro w' hBw'
    first | (go_simp; done) | (go_simp; with_reducible rfl)
  try simp only [Act.put, List.getElem_toArray, List.getElem_cons_zero, List.getElem_cons_succ, List.setIfInBounds_toArray, List.set_cons_zero, List.set_cons_succ]
  refine pt_c ?_
  refine pt_step rfl (by rfl) (fun K hK => ?_)
  go_simp
  refine (rArm_c x.more r _ Wd V.want).mono ?_
  rintro en w4 ⟨v4, rfl, hR4, hb4⟩
  have V4 := V.up hb4
  obtain ⟨a4, n4, a5, n5, rfl⟩ := hR4.apart
  have hz4 := hb4.size
  have rc2 : ∀ w', But (fun i => i = B ∨ i = M ∨ i = w.heap.size + 1 + 1) w4 w' → w'.cell? ⟨w.heap.size + 1, 2, none⟩ = some (.int .i64 x.more) := fun w' h => h.cell (V4.c.cell (i := 2) rfl) (by omega)
  have rc4 : ∀ w', But (fun i => i = B ∨ i = M ∨ i = w.heap.size + 1 + 1) w4 w' → w'.cell? ⟨w.heap.size + 1, 4, none⟩ = some (.slice x.ka x.kn x.kc) := fun w' h => h.cell (V4.c.cell (i := 4) rfl) (by omega)
  obtain ⟨u4, hD4⟩ := V4.disk
  refine hK.out _ _ (But.of_below hb4) ?_
  clear hK K
  try simp only [Act.put, List.getElem_toArray, List.getElem_cons_zero, List.getElem_cons_succ, List.setIfInBounds_toArray, List.set_cons_zero, List.set_cons_succ]
  refine pt_c ?_
  refine pt_step rfl (by rfl) (fun K hK => ?_)
  go_simp
  refine (dArm_c x.more w4 hD4).mono ?_
  rintro en w6 ⟨rfl, hD6, hb6⟩
  have V6 := V4.step ⟨_, hD6⟩ (hb6.mono fun i _ e => .inl e)
  have hR6 := hR4.pastD hD4 (hb6.mono fun i _ e => .inl e)
  refine hK.out _ _ (hb6.mono fun i _ e => .inl e) ?_
  clear hK K
  try simp only [Act.put, List.getElem_toArray, List.getElem_cons_zero, List.getElem_cons_succ, List.setIfInBounds_toArray, List.set_cons_zero, List.set_cons_succ]
  refine pt_c ?_
  refine pt_step rfl (by rfl) (fun K hK => ?_)
  go_simp
  refine (dNum_c 0 _).mono ?_
  rintro en w7 ⟨rfl, rfl⟩
  refine hK.out _ _ (But.refl _ _) ?_
  clear hK K
  try simp only [Act.put, List.getElem_toArray, List.getElem_cons_zero, List.getElem_cons_succ, List.setIfInBounds_toArray, List.set_cons_zero, List.set_cons_succ]
  refine pt_q (v := ?_) rfl (by rfl) ?_ ?_
  rotate_left
  · intro w' hBw'
    first | (go_simp; done) | (go_simp; with_reducible rfl)
  try simp only [Act.put, List.getElem_toArray, List.getElem_cons_zero, List.getElem_cons_succ, List.setIfInBounds_toArray, List.set_cons_zero, List.set_cons_succ]
  refine pt_c ?_
  refine pt_put_row rfl (by rfl) 47 _ _ rfl (w.heap.size + 1 + 1) [(.slice a4 r.L.length n4), (.slice a5 r.W.length n5), (.int .i64 (max (-1) x.more))] rfl rfl V6.z rfl (by kernel_rfl) rfl (.inr (.inr rfl)) (fun wA hRA hbA => ?_)
  try simp only [Act.put, List.getElem_toArray, List.getElem_cons_zero, List.getElem_cons_succ, List.setIfInBounds_toArray, List.set_cons_zero, List.set_cons_succ]
  refine pt_q (v := ?_) rfl (by rfl) ?_ ?_
  rotate_left
  · intro w' hBw'
    first | (go_simp; done) | (go_simp; with_reducible rfl)
  try simp only [Act.put, List.getElem_toArray, List.getElem_cons_zero, List.getElem_cons_succ, List.setIfInBounds_toArray, List.set_cons_zero, List.set_cons_succ]
  refine pt_done ?_
  have rA0 := hRA.cell (i := 0) rfl
  have rA1 := hRA.cell (i := 1) rfl
  have rA2 := hRA.cell (i := 2) rfl
  go_wp2
  exact bodyPost_ret (v := .tuple #[.agg #[.slice a4 r.L.length n4, .slice a5 r.W.length n5, .int .i64 (max (-1) x.more)], .bool true]) (by simp [results, Try.results20, go_sem, rA0, rA1, rA2]) rfl (V6.fin hR6 HREL.out hbA)

set_option maxHeartbeats 400000 in
set_option maxRecDepth 100000 in
theorem actCrash_c (x : Ac) {B M : Nat} {u v : Value} {d : Disk} {r : RDisk} (w : World) (hd : DiskAt w B M u d) (hr : RefAt w v r) (hrel : Rel d r) (hx : AcAt w x) (hw : x.what = 3) :
    Calls Try.prog 20 #[.pointer (some ⟨B, 0, none⟩), v, acV x] w (ActP B M ⟨crashR r.L r.W x.keep r.W.length, [], -1⟩ w) := by
  obtain ⟨la, lc, wa, wc, rfl⟩ := hr.apart
  have V0 := DaW.start hd hr hx
  have c0 := V0.c.cell (i := 0) (v := .int .i64 x.what) rfl
  have c1 := V0.c.cell (i := 1) (v := .int .i64 x.sec) rfl
  have c2 := V0.c.cell (i := 2) (v := .int .i64 x.more) rfl
  have c3 := V0.c.cell (i := 3) (v := .int .u8 (x.byte.toNat : Int)) rfl
  have c4 := V0.c.cell (i := 4) (v := .slice x.ka x.kn x.kc) rfl
  have p0 := V0.p.cell (i := 0) (v := .slice la r.L.length lc) rfl
  have p1 := V0.p.cell (i := 1) (v := .slice wa r.W.length wc) rfl
  have p2 := V0.p.cell (i := 2) (v := .int .i64 r.armed) rfl
  have hlow := V0.low
  rw [hw] at c0
  have HREL := hrel.crash x.keep
  have hc := fun v w h hk => rCrash_c r (by have := hrel.few; omega) hrel.keys (.slice x.ka x.kn x.kc) x.kn x.keep v w h hk
  obtain ⟨R', hR'⟩ : ∃ R' : RDisk, R' = ⟨crashR r.L r.W x.keep r.W.length, [], -1⟩ := ⟨_, rfl⟩
  rw [← hR'] at HREL hc ⊢
  have HC := Lib.hid hc
  have HREL := Lib.hid HREL
  clear hrel hd hr hx hc hR'
  go_enter Try.func20, Try.ntmps20
  go_wp2
  refine wp_region_pt (fun i => i = B ∨ i = M ∨ i = w.heap.size + 1 + 1) (.q 0 (.q 1 (.q 2 (.q 4 (.q 5 (.q 6 (.c 3 (.c 7 (.c 8 (.q 9 (.c 10 (.q 11 .done)))))))))))) (by kernel_rfl) (by kernel_rfl) (by kernel_rfl) (by decide) (fun _ _ d _ _ h => by cases d <;> exact h) (fun Wd hBd => ?_)
  try simp only [Act.put, List.getElem_toArray, List.getElem_cons_zero, List.getElem_cons_succ, List.setIfInBounds_toArray, List.set_cons_zero, List.set_cons_succ]
  have V := V0.up hBd
  have A := V.ac.sl
  have hlD := V.z.lt
  have qp0 : ∀ w', But (fun i => i = B ∨ i = M ∨ i = w.heap.size + 1 + 1) Wd w' → w'.cell? ⟨w.heap.size, 0, none⟩ = some (.slice la r.L.length lc) := fun w' h => h.cell (V.p.cell (i := 0) rfl) (by omega)
  have qp1 : ∀ w', But (fun i => i = B ∨ i = M ∨ i = w.heap.size + 1 + 1) Wd w' → w'.cell? ⟨w.heap.size, 1, none⟩ = some (.slice wa r.W.length wc) := fun w' h => h.cell (V.p.cell (i := 1) rfl) (by omega)
  have qp2 : ∀ w', But (fun i => i = B ∨ i = M ∨ i = w.heap.size + 1 + 1) Wd w' → w'.cell? ⟨w.heap.size, 2, none⟩ = some (.int .i64 r.armed) := fun w' h => h.cell (V.p.cell (i := 2) rfl) (by omega)
  have qc2 : ∀ w', But (fun i => i = B ∨ i = M ∨ i = w.heap.size + 1 + 1) Wd w' → w'.cell? ⟨w.heap.size + 1, 2, none⟩ = some (.int .i64 x.more) := fun w' h => h.cell (V.c.cell (i := 2) rfl) (by omega)
  have qc4 : ∀ w', But (fun i => i = B ∨ i = M ∨ i = w.heap.size + 1 + 1) Wd w' → w'.cell? ⟨w.heap.size + 1, 4, none⟩ = some (.slice x.ka x.kn x.kc) := fun w' h => h.cell (V.c.cell (i := 4) rfl) (by omega)
  refine pt_q (v := ?_) rfl (by rfl) ?_ ?_
  rotate_left
  · intro w' hBw'
    first | (go_simp; done) | (go_simp; with_reducible rfl)
  try simp only [Act.put, List.getElem_toArray, List.getElem_cons_zero, List.getElem_cons_succ, List.setIfInBounds_toArray, List.set_cons_zero, List.set_cons_succ]
  refine pt_q (v := ?_) rfl (by rfl) ?_ ?_
  rotate_left
  · intro w' hBw'
    first | (go_simp; done) | (go_simp; with_reducible rfl)
  try simp only [Act.put, List.getElem_toArray, List.getElem_cons_zero, List.getElem_cons_succ, List.setIfInBounds_toArray, List.set_cons_zero, List.set_cons_succ]
  refine pt_q (v := ?_) rfl (by rfl) ?_ ?_
  rotate_left
  · intro w' hBw'
    first | (go_simp; done) | (go_simp; with_reducible rfl)
  try simp only [Act.put, List.getElem_toArray, List.getElem_cons_zero, List.getElem_cons_succ, List.setIfInBounds_toArray, List.set_cons_zero, List.set_cons_succ]
  refine pt_q (v := ?_) rfl (by rfl) ?_ ?_
  rotate_left
  · intro w' hBw'
    first | (go_simp; done) | (go_simp; with_reducible rfl)
  try simp only [Act.put, List.getElem_toArray, List.getElem_cons_zero, List.getElem_cons_succ, List.setIfInBounds_toArray, List.set_cons_zero, List.set_cons_succ]
  refine pt_q (v := ?_) rfl (by rfl) ?_ ?_
  rotate_left
  · intro w' hBw'
    first | (go_simp; done) | (go_simp; with_reducible rfl)
  try simp only [Act.put, List.getElem_toArray, List.getElem_cons_zero, List.getElem_cons_succ, List.setIfInBounds_toArray, List.set_cons_zero, List.set_cons_succ]
  refine pt_q (v := ?_) rfl (by rfl) ?_ ?_
  rotate_left
  · intro w' hBw'
    first | (go_simp; done) | (go_simp; with_reducible rfl)
  try simp only [Act.put, List.getElem_toArray, List.getElem_cons_zero, List.getElem_cons_succ, List.setIfInBounds_toArray, List.set_cons_zero, List.set_cons_succ]
  refine pt_c ?_
  refine pt_step rfl (by rfl) (fun K hK => ?_)
  go_simp
  refine (HC.out (.agg #[.slice la r.L.length lc, .slice wa r.W.length wc, .int .i64 r.armed]) Wd V.want A).mono ?_
  rintro en w4 ⟨v4, rfl, hR4, hb4⟩
  have V4 := V.up hb4
  obtain ⟨a4, n4, a5, n5, rfl⟩ := hR4.apart
  have hz4 := hb4.size
  obtain ⟨u4, hD4⟩ := V4.disk
  refine hK.out _ _ (But.of_below hb4) ?_
  clear hK K
  try simp only [Act.put, List.getElem_toArray, List.getElem_cons_zero, List.getElem_cons_succ, List.setIfInBounds_toArray, List.set_cons_zero, List.set_cons_succ]
  refine pt_c ?_
  refine pt_step rfl (by rfl) (fun K hK => ?_)
  go_simp
  refine (dCrash_c (.slice x.ka x.kn x.kc) x.kn x.keep w4 hD4 V4.ac.sl).mono ?_
  rintro en w6 ⟨rfl, hD6, hb6⟩
  have V6 := V4.step ⟨_, hD6⟩ hb6
  have hR6 := hR4.pastD hD4 hb6
  refine hK.out _ _ (hb6.mono fun i _ e => e.elim .inl fun e => .inr (.inl e)) ?_
  clear hK K
  try simp only [Act.put, List.getElem_toArray, List.getElem_cons_zero, List.getElem_cons_succ, List.setIfInBounds_toArray, List.set_cons_zero, List.set_cons_succ]
  refine pt_c ?_
  refine pt_step rfl (by rfl) (fun K hK => ?_)
  go_simp
  refine (dNum_c 0 _).mono ?_
  rintro en w7 ⟨rfl, rfl⟩
  refine hK.out _ _ (But.refl _ _) ?_
  clear hK K
  try simp only [Act.put, List.getElem_toArray, List.getElem_cons_zero, List.getElem_cons_succ, List.setIfInBounds_toArray, List.set_cons_zero, List.set_cons_succ]
  refine pt_q (v := ?_) rfl (by rfl) ?_ ?_
  rotate_left
  · intro w' hBw'
    first | (go_simp; done) | (go_simp; with_reducible rfl)
  try simp only [Act.put, List.getElem_toArray, List.getElem_cons_zero, List.getElem_cons_succ, List.setIfInBounds_toArray, List.set_cons_zero, List.set_cons_succ]
  refine pt_c ?_
  refine pt_put_row rfl (by rfl) 47 _ _ rfl (w.heap.size + 1 + 1) [(.slice a4 R'.L.length n4), (.slice a5 R'.W.length n5), (.int .i64 R'.armed)] rfl rfl V6.z rfl (by kernel_rfl) rfl (.inr (.inr rfl)) (fun wA hRA hbA => ?_)
  try simp only [Act.put, List.getElem_toArray, List.getElem_cons_zero, List.getElem_cons_succ, List.setIfInBounds_toArray, List.set_cons_zero, List.set_cons_succ]
  refine pt_q (v := ?_) rfl (by rfl) ?_ ?_
  rotate_left
  · intro w' hBw'
    first | (go_simp; done) | (go_simp; with_reducible rfl)
  try simp only [Act.put, List.getElem_toArray, List.getElem_cons_zero, List.getElem_cons_succ, List.setIfInBounds_toArray, List.set_cons_zero, List.set_cons_succ]
  refine pt_done ?_
  have rA0 := hRA.cell (i := 0) rfl
  have rA1 := hRA.cell (i := 1) rfl
  have rA2 := hRA.cell (i := 2) rfl
  go_wp2
  exact bodyPost_ret (v := .tuple #[.agg #[.slice a4 R'.L.length n4, .slice a5 R'.W.length n5, .int .i64 R'.armed], .bool true]) (by simp [results, Try.results20, go_sem, rA0, rA1, rA2]) rfl (V6.fin hR6 HREL.out hbA)

set_option maxHeartbeats 400000 in
set_option maxRecDepth 100000 in
theorem actSync_c (x : Ac) {B M : Nat} {u v : Value} {d : Disk} {r : RDisk} (w : World) (hd : DiskAt w B M u d) (hr : RefAt w v r) (hrel : Rel d r) (hx : AcAt w x) (hw : x.what = 2) :
    Calls Try.prog 20 #[.pointer (some ⟨B, 0, none⟩), v, acV x] w (ActP B M (syR r) w) := by
  obtain ⟨la, lc, wa, wc, rfl⟩ := hr.apart
  have V0 := DaW.start hd hr hx
  have c0 := V0.c.cell (i := 0) (v := .int .i64 x.what) rfl
  have c1 := V0.c.cell (i := 1) (v := .int .i64 x.sec) rfl
  have c2 := V0.c.cell (i := 2) (v := .int .i64 x.more) rfl
  have c3 := V0.c.cell (i := 3) (v := .int .u8 (x.byte.toNat : Int)) rfl
  have c4 := V0.c.cell (i := 4) (v := .slice x.ka x.kn x.kc) rfl
  have p0 := V0.p.cell (i := 0) (v := .slice la r.L.length lc) rfl
  have p1 := V0.p.cell (i := 1) (v := .slice wa r.W.length wc) rfl
  have p2 := V0.p.cell (i := 2) (v := .int .i64 r.armed) rfl
  have hlow := V0.low
  rw [hw] at c0
  have HREL := hrel.sy
  have hc := fun v w h => rSyncAll_c r (by have := hrel.few; omega) hrel.keys hrel.lo hrel.hi v w h
  rw [← hrel.left] at hc
  have HLO := Lib.hid (show -1 ≤ d.left ∧ d.left ≤ 9223372036854775807 from ⟨by rw [hrel.left]; exact hrel.lo, by rw [hrel.left]; exact hrel.hi⟩)
  obtain ⟨R', hR'⟩ : ∃ R' : RDisk, R' = syR r := ⟨_, rfl⟩
  rw [← hR'] at HREL hc ⊢
  have hdc := fun u w (h : DiskAt w B M u d) => dSyncAll_c HLO.out.1 HLO.out.2 w h
  obtain ⟨E, hE⟩ : ∃ E : Int, (if d.left = 0 then 190 else 0) = E := ⟨_, rfl⟩
  simp only [hE] at hc hdc
  have HDC := Lib.hid hdc
  have HC := Lib.hid hc
  have HREL := Lib.hid HREL
  clear hrel hd hr hx hc hR' hdc hE
  go_enter Try.func20, Try.ntmps20
  go_wp2_with (go_at_call 45; refine (HC.out (.agg #[.slice la r.L.length lc, .slice wa r.W.length wc, .int .i64 r.armed]) _ V0.want).mono ?_; rintro en w4 ⟨v4, rfl, hR4, hb4⟩; obtain ⟨a4, n4, a5, n5, rfl⟩ := hR4.apart; have V4 := V0.up hb4)
  refine wp_region_pt (fun i => i = B ∨ i = M ∨ i = w.heap.size + 1 + 1) (.q 0 (.q 1 (.q 4 (.c 2 (.c 3 (.q 5 (.c 6 (.q 7 .done)))))))) (by kernel_rfl) (by kernel_rfl) (by kernel_rfl) (by decide) (fun _ _ d _ _ h => by cases d <;> exact h) (fun Wd hBd => ?_)
  try simp only [Act.put, List.getElem_toArray, List.getElem_cons_zero, List.getElem_cons_succ, List.setIfInBounds_toArray, List.set_cons_zero, List.set_cons_succ]
  have V5 := (V4.up (below_alloc w4 (.cells #[.slice a4 R'.L.length n4, .slice a5 R'.W.length n5, .int .i64 R'.armed] 47))).up hBd
  obtain ⟨u5, hD5⟩ := V5.disk
  have hlD := V5.z.lt
  have hR5 := hR4.up (below_alloc w4 (.cells #[.slice a4 R'.L.length n4, .slice a5 R'.W.length n5, .int .i64 R'.armed] 47))
  have X5 := (RowAt.new w4 #[.slice a4 R'.L.length n4, .slice a5 R'.W.length n5, .int .i64 R'.armed] 47).below hBd
  have hz5 := V4.z.lt
  have q0 : ∀ w', But (fun i => i = B ∨ i = M ∨ i = w.heap.size + 1 + 1) Wd w' → w'.cell? ⟨w4.heap.size, 0, none⟩ = some (.slice a4 R'.L.length n4) := fun w' h => h.cell (X5.cell (i := 0) rfl) (by omega)
  have q1 : ∀ w', But (fun i => i = B ∨ i = M ∨ i = w.heap.size + 1 + 1) Wd w' → w'.cell? ⟨w4.heap.size, 1, none⟩ = some (.slice a5 R'.W.length n5) := fun w' h => h.cell (X5.cell (i := 1) rfl) (by omega)
  have q2 : ∀ w', But (fun i => i = B ∨ i = M ∨ i = w.heap.size + 1 + 1) Wd w' → w'.cell? ⟨w4.heap.size, 2, none⟩ = some (.int .i64 R'.armed) := fun w' h => h.cell (X5.cell (i := 2) rfl) (by omega)
  refine pt_q (v := ?_) rfl (by rfl) ?_ ?_
  rotate_left
  · intro w' hBw'
    first | (go_simp; done) | (go_simp; with_reducible rfl)
  try simp only [Act.put, List.getElem_toArray, List.getElem_cons_zero, List.getElem_cons_succ, List.setIfInBounds_toArray, List.set_cons_zero, List.set_cons_succ]
  refine pt_q (v := ?_) rfl (by rfl) ?_ ?_
  rotate_left
  · intro w' hBw'
    first | (go_simp; done) | (go_simp; with_reducible rfl)
  try simp only [Act.put, List.getElem_toArray, List.getElem_cons_zero, List.getElem_cons_succ, List.setIfInBounds_toArray, List.set_cons_zero, List.set_cons_succ]
  refine pt_q (v := ?_) rfl (by rfl) ?_ ?_
  rotate_left
  · intro w' hBw'
    first | (go_simp; done) | (go_simp; with_reducible rfl)
  try simp only [Act.put, List.getElem_toArray, List.getElem_cons_zero, List.getElem_cons_succ, List.setIfInBounds_toArray, List.set_cons_zero, List.set_cons_succ]
  refine pt_c ?_
  refine pt_step rfl (by rfl) (fun K hK => ?_)
  go_simp
  refine (HDC.out _ _ hD5).mono ?_
  rintro en w6 ⟨rfl, hD6, hb6⟩
  have V6 := V5.step hD6 hb6
  have hR6 := (hR5.up hBd).pastD hD5 hb6
  refine hK.out _ _ (hb6.mono fun i _ e => e.elim .inl fun e => .inr (.inl e)) ?_
  clear hK K
  try simp only [Act.put, List.getElem_toArray, List.getElem_cons_zero, List.getElem_cons_succ, List.setIfInBounds_toArray, List.set_cons_zero, List.set_cons_succ]
  refine pt_c ?_
  refine pt_step rfl (by rfl) (fun K hK => ?_)
  go_simp
  refine (dNum_c _ _).mono ?_
  rintro en w7 ⟨rfl, rfl⟩
  refine hK.out _ _ (But.refl _ _) ?_
  clear hK K
  try simp only [Act.put, List.getElem_toArray, List.getElem_cons_zero, List.getElem_cons_succ, List.setIfInBounds_toArray, List.set_cons_zero, List.set_cons_succ]
  refine pt_q (v := ?_) rfl (by rfl) ?_ ?_
  rotate_left
  · intro w' hBw'
    first | (go_simp; done) | (go_simp; with_reducible rfl)
  try simp only [Act.put, List.getElem_toArray, List.getElem_cons_zero, List.getElem_cons_succ, List.setIfInBounds_toArray, List.set_cons_zero, List.set_cons_succ]
  refine pt_c ?_
  refine pt_put_row rfl (by rfl) 47 _ _ rfl (w.heap.size + 1 + 1) [(.slice a4 R'.L.length n4), (.slice a5 R'.W.length n5), (.int .i64 R'.armed)] rfl rfl V6.z rfl (by kernel_rfl) rfl (.inr (.inr rfl)) (fun wA hRA hbA => ?_)
  try simp only [Act.put, List.getElem_toArray, List.getElem_cons_zero, List.getElem_cons_succ, List.setIfInBounds_toArray, List.set_cons_zero, List.set_cons_succ]
  refine pt_q (v := ?_) rfl (by rfl) ?_ ?_
  rotate_left
  · intro w' hBw'
    first | (go_simp; done) | (go_simp; with_reducible rfl)
  try simp only [Act.put, List.getElem_toArray, List.getElem_cons_zero, List.getElem_cons_succ, List.setIfInBounds_toArray, List.set_cons_zero, List.set_cons_succ]
  refine pt_done ?_
  have rA0 := hRA.cell (i := 0) rfl
  have rA1 := hRA.cell (i := 1) rfl
  have rA2 := hRA.cell (i := 2) rfl
  go_wp2
  exact bodyPost_ret (v := .tuple #[.agg #[.slice a4 R'.L.length n4, .slice a5 R'.W.length n5, .int .i64 R'.armed], .bool true]) (by simp [results, Try.results20, go_sem, rA0, rA1, rA2]) rfl (V6.fin hR6 HREL.out hbA)
end Go.Proofs.Ytekpjbablcoahaa
