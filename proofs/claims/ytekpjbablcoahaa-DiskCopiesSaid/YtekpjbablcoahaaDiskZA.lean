/-
  The law's act: Write.
-/
import Derived.Test.YtekpjbablcoahaaDiskZ
namespace Go.Proofs.Ytekpjbablcoahaa
open Go.RowKit Go.Maps Dk
set_option linter.unusedSimpArgs false
set_option linter.unusedVariables false

def bytesRow (cs : Array Value) : Prop := ∀ (i : Nat) (v : Value), cs[i]? = some v → ∃ z, v = .int .u8 z
theorem by8_row (l : List UInt8) : bytesRow (by8 l).toArray := by
  intro i v h
  unfold by8 at h
  rw [List.getElem?_toArray, List.getElem?_map] at h
  cases hl : l[i]? with
  | none => rw [hl] at h; cases h
  | some b => rw [hl] at h; exact ⟨_, (Option.some.inj h).symm⟩
theorem bytesRow.set {cs : Array Value} (h : bytesRow cs) (k : Nat) (z : Int) : bytesRow (cs.setIfInBounds k (.int .u8 z)) := by
  intro i v hv
  rw [Array.getElem?_setIfInBounds] at hv
  split at hv
  · split at hv
    · exact ⟨z, (Option.some.inj hv).symm⟩
    · cases hv
  · exact h i v hv
theorem Sl.pastB {w w' : World} {sz n X : Nat} {v : Value} {l : List Value} {cs : Array Value} {T : TypeId} (h : Sl w sz v n l) (hr : RowAt w X cs T) (hc : bytesRow cs) (hx : n = 0 ∨ ∃ (j : Nat) (x : Value), l[j]? = some x ∧ ∀ z, x ≠ .int .u8 z) (hb : But (· = X) w w') : Sl w' sz v n l := by
  refine h.but hb ?_
  rcases hx with h0 | ⟨j, x, hj, ho⟩
  · exact .inl h0
  · exact (h.apartV hr hj (fun i e => by obtain ⟨z, hz⟩ := hc i x e; exact ho z hz)).imp id fun h q hq => h q hq
theorem RefAt.pastB {w w' : World} {X : Nat} {v : Value} {r : RDisk} {cs : Array Value} {T : TypeId} (h : RefAt w v r) (hr : RowAt w X cs T) (hc : bytesRow cs) (hb : But (· = X) w w') : RefAt w' v r := by
  obtain ⟨lv, wv, rfl, h1, h2⟩ := h.ex
  refine RefAt.mk' (h1.pastB hr hc ?_ hb) (h2.pastB hr hc ?_ hb)
  · cases hl : r.L with
    | nil => exact .inl rfl
    | cons s l => exact .inr ⟨0, strV s, rfl, by simp⟩
  · cases hl : r.W with
    | nil => exact .inl rfl
    | cons p l => exact .inr ⟨1, strV p.2, rfl, by simp⟩
theorem DiskAt.pastB {w w' : World} {B M X : Nat} {u : Value} {d : Disk} {cs : Array Value} {T : TypeId} (h : DiskAt w B M u d) (hr : RowAt w X cs T) (hc : bytesRow cs) (hX : B ≠ X) (hb : But (· = X) w w') : DiskAt w' B M u d := by
  refine h.but hb hX ?_ ?_
  · intro e
    obtain ⟨es, clock, hmm, _⟩ := h.map.ex
    have := hr
    unfold RowAt at this
    rw [← e, hmm] at this
    cases this
  · cases hl : d.W with
    | nil => exact .inl rfl
    | cons p l =>
      refine (h.sl.apartV hr (j := 0) (x := .int .i64 p.1) (by rw [hl]; rfl) (fun i e => ?_)).imp (fun h => by rw [← hl]; exact h) fun h q hq => h q hq
      obtain ⟨z, hz⟩ := hc i _ e
      cases hz
theorem DaW.pastB {w w1 w2 : World} {B M X : Nat} {d : Disk} {la wa : Option Addr} {lc wc : Nat} {r : RDisk} {x : Ac} {cs : Array Value} {T : TypeId} (h : DaW w w1 B M d la lc wa wc r x) (hr : RowAt w1 X cs T) (hc : bytesRow cs) (hX : w.heap.size + 1 + 1 < X) (hb : But (· = X) w1 w2) : DaW w w2 B M d la lc wa wc r x := by
  obtain ⟨u, hD⟩ := h.disk
  have l1 := h.low.1
  refine ⟨h.but.then hb (fun j hj e => by omega), (hb.same _ h.p.lt (by omega)).trans h.p, (hb.same _ h.c.lt (by omega)).trans h.c, (hb.same _ h.z.lt (by omega)).trans h.z, ⟨u, hD.pastB hr hc (by omega) hb⟩, h.want.pastB hr hc hb, ⟨?_, h.ac.sec_wf, h.ac.more_wf⟩, h.low⟩
  refine h.ac.sl.pastB hr hc ?_ hb
  have hl := h.ac.sl.1
  cases hk : x.keep with
  | nil => rw [hk] at hl; simp at hl; exact .inl (by omega)
  | cons s l => exact .inr ⟨0, .bool s, rfl, by simp⟩
theorem sl_ofB {w : World} {b n : Nat} {l : List UInt8} {T : TypeId} (h : RowAt w b (by8 l).toArray T) (hl : l.length = n) (hn : n ≤ 1000) : Sl w 1 (.slice (some ⟨b, 0, none⟩) n n) n (by8 l) := by
  refine ⟨by rw [by8_len, hl, Nat.mul_one], .inr ⟨b, 0, n, rfl, Nat.le_refl _, by simp only [maxLen]; omega, fun j u hj => ?_⟩⟩
  rw [Nat.zero_add]
  exact h.cell (by simpa using hj)
theorem make_bytes (m : Nat) (hm : m ≤ 1000) (w : World) : (Instr.makeSlice 33 (.int .i64 (m : Int)) (.int .i64 (m : Int))).run Try.prog w = .ok (.slice (some ⟨w.heap.size, 0, none⟩) m m) (w.alloc (.cells (by8 (List.replicate m 0)).toArray 5)) := by
  have h := run_make (P := Try.prog) w 33 5 Try.t5 (.int .u8 0) Try.underlying33 (by kernel_rfl) (by kernel_rfl) .i64 .i64 (m : Int) (m : Int) (by omega) (Int.le_refl _) (by rw [show Try.t5.bytes = 1 from by kernel_rfl]; omega) (by omega)
  rw [h]
  have e : madeCells (Value.int .u8 0).cells ((m : Int).toNat * Try.t5.size) = (by8 (List.replicate m 0)).toArray := by
    rw [show Try.t5.size = 1 from by kernel_rfl, Int.toNat_natCast, Nat.mul_one]
    apply Array.ext
    · rw [size_madeCells, List.size_toArray, by8_len, List.length_replicate]
    · intro i h1 h2
      simp [madeCells, by8, Value.cells, Nat.mod_one]
  rw [e, Int.toNat_natCast]

set_option maxHeartbeats 1000000 in
set_option maxRecDepth 100000 in
theorem actWrite0_c (x : Ac) {B M : Nat} {u v : Value} {d : Disk} {r : RDisk} (w : World) (hd : DiskAt w B M u d) (hr : RefAt w v r) (hrel : Rel d r) (hx : AcAt w x) (hw : x.what = 0) (hWn : r.W.length ≤ 100000) (hm : ¬ 0 < x.more) :
    Calls Try.prog 20 #[.pointer (some ⟨B, 0, none⟩), v, acV x] w (ActP B M (wrR r x.sec 64 (fullS x.byte)) w) := by
  obtain ⟨la, lc, wa, wc, rfl⟩ := hr.apart
  have V0 := DaW.start hd hr hx
  have c0 := V0.c.cell (i := 0) (v := .int .i64 x.what) rfl
  have c1 := V0.c.cell (i := 1) (v := .int .i64 x.sec) rfl
  have c2 := V0.c.cell (i := 2) (v := .int .i64 x.more) rfl
  have c3 := V0.c.cell (i := 3) (v := .int .u8 (x.byte.toNat : Int)) rfl
  have c4 := V0.c.cell (i := 4) (v := .slice x.ka x.kn x.kc) rfl
  have p0 := V0.p.cell (i := 0) (v := .slice la r.L.length lc) rfl
  have p1 := V0.p.cell (i := 1) (v := .slice wa r.W.length wc) rfl
  have p2 := V0.p.cell (i := 2) (v := .int .i64 r.armed) rfl
  have hlow := V0.low
  rw [hw] at c0
  obtain ⟨n, hn⟩ : ∃ n, n = 64 := ⟨_, rfl⟩
  have hn1 : n ≤ 1000 := by omega
  obtain ⟨bl, hbl⟩ : ∃ bl : List UInt8, bl = (fullS x.byte).1 := ⟨_, rfl⟩
  have hbs : bl.length = n := by rw [hn, hbl]; exact (fullS x.byte).2
  obtain ⟨sc, hsc⟩ : ∃ sc : Sec, sc = (fullS x.byte) := ⟨_, rfl⟩
  have hpre : bl.length = 64 → bl = sc.1 := by rw [hbl, hsc]; exact fun _ => rfl
  rw [← hsc]
  have hfull := fun w => dFullN_c x.byte _ rfl w
  have HF : RowKit.Hid (∀ w : World, Calls Try.prog 10 #[.int .u8 (x.byte.toNat : Int)] w fun en w' => en = .returned (.slice (some ⟨w.heap.size, 0, none⟩) n n) ∧ RowAt w' w.heap.size (by8 bl).toArray 5 ∧ Below w.heap.size w w') := Lib.hid (by rw [hbl, hn]; exact hfull)
  clear hfull
  have HREL := hrel.write x.sec n sc
  have hrw := fun v w h => rWriteAll_c r x.sec bl sc hpre (by rw [hbs]; exact hn1) hWn hrel.lo hrel.hi v w h
  have hdw := fun u w a c (h : DiskAt w B M u d) hb => dWriteAll_c (c := c) (a := a) (by rw [hrel.left]; exact hrel.lo) (by rw [hrel.left]; exact hrel.hi) (by rw [hrel.waits]; omega) x.sec bl sc hpre hbs hx.sec_wf w h hb
  rw [hbs] at hrw
  obtain ⟨E, hE⟩ : ∃ E : Int, rwriteE r x.sec n = E := ⟨_, rfl⟩
  rw [hrel.writeE] at hdw
  rw [hE] at hrw hdw
  rw [← hn]
  obtain ⟨R', hR'⟩ : ∃ R' : RDisk, R' = wrR r x.sec n sc := ⟨_, rfl⟩
  rw [← hR'] at HREL hrw ⊢
  have HR := Lib.hid hrw
  have HD := Lib.hid hdw
  have HREL := Lib.hid HREL
  have HN1 := Lib.hid hn1
  have HBS := Lib.hid hbs
  clear hrel hd hr hx hrw hdw hR' hE hWn hpre hbl hsc hbs hn
  go_enter Try.func20, Try.ntmps20
  go_wp2_with (first
    | (go_at_call 10; refine (HF.out _).mono ?_; rintro en w4 ⟨rfl, F4, hb4⟩; have V4 := V0.up hb4; have hz4 := hb4.size; try simp only [World.size_alloc] at hz4 F4; have k0 := V4.p.cell (i := 0) (v := .slice la r.L.length lc) rfl; have k1 := V4.p.cell (i := 1) (v := .slice wa r.W.length wc) rfl; have k2 := V4.p.cell (i := 2) (v := .int .i64 r.armed) rfl; have k3 := V4.c.cell (i := 1) (v := .int .i64 x.sec) rfl; have k4 := V4.c.cell (i := 2) (v := .int .i64 x.more) rfl; have V5 := V4; have F5 := F4; have hS5 := sl_ofB F4 HBS.out HN1.out; have hcv := run_str (P := Try.prog) Try.underlying33 Try.underlying5 Try.underlying9 hS5)
    | (go_at_call 44; refine (HR.out (.agg #[.slice la r.L.length lc, .slice wa r.W.length wc, .int .i64 r.armed]) _ V5.want).mono ?_; rintro en w6 ⟨v4, rfl, hR6, hb6⟩; obtain ⟨a4, n4, a5, n5, rfl⟩ := hR6.apart; have V6 := (V5.up hb6).up (below_alloc w6 (.cells #[.slice a4 R'.L.length n4, .slice a5 R'.W.length n5, .int .i64 R'.armed] 47)); have X6 := RowAt.new w6 #[.slice a4 R'.L.length n4, .slice a5 R'.W.length n5, .int .i64 R'.armed] 47; have hR6' := hR6.up (below_alloc w6 (.cells #[.slice a4 R'.L.length n4, .slice a5 R'.W.length n5, .int .i64 R'.armed] 47)); have G6 := (F5.below hb6).below (below_alloc w6 (.cells #[.slice a4 R'.L.length n4, .slice a5 R'.W.length n5, .int .i64 R'.armed] 47)); have m3 := V6.c.cell (i := 1) (v := .int .i64 x.sec) rfl; have hz6 := hb6.size; have hl6 := RowAt.lt (F5.below hb6); obtain ⟨u6, hD6⟩ := V6.disk)
    | (go_at_call 9; refine (HD.out u6 _ _ _ hD6 (hS5.up hb6 |>.up (below_alloc w6 (.cells #[.slice a4 R'.L.length n4, .slice a5 R'.W.length n5, .int .i64 R'.armed] 47)))).mono ?_; rintro en w7 ⟨rfl, hD7, hb7⟩; have hb7' : But (fun i => i = B ∨ i = M) _ w7 := hb7.mono fun i _ e => .inl e; have V7 := V6.step hD7 hb7'; have hR7 := hR6'.pastD hD6 hb7'; have G7 := Lib.hid ((hb7'.same _ G6.lt (by omega)).trans G6); have X7 := (hb7'.same _ X6.lt (by omega)).trans X6; have hG7 := Lib.hid (by8_row bl); have HX := Lib.hid (show w.heap.size + 1 + 1 < w.heap.size + 1 + 1 + 1 ∧ w.heap.size + 1 + 1 + 1 < w6.heap.size ∧ w.heap.size + 1 + 1 < w6.heap.size by have := G6.lt; (try simp only [World.size_alloc] at *); omega); clear hb7))
  go_loopw [12] (fun i wr => ∃ (k : Nat) (cs : Array Value), k ≤ n ∧ i = .int .i64 k ∧ cs.size = n ∧ bytesRow cs ∧ RowAt wr (w.heap.size + 1 + 1 + 1) cs 5 ∧ But (· = w.heap.size + 1 + 1 + 1) w7 wr) (fun i _ => n - (intOf i).toNat)
  case atStart => exact ⟨0, _, Nat.zero_le _, rfl, by rw [List.size_toArray, by8_len]; exact HBS.out, by8_row _, G7.out, But.refl _ _⟩
  case round =>
    obtain ⟨k, cs, hk, rfl, hcs, hby, hR, hbL⟩ := hrel
    by_cases hlt : k < n
    · obtain ⟨v, hv⟩ : ∃ v, cs[k]? = some v := ⟨cs[k]'(by omega), Array.getElem?_eq_getElem (by omega)⟩
      obtain ⟨z, rfl⟩ := hby k v hv
      have hc := hR.cell hv
      have hf := hR.fz k
      have hki : (k : Int) < (n : Int) := by omega
      have HR2 := Lib.hid hR
      have HB2 := Lib.hid hbL
      have HBY := Lib.hid hby
      clear hR hbL hby
      go_wp2
      go_roundw
      case rel => exact ⟨k + 1, _, by omega, by go_num, by rw [Array.size_setIfInBounds]; exact hcs, HBY.out.set k _, HR2.out.set k _, HB2.out.trans (But.setCell _ _ _ (.inl rfl))⟩
      case measure => simp [intOf]; omega
    · obtain rfl : k = n := by omega
      go_wp2
      refine wp_region_pt (fun i => i = B ∨ i = M ∨ i = w.heap.size + 1 + 1) (.q 0 (.q 1 (.q 3 (.c 2 (.q 4 (.c 5 (.q 6 .done))))))) (by kernel_rfl) (by kernel_rfl) (by kernel_rfl) (by decide) (fun _ _ d _ _ h => by cases d <;> exact h) (fun Wd hBd => ?_)
      try simp only [Act.put, List.getElem_toArray, List.getElem_cons_zero, List.getElem_cons_succ, List.setIfInBounds_toArray, List.set_cons_zero, List.set_cons_succ]
      have V8 := (V7.pastB G7.out hG7.out HX.out.1 hbL).up hBd
      have hR8 := (hR7.pastB G7.out hG7.out hbL).up hBd
      have hlD := V8.z.lt
      have X8 := RowAt.below ((hbL.same _ (RowAt.lt X7) (by have := HX.out; omega)).trans X7) hBd
      have q0 : ∀ w', But (fun i => i = B ∨ i = M ∨ i = w.heap.size + 1 + 1) Wd w' → w'.cell? ⟨w6.heap.size, 0, none⟩ = some (.slice a4 R'.L.length n4) := fun w' h => h.cell (X8.cell (i := 0) rfl) (by have := HX.out; omega)
      have q1 : ∀ w', But (fun i => i = B ∨ i = M ∨ i = w.heap.size + 1 + 1) Wd w' → w'.cell? ⟨w6.heap.size, 1, none⟩ = some (.slice a5 R'.W.length n5) := fun w' h => h.cell (X8.cell (i := 1) rfl) (by have := HX.out; omega)
      have q2 : ∀ w', But (fun i => i = B ∨ i = M ∨ i = w.heap.size + 1 + 1) Wd w' → w'.cell? ⟨w6.heap.size, 2, none⟩ = some (.int .i64 R'.armed) := fun w' h => h.cell (X8.cell (i := 2) rfl) (by have := HX.out; omega)
      refine pt_q (v := ?_) rfl (by rfl) ?_ ?_
      rotate_left
      · intro w' hBw'
        first | (go_simp; done) | (go_simp; with_reducible rfl)
      try simp only [Act.put, List.getElem_toArray, List.getElem_cons_zero, List.getElem_cons_succ, List.setIfInBounds_toArray, List.set_cons_zero, List.set_cons_succ]
      refine pt_q (v := ?_) rfl (by rfl) ?_ ?_
      rotate_left
      · intro w' hBw'
        first | (go_simp; done) | (go_simp; with_reducible rfl)
      try simp only [Act.put, List.getElem_toArray, List.getElem_cons_zero, List.getElem_cons_succ, List.setIfInBounds_toArray, List.set_cons_zero, List.set_cons_succ]
      refine pt_q (v := ?_) rfl (by rfl) ?_ ?_
      rotate_left
      · intro w' hBw'
        first | (go_simp; done) | (go_simp; with_reducible rfl)
      try simp only [Act.put, List.getElem_toArray, List.getElem_cons_zero, List.getElem_cons_succ, List.setIfInBounds_toArray, List.set_cons_zero, List.set_cons_succ]
      refine pt_c ?_
      refine pt_step rfl (by rfl) (fun K hK => ?_)
      go_simp
      refine (dNum_c E _).mono ?_
      rintro en w7 ⟨rfl, rfl⟩
      refine hK.out _ _ (But.refl _ _) ?_
      clear hK K
      try simp only [Act.put, List.getElem_toArray, List.getElem_cons_zero, List.getElem_cons_succ, List.setIfInBounds_toArray, List.set_cons_zero, List.set_cons_succ]
      refine pt_q (v := ?_) rfl (by rfl) ?_ ?_
      rotate_left
      · intro w' hBw'
        first | (go_simp; done) | (go_simp; with_reducible rfl)
      try simp only [Act.put, List.getElem_toArray, List.getElem_cons_zero, List.getElem_cons_succ, List.setIfInBounds_toArray, List.set_cons_zero, List.set_cons_succ]
      refine pt_c ?_
      refine pt_put_row rfl (by rfl) 47 _ _ rfl (w.heap.size + 1 + 1) [(.slice a4 R'.L.length n4), (.slice a5 R'.W.length n5), (.int .i64 R'.armed)] rfl rfl V8.z rfl (by kernel_rfl) rfl (.inr (.inr rfl)) (fun wA hRA hbA => ?_)
      try simp only [Act.put, List.getElem_toArray, List.getElem_cons_zero, List.getElem_cons_succ, List.setIfInBounds_toArray, List.set_cons_zero, List.set_cons_succ]
      refine pt_q (v := ?_) rfl (by rfl) ?_ ?_
      rotate_left
      · intro w' hBw'
        first | (go_simp; done) | (go_simp; with_reducible rfl)
      try simp only [Act.put, List.getElem_toArray, List.getElem_cons_zero, List.getElem_cons_succ, List.setIfInBounds_toArray, List.set_cons_zero, List.set_cons_succ]
      refine pt_done ?_
      have rA0 := hRA.cell (i := 0) rfl
      have rA1 := hRA.cell (i := 1) rfl
      have rA2 := hRA.cell (i := 2) rfl
      go_wp2
      exact bodyPost_ret (v := .tuple #[.agg #[.slice a4 R'.L.length n4, .slice a5 R'.W.length n5, .int .i64 R'.armed], .bool true]) (by simp [results, Try.results20, go_sem, rA0, rA1, rA2]) rfl (V8.fin hR8 HREL.out hbA)

set_option maxHeartbeats 1000000 in
set_option maxRecDepth 100000 in
theorem actWrite1_c (x : Ac) {B M : Nat} {u v : Value} {d : Disk} {r : RDisk} (w : World) (hd : DiskAt w B M u d) (hr : RefAt w v r) (hrel : Rel d r) (hx : AcAt w x) (hw : x.what = 0) (hWn : r.W.length ≤ 100000) (hm : 0 < x.more) (hm2 : x.more ≤ 100) :
    Calls Try.prog 20 #[.pointer (some ⟨B, 0, none⟩), v, acV x] w (ActP B M (wrR r x.sec (x.more - 1).toNat zsec) w) := by
  obtain ⟨la, lc, wa, wc, rfl⟩ := hr.apart
  have V0 := DaW.start hd hr hx
  have c0 := V0.c.cell (i := 0) (v := .int .i64 x.what) rfl
  have c1 := V0.c.cell (i := 1) (v := .int .i64 x.sec) rfl
  have c2 := V0.c.cell (i := 2) (v := .int .i64 x.more) rfl
  have c3 := V0.c.cell (i := 3) (v := .int .u8 (x.byte.toNat : Int)) rfl
  have c4 := V0.c.cell (i := 4) (v := .slice x.ka x.kn x.kc) rfl
  have p0 := V0.p.cell (i := 0) (v := .slice la r.L.length lc) rfl
  have p1 := V0.p.cell (i := 1) (v := .slice wa r.W.length wc) rfl
  have p2 := V0.p.cell (i := 2) (v := .int .i64 r.armed) rfl
  have hlow := V0.low
  rw [hw] at c0
  obtain ⟨n, hn⟩ : ∃ n, n = (x.more - 1).toNat := ⟨_, rfl⟩
  have hn1 : n ≤ 1000 := by omega
  obtain ⟨bl, hbl⟩ : ∃ bl : List UInt8, bl = List.replicate (x.more - 1).toNat 0 := ⟨_, rfl⟩
  have hbs : bl.length = n := by rw [hn, hbl]; exact List.length_replicate
  obtain ⟨sc, hsc⟩ : ∃ sc : Sec, sc = zsec := ⟨_, rfl⟩
  have hpre : bl.length = 64 → bl = sc.1 := by rw [hbl, hsc]; exact fun h => by rw [List.length_replicate] at h; rw [h]; rfl
  rw [← hsc]
  have hmo : x.more = (n : Int) + 1 := by omega
  have HMO := Lib.hid hmo
  have hmk : ∀ w : World, (Instr.makeSlice 33 (.int .i64 (n : Int)) (.int .i64 (n : Int))).run Try.prog w = .ok (.slice (some ⟨w.heap.size, 0, none⟩) n n) (w.alloc (.cells (by8 bl).toArray 5)) := fun w => by rw [hbl, ← hn]; exact make_bytes n hn1 w
  have hfull := fun w => dFullN_c x.byte _ rfl w
  have HF := Lib.hid hfull
  clear hfull
  rw [hmo] at c2
  clear hmo hm hm2
  have HREL := hrel.write x.sec n sc
  have hrw := fun v w h => rWriteAll_c r x.sec bl sc hpre (by rw [hbs]; exact hn1) hWn hrel.lo hrel.hi v w h
  have hdw := fun u w a c (h : DiskAt w B M u d) hb => dWriteAll_c (c := c) (a := a) (by rw [hrel.left]; exact hrel.lo) (by rw [hrel.left]; exact hrel.hi) (by rw [hrel.waits]; omega) x.sec bl sc hpre hbs hx.sec_wf w h hb
  rw [hbs] at hrw
  obtain ⟨E, hE⟩ : ∃ E : Int, rwriteE r x.sec n = E := ⟨_, rfl⟩
  rw [hrel.writeE] at hdw
  rw [hE] at hrw hdw
  rw [← hn]
  obtain ⟨R', hR'⟩ : ∃ R' : RDisk, R' = wrR r x.sec n sc := ⟨_, rfl⟩
  rw [← hR'] at HREL hrw ⊢
  have HR := Lib.hid hrw
  have HD := Lib.hid hdw
  have HREL := Lib.hid HREL
  have HN1 := Lib.hid hn1
  have HBS := Lib.hid hbs
  clear hrel hd hr hx hrw hdw hR' hE hWn hpre hbl hsc hbs hn
  go_enter Try.func20, Try.ntmps20
  go_wp2_with (first
    | (go_at_call 10; refine (HF.out _).mono ?_; rintro en w4 ⟨rfl, F4, hb4⟩; have V4 := V0.up hb4; have hz4 := hb4.size; try simp only [World.size_alloc] at hz4 F4;  have kM := V4.c.cell (i := 2) (v := .int .i64 ((n : Int) + 1)) (by rw [← HMO.out]; rfl); have V5 := V4.up (below_alloc w4 (.cells (by8 bl).toArray 5)); have F5 := RowAt.new w4 (by8 bl).toArray 5; have hS5 := sl_ofB F5 HBS.out HN1.out; have hcv := run_str (P := Try.prog) Try.underlying33 Try.underlying5 Try.underlying9 hS5; have k0 := V5.p.cell (i := 0) (v := .slice la r.L.length lc) rfl; have k1 := V5.p.cell (i := 1) (v := .slice wa r.W.length wc) rfl; have k2 := V5.p.cell (i := 2) (v := .int .i64 r.armed) rfl; have k3 := V5.c.cell (i := 1) (v := .int .i64 x.sec) rfl)
    | (go_at_call 44; refine (HR.out (.agg #[.slice la r.L.length lc, .slice wa r.W.length wc, .int .i64 r.armed]) _ V5.want).mono ?_; rintro en w6 ⟨v4, rfl, hR6, hb6⟩; obtain ⟨a4, n4, a5, n5, rfl⟩ := hR6.apart; have V6 := (V5.up hb6).up (below_alloc w6 (.cells #[.slice a4 R'.L.length n4, .slice a5 R'.W.length n5, .int .i64 R'.armed] 47)); have X6 := RowAt.new w6 #[.slice a4 R'.L.length n4, .slice a5 R'.W.length n5, .int .i64 R'.armed] 47; have hR6' := hR6.up (below_alloc w6 (.cells #[.slice a4 R'.L.length n4, .slice a5 R'.W.length n5, .int .i64 R'.armed] 47)); have G6 := (F5.below hb6).below (below_alloc w6 (.cells #[.slice a4 R'.L.length n4, .slice a5 R'.W.length n5, .int .i64 R'.armed] 47)); have m3 := V6.c.cell (i := 1) (v := .int .i64 x.sec) rfl; have hz6 := hb6.size; have hl6 := RowAt.lt (F5.below hb6); obtain ⟨u6, hD6⟩ := V6.disk)
    | (go_at_call 9; refine (HD.out u6 _ _ _ hD6 (hS5.up hb6 |>.up (below_alloc w6 (.cells #[.slice a4 R'.L.length n4, .slice a5 R'.W.length n5, .int .i64 R'.armed] 47)))).mono ?_; rintro en w7 ⟨rfl, hD7, hb7⟩; have hb7' : But (fun i => i = B ∨ i = M) _ w7 := hb7.mono fun i _ e => .inl e; have V7 := V6.step hD7 hb7'; have hR7 := hR6'.pastD hD6 hb7'; have G7 := Lib.hid ((hb7'.same _ G6.lt (by omega)).trans G6); have X7 := (hb7'.same _ X6.lt (by omega)).trans X6; have hG7 := Lib.hid (by8_row bl); have HX := Lib.hid (show w.heap.size + 1 + 1 < w4.heap.size ∧ w4.heap.size < w6.heap.size ∧ w.heap.size + 1 + 1 < w6.heap.size by have := G6.lt; (try simp only [World.size_alloc] at *); omega); clear hb7))
  go_loopw [12] (fun i wr => ∃ (k : Nat) (cs : Array Value), k ≤ n ∧ i = .int .i64 k ∧ cs.size = n ∧ bytesRow cs ∧ RowAt wr (w4.heap.size) cs 5 ∧ But (· = w4.heap.size) w7 wr) (fun i _ => n - (intOf i).toNat)
  case atStart => exact ⟨0, _, Nat.zero_le _, rfl, by rw [List.size_toArray, by8_len]; exact HBS.out, by8_row _, G7.out, But.refl _ _⟩
  case round =>
    obtain ⟨k, cs, hk, rfl, hcs, hby, hR, hbL⟩ := hrel
    by_cases hlt : k < n
    · obtain ⟨v, hv⟩ : ∃ v, cs[k]? = some v := ⟨cs[k]'(by omega), Array.getElem?_eq_getElem (by omega)⟩
      obtain ⟨z, rfl⟩ := hby k v hv
      have hc := hR.cell hv
      have hf := hR.fz k
      have hki : (k : Int) < (n : Int) := by omega
      have HR2 := Lib.hid hR
      have HB2 := Lib.hid hbL
      have HBY := Lib.hid hby
      clear hR hbL hby
      go_wp2
      go_roundw
      case rel => exact ⟨k + 1, _, by omega, by go_num, by rw [Array.size_setIfInBounds]; exact hcs, HBY.out.set k _, HR2.out.set k _, HB2.out.trans (But.setCell _ _ _ (.inl rfl))⟩
      case measure => simp [intOf]; omega
    · obtain rfl : k = n := by omega
      go_wp2
      refine wp_region_pt (fun i => i = B ∨ i = M ∨ i = w.heap.size + 1 + 1) (.q 0 (.q 1 (.q 3 (.c 2 (.q 4 (.c 5 (.q 6 .done))))))) (by kernel_rfl) (by kernel_rfl) (by kernel_rfl) (by decide) (fun _ _ d _ _ h => by cases d <;> exact h) (fun Wd hBd => ?_)
      try simp only [Act.put, List.getElem_toArray, List.getElem_cons_zero, List.getElem_cons_succ, List.setIfInBounds_toArray, List.set_cons_zero, List.set_cons_succ]
      have V8 := (V7.pastB G7.out hG7.out HX.out.1 hbL).up hBd
      have hR8 := (hR7.pastB G7.out hG7.out hbL).up hBd
      have hlD := V8.z.lt
      have X8 := RowAt.below ((hbL.same _ (RowAt.lt X7) (by have := HX.out; omega)).trans X7) hBd
      have q0 : ∀ w', But (fun i => i = B ∨ i = M ∨ i = w.heap.size + 1 + 1) Wd w' → w'.cell? ⟨w6.heap.size, 0, none⟩ = some (.slice a4 R'.L.length n4) := fun w' h => h.cell (X8.cell (i := 0) rfl) (by have := HX.out; omega)
      have q1 : ∀ w', But (fun i => i = B ∨ i = M ∨ i = w.heap.size + 1 + 1) Wd w' → w'.cell? ⟨w6.heap.size, 1, none⟩ = some (.slice a5 R'.W.length n5) := fun w' h => h.cell (X8.cell (i := 1) rfl) (by have := HX.out; omega)
      have q2 : ∀ w', But (fun i => i = B ∨ i = M ∨ i = w.heap.size + 1 + 1) Wd w' → w'.cell? ⟨w6.heap.size, 2, none⟩ = some (.int .i64 R'.armed) := fun w' h => h.cell (X8.cell (i := 2) rfl) (by have := HX.out; omega)
      refine pt_q (v := ?_) rfl (by rfl) ?_ ?_
      rotate_left
      · intro w' hBw'
        first | (go_simp; done) | (go_simp; with_reducible rfl)
      try simp only [Act.put, List.getElem_toArray, List.getElem_cons_zero, List.getElem_cons_succ, List.setIfInBounds_toArray, List.set_cons_zero, List.set_cons_succ]
      refine pt_q (v := ?_) rfl (by rfl) ?_ ?_
      rotate_left
      · intro w' hBw'
        first | (go_simp; done) | (go_simp; with_reducible rfl)
      try simp only [Act.put, List.getElem_toArray, List.getElem_cons_zero, List.getElem_cons_succ, List.setIfInBounds_toArray, List.set_cons_zero, List.set_cons_succ]
      refine pt_q (v := ?_) rfl (by rfl) ?_ ?_
      rotate_left
      · intro w' hBw'
        first | (go_simp; done) | (go_simp; with_reducible rfl)
      try simp only [Act.put, List.getElem_toArray, List.getElem_cons_zero, List.getElem_cons_succ, List.setIfInBounds_toArray, List.set_cons_zero, List.set_cons_succ]
      refine pt_c ?_
      refine pt_step rfl (by rfl) (fun K hK => ?_)
      go_simp
      refine (dNum_c E _).mono ?_
      rintro en w7 ⟨rfl, rfl⟩
      refine hK.out _ _ (But.refl _ _) ?_
      clear hK K
      try simp only [Act.put, List.getElem_toArray, List.getElem_cons_zero, List.getElem_cons_succ, List.setIfInBounds_toArray, List.set_cons_zero, List.set_cons_succ]
      refine pt_q (v := ?_) rfl (by rfl) ?_ ?_
      rotate_left
      · intro w' hBw'
        first | (go_simp; done) | (go_simp; with_reducible rfl)
      try simp only [Act.put, List.getElem_toArray, List.getElem_cons_zero, List.getElem_cons_succ, List.setIfInBounds_toArray, List.set_cons_zero, List.set_cons_succ]
      refine pt_c ?_
      refine pt_put_row rfl (by rfl) 47 _ _ rfl (w.heap.size + 1 + 1) [(.slice a4 R'.L.length n4), (.slice a5 R'.W.length n5), (.int .i64 R'.armed)] rfl rfl V8.z rfl (by kernel_rfl) rfl (.inr (.inr rfl)) (fun wA hRA hbA => ?_)
      try simp only [Act.put, List.getElem_toArray, List.getElem_cons_zero, List.getElem_cons_succ, List.setIfInBounds_toArray, List.set_cons_zero, List.set_cons_succ]
      refine pt_q (v := ?_) rfl (by rfl) ?_ ?_
      rotate_left
      · intro w' hBw'
        first | (go_simp; done) | (go_simp; with_reducible rfl)
      try simp only [Act.put, List.getElem_toArray, List.getElem_cons_zero, List.getElem_cons_succ, List.setIfInBounds_toArray, List.set_cons_zero, List.set_cons_succ]
      refine pt_done ?_
      have rA0 := hRA.cell (i := 0) rfl
      have rA1 := hRA.cell (i := 1) rfl
      have rA2 := hRA.cell (i := 2) rfl
      go_wp2
      exact bodyPost_ret (v := .tuple #[.agg #[.slice a4 R'.L.length n4, .slice a5 R'.W.length n5, .int .i64 R'.armed], .bool true]) (by simp [results, Try.results20, go_sem, rA0, rA1, rA2]) rfl (V8.fin hR8 HREL.out hbA)
end Go.Proofs.Ytekpjbablcoahaa
