/-
  The reference: Sync, Crash.
-/
import Derived.Test.YtekpjbablcoahaaDiskQ
namespace Go.Proofs.Ytekpjbablcoahaa
open Go.RowKit Go.Maps Dk
set_option linter.unusedSimpArgs false
set_option linter.unusedVariables false

/-- Writes laid, one by one. -/
def Dk.laysR (L : List Sec) (W : List (Int × Sec)) : List Sec := W.foldl (fun L p => L.set p.1.toNat p.2) L
theorem Dk.laysR_take {L : List Sec} {W : List (Int × Sec)} {k : Nat} (hk : k < W.length) : laysR L (W.take (k + 1)) = (laysR L (W.take k)).set W[k].1.toNat W[k].2 := by
  unfold laysR; rw [List.take_succ_eq_append_getElem hk, List.foldl_append]; rfl
theorem Dk.laysR_len (W : List (Int × Sec)) : ∀ L : List Sec, (laysR L W).length = L.length := by
  induction W with
  | nil => intro L; rfl
  | cons p r ih => intro L; rw [laysR, List.foldl_cons]; exact (ih _).trans (by simp)
/-- The document's disk in a variable of its own. -/
structure RBox (w : World) (X : Nat) (r : RDisk) : Prop where
  ex : ∃ lv wv, RowAt w X #[lv, wv, .int .i64 r.armed] 47 ∧ Sl w 1 lv r.L.length (r.L.map strV) ∧ Sl w 2 wv r.W.length (r.W.flatMap rpC)
theorem RBox.up {w w' : World} {X : Nat} {r : RDisk} (h : RBox w X r) (hb : Below w.heap.size w w') : RBox w' X r := by
  obtain ⟨lv, wv, h1, h2, h3⟩ := h.ex
  exact ⟨lv, wv, h1.below hb, h2.up hb, h3.up hb⟩
theorem slice_of {w : World} {sz n : Nat} {v : Value} {cs : List Value} (h : Sl w sz v n cs) : ∃ a c, v = .slice a n c := h.len
/-- What reads strings does not lie in a disk's variable. -/
theorem str_apart {w : World} {X n c1 c2 n1 n2 : Nat} {a1 a2 : Option Addr} {am : Int} {v : Value} {L : List Sec} (h : Sl w 1 v n (L.map strV)) (hr : RowAt w X #[.slice a1 n1 c1, .slice a2 n2 c2, .int .i64 am] 47) : n = 0 ∨ ∀ k, v.ownBlock = some k → k ≠ X := by
  obtain ⟨hl, ⟨a, c, rfl, h0⟩ | ⟨b, off, cap, rfl, hn, hm, hc⟩⟩ := h
  · exact .inl h0
  · rcases Nat.eq_zero_or_pos n with h0 | h0
    · exact .inl h0
    · refine .inr fun k hk e => ?_
      have hb : b = k := Option.some.inj hk
      subst hb
      subst e
      have hL : 0 < L.length := by rw [List.length_map] at hl; omega
      have := hc 0 (strV L[0]) (by rw [List.getElem?_map, List.getElem?_eq_getElem hL]; rfl)
      simp only [World.cell?, show w.heap[b]? = _ from hr] at this
      match off, this with
      | 0, this => simp at this
      | 1, this => simp at this
      | 2, this => simp at this
      | o + 3, this => rw [Array.getElem?_eq_none (by simp)] at this; cases this
theorem rp_apart {w : World} {X n c1 c2 n1 n2 : Nat} {a1 a2 : Option Addr} {am : Int} {v : Value} {W : List (Int × Sec)} (h : Sl w 2 v n (W.flatMap rpC)) (hr : RowAt w X #[.slice a1 n1 c1, .slice a2 n2 c2, .int .i64 am] 47) : n = 0 ∨ ∀ k, v.ownBlock = some k → k ≠ X := by
  have hln := Sl.recs (cells := rpC) (sz := 2) (fun _ => rfl) (by decide) h
  obtain ⟨hl, ⟨a, c, rfl, h0⟩ | ⟨b, off, cap, rfl, hn, hm, hc⟩⟩ := h
  · exact .inl h0
  · rcases Nat.eq_zero_or_pos n with h0 | h0
    · exact .inl h0
    · refine .inr fun k hk e => ?_
      have hb : b = k := Option.some.inj hk
      subst hb
      subst e
      cases W with
      | nil => simp at hln; omega
      | cons p r =>
        have := hc 1 (strV p.2) rfl
        simp only [World.cell?, show w.heap[b]? = _ from hr] at this
        match off, this with
        | 0, this => simp at this
        | 1, this => simp at this
        | o + 2, this => rw [Array.getElem?_eq_none (by simp)] at this; cases this

def Dk.GivesR2 (r : RDisk) (e : Int) (w : World) (en : Ending) (w' : World) : Prop := ∃ v, en = .returned (.tuple #[v, .int .i64 e]) ∧ RefAt w' v r ∧ Below w.heap.size w w'
set_option maxHeartbeats 2000000 in
set_option maxRecDepth 100000 in
theorem rSync_c (r : RDisk) (hL : r.L.length ≤ 5000) (hk : ∀ p ∈ r.W, 0 ≤ p.1 ∧ p.1 < (r.L.length : Int)) (ha : -1 ≤ r.armed) (ha2 : r.armed ≤ 9223372036854775807) (h0 : ¬ r.armed = 0) (v : Value) (w : World) (h : RefAt w v r) :
    Calls Try.prog 45 #[v] w (GivesR2 ⟨laysR r.L r.W, [], doneF r.armed⟩ 0 w) := by
  obtain ⟨lv, wv, rfl, hl, hw⟩ := h.ex
  obtain ⟨la, lc, rfl⟩ := hl.len
  obtain ⟨wa, wc, rfl⟩ := hw.len
  have hwn := hw.n_max
  have hmax : ∃ m, doneF r.armed = m ∧ ∀ ts t w, (Builtin.max_ ts t #[.int .i64 (-1), .int .i64 (r.armed - 1)]).run Try.prog w = .ok (.int .i64 m) w := by
    refine ⟨_, rfl, fun ts t w => ?_⟩
    rw [run_max_int2]
    unfold doneF
    by_cases h1 : -1 < r.armed - 1
    · rw [if_pos h1, show max (-1) (r.armed - 1) = r.armed - 1 by omega]
    · rw [if_neg h1, show max (-1) (r.armed - 1) = -1 by omega]
  obtain ⟨m, hm, hmx⟩ := hmax
  have HM := Lib.hid hm
  have hd : (r.armed == 0) = false := by simpa using h0
  have HK := Lib.hid hk
  clear hm hk h0
  go_enter Try.func45, Try.ntmps45
  go_wp2
  have hb2 : Below w.heap.size w ((w.alloc (.cells #[.slice la r.L.length lc, .slice wa r.W.length wc, .int .i64 m] 47)).alloc (.cells #[.slice none 0 0, .slice none 0 0, .int .i64 0] 47)) := (below_alloc w _).alloc (by simp) _
  have hI0 : RBox ((w.alloc (.cells #[.slice la r.L.length lc, .slice wa r.W.length wc, .int .i64 m] 47)).alloc (.cells #[.slice none 0 0, .slice none 0 0, .int .i64 0] 47)) w.heap.size ⟨laysR r.L (r.W.take 0), r.W, m⟩ := ⟨_, _, (RowAt.new w _ _).alloc _, hl.up hb2, hw.up hb2⟩
  have hR0 : RowAt ((w.alloc (.cells #[.slice la r.L.length lc, .slice wa r.W.length wc, .int .i64 m] 47)).alloc (.cells #[.slice none 0 0, .slice none 0 0, .int .i64 0] 47)) (w.heap.size + 1) #[.slice none 0 0, .slice none 0 0, .int .i64 0] 47 := by
    have := RowAt.new (w.alloc (.cells #[.slice la r.L.length lc, .slice wa r.W.length wc, .int .i64 m] 47)) #[.slice none 0 0, .slice none 0 0, .int .i64 0] 47
    rwa [World.size_alloc] at this
  go_loopw [4] (fun i wr => ∃ k : Nat, k ≤ r.W.length ∧ i = .int .i64 k ∧ RBox wr w.heap.size ⟨laysR r.L (r.W.take k), r.W, m⟩ ∧ RowAt wr (w.heap.size + 1) #[.slice none 0 0, .slice none 0 0, .int .i64 0] 47 ∧ Below w.heap.size w wr) (fun i _ => r.W.length - (intOf i).toNat)
  case atStart => exact ⟨0, Nat.zero_le _, rfl, hI0, hR0, hb2⟩
  case round =>
    obtain ⟨k, hk, rfl, hI, hR, hB⟩ := hrel
    clear hI0 hR0 hb2
    by_cases hlt : k < r.W.length
    · obtain ⟨l0, w0, RX0, hl0, hw0⟩ := hI.ex
      obtain ⟨la2, lc2, rfl⟩ := hl0.len
      obtain ⟨wa2, wc2, rfl⟩ := hw0.len
      obtain ⟨b, off, rfl, hr⟩ := hw0.rec_at (cells := rpC) (sz := 2) (fun _ => rfl) hlt hlt
      have HT := Lib.hid (laysR_take (L := r.L) hlt)
      have hkk := HK.out _ (List.getElem_mem hlt)
      generalize r.W[k] = p at *
      obtain ⟨pz, ps⟩ := p
      obtain ⟨pk, rfl⟩ : ∃ q : Nat, pz = (q : Int) := ⟨pz.toNat, by have := hkk.1; simp only at this; omega⟩
      have c0 := hr 0 (.int .i64 (pk : Int)) rfl
      have c1 := hr 1 (strV ps) rfl
      simp only [Nat.add_zero] at c0
      obtain ⟨L, hLL⟩ : ∃ L, laysR r.L (r.W.take k) = L := ⟨_, rfl⟩
      have hLn : L.length = r.L.length := by rw [← hLL, laysR_len]
      rw [hLL] at hl0 HT
      have hpk : pk < L.length := by rw [hLn]; have := hkk.2; simp only at this; omega
      have hL5 : L.length ≤ 5000 := by rw [hLn]; exact hL
      have hRf : RefAt wr (.agg #[.slice la2 L.length lc2, .slice (some ⟨b, off, none⟩) r.W.length wc2, .int .i64 m]) ⟨L, r.W, m⟩ := ⟨_, _, rfl, hl0, hw0⟩
      have hki : (k : Int) < (r.W.length : Int) := by omega
      have e0r := RX0.cell (i := 1) rfl
      have HLN := Lib.hid hLn
      have HLL := Lib.hid hLL
      have RXr := Lib.hid RX0
      have HB := Lib.hid hB
      have HR := Lib.hid hR
      have HX : RowAt wr w.heap.size #[.slice la2 L.length lc2, .slice (some ⟨b, off, none⟩) r.W.length wc2, .int .i64 m] 47 := by
        have := RXr.out
        rwa [hLL] at this
      clear RXr hLn hLL hI hB hR hr hl0 hw0 RX0 e0r
      have f1 := HX.cell (i := 1) rfl
      go_wp2
      refine wp_region_pz (fun _ => False) 14 (.q 0 (.q 1 (.q 2 (.q 3 (.q 4 (.q 5 (.q 6 (.q 7 (.q 8 (.q 9 (.q 10 (.q 11 (.q 12 (.c 13 .done)))))))))))))) (by kernel_rfl) (by kernel_rfl) (by kernel_rfl) (by decide) (fun _ _ d _ _ h => by cases d <;> exact h) (fun Wd hBd => ?_)
      try simp only [Act.put, List.getElem_toArray, List.getElem_cons_zero, List.getElem_cons_succ, List.setIfInBounds_toArray, List.set_cons_zero, List.set_cons_succ]
      have RX := HX.below hBd
      have e0 := RX.cell (i := 0) rfl
      have e1 := RX.cell (i := 1) rfl
      have e2 := RX.cell (i := 2) rfl
      have d0 := cell_up hBd c0
      have d1 := cell_up hBd c1
      have hlay := rLay_c pk ps ⟨L, r.W, m⟩ hpk hL5 _ Wd (hRf.up hBd)
      refine pt_load rfl (by rfl) 47 (.tmp 1) rfl w.heap.size 0 rfl [.slice la2 L.length lc2, .slice (some ⟨b, off, none⟩) r.W.length wc2, .int .i64 m] _ (RowAt.range RX) (fun h => h) Try.underlying47 rfl (by kernel_rfl) ?_
      try simp only [Act.put, List.getElem_toArray, List.getElem_cons_zero, List.getElem_cons_succ, List.setIfInBounds_toArray, List.set_cons_zero, List.set_cons_succ]
      refine pt_q (v := ?_) rfl (by rfl) ?_ ?_
      rotate_left
      · intro w' hBw'
        have p0 := hBw'.cell e0 (fun h => h)
        have p1 := hBw'.cell e1 (fun h => h)
        have p2 := hBw'.cell e2 (fun h => h)
        have p3 := hBw'.cell d0 (fun h => h)
        have p4 := hBw'.cell d1 (fun h => h)
        first | (go_simp; done) | (go_simp; with_reducible rfl)
      try simp only [Act.put, List.getElem_toArray, List.getElem_cons_zero, List.getElem_cons_succ, List.setIfInBounds_toArray, List.set_cons_zero, List.set_cons_succ]
      refine pt_q (v := ?_) rfl (by rfl) ?_ ?_
      rotate_left
      · intro w' hBw'
        have p0 := hBw'.cell e0 (fun h => h)
        have p1 := hBw'.cell e1 (fun h => h)
        have p2 := hBw'.cell e2 (fun h => h)
        have p3 := hBw'.cell d0 (fun h => h)
        have p4 := hBw'.cell d1 (fun h => h)
        first | (go_simp; done) | (go_simp; with_reducible rfl)
      try simp only [Act.put, List.getElem_toArray, List.getElem_cons_zero, List.getElem_cons_succ, List.setIfInBounds_toArray, List.set_cons_zero, List.set_cons_succ]
      refine pt_q (v := ?_) rfl (by rfl) ?_ ?_
      rotate_left
      · intro w' hBw'
        have p0 := hBw'.cell e0 (fun h => h)
        have p1 := hBw'.cell e1 (fun h => h)
        have p2 := hBw'.cell e2 (fun h => h)
        have p3 := hBw'.cell d0 (fun h => h)
        have p4 := hBw'.cell d1 (fun h => h)
        first | (go_simp; done) | (go_simp; with_reducible rfl)
      try simp only [Act.put, List.getElem_toArray, List.getElem_cons_zero, List.getElem_cons_succ, List.setIfInBounds_toArray, List.set_cons_zero, List.set_cons_succ]
      refine pt_q (v := ?_) rfl (by rfl) ?_ ?_
      rotate_left
      · intro w' hBw'
        have p0 := hBw'.cell e0 (fun h => h)
        have p1 := hBw'.cell e1 (fun h => h)
        have p2 := hBw'.cell e2 (fun h => h)
        have p3 := hBw'.cell d0 (fun h => h)
        have p4 := hBw'.cell d1 (fun h => h)
        first | (go_simp; done) | (go_simp; with_reducible rfl)
      try simp only [Act.put, List.getElem_toArray, List.getElem_cons_zero, List.getElem_cons_succ, List.setIfInBounds_toArray, List.set_cons_zero, List.set_cons_succ]
      refine pt_q (v := ?_) rfl (by rfl) ?_ ?_
      rotate_left
      · intro w' hBw'
        have p0 := hBw'.cell e0 (fun h => h)
        have p1 := hBw'.cell e1 (fun h => h)
        have p2 := hBw'.cell e2 (fun h => h)
        have p3 := hBw'.cell d0 (fun h => h)
        have p4 := hBw'.cell d1 (fun h => h)
        first | (go_simp; done) | (go_simp; with_reducible rfl)
      try simp only [Act.put, List.getElem_toArray, List.getElem_cons_zero, List.getElem_cons_succ, List.setIfInBounds_toArray, List.set_cons_zero, List.set_cons_succ]
      refine pt_q (v := ?_) rfl (by rfl) ?_ ?_
      rotate_left
      · intro w' hBw'
        have p0 := hBw'.cell e0 (fun h => h)
        have p1 := hBw'.cell e1 (fun h => h)
        have p2 := hBw'.cell e2 (fun h => h)
        have p3 := hBw'.cell d0 (fun h => h)
        have p4 := hBw'.cell d1 (fun h => h)
        first | (go_simp; done) | (go_simp; with_reducible rfl)
      try simp only [Act.put, List.getElem_toArray, List.getElem_cons_zero, List.getElem_cons_succ, List.setIfInBounds_toArray, List.set_cons_zero, List.set_cons_succ]
      refine pt_q (v := ?_) rfl (by rfl) ?_ ?_
      rotate_left
      · intro w' hBw'
        have p0 := hBw'.cell e0 (fun h => h)
        have p1 := hBw'.cell e1 (fun h => h)
        have p2 := hBw'.cell e2 (fun h => h)
        have p3 := hBw'.cell d0 (fun h => h)
        have p4 := hBw'.cell d1 (fun h => h)
        first | (go_simp; done) | (go_simp; with_reducible rfl)
      try simp only [Act.put, List.getElem_toArray, List.getElem_cons_zero, List.getElem_cons_succ, List.setIfInBounds_toArray, List.set_cons_zero, List.set_cons_succ]
      refine pt_q (v := ?_) rfl (by rfl) ?_ ?_
      rotate_left
      · intro w' hBw'
        have p0 := hBw'.cell e0 (fun h => h)
        have p1 := hBw'.cell e1 (fun h => h)
        have p2 := hBw'.cell e2 (fun h => h)
        have p3 := hBw'.cell d0 (fun h => h)
        have p4 := hBw'.cell d1 (fun h => h)
        first | (go_simp; done) | (go_simp; with_reducible rfl)
      try simp only [Act.put, List.getElem_toArray, List.getElem_cons_zero, List.getElem_cons_succ, List.setIfInBounds_toArray, List.set_cons_zero, List.set_cons_succ]
      refine pt_q (v := ?_) rfl (by rfl) ?_ ?_
      rotate_left
      · intro w' hBw'
        have p0 := hBw'.cell e0 (fun h => h)
        have p1 := hBw'.cell e1 (fun h => h)
        have p2 := hBw'.cell e2 (fun h => h)
        have p3 := hBw'.cell d0 (fun h => h)
        have p4 := hBw'.cell d1 (fun h => h)
        first | (go_simp; done) | (go_simp; with_reducible rfl)
      try simp only [Act.put, List.getElem_toArray, List.getElem_cons_zero, List.getElem_cons_succ, List.setIfInBounds_toArray, List.set_cons_zero, List.set_cons_succ]
      refine pt_q (v := ?_) rfl (by rfl) ?_ ?_
      rotate_left
      · intro w' hBw'
        have p0 := hBw'.cell e0 (fun h => h)
        have p1 := hBw'.cell e1 (fun h => h)
        have p2 := hBw'.cell e2 (fun h => h)
        have p3 := hBw'.cell d0 (fun h => h)
        have p4 := hBw'.cell d1 (fun h => h)
        first | (go_simp; done) | (go_simp; with_reducible rfl)
      try simp only [Act.put, List.getElem_toArray, List.getElem_cons_zero, List.getElem_cons_succ, List.setIfInBounds_toArray, List.set_cons_zero, List.set_cons_succ]
      refine pt_q (v := ?_) rfl (by rfl) ?_ ?_
      rotate_left
      · intro w' hBw'
        have p0 := hBw'.cell e0 (fun h => h)
        have p1 := hBw'.cell e1 (fun h => h)
        have p2 := hBw'.cell e2 (fun h => h)
        have p3 := hBw'.cell d0 (fun h => h)
        have p4 := hBw'.cell d1 (fun h => h)
        first | (go_simp; done) | (go_simp; with_reducible rfl)
      try simp only [Act.put, List.getElem_toArray, List.getElem_cons_zero, List.getElem_cons_succ, List.setIfInBounds_toArray, List.set_cons_zero, List.set_cons_succ]
      refine pt_q (v := ?_) rfl (by rfl) ?_ ?_
      rotate_left
      · intro w' hBw'
        have p0 := hBw'.cell e0 (fun h => h)
        have p1 := hBw'.cell e1 (fun h => h)
        have p2 := hBw'.cell e2 (fun h => h)
        have p3 := hBw'.cell d0 (fun h => h)
        have p4 := hBw'.cell d1 (fun h => h)
        first | (go_simp; done) | (go_simp; with_reducible rfl)
      try simp only [Act.put, List.getElem_toArray, List.getElem_cons_zero, List.getElem_cons_succ, List.setIfInBounds_toArray, List.set_cons_zero, List.set_cons_succ]
      refine pt_c ?_
      refine pt_step rfl (by rfl) (fun K hK => ?_)
      go_simp
      refine hlay.mono ?_
      rintro en w2 ⟨v2, rfl, hr2, hb2⟩
      have hRA := Lib.hid hr2
      obtain ⟨l2, m2, rfl, hl2, hm2⟩ := hr2.ex
      obtain ⟨x2, y2, rfl⟩ := hl2.len
      obtain ⟨x3, y3, rfl⟩ := hm2.len
      have RX2 := RX.below hb2
      refine hK.out _ _ (But.of_below hb2) ?_
      clear hK K
      try simp only [Act.put, List.getElem_toArray, List.getElem_cons_zero, List.getElem_cons_succ, List.setIfInBounds_toArray, List.set_cons_zero, List.set_cons_succ]
      refine pz_put_row rfl (by rfl) 47 (.tmp 1) (.tmp 34) rfl w.heap.size [.slice x2 (L.set pk ps).length y2, .slice x3 r.W.length y3, .int .i64 m] rfl rfl RX2 rfl (by kernel_rfl) rfl (fun w3 h3 hb3 => ?_)
      have hb3' : But (· = w.heap.size) w2 w3 := hb3
      have hN : RBox w3 w.heap.size ⟨laysR r.L (r.W.take (k + 1)), r.W, m⟩ := by
        rw [HT.out]
        exact ⟨_, _, h3, hl2.but hb3' ((str_apart hl2 RX2).imp id fun h q hq => h q hq), hm2.but hb3' ((rp_apart hm2 RX2).imp id fun h q hq => h q hq)⟩
      have hR3 : RowAt w3 (w.heap.size + 1) #[.slice none 0 0, .slice none 0 0, .int .i64 0] 47 := by
        have := (HR.out.below hBd).below hb2
        exact (hb3'.same _ this.lt (by omega)).trans this
      have hB2' := below_up HB.out (below_up hBd hb2)
      have HN := Lib.hid (And.intro hN (And.intro hR3 (hB2'.trans (hb3'.below (fun q e => by have e : q = w.heap.size := e; omega) hB2'.size))))
      clear hN hR3 hb3' hb3 h3 hl2 hm2 RX2 hRA hB2'
      go_wp2
      go_roundw
      case rel => exact ⟨k + 1, by omega, by go_num, HN.out.1, HN.out.2.1, HN.out.2.2⟩
      case measure => simp [intOf]; omega
    · obtain rfl : k = r.W.length := by omega
      rw [List.take_length] at hI
      obtain ⟨l0, w0, RX0, hl0, hw0⟩ := hI.ex
      obtain ⟨la2, lc2, rfl⟩ := hl0.len
      obtain ⟨wa2, wc2, rfl⟩ := hw0.len
      have e0 := RX0.cell (i := 0) rfl
      have e1 := RX0.cell (i := 1) rfl
      have e2 := RX0.cell (i := 2) rfl
      have f1 := RX0.fz 1
      have q0 := hR.cell (i := 0) rfl
      have q1 := hR.cell (i := 1) rfl
      have q2 := hR.cell (i := 2) rfl
      have y0 := hR.fz 0
      have y1 := hR.fz 1
      have y2 := hR.fz 2
      have HB := Lib.hid hB
      have HL := Lib.hid hl0
      have HA := Lib.hid (str_apart hl0 RX0)
      have HA2 := Lib.hid (str_apart hl0 hR)
      clear RX0 hR hB hl0 hw0
      go_wp2
      have bF : But (fun i => i = w.heap.size ∨ i = w.heap.size + 1) wr ((((wr.setCell ⟨w.heap.size, 1, none⟩ (.slice none 0 0)).setCell ⟨w.heap.size + 1, 0, none⟩ (.slice la2 (laysR r.L r.W).length lc2)).setCell ⟨w.heap.size + 1, 1, none⟩ (.slice none 0 0)).setCell ⟨w.heap.size + 1, 2, none⟩ (.int .i64 m)) :=
        (((But.setCell (O := fun i => i = w.heap.size ∨ i = w.heap.size + 1) _ ⟨w.heap.size, 1, none⟩ _ (.inl (.inl rfl))).trans (But.setCell (O := fun i => i = w.heap.size ∨ i = w.heap.size + 1) _ ⟨w.heap.size + 1, 0, none⟩ _ (.inl (.inr rfl)))).trans (But.setCell (O := fun i => i = w.heap.size ∨ i = w.heap.size + 1) _ ⟨w.heap.size + 1, 1, none⟩ _ (.inl (.inr rfl)))).trans (But.setCell (O := fun i => i = w.heap.size ∨ i = w.heap.size + 1) _ ⟨w.heap.size + 1, 2, none⟩ _ (.inl (.inr rfl)))
      have lF := HL.out.but bF (by
        rcases HA.out with h1 | h1
        · exact .inl h1
        · rcases HA2.out with h2 | h2
          · exact .inl h2
          · exact .inr fun q hq e => e.elim (h1 q hq) (h2 q hq))
      have HLF := Lib.hid lF
      clear lF
      refine bodyPost_ret (v := .tuple #[.agg #[.slice la2 (laysR r.L r.W).length lc2, .slice none 0 0, .int .i64 m], .int .i64 0]) (by simp [results, Try.results45, go_sem, e0, e1, e2, q0, q1, q2]) rfl ⟨_, rfl, ?_, HB.out.trans (bF.below (fun q e => by omega) HB.out.size)⟩
      rw [HM.out]
      exact RefAt.mk' (r := ⟨laysR r.L r.W, [], m⟩) HLF.out (Sl.nil _ _)
set_option maxRecDepth 100000 in
theorem rSyncNo_c (r : RDisk) (h0 : r.armed = 0) (v : Value) (w : World) (h : RefAt w v r) : Calls Try.prog 45 #[v] w (GivesR2 r 190 w) := by
  obtain ⟨lv, wv, rfl, hl, hw⟩ := h.ex
  obtain ⟨la, lc, rfl⟩ := hl.len
  obtain ⟨wa, wc, rfl⟩ := hw.len
  obtain ⟨L, W, am⟩ := r
  simp only at h0 hl hw
  subst h0
  go_enter Try.func45, Try.ntmps45
  go_wp2
  refine bodyPost_ret (v := .tuple #[.agg #[.slice la L.length lc, .slice wa W.length wc, .int .i64 0], .int .i64 190]) (by simp [results, Try.results45, go_sem]) rfl ⟨_, rfl, RefAt.mk' (r := ⟨L, W, 0⟩) (hl.up ?_) (hw.up ?_), ?_⟩
  all_goals (repeat (first | exact Below.refl _ _ | refine Below.setCell ?_ (by simp <;> omega) _ | refine Below.alloc ?_ (by simp <;> omega) _))
end Go.Proofs.Ytekpjbablcoahaa
