/-
  The reference's Join and Same; Same with none.
-/
import Derived.Test.YteakpppabgbpeaaMemR
import Derived.Test.YteakpppabgbpeaaMemT
namespace Go.Proofs.Yteakpppabgbpeaa
open Go.RowKit Mem
set_option linter.unusedSimpArgs false
set_option linter.unusedVariables false

/-- A slice of tellings lies in no row of fewer cells. -/
theorem Sl.past4 {w w' : World} {v : Value} {n H : Nat} {cs : List Value} {rs : Array Value} {T : TypeId} (h : Sl w 4 v n cs) (hr : RowAt w H rs T) (hs : rs.size < 4) (hb : But (· = H) w w') : Sl w' 4 v n cs := by
  refine h.but hb ?_
  obtain ⟨hl, ⟨a, c, rfl, rfl⟩ | ⟨b, off, cap, rfl, hn, hm, hc⟩⟩ := h
  · exact .inl rfl
  · rcases Nat.eq_zero_or_pos n with h0 | h0
    · exact .inl h0
    · refine .inr fun k hk e => ?_
      have hb : b = k := Option.some.inj hk
      subst hb
      subst e
      have := hc 3 cs[3] (List.getElem?_eq_getElem (by omega))
      simp only [World.cell?, show w.heap[b]? = _ from hr] at this
      rw [Array.getElem?_eq_none (by omega)] at this
      cases this
namespace Mem
theorem rtF_len (L : List Mb) (m : Mb) : (rtF L m).length ≤ L.length + 1 := by
  unfold rtF
  have := findK_le L m.node m.region
  split
  · split
    · simp
    · simp; omega
  · omega
theorem rjF_len : ∀ (l L : List Mb), (rjF L l).length ≤ L.length + l.length
  | [], L => by simp [rjF]
  | m :: l, L => by
    have h1 := rjF_len l (rtF L m)
    have h2 := rtF_len L m
    show (rjF (rtF L m) l).length ≤ _
    simp only [List.length_cons]
    omega
end Mem
/-- What the reference's Join has at hand. -/
structure RjW (w w1 : World) (u v : Value) (L : List Mb) : Prop where
  below : Below w.heap.size w w1
  p : RowAt w1 w.heap.size #[u] 40
  o : RowAt w1 (w.heap.size + 1) #[v] 40
  r : RowAt w1 (w.heap.size + 1 + 1) #[.slice none 0 0] 40
  sl : Sl w1 4 u L.length (L.flatMap mbC)
theorem RjW.up {w w1 w2 : World} {u v : Value} {L : List Mb} (h : RjW w w1 u v L) (hb : Below w1.heap.size w1 w2) : RjW w w2 u v L := ⟨below_up h.below hb, h.p.below hb, h.o.below hb, h.r.below hb, h.sl.up hb⟩
theorem RjW.put {w w1 : World} {u v u' : Value} {L L' : List Mb} (h : RjW w w1 u v L) (hs : Sl w1 4 u' L'.length (L'.flatMap mbC)) : RjW w (w1.setCell ⟨w.heap.size, 0, none⟩ u') u' v L' := by
  have hb : But (· = w.heap.size) w1 (w1.setCell ⟨w.heap.size, 0, none⟩ u') := But.setCell _ _ _ (.inl rfl)
  exact ⟨h.below.trans (hb.below (fun q e => by rw [e]; exact Nat.le_refl _) h.below.size), h.p.set 0 u', h.o.but hb (by omega), h.r.but hb (by omega), hs.past4 h.p (by simp) hb⟩
theorem RjW.start {w : World} {u : Value} {L : List Mb} (v : Value) (hs : Sl w 4 u L.length (L.flatMap mbC)) : RjW w (((w.alloc (.cells #[u] 40)).alloc (.cells #[v] 40)).alloc (.cells #[.slice none 0 0] 40)) u v L := by
  have hB3 : Below w.heap.size w (((w.alloc (.cells #[u] 40)).alloc (.cells #[v] 40)).alloc (.cells #[.slice none 0 0] 40)) := ((below_alloc w _).alloc (by simp) _).alloc (by simp; omega) _
  have h2 := RowAt.new (w.alloc (.cells #[u] 40)) #[v] 40
  rw [World.size_alloc] at h2
  have h3 := RowAt.new ((w.alloc (.cells #[u] 40)).alloc (.cells #[v] 40)) #[.slice none 0 0] 40
  rw [World.size_alloc, World.size_alloc] at h3
  exact ⟨hB3, ((RowAt.new w _ _).below (below_alloc _ _)).below (below_alloc _ _), h2.below (below_alloc _ _), h3, hs.up hB3⟩
/-- What the reference's Join leaves. -/
def Joined (L l : List Mb) (w : World) (en : Ending) (w' : World) : Prop := ∃ v', en = .returned (.tuple #[.agg #[v'], .int .i64 (rjN L l : Nat)]) ∧ Sl w' 4 v' (rjF L l).length ((rjF L l).flatMap mbC) ∧ Below w.heap.size w w'
set_option maxHeartbeats 8000000 in
set_option maxRecDepth 100000 in
theorem rfJoin_c (L l : List Mb) (u v : Value) (n : Nat) (w : World) (hu : Sl w 4 u L.length (L.flatMap mbC)) (hv : Sl w 4 v n (l.flatMap mbC)) (hL : L.length ≤ 10000) (hn : n ≤ 10000) :
    Calls Try.prog 21 #[.agg #[u], .agg #[v]] w (Joined L l w) := by
  have hln : l.length = n := Sl.recs (cells := mbC) (sz := 4) (fun _ => rfl) (by decide) hv
  have HLN := Lib.hid hln
  obtain ⟨au, cu, rfl⟩ := hu.len
  obtain ⟨al, cl, rfl⟩ := hv.len
  have V0 := RjW.start (.slice al n cl) hu
  have HA := Lib.hid hv
  clear hln hv hu
  go_enter Try.func21, Try.ntmps21
  go_wp2
  obtain ⟨w0, hw0⟩ : ∃ W, ((w.alloc (.cells #[.slice au L.length cu] 40)).alloc (.cells #[.slice al n cl] 40)).alloc (.cells #[.slice none 0 0] 40) = W := ⟨_, rfl⟩
  rw [hw0] at V0 ⊢
  clear hw0
  go_loopw [6, 7] (fun c i wr => ∃ (k : Nat) (uk : Value), k ≤ n ∧ i = .int .i64 k ∧ c = .int .i64 (rjN L (l.take k) : Nat) ∧ RjW w wr uk (.slice al n cl) (rjF L (l.take k))) (fun _ i _ => n - (intOf i).toNat)
  case atStart => exact ⟨0, _, Nat.zero_le _, rfl, rfl, V0⟩
  case round =>
    clear V0
    obtain ⟨k, uk, hk, rfl, rfl, V⟩ := hrel
    have KO0 := V.o.cell (i := 0) (v := .slice al n cl) rfl
    by_cases hlt : k < n
    · have hlt' : k < l.length := by rw [HLN.out]; exact hlt
      have htk : l.take (k + 1) = l.take k ++ [l[k]] := List.take_succ_eq_append_getElem hlt'
      have Hx := Lib.hid (show rjF L (l.take (k + 1)) = rtF (rjF L (l.take k)) l[k] by rw [htk, rjF_snoc])
      have Hn := Lib.hid (show rjN L (l.take (k + 1)) = rjN L (l.take k) + if rtE (rjF L (l.take k)) l[k] = 0 then 1 else 0 by rw [htk, rjN_snoc])
      have hlen := rjF_len (l.take k) L
      have hlen2 := rjN_le (l.take k) L
      have htl := List.length_take_le k l
      obtain ⟨b, off, rfl, hr⟩ := (HA.out.up V.below).rec_at (cells := mbC) (sz := 4) (fun _ => rfl) hlt hlt'
      have hbl : b < w.heap.size := by
        obtain ⟨b', off', e', hr0⟩ := HA.out.rec_at (cells := mbC) (sz := 4) (fun _ => rfl) hlt hlt'
        have h1 := hr0 0 (.int .u32 l[k].node) rfl
        have h2 : b = b' := by simp only [Option.some.injEq, Addr.mk.injEq] at e'; exact e'.1
        rw [h2]; exact World.block_lt_of_cell? w _ h1
      generalize l[k] = m1 at *
      have hki0 : (0 : Int) ≤ (k : Int) := by omega
      have hkn : (k : Int) < (n : Int) := by omega
      have hrn : rjN L (l.take k) ≤ 10000 := by omega
      obtain ⟨Lk, hLk⟩ : ∃ Lk, rjF L (l.take k) = Lk := ⟨_, rfl⟩
      obtain ⟨nk, hnk⟩ : ∃ nk, rjN L (l.take k) = nk := ⟨_, rfl⟩
      rw [hLk] at V Hx Hn hlen
      rw [hnk] at Hn hrn ⊢
      have hL6 : Lk.length ≤ 100000 := by omega
      clear hLk hnk htk hlen hlen2 htl
      have hzw := V.below.size
      have hrl := V.r.lt
      obtain ⟨ak, ck, rfl⟩ := V.sl.len
      go_wp2
      refine wp_region_pt (fun i => wr.heap.size ≤ i) (.q 0 (.q 1 (.q 2 (.q 3 (.q 4 (.q 5 (.f 6 (.q 7 (.q 8 (.q 9 (.c 10 (.c 11 (.q 12 .done)))))) 10 (.c 6 (.q 7 (.q 8 (.q 9 (.c 11 (.q 12 .done))))))))))))) (by kernel_rfl) (by kernel_rfl) (by kernel_rfl) (by decide) (fun _ _ d _ _ h => by cases d <;> exact h) (fun Wd hBd => ?_)
      try simp only [Act.put, List.getElem_toArray, List.getElem_cons_zero, List.getElem_cons_succ, List.setIfInBounds_toArray, List.set_cons_zero, List.set_cons_succ]
      have V2 := V.up hBd
      have hszd := hBd.size
      have hrd := rangeAt_up hBd hr
      have KW := V2.p.cell (i := 0) (v := .slice ak Lk.length ck) rfl
      have KO := V2.o.cell (i := 0) (v := .slice (some ⟨b, off, none⟩) n cl) rfl
      refine pt_q (v := ?_) rfl (by rfl) ?_ ?_
      rotate_left
      · intro w' hBw'
        try have p0 := hBw'.cell KW (by omega)
        try have p1 := hBw'.cell KO (by omega)
        first | (go_simp; done) | (go_simp; with_reducible rfl)
      try simp only [Act.put, List.getElem_toArray, List.getElem_cons_zero, List.getElem_cons_succ, List.setIfInBounds_toArray, List.set_cons_zero, List.set_cons_succ]
      refine pt_q (v := ?_) rfl (by rfl) ?_ ?_
      rotate_left
      · intro w' hBw'
        try have p0 := hBw'.cell KW (by omega)
        try have p1 := hBw'.cell KO (by omega)
        first | (go_simp; done) | (go_simp; with_reducible rfl)
      try simp only [Act.put, List.getElem_toArray, List.getElem_cons_zero, List.getElem_cons_succ, List.setIfInBounds_toArray, List.set_cons_zero, List.set_cons_succ]
      refine pt_q (v := ?_) rfl (by rfl) ?_ ?_
      rotate_left
      · intro w' hBw'
        try have p0 := hBw'.cell KW (by omega)
        try have p1 := hBw'.cell KO (by omega)
        first | (go_simp; done) | (go_simp; with_reducible rfl)
      try simp only [Act.put, List.getElem_toArray, List.getElem_cons_zero, List.getElem_cons_succ, List.setIfInBounds_toArray, List.set_cons_zero, List.set_cons_succ]
      refine pt_q (v := ?_) rfl (by rfl) ?_ ?_
      rotate_left
      · intro w' hBw'
        try have p0 := hBw'.cell KW (by omega)
        try have p1 := hBw'.cell KO (by omega)
        first | (go_simp; done) | (go_simp; with_reducible rfl)
      try simp only [Act.put, List.getElem_toArray, List.getElem_cons_zero, List.getElem_cons_succ, List.setIfInBounds_toArray, List.set_cons_zero, List.set_cons_succ]
      refine pt_q (v := ?_) rfl (by rfl) ?_ ?_
      rotate_left
      · intro w' hBw'
        try have p0 := hBw'.cell KW (by omega)
        try have p1 := hBw'.cell KO (by omega)
        first | (go_simp; done) | (go_simp; with_reducible rfl)
      try simp only [Act.put, List.getElem_toArray, List.getElem_cons_zero, List.getElem_cons_succ, List.setIfInBounds_toArray, List.set_cons_zero, List.set_cons_succ]
      refine pt_load rfl (by rfl) 24 (.tmp 22) rfl b (off + k * 4) rfl (mbC m1) _ hrd (by omega) Try.underlying24 rfl (by kernel_rfl) ?_
      try simp only [Act.put, List.getElem_toArray, List.getElem_cons_zero, List.getElem_cons_succ, List.setIfInBounds_toArray, List.set_cons_zero, List.set_cons_succ]
      refine pt_f ?_ ?_
      · refine pt_step rfl (by rfl) (fun K hK => ?_)
        go_simp
        refine (rfTell_c Lk _ Lk.length m1 _ (V2.sl) hL6).mono ?_
        rintro en w3 ⟨u3, rfl, hsl3, hb3⟩
        refine hK.out _ _ (But.of_below hb3) ?_
        clear hK K
        try simp only [Act.put, List.getElem_toArray, List.getElem_cons_zero, List.getElem_cons_succ, List.setIfInBounds_toArray, List.set_cons_zero, List.set_cons_succ]
        have V3 := V2.up hb3
        have hz3 := hb3.size
        obtain ⟨x1, x2, rfl⟩ := hsl3.len
        refine pt_q (v := ?_) rfl (by rfl) ?_ ?_
        rotate_left
        · intro w' hBw'
          try have p0 := hBw'.cell KW (by omega)
          try have p1 := hBw'.cell KO (by omega)
          first | (go_simp; done) | (go_simp; with_reducible rfl)
        try simp only [Act.put, List.getElem_toArray, List.getElem_cons_zero, List.getElem_cons_succ, List.setIfInBounds_toArray, List.set_cons_zero, List.set_cons_succ]
        refine pt_q (v := ?_) rfl (by rfl) ?_ ?_
        rotate_left
        · intro w' hBw'
          try have p0 := hBw'.cell KW (by omega)
          try have p1 := hBw'.cell KO (by omega)
          first | (go_simp; done) | (go_simp; with_reducible rfl)
        try simp only [Act.put, List.getElem_toArray, List.getElem_cons_zero, List.getElem_cons_succ, List.setIfInBounds_toArray, List.set_cons_zero, List.set_cons_succ]
        refine pt_q (v := ?_) rfl (by rfl) ?_ ?_
        rotate_left
        · intro w' hBw'
          try have p0 := hBw'.cell KW (by omega)
          try have p1 := hBw'.cell KO (by omega)
          first | (go_simp; done) | (go_simp; with_reducible rfl)
        try simp only [Act.put, List.getElem_toArray, List.getElem_cons_zero, List.getElem_cons_succ, List.setIfInBounds_toArray, List.set_cons_zero, List.set_cons_succ]
        refine pt_c ?_
        refine pt_step rfl (by rfl) (fun K hK => ?_)
        go_simp
        refine hK.out _ _ (But.alloc _ _) ?_
        clear hK K
        try simp only [Act.put, List.getElem_toArray, List.getElem_cons_zero, List.getElem_cons_succ, List.setIfInBounds_toArray, List.set_cons_zero, List.set_cons_succ]
        have r4 := RowAt.new w3 #[.slice none 0 0] 40
        refine pt_c ?_
        refine pt_put_row rfl (by rfl) 40 _ _ rfl w3.heap.size [.slice x1 (rtF Lk m1).length x2] rfl rfl r4 rfl (by kernel_rfl) rfl (by show wr.heap.size ≤ _; omega) (fun wA hRA hbA => ?_)
        try simp only [Act.put, List.getElem_toArray, List.getElem_cons_zero, List.getElem_cons_succ, List.setIfInBounds_toArray, List.set_cons_zero, List.set_cons_succ]
        refine pt_q (v := ?_) rfl (by rfl) ?_ ?_
        rotate_left
        · intro w' hBw'
          try have p0 := hBw'.cell KW (by omega)
          try have p1 := hBw'.cell KO (by omega)
          first | (go_simp; done) | (go_simp; with_reducible rfl)
        try simp only [Act.put, List.getElem_toArray, List.getElem_cons_zero, List.getElem_cons_succ, List.setIfInBounds_toArray, List.set_cons_zero, List.set_cons_succ]
        have hbN : Below w3.heap.size w3 wA := (below_alloc w3 _).trans (hbA.below (fun q e => by rw [e]; exact Nat.le_refl _) (below_alloc w3 _).size)
        have V5 := V3.up hbN
        have hsl5 := hsl3.up hbN
        refine pt_done ?_
        have rAc := hRA.cell (i := 0) (v := .slice x1 (rtF Lk m1).length x2) rfl
        have kwA := V5.p.cell (i := 0) (v := .slice ak Lk.length ck) rfl
        have kwF := V5.p.fz 0
        have hV6 := Lib.hid (V5.put hsl5)
        obtain ⟨e9, he9⟩ : ∃ e, rtE Lk m1 = e := ⟨_, rfl⟩
        rw [he9] at Hn ⊢
        clear he9
        by_cases h0 : e9 = 0
        · subst h0
          go_wp2
          go_roundw
          case rel => exact ⟨k + 1, _, by omega, by go_num, by rw [Hn.out, if_pos rfl]; go_num, by rw [Hx.out]; exact hV6.out⟩
          case measure => simp [intOf]; omega
        · have h0e : (e9 == 0) = false := by simpa using h0
          go_wp2
          go_roundw
          case rel => exact ⟨k + 1, _, by omega, by go_num, by rw [Hn.out, if_neg h0]; rfl, by rw [Hx.out]; exact hV6.out⟩
          case measure => simp [intOf]; omega
      · refine pt_step rfl (by rfl) (fun K hK => ?_)
        go_simp
        refine hK.out _ _ (But.alloc _ _) ?_
        clear hK K
        try simp only [Act.put, List.getElem_toArray, List.getElem_cons_zero, List.getElem_cons_succ, List.setIfInBounds_toArray, List.set_cons_zero, List.set_cons_succ]
        have hbE := below_alloc Wd (.cells #[.slice none 0 0] 40)
        have r2 := RowAt.new Wd #[.slice none 0 0] 40
        have hzE := hbE.size
        refine pt_c ?_
        refine pt_step rfl (by rfl) (fun K hK => ?_)
        go_simp
        refine (rfTell_c Lk _ Lk.length m1 _ (V2.sl.up hbE) hL6).mono ?_
        rintro en w3 ⟨u3, rfl, hsl3, hb3⟩
        refine hK.out _ _ (But.of_below hb3) ?_
        clear hK K
        try simp only [Act.put, List.getElem_toArray, List.getElem_cons_zero, List.getElem_cons_succ, List.setIfInBounds_toArray, List.set_cons_zero, List.set_cons_succ]
        obtain ⟨x1, x2, rfl⟩ := hsl3.len
        have r4 := r2.below hb3
        have hz3 := hb3.size
        refine pt_q (v := ?_) rfl (by rfl) ?_ ?_
        rotate_left
        · intro w' hBw'
          try have p0 := hBw'.cell KW (by omega)
          try have p1 := hBw'.cell KO (by omega)
          first | (go_simp; done) | (go_simp; with_reducible rfl)
        try simp only [Act.put, List.getElem_toArray, List.getElem_cons_zero, List.getElem_cons_succ, List.setIfInBounds_toArray, List.set_cons_zero, List.set_cons_succ]
        refine pt_q (v := ?_) rfl (by rfl) ?_ ?_
        rotate_left
        · intro w' hBw'
          try have p0 := hBw'.cell KW (by omega)
          try have p1 := hBw'.cell KO (by omega)
          first | (go_simp; done) | (go_simp; with_reducible rfl)
        try simp only [Act.put, List.getElem_toArray, List.getElem_cons_zero, List.getElem_cons_succ, List.setIfInBounds_toArray, List.set_cons_zero, List.set_cons_succ]
        refine pt_q (v := ?_) rfl (by rfl) ?_ ?_
        rotate_left
        · intro w' hBw'
          try have p0 := hBw'.cell KW (by omega)
          try have p1 := hBw'.cell KO (by omega)
          first | (go_simp; done) | (go_simp; with_reducible rfl)
        try simp only [Act.put, List.getElem_toArray, List.getElem_cons_zero, List.getElem_cons_succ, List.setIfInBounds_toArray, List.set_cons_zero, List.set_cons_succ]
        refine pt_c ?_
        refine pt_put_row rfl (by rfl) 40 _ _ rfl Wd.heap.size [.slice x1 (rtF Lk m1).length x2] rfl rfl r4 rfl (by kernel_rfl) rfl (by show wr.heap.size ≤ _; omega) (fun wA hRA hbA => ?_)
        try simp only [Act.put, List.getElem_toArray, List.getElem_cons_zero, List.getElem_cons_succ, List.setIfInBounds_toArray, List.set_cons_zero, List.set_cons_succ]
        refine pt_q (v := ?_) rfl (by rfl) ?_ ?_
        rotate_left
        · intro w' hBw'
          try have p0 := hBw'.cell KW (by omega)
          try have p1 := hBw'.cell KO (by omega)
          first | (go_simp; done) | (go_simp; with_reducible rfl)
        try simp only [Act.put, List.getElem_toArray, List.getElem_cons_zero, List.getElem_cons_succ, List.setIfInBounds_toArray, List.set_cons_zero, List.set_cons_succ]
        have hbN : Below Wd.heap.size Wd wA := (below_up hbE hb3).trans (hbA.below (fun q e => by rw [e]; exact Nat.le_refl _) (below_up hbE hb3).size)
        have V5 := V2.up hbN
        have hsl5 := hsl3.past4 r4 (by decide) hbA
        refine pt_done ?_
        have rAc := hRA.cell (i := 0) (v := .slice x1 (rtF Lk m1).length x2) rfl
        have kwA := V5.p.cell (i := 0) (v := .slice ak Lk.length ck) rfl
        have kwF := V5.p.fz 0
        have hV6 := Lib.hid (V5.put hsl5)
        obtain ⟨e9, he9⟩ : ∃ e, rtE Lk m1 = e := ⟨_, rfl⟩
        rw [he9] at Hn ⊢
        clear he9
        by_cases h0 : e9 = 0
        · subst h0
          go_wp2
          go_roundw
          case rel => exact ⟨k + 1, _, by omega, by go_num, by rw [Hn.out, if_pos rfl]; go_num, by rw [Hx.out]; exact hV6.out⟩
          case measure => simp [intOf]; omega
        · have h0e : (e9 == 0) = false := by simpa using h0
          go_wp2
          go_roundw
          case rel => exact ⟨k + 1, _, by omega, by go_num, by rw [Hn.out, if_neg h0]; rfl, by rw [Hx.out]; exact hV6.out⟩
          case measure => simp [intOf]; omega
    · obtain rfl : k = n := by omega
      rw [List.take_of_length_le (by rw [HLN.out]; exact Nat.le_refl _)] at V ⊢
      obtain ⟨ak, ck, rfl⟩ := V.sl.len
      have kp := V.p.cell (i := 0) (v := .slice ak (rjF L l).length ck) rfl
      have rr := V.r.cell (i := 0) (v := .slice none 0 0) rfl
      have rf := V.r.fz 0
      have hb3 : But (· = w.heap.size + 1 + 1) wr (wr.setCell ⟨w.heap.size + 1 + 1, 0, none⟩ (.slice ak (rjF L l).length ck)) := But.setCell _ _ _ (.inl rfl)
      have rc := (V.r.set 0 (.slice ak (rjF L l).length ck)).cell (i := 0) (v := .slice ak (rjF L l).length ck) rfl
      have hBf := V.below.setCell (p := ⟨w.heap.size + 1 + 1, 0, none⟩) (by show w.heap.size ≤ w.heap.size + 1 + 1; omega) (.slice ak (rjF L l).length ck)
      have hsf := V.sl.past4 V.r (by decide) hb3
      go_wp2
      exact bodyPost_ret (v := .tuple #[.agg #[.slice ak (rjF L l).length ck], .int .i64 (rjN L l : Nat)]) (by simp [results, Try.results21, go_sem, rc]) rfl ⟨.slice ak (rjF L l).length ck, rfl, hsf, hBf⟩

theorem exec_mbneqG {ρ : Operand → Value} {op : Oper} {x y : Operand} {t : TypeId} (ho : op.op = .binOp .neq 24 x y t) {e f : Mb} (hx : ρ x = mbV e) (hy : ρ y = mbV f) (w : World) :
    (execOp ρ op).run Try.prog w = .ok (.value (.bool (!decide (e = f)))) w := by
  unfold execOp
  simp only [ho, hx, hy]
  have hd : decide (e = f) = (decide (e.node = f.node) && decide (e.region = f.region) && decide (e.epoch = f.epoch) && decide (e.in_ = f.in_)) := by
    obtain ⟨e1, e2, e3, e4⟩ := e
    obtain ⟨f1, f2, f3, f4⟩ := f
    rw [Bool.eq_iff_iff]
    simp [and_assoc]
  rw [hd]
  by_cases h1 : e.node = f.node <;> by_cases h2 : e.region = f.region <;> by_cases h3 : e.epoch = f.epoch <;> by_cases h4 : e.in_ = f.in_ <;> simp [go_sem, h1, h2, h3, h4]
set_option maxHeartbeats 4000000 in
set_option maxRecDepth 100000 in
theorem rfSame_c (L1 L2 : List Mb) (u v : Value) (w : World) (hu : Sl w 4 u L1.length (L1.flatMap mbC)) (hv : Sl w 4 v L2.length (L2.flatMap mbC)) :
    Calls Try.prog 22 #[.agg #[u], .agg #[v]] w (Ret (.bool (decide (L1 = L2))) w) := by
  obtain ⟨au, cu, rfl⟩ := hu.len
  obtain ⟨al, cl, rfl⟩ := hv.len
  have hn1 := hu.n_max
  have hn2 := hv.n_max
  have hB2 : Below w.heap.size w ((w.alloc (.cells #[.slice au L1.length cu] 40)).alloc (.cells #[.slice al L2.length cl] 40)) := (below_alloc w _).alloc (by simp) _
  have K1 := cell_up (below_alloc (w.alloc (.cells #[.slice au L1.length cu] 40)) (.cells #[.slice al L2.length cl] 40)) (cell_new w (.slice au L1.length cu) 40)
  have K2 := cell_new (w.alloc (.cells #[.slice au L1.length cu] 40)) (.slice al L2.length cl) 40
  simp only [World.size_alloc] at K2
  by_cases hl : L1.length = L2.length
  · obtain ⟨n, hn⟩ : ∃ n, L2.length = n := ⟨_, rfl⟩
    have hn0 : L1.length = n := hl.trans hn
    rw [hn0, hn] at K1 K2 hB2 ⊢
    rw [hn0] at hu
    rw [hn] at hv
    have HB2 := Lib.hid hB2
    have HU := Lib.hid (hu.up hB2)
    have HV := Lib.hid (hv.up hB2)
    have hnm : n ≤ 9223372036854775807 := by omega
    have H1 := Lib.hid hn0
    have H2 := Lib.hid hn
    clear hl hB2 hn hn0 hu hv hn1 hn2
    obtain ⟨RV, hRV⟩ : ∃ RV, decide (L1 = L2) = RV := ⟨_, rfl⟩
    rw [hRV]
    have HR := Lib.hid hRV
    clear hRV
    go_enter Try.func22, Try.ntmps22
    go_wp2
    obtain ⟨w0, hw0⟩ : ∃ W, (w.alloc (.cells #[.slice au n cu] 40)).alloc (.cells #[.slice al n cl] 40) = W := ⟨_, rfl⟩
    rw [hw0] at K1 K2 HB2 HU HV ⊢
    clear hw0
    go_loopw [5] (fun i wr => ∃ k : Nat, k ≤ n ∧ i = .int .i64 k ∧ Below w0.heap.size w0 wr ∧ RowKit.Hid (∀ j, j < k → ∀ (h1 : j < L1.length) (h2 : j < L2.length), L1[j] = L2[j])) (fun i _ => n - (intOf i).toNat)
    case atStart => exact ⟨0, Nat.zero_le _, rfl, Below.refl _ _, Lib.hid (fun j hj => by omega)⟩
    case round =>
      obtain ⟨k, hk, rfl, hB, HE⟩ := hrel
      have k1 := cell_up hB K1
      have k2 := cell_up hB K2
      by_cases hlt : k < n
      · have hl1 : k < L1.length := by rw [H1.out]; exact hlt
        have hl2 : k < L2.length := by rw [H2.out]; exact hlt
        obtain ⟨b, off, rfl, hr⟩ := (HU.out.up hB).rec_at (cells := mbC) (sz := 4) (fun _ => rfl) hlt hl1
        obtain ⟨b2, off2, rfl, hr2⟩ := (HV.out.up hB).rec_at (cells := mbC) (sz := 4) (fun _ => rfl) hlt hl2
        have hki0 : (0 : Int) ≤ (k : Int) := by omega
        have hkn : (k : Int) < (n : Int) := by omega
        have Hyes := Lib.hid (fun h : L1[k] = L2[k] => (show ∀ j, j < k + 1 → ∀ (h1 : j < L1.length) (h2 : j < L2.length), L1[j] = L2[j] from fun j hj h1 h2 => by
          rcases Nat.lt_or_ge j k with h' | h'
          · exact HE.out j h' h1 h2
          · obtain rfl : j = k := by omega
            exact h))
        have Hno := Lib.hid (fun h : ¬ L1[k] = L2[k] => (show RV = false from by rw [← HR.out]; exact decide_eq_false (fun e => h (by subst e; rfl))))
        generalize L1[k] = x at *
        generalize L2[k] = y at *
        go_wp2
        refine wp_region_pi [(0, false), (1, false), (2, false), (3, false), (4, false), (5, false), (6, false), (7, false), (8, false), (9, false), (10, false)] (by kernel_rfl) (by kernel_rfl) (by kernel_rfl) rfl (fun _ _ d _ _ h => by cases d <;> exact h) (fun Wd hBd => ?_)
        try simp only [Act.put, List.getElem_toArray, List.getElem_cons_zero, List.getElem_cons_succ, List.setIfInBounds_toArray, List.set_cons_zero, List.set_cons_succ]
        have c1 := cell_up hBd k1
        have c2 := cell_up hBd k2
        have hrd := rangeAt_up hBd hr
        have hrd2 := rangeAt_up hBd hr2
        refine pi_q (v := ?_) rfl (by rfl) ?_ ?_
        rotate_left
        · intro w' hBw'
          have q1 := cell_up hBw' c1
          have q2 := cell_up hBw' c2
          first | (go_simp; done) | (go_simp; with_reducible rfl)
        try simp only [Act.put, List.getElem_toArray, List.getElem_cons_zero, List.getElem_cons_succ, List.setIfInBounds_toArray, List.set_cons_zero, List.set_cons_succ]
        refine pi_q (v := ?_) rfl (by rfl) ?_ ?_
        rotate_left
        · intro w' hBw'
          have q1 := cell_up hBw' c1
          have q2 := cell_up hBw' c2
          first | (go_simp; done) | (go_simp; with_reducible rfl)
        try simp only [Act.put, List.getElem_toArray, List.getElem_cons_zero, List.getElem_cons_succ, List.setIfInBounds_toArray, List.set_cons_zero, List.set_cons_succ]
        refine pi_q (v := ?_) rfl (by rfl) ?_ ?_
        rotate_left
        · intro w' hBw'
          have q1 := cell_up hBw' c1
          have q2 := cell_up hBw' c2
          first | (go_simp; done) | (go_simp; with_reducible rfl)
        try simp only [Act.put, List.getElem_toArray, List.getElem_cons_zero, List.getElem_cons_succ, List.setIfInBounds_toArray, List.set_cons_zero, List.set_cons_succ]
        refine pi_q (v := ?_) rfl (by rfl) ?_ ?_
        rotate_left
        · intro w' hBw'
          have q1 := cell_up hBw' c1
          have q2 := cell_up hBw' c2
          first | (go_simp; done) | (go_simp; with_reducible rfl)
        try simp only [Act.put, List.getElem_toArray, List.getElem_cons_zero, List.getElem_cons_succ, List.setIfInBounds_toArray, List.set_cons_zero, List.set_cons_succ]
        refine pi_load rfl (by rfl) 24 (.tmp 23) rfl b (off + k * 4) rfl (mbC x) _ hrd Try.underlying24 rfl (by kernel_rfl) ?_
        try simp only [Act.put, List.getElem_toArray, List.getElem_cons_zero, List.getElem_cons_succ, List.setIfInBounds_toArray, List.set_cons_zero, List.set_cons_succ]
        refine pi_q (v := ?_) rfl (by rfl) ?_ ?_
        rotate_left
        · intro w' hBw'
          have q1 := cell_up hBw' c1
          have q2 := cell_up hBw' c2
          first | (go_simp; done) | (go_simp; with_reducible rfl)
        try simp only [Act.put, List.getElem_toArray, List.getElem_cons_zero, List.getElem_cons_succ, List.setIfInBounds_toArray, List.set_cons_zero, List.set_cons_succ]
        refine pi_q (v := ?_) rfl (by rfl) ?_ ?_
        rotate_left
        · intro w' hBw'
          have q1 := cell_up hBw' c1
          have q2 := cell_up hBw' c2
          first | (go_simp; done) | (go_simp; with_reducible rfl)
        try simp only [Act.put, List.getElem_toArray, List.getElem_cons_zero, List.getElem_cons_succ, List.setIfInBounds_toArray, List.set_cons_zero, List.set_cons_succ]
        refine pi_q (v := ?_) rfl (by rfl) ?_ ?_
        rotate_left
        · intro w' hBw'
          have q1 := cell_up hBw' c1
          have q2 := cell_up hBw' c2
          first | (go_simp; done) | (go_simp; with_reducible rfl)
        try simp only [Act.put, List.getElem_toArray, List.getElem_cons_zero, List.getElem_cons_succ, List.setIfInBounds_toArray, List.set_cons_zero, List.set_cons_succ]
        refine pi_q (v := ?_) rfl (by rfl) ?_ ?_
        rotate_left
        · intro w' hBw'
          have q1 := cell_up hBw' c1
          have q2 := cell_up hBw' c2
          first | (go_simp; done) | (go_simp; with_reducible rfl)
        try simp only [Act.put, List.getElem_toArray, List.getElem_cons_zero, List.getElem_cons_succ, List.setIfInBounds_toArray, List.set_cons_zero, List.set_cons_succ]
        refine pi_load rfl (by rfl) 24 (.tmp 28) rfl b2 (off2 + k * 4) rfl (mbC y) _ hrd2 Try.underlying24 rfl (by kernel_rfl) ?_
        try simp only [Act.put, List.getElem_toArray, List.getElem_cons_zero, List.getElem_cons_succ, List.setIfInBounds_toArray, List.set_cons_zero, List.set_cons_succ]
        refine pi_q (v := .bool (!decide (x = y))) rfl (by rfl) (fun w' _ => exec_mbneqG (e := x) (f := y) rfl rfl rfl w') ?_
        try simp only [Act.put, List.getElem_toArray, List.getElem_cons_zero, List.getElem_cons_succ, List.setIfInBounds_toArray, List.set_cons_zero, List.set_cons_succ]
        refine pi_nil ?_
        by_cases hxy : x = y
        · rw [decide_eq_true hxy]
          simp only [Bool.not_true]
          have HY := Lib.hid (Hyes.out hxy)
          clear Hyes Hno hxy
          go_wp2
          go_roundw
          case rel => exact ⟨k + 1, by omega, by go_num, below_up hB hBd, HY⟩
          case measure => simp [intOf]; omega
        · rw [decide_eq_false hxy]
          simp only [Bool.not_false]
          have HY := Lib.hid (Hno.out hxy)
          clear Hyes Hno hxy
          go_wp2
          go_ret
          exact ⟨by rw [HY.out]; rfl, below_up HB2.out (below_up hB hBd)⟩
      · obtain rfl : k = n := by omega
        have hR : RV = true := by
          rw [← HR.out, decide_eq_true_eq]
          exact List.ext_getElem (by rw [H1.out, H2.out]) (fun j h1 h2 => HE.out j (by rw [← H1.out]; exact h1) h1 h2)
        have HR2 := Lib.hid hR
        clear hR
        go_wp2
        go_ret
        exact ⟨by rw [HR2.out]; rfl, below_up HB2.out hB⟩
  · have hne : ¬ ((L1.length : Int) = (L2.length : Int)) := by omega
    have hd : decide (L1 = L2) = false := decide_eq_false (fun e => hl (by rw [e]))
    rw [hd]
    have HB2 := Lib.hid hB2
    clear hB2 hl
    go_enter Try.func22, Try.ntmps22
    go_wp2
    go_ret
    exact ⟨rfl, HB2.out⟩
set_option maxRecDepth 100000 in
theorem rSameNil_c {B M : Nat} {E : List Mb} (w : World) (h : RollAt w B M E) : Calls Try.prog 15 #[.pointer (some ⟨B, 0, none⟩), .pointer none] w (Ret (.bool false) w) := by
  have hn := fun w => nNone_c (.pointer none) w (.inl rfl)
  have hp := rNone_c w h
  go_enter Try.func15, Try.ntmps15
  go_wp2_with (first
    | (go_at_call 26; (with_reducible refine (hn _).mono ?_); rintro en w1 ⟨rfl, rfl⟩)
    | (go_at_call 26; (with_reducible refine hp.mono ?_); rintro en w1 ⟨rfl, rfl⟩))
  go_ret
  exact ⟨rfl, Below.refl _ _⟩
end Go.Proofs.Yteakpppabgbpeaa
