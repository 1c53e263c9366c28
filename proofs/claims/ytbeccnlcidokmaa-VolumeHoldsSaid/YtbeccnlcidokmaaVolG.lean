/-
  The contract of Book.
-/
import Derived.Test.YtbeccnlcidokmaaVolF
namespace Go.Proofs.Ytbeccnlcidokmaa
open Go.RowKit Go.Maps Vol
set_option linter.unusedSimpArgs false
set_option linter.unusedVariables false

/-- What booking leaves. -/
def Vol.Upd (E : List (Ct × Int)) (c : Ct) (n : Int) (E' : List (Ct × Int)) : Prop :=
  (get E c = none ∧ E' = E ++ [(c, n)]) ∨ ∃ A q B, E = A ++ q :: B ∧ keyEq q.1 c = true ∧ E' = A ++ (c, q.2 + n) :: B
def Vol.FullB (E : List (Ct × Int)) (c : Ct) : Bool := !(get E c).isSome && decide (512 ≤ E.length)
def Vol.BookR (E : List (Ct × Int)) (c : Ct) (n : Int) (en : Ending) (E' : List (Ct × Int)) : Prop :=
  (roomF c (lk E c).2 c.a < n ∧ en = .returned (.int .i64 290) ∧ E' = E) ∨ (¬ roomF c (lk E c).2 c.a < n ∧ FullB E c = true ∧ en = .returned (.int .i64 291) ∧ E' = E) ∨
  (¬ roomF c (lk E c).2 c.a < n ∧ FullB E c = false ∧ en = .returned (.int .i64 0) ∧ Upd E c n E')

theorem vput {w : World} {M : Nat} {E : List (Ct × Int)} (h : VMap w M E) {c : Ct} (hc : c.Ok) (n : Int) :
    ∃ w' E', (Instr.mapUpdate 45 (.map (some M)) (keyV c) (rowV c ((lk E c).2 + n))).run Try.prog w = .ok () w' ∧ Upd E c n E' ∧ VMap w' M E' ∧ But (· = M) w w' := by
  obtain ⟨l, hl⟩ := ct_key c hc
  cases hg : get E c with
  | none =>
    have h1 : lk E c = (zct, 0) := by unfold lk; rw [hg]; rfl
    rw [h1]
    have hg' : E.find? (fun p => keyEq p.1 c) = none := hg
    obtain ⟨w', h2, h3, h4⟩ := h.put_new volKeyed Try.underlying45 hl (v := rowV c (0 + n)) (fun p hp e => by
      obtain ⟨q, hq, rfl⟩ := List.mem_map.1 hp
      exact List.find?_eq_none.1 hg' q hq (keyV_eq.1 e))
    refine ⟨w', E ++ [(c, n)], h2, .inl ⟨hg, rfl⟩, ?_, h4⟩
    show MapAt _ _ _ _ ((E ++ [(c, n)]).map vEnt)
    rw [List.map_append]
    rw [Int.zero_add] at h3
    exact h3
  | some q =>
    have h1 : lk E c = q := by unfold lk; rw [hg]; rfl
    rw [h1]
    have hg' : E.find? (fun p => keyEq p.1 c) = some q := hg
    have hk1 : keyEq q.1 c = true := List.find?_some (p := fun p : Ct × Int => keyEq p.1 c) hg'
    obtain ⟨A, B, rfl⟩ := List.append_of_mem (List.mem_of_find?_eq_some hg')
    have hk := keyV_eq.2 hk1
    have h' : MapAt Try.prog 55 w M (A.map vEnt ++ (keyV c, rowV q.1 q.2) :: B.map vEnt) := by
      have : (A ++ q :: B).map vEnt = A.map vEnt ++ (keyV c, rowV q.1 q.2) :: B.map vEnt := by rw [List.map_append, List.map_cons]; show _ ++ (keyV q.1, _) :: _ = _; rw [hk]
      rw [← this]; exact h
    obtain ⟨w', h2, h3, h4⟩ := h'.put_old volKeyed Try.underlying45 (v := rowV c (q.2 + n)) hl
    refine ⟨w', A ++ (c, q.2 + n) :: B, h2, .inr ⟨A, q, B, rfl, hk1, rfl⟩, ?_, h4⟩
    show MapAt _ _ _ _ ((A ++ (c, q.2 + n) :: B).map vEnt)
    rw [List.map_append, List.map_cons]
    exact h3

theorem Vol.room_add {c : Ct} (hc : c.Ok) {n0 n at_ : Int} (h0 : 0 ≤ n0) (hn : 0 < n) (h : ¬ roomF c n0 at_ < n) : n0 + n ≤ 4611686018427387903 := by
  have hr1 := hc.r1
  have hA := Clk.carriesF_b c.a c.b c.r (by omega)
  unfold roomF at h
  have h1 := (least2_le (Clk.carriesF c.a c.b c.r - least2 (Clk.carriesF c.a c.b c.r) n0) (Clk.carriesF (least2 (if at_ < c.a then c.a else at_) c.b) c.b c.r)).1
  have h2 : least2 (Clk.carriesF c.a c.b c.r) n0 = n0 ∨ least2 (Clk.carriesF c.a c.b c.r) n0 = Clk.carriesF c.a c.b c.r := by unfold least2; split; exact .inl rfl; exact .inr rfl
  have h3 : n ≤ Clk.carriesF c.a c.b c.r - least2 (Clk.carriesF c.a c.b c.r) n0 := by omega
  clear h h1
  rcases h2 with h2 | h2 <;> (rw [h2] at h3; omega)

set_option maxHeartbeats 4000000 in
set_option maxRecDepth 100000 in
theorem vBook_c {L M : Nat} {E : List (Ct × Int)} (c : Ct) (hc : c.Ok) (n : Int) (hn : 0 ≤ (lk E c).2) (hn0 : 0 < n) (w : World) (h : Led w L M E) :
    Calls Try.prog 7 #[.pointer (some ⟨L, 0, none⟩), ctV c, .int .u64 n] w (fun en w' => ∃ E', BookR E c n en E' ∧ Led w' L M E' ∧ But (· = M) w w') := by
  have hmf : ∀ (fn : Fn) (first cap : Array Value) (w : World), (Instr.makeFunc fn first cap).run Try.prog w = .ok (.func fn first cap) w := fun _ _ _ _ => rfl
  have hL := h.var.lt
  have hM := h.map.lt
  have hB3 : Below w.heap.size w (((w.alloc (.cells #[.pointer (some ⟨L, 0, none⟩)] 23)).alloc (.cells (ctC c).toArray 32)).alloc (.cells #[.int .u64 n] 28)) := ((below_alloc w _).alloc (by simp) _).alloc (by simp; omega) _
  have P1 : RowAt (((w.alloc (.cells #[.pointer (some ⟨L, 0, none⟩)] 23)).alloc (.cells (ctC c).toArray 32)).alloc (.cells #[.int .u64 n] 28)) w.heap.size #[.pointer (some ⟨L, 0, none⟩)] 23 := ((RowAt.new w _ _).alloc _).alloc _
  have P2 : RowAt (((w.alloc (.cells #[.pointer (some ⟨L, 0, none⟩)] 23)).alloc (.cells (ctC c).toArray 32)).alloc (.cells #[.int .u64 n] 28)) (w.heap.size + 1) (ctC c).toArray 32 := by
    have := RowAt.new (w.alloc (.cells #[.pointer (some ⟨L, 0, none⟩)] 23)) (ctC c).toArray 32
    rw [World.size_alloc] at this
    exact this.alloc _
  have P3 : RowAt (((w.alloc (.cells #[.pointer (some ⟨L, 0, none⟩)] 23)).alloc (.cells (ctC c).toArray 32)).alloc (.cells #[.int .u64 n] 28)) (w.heap.size + 1 + 1) #[.int .u64 n] 28 := by
    have := RowAt.new ((w.alloc (.cells #[.pointer (some ⟨L, 0, none⟩)] 23)).alloc (.cells (ctC c).toArray 32)) #[.int .u64 n] 28
    rw [World.size_alloc, World.size_alloc] at this
    exact this
  have HF : Cap L M E c n w.heap.size (w.heap.size + 1) (w.heap.size + 1 + 1) ((((w.alloc (.cells #[.pointer (some ⟨L, 0, none⟩)] 23)).alloc (.cells (ctC c).toArray 32)).alloc (.cells #[.int .u64 n] 28)).alloc (.cells [.func (.func 18) #[] #[.pointer (some ⟨w.heap.size, 0, none⟩), .pointer (some ⟨w.heap.size + 1, 0, none⟩), .pointer (some ⟨w.heap.size + 1 + 1, 0, none⟩)], .int .i64 290, .func (.func 19) #[] #[.pointer (some ⟨w.heap.size, 0, none⟩), .pointer (some ⟨w.heap.size + 1, 0, none⟩)], .int .i64 291].toArray 50)) := Cap.up _ _ (below_alloc _ _) ⟨h.below hB3, P1, P2, P3⟩
  have hsl : Sl ((((w.alloc (.cells #[.pointer (some ⟨L, 0, none⟩)] 23)).alloc (.cells (ctC c).toArray 32)).alloc (.cells #[.int .u64 n] 28)).alloc (.cells [.func (.func 18) #[] #[.pointer (some ⟨w.heap.size, 0, none⟩), .pointer (some ⟨w.heap.size + 1, 0, none⟩), .pointer (some ⟨w.heap.size + 1 + 1, 0, none⟩)], .int .i64 290, .func (.func 19) #[] #[.pointer (some ⟨w.heap.size, 0, none⟩), .pointer (some ⟨w.heap.size + 1, 0, none⟩)], .int .i64 291].toArray 50)) 2 (.slice (some ⟨w.heap.size + 1 + 1 + 1, 0, none⟩) 2 2) 2 [.func (.func 18) #[] #[.pointer (some ⟨w.heap.size, 0, none⟩), .pointer (some ⟨w.heap.size + 1, 0, none⟩), .pointer (some ⟨w.heap.size + 1 + 1, 0, none⟩)], .int .i64 290, .func (.func 19) #[] #[.pointer (some ⟨w.heap.size, 0, none⟩), .pointer (some ⟨w.heap.size + 1, 0, none⟩)], .int .i64 291] := by
    have := Sl.of_own (World.ownsRow_lit (((w.alloc (.cells #[.pointer (some ⟨L, 0, none⟩)] 23)).alloc (.cells (ctC c).toArray 32)).alloc (.cells #[.int .u64 n] 28)) [.func (.func 18) #[] #[.pointer (some ⟨w.heap.size, 0, none⟩), .pointer (some ⟨w.heap.size + 1, 0, none⟩), .pointer (some ⟨w.heap.size + 1 + 1, 0, none⟩)], .int .i64 290, .func (.func 19) #[] #[.pointer (some ⟨w.heap.size, 0, none⟩), .pointer (some ⟨w.heap.size + 1, 0, none⟩)], .int .i64 291].toArray 2 (size := 2) (e := 50) (base := w.heap.size) (by simp; omega) (by decide) rfl)
    simp only [World.size_alloc] at this
    exact this
  have HB := Lib.hid (hB3.alloc (by simp; omega) (.cells [.func (.func 18) #[] #[.pointer (some ⟨w.heap.size, 0, none⟩), .pointer (some ⟨w.heap.size + 1, 0, none⟩), .pointer (some ⟨w.heap.size + 1 + 1, 0, none⟩)], .int .i64 290, .func (.func 19) #[] #[.pointer (some ⟨w.heap.size, 0, none⟩), .pointer (some ⟨w.heap.size + 1, 0, none⟩)], .int .i64 291].toArray 50))
  have hMa : ¬ w.heap.size = M := by omega
  have hMb : ¬ w.heap.size + 1 = M := by omega
  have hMd : ¬ w.heap.size + 1 + 1 = M := by omega
  have hask := askedB_c c hc n hn hn0 w.heap.size (w.heap.size + 1) (w.heap.size + 1 + 1) _ _ HF hsl
  clear hsl P1 P2 P3 hB3
  have hsum := fun (h : ¬ roomF c (lk E c).2 c.a < n) => room_add hc hn hn0 h
  have Hs := Lib.hid hsum
  clear hsum
  go_enter Try.func7, Try.ntmps7
  by_cases h3 : roomF c (lk E c).2 c.a < n
  · rw [if_pos h3] at hask
    go_wp2_with (go_at_call 17; refine hask.mono ?_; rintro en w4 ⟨rfl, hb⟩; replace HF := Cap.up _ _ hb HF; replace HB := Lib.hid (below_up HB.out hb))
    go_ret
    exact ⟨E, .inl ⟨h3, rfl, rfl⟩, HF.1, But.of_below HB.out⟩
  · rw [if_neg h3] at hask
    cases h4 : FullB E c with
    | true =>
      rw [if_pos (show (!(get E c).isSome && decide (512 ≤ E.length)) = true from h4)] at hask
      go_wp2_with (go_at_call 17; refine hask.mono ?_; rintro en w4 ⟨rfl, hb⟩; replace HF := Cap.up _ _ hb HF; replace HB := Lib.hid (below_up HB.out hb))
      go_ret
      exact ⟨E, .inr (.inl ⟨by omega, h4, rfl, rfl⟩), HF.1, But.of_below HB.out⟩
    | false =>
      rw [if_neg (show ¬ (!(get E c).isSome && decide (512 ≤ E.length)) = true from by rw [show (!(get E c).isSome && decide (512 ≤ E.length)) = false from h4]; exact Bool.false_ne_true)] at hask
      have hs1 := Hs.out h3
      have hwr : IntKind.u64.wrap ((lk E c).2 + n) = (lk E c).2 + n := IntWalk.u64_in _ ⟨by omega, by omega⟩
      go_wp2_with (go_at_call 17; refine hask.mono ?_; rintro en w4 ⟨rfl, hb⟩; replace HF := Cap.up _ _ hb HF; replace HB := Lib.hid (below_up HB.out hb))
      refine wp_region_pt (· = M) (.q 0 (.q 1 (.q 2 (.q 3 (.q 4 (.q 6 (.q 7 (.q 8 (.q 9 (.q 10 (.q 11 (.q 13 (.c 5 (.c 12 (.q 14 (.q 15 (.c 16 .done))))))))))))))))) (by kernel_rfl) (by kernel_rfl) (by kernel_rfl) (by decide) (fun _ _ d _ _ h => by cases d <;> exact h) (fun Wd hBd => ?_)
      try simp only [Act.put, List.getElem_toArray, List.getElem_cons_zero, List.getElem_cons_succ, List.setIfInBounds_toArray, List.set_cons_zero, List.set_cons_succ]
      replace HB := Lib.hid (below_up HB.out hBd)
      replace HF := Cap.up _ _ hBd HF
      have fa : ∀ w', But (· = M) Wd w' → w'.cell? ⟨w.heap.size, 0, none⟩ = some (.pointer (some ⟨L, 0, none⟩)) := fun w' hb => hb.cell (HF.2.1.cell (i := 0) rfl) hMa
      have fd : ∀ w', But (· = M) Wd w' → w'.cell? ⟨w.heap.size + 1 + 1, 0, none⟩ = some (.int .u64 n) := fun w' hb => hb.cell (HF.2.2.2.cell (i := 0) rfl) hMd
      have fl : ∀ w', But (· = M) Wd w' → w'.cell? ⟨L, 0, none⟩ = some (.map (some M)) := fun w' hb => hb.cell (HF.1.var.cell (i := 0) rfl) h.ne
      refine pt_q (v := ?_) rfl (by rfl) ?_ ?_
      rotate_left
      · intro w' hBw'
        first | (go_simp; done) | (go_simp; with_reducible rfl)
      try simp only [Act.put, List.getElem_toArray, List.getElem_cons_zero, List.getElem_cons_succ, List.setIfInBounds_toArray, List.set_cons_zero, List.set_cons_succ]
      refine pt_q (v := ?_) rfl (by rfl) ?_ ?_
      rotate_left
      · intro w' hBw'
        first | (go_simp; done) | (go_simp; with_reducible rfl)
      try simp only [Act.put, List.getElem_toArray, List.getElem_cons_zero, List.getElem_cons_succ, List.setIfInBounds_toArray, List.set_cons_zero, List.set_cons_succ]
      refine pt_q (v := ?_) rfl (by rfl) ?_ ?_
      rotate_left
      · intro w' hBw'
        first | (go_simp; done) | (go_simp; with_reducible rfl)
      try simp only [Act.put, List.getElem_toArray, List.getElem_cons_zero, List.getElem_cons_succ, List.setIfInBounds_toArray, List.set_cons_zero, List.set_cons_succ]
      refine pt_q (v := ?_) rfl (by rfl) ?_ ?_
      rotate_left
      · intro w' hBw'
        first | (go_simp; done) | (go_simp; with_reducible rfl)
      try simp only [Act.put, List.getElem_toArray, List.getElem_cons_zero, List.getElem_cons_succ, List.setIfInBounds_toArray, List.set_cons_zero, List.set_cons_succ]
      refine pt_load rfl (by rfl) 32 (.tmp 4) rfl (w.heap.size + 1) 0 rfl (ctC c) _ HF.2.2.1.range hMb Try.underlying32 rfl (by kernel_rfl) ?_
      try simp only [Act.put, List.getElem_toArray, List.getElem_cons_zero, List.getElem_cons_succ, List.setIfInBounds_toArray, List.set_cons_zero, List.set_cons_succ]
      refine pt_load rfl (by rfl) 32 (.tmp 4) rfl (w.heap.size + 1) 0 rfl (ctC c) _ HF.2.2.1.range hMb Try.underlying32 rfl (by kernel_rfl) ?_
      try simp only [Act.put, List.getElem_toArray, List.getElem_cons_zero, List.getElem_cons_succ, List.setIfInBounds_toArray, List.set_cons_zero, List.set_cons_succ]
      refine pt_q (v := ?_) rfl (by rfl) ?_ ?_
      rotate_left
      · intro w' hBw'
        first | (go_simp; done) | (go_simp; with_reducible rfl)
      try simp only [Act.put, List.getElem_toArray, List.getElem_cons_zero, List.getElem_cons_succ, List.setIfInBounds_toArray, List.set_cons_zero, List.set_cons_succ]
      refine pt_q (v := ?_) rfl (by rfl) ?_ ?_
      rotate_left
      · intro w' hBw'
        first | (go_simp; done) | (go_simp; with_reducible rfl)
      try simp only [Act.put, List.getElem_toArray, List.getElem_cons_zero, List.getElem_cons_succ, List.setIfInBounds_toArray, List.set_cons_zero, List.set_cons_succ]
      refine pt_q (v := ?_) rfl (by rfl) ?_ ?_
      rotate_left
      · intro w' hBw'
        first | (go_simp; done) | (go_simp; with_reducible rfl)
      try simp only [Act.put, List.getElem_toArray, List.getElem_cons_zero, List.getElem_cons_succ, List.setIfInBounds_toArray, List.set_cons_zero, List.set_cons_succ]
      refine pt_q (v := ?_) rfl (by rfl) ?_ ?_
      rotate_left
      · intro w' hBw'
        first | (go_simp; done) | (go_simp; with_reducible rfl)
      try simp only [Act.put, List.getElem_toArray, List.getElem_cons_zero, List.getElem_cons_succ, List.setIfInBounds_toArray, List.set_cons_zero, List.set_cons_succ]
      refine pt_load rfl (by rfl) 32 (.tmp 4) rfl (w.heap.size + 1) 0 rfl (ctC c) _ HF.2.2.1.range hMb Try.underlying32 rfl (by kernel_rfl) ?_
      try simp only [Act.put, List.getElem_toArray, List.getElem_cons_zero, List.getElem_cons_succ, List.setIfInBounds_toArray, List.set_cons_zero, List.set_cons_succ]
      refine pt_q (v := ?_) rfl (by rfl) ?_ ?_
      rotate_left
      · intro w' hBw'
        first | (go_simp; done) | (go_simp; with_reducible rfl)
      try simp only [Act.put, List.getElem_toArray, List.getElem_cons_zero, List.getElem_cons_succ, List.setIfInBounds_toArray, List.set_cons_zero, List.set_cons_succ]
      refine pt_c ?_
      refine pt_step rfl (by rfl) (fun K hK => ?_)
      go_simp
      refine (ctOf_c c _).mono ?_
      rintro en w5 ⟨rfl, hb⟩
      replace HB := Lib.hid (below_up HB.out hb)
      replace HF := Cap.up _ _ hb HF
      go_wp2_with fail
      refine hK.out _ _ (But.of_below hb) ?_
      clear hK K
      try simp only [Act.put, List.getElem_toArray, List.getElem_cons_zero, List.getElem_cons_succ, List.setIfInBounds_toArray, List.set_cons_zero, List.set_cons_succ]
      refine pt_c ?_
      refine pt_step rfl (by rfl) (fun K hK => ?_)
      go_simp
      refine (vBooked_c c hc _ HF.1.map).mono ?_
      rintro en w6 ⟨rfl, hb⟩
      replace HB := Lib.hid (below_up HB.out hb)
      replace HF := Cap.up _ _ hb HF
      obtain ⟨w7, E', hput, hU, hM7, hb7⟩ := vput HF.1.map hc n
      go_wp2_with fail
      refine hK.out _ _ (But.of_below hb) ?_
      clear hK K
      try simp only [Act.put, List.getElem_toArray, List.getElem_cons_zero, List.getElem_cons_succ, List.setIfInBounds_toArray, List.set_cons_zero, List.set_cons_succ]
      refine pt_q (v := ?_) rfl (by rfl) ?_ ?_
      rotate_left
      · intro w' hBw'
        first | (go_simp; done) | (go_simp; with_reducible rfl)
      try simp only [Act.put, List.getElem_toArray, List.getElem_cons_zero, List.getElem_cons_succ, List.setIfInBounds_toArray, List.set_cons_zero, List.set_cons_succ]
      refine pt_q (v := ?_) rfl (by rfl) ?_ ?_
      rotate_left
      · intro w' hBw'
        first | (go_simp; done) | (go_simp; with_reducible rfl)
      try simp only [Act.put, List.getElem_toArray, List.getElem_cons_zero, List.getElem_cons_succ, List.setIfInBounds_toArray, List.set_cons_zero, List.set_cons_succ]
      refine pt_c ?_
      refine pt_put rfl (by rfl) 45 (.tmp 22) (.tmp 24) (.tmp 34) rfl (mv := .map (some M)) (xv := keyV c) (yv := rowV c ((lk E c).2 + n)) rfl rfl rfl hput hb7 ?_
      try simp only [Act.put, List.getElem_toArray, List.getElem_cons_zero, List.getElem_cons_succ, List.setIfInBounds_toArray, List.set_cons_zero, List.set_cons_succ]
      refine pt_done ?_
      go_wp2
      go_ret
      refine ⟨E', ?_, ⟨(hb7.same L HF.1.var.lt h.ne).trans HF.1.var, hM7, h.ne⟩, (But.of_below HB.out).trans hb7⟩
      exact .inr (.inr ⟨by omega, h4, rfl, hU⟩)
end Go.Proofs.Ytbeccnlcidokmaa
