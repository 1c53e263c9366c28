/-
  The contract of Free.
-/
import Derived.Test.YtbeccnlcidokmaaVolG
namespace Go.Proofs.Ytbeccnlcidokmaa
open Go.RowKit Go.Maps Vol
set_option linter.unusedSimpArgs false
set_option linter.unusedVariables false

theorem pt_del {P : Program} {ops : Array Oper} {Q : Exit → Act → World → Prop} {O : Nat → Prop} {i : Nat} {o : Oper} {R : Act → World → Prop} {a : Act} {w w' : World} (hi : ops[i]? = some o) (hw : Region.wanted o (yielded ops a.tmps) = true) (t kt : TypeId) (m x : Operand)
    (ho : o.op = .call { callee := .builtin .delete, args := #[m, x], argTypes := #[t, kt] }) {mv xv : Value} (hm : a.eval m = mv) (hx : a.eval x = xv) {u : Value} (hr : (Builtin.delete_ #[t, kt] o.type #[mv, xv]).run P w = .ok u w') (hb : But O w w')
    (h : R (a.put o.dst u) w') : ptStep P O ops Q i R a w :=
  ⟨o, hi, hw, by
    unfold Oper.wp execOp
    simp only [ho, resolve, invoke, builtin, Sem.run_bind, Sem.run_pure, Result.andThen_ok, List.map_toArray, List.map_cons, List.map_nil, hm, hx, hr]
    exact ⟨hb, h⟩⟩

theorem vmid {A B : List (Ct × Int)} {q : Ct × Int} {c : Ct} (hk : keyV q.1 = keyV c) : (A ++ q :: B).map vEnt = A.map vEnt ++ (keyV c, rowV q.1 q.2) :: B.map vEnt := by
  rw [List.map_append, List.map_cons]
  show _ ++ (keyV q.1, _) :: _ = _
  rw [hk]
theorem vset {w : World} {M : Nat} {A B : List (Ct × Int)} {q : Ct × Int} (h : VMap w M (A ++ q :: B)) {c : Ct} (hc : c.Ok) (hk : keyV q.1 = keyV c) {n : Int} :
    ∃ w', (Instr.mapUpdate 45 (.map (some M)) (keyV c) (rowV q.1 n)).run Try.prog w = .ok () w' ∧ VMap w' M (A ++ (q.1, n) :: B) ∧ But (· = M) w w' := by
  obtain ⟨l, hl⟩ := ct_key c hc
  have h' : MapAt Try.prog 55 w M (A.map vEnt ++ (keyV c, rowV q.1 q.2) :: B.map vEnt) := by rw [← vmid hk]; exact h
  obtain ⟨w', h2, h3, h4⟩ := h'.put_old volKeyed Try.underlying45 (v := rowV q.1 n) hl
  refine ⟨w', h2, ?_, h4⟩
  show MapAt _ _ _ _ ((A ++ (q.1, n) :: B).map vEnt)
  rw [vmid (q := (q.1, n)) (c := c) hk]
  exact h3
theorem vdel {w : World} {M : Nat} {A B : List (Ct × Int)} {q : Ct × Int} (h : VMap w M (A ++ q :: B)) {c : Ct} (hc : c.Ok) (hk : keyV q.1 = keyV c) {ty : TypeId} :
    ∃ w', (Builtin.delete_ #[45, 55] ty #[.map (some M), keyV c]).run Try.prog w = .ok (.tuple #[]) w' ∧ VMap w' M (A ++ B) ∧ But (· = M) w w' := by
  obtain ⟨l, hl⟩ := ct_key c hc
  have h' : MapAt Try.prog 55 w M (A.map vEnt ++ (keyV c, rowV q.1 q.2) :: B.map vEnt) := by rw [← vmid hk]; exact h
  obtain ⟨w', h2, h3, h4⟩ := h'.del volKeyed Try.underlying45 hl 55 ty
  refine ⟨w', h2, ?_, h4⟩
  show MapAt _ _ _ _ ((A ++ B).map vEnt)
  rw [List.map_append]
  exact h3

/-- What freeing leaves. -/
def Vol.FreeR (E : List (Ct × Int)) (c : Ct) (n : Int) (en : Ending) (E' : List (Ct × Int)) : Prop :=
  ((lk E c).2 < n ∧ en = .returned (.int .i64 5) ∧ E' = E) ∨
  (¬ (lk E c).2 < n ∧ en = .returned (.int .i64 0) ∧ ∃ A q B, E = A ++ q :: B ∧ lk E c = q ∧ ((q.2 = n ∧ E' = A ++ B) ∨ (q.2 ≠ n ∧ E' = A ++ (q.1, q.2 - n) :: B)))

set_option maxHeartbeats 4000000 in
set_option maxRecDepth 100000 in
theorem vFree_c {L M : Nat} {E : List (Ct × Int)} (c : Ct) (hc : c.Ok) (n : Int) (hn : 0 ≤ (lk E c).2) (hn1 : (lk E c).2 ≤ 18446744073709551615) (hn0 : 0 < n) (w : World) (h : Led w L M E) :
    Calls Try.prog 12 #[.pointer (some ⟨L, 0, none⟩), ctV c, .int .u64 n] w (fun en w' => ∃ E', FreeR E c n en E' ∧ Led w' L M E' ∧ But (· = M) w w') := by
  have hmf : ∀ (fn : Fn) (first cap : Array Value) (w : World), (Instr.makeFunc fn first cap).run Try.prog w = .ok (.func fn first cap) w := fun _ _ _ _ => rfl
  have hL := h.var.lt
  have hM := h.map.lt
  have hB3 : Below w.heap.size w (((w.alloc (.cells #[.pointer (some ⟨L, 0, none⟩)] 23)).alloc (.cells (ctC c).toArray 32)).alloc (.cells #[.int .u64 n] 28)) := ((below_alloc w _).alloc (by simp) _).alloc (by simp; omega) _
  have P1 : RowAt (((w.alloc (.cells #[.pointer (some ⟨L, 0, none⟩)] 23)).alloc (.cells (ctC c).toArray 32)).alloc (.cells #[.int .u64 n] 28)) w.heap.size #[.pointer (some ⟨L, 0, none⟩)] 23 := ((RowAt.new w _ _).alloc _).alloc _
  have P2 : RowAt (((w.alloc (.cells #[.pointer (some ⟨L, 0, none⟩)] 23)).alloc (.cells (ctC c).toArray 32)).alloc (.cells #[.int .u64 n] 28)) (w.heap.size + 1) (ctC c).toArray 32 := by
    have := RowAt.new (w.alloc (.cells #[.pointer (some ⟨L, 0, none⟩)] 23)) (ctC c).toArray 32
    rw [World.size_alloc] at this
    exact this.alloc _
  have P3 : RowAt (((w.alloc (.cells #[.pointer (some ⟨L, 0, none⟩)] 23)).alloc (.cells (ctC c).toArray 32)).alloc (.cells #[.int .u64 n] 28)) (w.heap.size + 1 + 1) #[.int .u64 n] 28 := by
    have := RowAt.new ((w.alloc (.cells #[.pointer (some ⟨L, 0, none⟩)] 23)).alloc (.cells (ctC c).toArray 32)) #[.int .u64 n] 28
    rw [World.size_alloc, World.size_alloc] at this
    exact this
  have HF : Cap L M E c n w.heap.size (w.heap.size + 1) (w.heap.size + 1 + 1) ((((w.alloc (.cells #[.pointer (some ⟨L, 0, none⟩)] 23)).alloc (.cells (ctC c).toArray 32)).alloc (.cells #[.int .u64 n] 28)).alloc (.cells [.func (.func 25) #[] #[.pointer (some ⟨w.heap.size, 0, none⟩), .pointer (some ⟨w.heap.size + 1, 0, none⟩), .pointer (some ⟨w.heap.size + 1 + 1, 0, none⟩)], .int .i64 5].toArray 50)) := Cap.up _ _ (below_alloc _ _) ⟨h.below hB3, P1, P2, P3⟩
  have hsl : Sl ((((w.alloc (.cells #[.pointer (some ⟨L, 0, none⟩)] 23)).alloc (.cells (ctC c).toArray 32)).alloc (.cells #[.int .u64 n] 28)).alloc (.cells [.func (.func 25) #[] #[.pointer (some ⟨w.heap.size, 0, none⟩), .pointer (some ⟨w.heap.size + 1, 0, none⟩), .pointer (some ⟨w.heap.size + 1 + 1, 0, none⟩)], .int .i64 5].toArray 50)) 2 (.slice (some ⟨w.heap.size + 1 + 1 + 1, 0, none⟩) 1 1) 1 [.func (.func 25) #[] #[.pointer (some ⟨w.heap.size, 0, none⟩), .pointer (some ⟨w.heap.size + 1, 0, none⟩), .pointer (some ⟨w.heap.size + 1 + 1, 0, none⟩)], .int .i64 5] := by
    have := Sl.of_own (World.ownsRow_lit (((w.alloc (.cells #[.pointer (some ⟨L, 0, none⟩)] 23)).alloc (.cells (ctC c).toArray 32)).alloc (.cells #[.int .u64 n] 28)) [.func (.func 25) #[] #[.pointer (some ⟨w.heap.size, 0, none⟩), .pointer (some ⟨w.heap.size + 1, 0, none⟩), .pointer (some ⟨w.heap.size + 1 + 1, 0, none⟩)], .int .i64 5].toArray 1 (size := 2) (e := 50) (base := w.heap.size) (by simp; omega) (by decide) rfl)
    simp only [World.size_alloc] at this
    exact this
  have HB := Lib.hid (hB3.alloc (by simp; omega) (.cells [.func (.func 25) #[] #[.pointer (some ⟨w.heap.size, 0, none⟩), .pointer (some ⟨w.heap.size + 1, 0, none⟩), .pointer (some ⟨w.heap.size + 1 + 1, 0, none⟩)], .int .i64 5].toArray 50))
  have hMa : ¬ w.heap.size = M := by omega
  have hMb : ¬ w.heap.size + 1 = M := by omega
  have hMd : ¬ w.heap.size + 1 + 1 = M := by omega
  have hask := askedF_c c hc n hn hn0 w.heap.size (w.heap.size + 1) (w.heap.size + 1 + 1) _ _ HF hsl
  clear hsl P1 P2 P3 hB3
  go_enter Try.func12, Try.ntmps12
  by_cases h3 : (lk E c).2 < n
  · rw [if_pos h3] at hask
    go_wp2_with (go_at_call 17; refine hask.mono ?_; rintro en w4 ⟨rfl, hb⟩; replace HF := Cap.up _ _ hb HF; replace HB := Lib.hid (below_up HB.out hb))
    go_ret
    exact ⟨E, .inl ⟨h3, rfl, rfl⟩, HF.1, But.of_below HB.out⟩
  · rw [if_neg h3] at hask
    go_wp2_with (go_at_call 17; refine hask.mono ?_; rintro en w4 ⟨rfl, hb⟩; replace HF := Cap.up _ _ hb HF; replace HB := Lib.hid (below_up HB.out hb))
    have HS := Lib.hid (show L < w4.heap.size ∧ M < w4.heap.size ∧ w.heap.size < w4.heap.size ∧ w.heap.size + 1 < w4.heap.size ∧ w.heap.size + 1 + 1 < w4.heap.size from ⟨HF.1.var.lt, HF.1.map.lt, HF.2.1.lt, HF.2.2.1.lt, HF.2.2.2.lt⟩)
    have HF4 := HF
    refine Code.wp_mono (Q := fun e a' w' => e = .normal ∧ ∃ p : Nat, a' = { tmps := #[a'.tmps.getD 0 undef, a'.tmps.getD 1 undef, a'.tmps.getD 2 undef, .pointer (some ⟨w.heap.size, 0, none⟩), .pointer (some ⟨w.heap.size + 1, 0, none⟩), .pointer (some ⟨w.heap.size + 1 + 1, 0, none⟩), .int .i64 0, .int .i64 0, .pointer (some ⟨p, 0, none⟩), a'.tmps.getD 9 undef, a'.tmps.getD 10 undef, a'.tmps.getD 11 undef, a'.tmps.getD 12 undef, a'.tmps.getD 13 undef, a'.tmps.getD 14 undef, a'.tmps.getD 15 undef, a'.tmps.getD 16 undef, a'.tmps.getD 17 undef, a'.tmps.getD 18 undef, a'.tmps.getD 19 undef, a'.tmps.getD 20 undef, a'.tmps.getD 21 undef, a'.tmps.getD 22 undef, a'.tmps.getD 23 undef, a'.tmps.getD 24 undef, a'.tmps.getD 25 undef, a'.tmps.getD 26 undef, a'.tmps.getD 27 undef, a'.tmps.getD 28 undef, a'.tmps.getD 29 undef, a'.tmps.getD 30 undef, a'.tmps.getD 31 undef, a'.tmps.getD 32 undef, a'.tmps.getD 33 undef, a'.tmps.getD 34 undef, a'.tmps.getD 35 undef, a'.tmps.getD 36 undef, a'.tmps.getD 37 undef, a'.tmps.getD 38 undef, a'.tmps.getD 39 undef, a'.tmps.getD 40 undef, a'.tmps.getD 41 undef, a'.tmps.getD 42 undef, a'.tmps.getD 43 undef, a'.tmps.getD 44 undef, a'.tmps.getD 45 undef, a'.tmps.getD 46 undef, a'.tmps.getD 47 undef], defers := [] } ∧ RowAt w' p (rowC (lk E c).1 (lk E c).2).toArray 52 ∧ w4.heap.size ≤ p ∧ Below w4.heap.size w4 w') ?post ?reg
    case reg =>
      have HB := Lib.hid (Below.refl w4.heap.size w4)
      refine wp_region_pt (fun j => w4.heap.size ≤ j) (.q 0 (.q 1 (.q 2 (.q 3 (.q 4 (.f 5 (.q 6 (.c 7 (.c 8 .done))) 7 (.c 5 (.q 6 (.c 8 .done))))))))) (by kernel_rfl) (by kernel_rfl) (by kernel_rfl) (by decide) (fun _ _ d _ _ h => by cases h.1) (fun Wd hBd => ?_)
      try simp only [Act.put, List.getElem_toArray, List.getElem_cons_zero, List.getElem_cons_succ, List.setIfInBounds_toArray, List.set_cons_zero, List.set_cons_succ]
      replace HB := Lib.hid (below_up HB.out hBd)
      replace HF := Cap.up _ _ hBd HF
      have fa : ∀ w', But (fun j => w4.heap.size ≤ j) Wd w' → w'.cell? ⟨w.heap.size, 0, none⟩ = some (.pointer (some ⟨L, 0, none⟩)) := fun w' hb => hb.cell (HF.2.1.cell (i := 0) rfl) (by have := HS.out; omega)
      have fl : ∀ w', But (fun j => w4.heap.size ≤ j) Wd w' → w'.cell? ⟨L, 0, none⟩ = some (.map (some M)) := fun w' hb => hb.cell (HF.1.var.cell (i := 0) rfl) (by have := HS.out; omega)
      refine pt_q (v := ?_) rfl (by rfl) ?_ ?_
      rotate_left
      · intro w' hBw'
        first | (go_simp; done) | (go_simp; with_reducible rfl)
      try simp only [Act.put, List.getElem_toArray, List.getElem_cons_zero, List.getElem_cons_succ, List.setIfInBounds_toArray, List.set_cons_zero, List.set_cons_succ]
      refine pt_q (v := ?_) rfl (by rfl) ?_ ?_
      rotate_left
      · intro w' hBw'
        first | (go_simp; done) | (go_simp; with_reducible rfl)
      try simp only [Act.put, List.getElem_toArray, List.getElem_cons_zero, List.getElem_cons_succ, List.setIfInBounds_toArray, List.set_cons_zero, List.set_cons_succ]
      refine pt_q (v := ?_) rfl (by rfl) ?_ ?_
      rotate_left
      · intro w' hBw'
        first | (go_simp; done) | (go_simp; with_reducible rfl)
      try simp only [Act.put, List.getElem_toArray, List.getElem_cons_zero, List.getElem_cons_succ, List.setIfInBounds_toArray, List.set_cons_zero, List.set_cons_succ]
      refine pt_q (v := ?_) rfl (by rfl) ?_ ?_
      rotate_left
      · intro w' hBw'
        first | (go_simp; done) | (go_simp; with_reducible rfl)
      try simp only [Act.put, List.getElem_toArray, List.getElem_cons_zero, List.getElem_cons_succ, List.setIfInBounds_toArray, List.set_cons_zero, List.set_cons_succ]
      refine pt_load rfl (by rfl) 32 (.tmp 4) rfl (w.heap.size + 1) 0 rfl (ctC c) _ HF.2.2.1.range (by have := HS.out; omega) Try.underlying32 rfl (by kernel_rfl) ?_
      try simp only [Act.put, List.getElem_toArray, List.getElem_cons_zero, List.getElem_cons_succ, List.setIfInBounds_toArray, List.set_cons_zero, List.set_cons_succ]
      refine pt_f ?_ ?_
      · refine pt_step rfl (by rfl) (fun K hK => ?_)
        go_simp
        refine (ctOf_c c _).mono ?_
        rintro en w5 ⟨rfl, hb⟩
        replace HB := Lib.hid (below_up HB.out hb)
        replace HF := Cap.up _ _ hb HF
        go_wp2_with fail
        refine hK.out _ _ (But.of_below hb) ?_
        clear hK K
        try simp only [Act.put, List.getElem_toArray, List.getElem_cons_zero, List.getElem_cons_succ, List.setIfInBounds_toArray, List.set_cons_zero, List.set_cons_succ]
        refine pt_look rfl (by rfl) 45 (.tmp 22) (.tmp 24) false rfl (mv := .map (some M)) (xv := keyV c) rfl rfl (fun w' h => vlook (HF.1.map.heap (h.same M HF.1.map.lt (by have := HS.out; omega))) hc false) ?_
        try simp only [Act.put, List.getElem_toArray, List.getElem_cons_zero, List.getElem_cons_succ, List.setIfInBounds_toArray, List.set_cons_zero, List.set_cons_succ]
        refine pt_c ?_
        refine pt_step rfl (by rfl) (fun K hK => ?_)
        go_simp
        have hz := RowAt.new w5 #[.int .u32 0, .int .u32 0, .int .u64 0, .int .u64 0, .int .u64 0, .int .u64 0] 52
        have hpz := HB.out.size
        have hp4 : w4.heap.size ≤ w5.heap.size := by have := hBd.size; first | omega | (have := hb.size; omega)
        have hb := below_alloc w5 (.cells #[.int .u32 0, .int .u32 0, .int .u64 0, .int .u64 0, .int .u64 0, .int .u64 0] 52)
        replace HB := Lib.hid (below_up HB.out hb)
        replace HF := Cap.up _ _ hb HF
        go_wp2_with fail
        refine hK.out _ _ (But.of_below hb) ?_
        clear hK K
        try simp only [Act.put, List.getElem_toArray, List.getElem_cons_zero, List.getElem_cons_succ, List.setIfInBounds_toArray, List.set_cons_zero, List.set_cons_succ]
        refine pt_c ?_
        refine pt_put_row rfl (by rfl) 52 (.tmp 8) (.tmp 25) rfl (w5.heap.size) (rowC (lk E c).1 (lk E c).2) rfl rfl hz rfl (by kernel_rfl) rfl hp4 ?_; intro w6 R6 hb6; have hp6 := hp4
        try simp only [Act.put, List.getElem_toArray, List.getElem_cons_zero, List.getElem_cons_succ, List.setIfInBounds_toArray, List.set_cons_zero, List.set_cons_succ]
        refine pt_done ?_
        have HB4 := HB
        exact ⟨rfl, _, rfl, R6, hp6, HB4.out.trans (hb6.below (fun k hk => by subst hk; exact hp6) HB4.out.size)⟩
      · refine pt_step rfl (by rfl) (fun K hK => ?_)
        go_simp
        have hz := RowAt.new Wd #[.int .u32 0, .int .u32 0, .int .u64 0, .int .u64 0, .int .u64 0, .int .u64 0] 52
        have hpz := HB.out.size
        have hp4 : w4.heap.size ≤ Wd.heap.size := by have := hBd.size; first | omega | (have := hb.size; omega)
        have hb := below_alloc Wd (.cells #[.int .u32 0, .int .u32 0, .int .u64 0, .int .u64 0, .int .u64 0, .int .u64 0] 52)
        replace HB := Lib.hid (below_up HB.out hb)
        replace HF := Cap.up _ _ hb HF
        go_wp2_with fail
        refine hK.out _ _ (But.of_below hb) ?_
        clear hK K
        try simp only [Act.put, List.getElem_toArray, List.getElem_cons_zero, List.getElem_cons_succ, List.setIfInBounds_toArray, List.set_cons_zero, List.set_cons_succ]
        refine pt_c ?_
        refine pt_step rfl (by rfl) (fun K hK => ?_)
        go_simp
        refine (ctOf_c c _).mono ?_
        rintro en w5 ⟨rfl, hb⟩
        replace HB := Lib.hid (below_up HB.out hb)
        replace HF := Cap.up _ _ hb HF
        replace hz := hz.below hb
        go_wp2_with fail
        refine hK.out _ _ (But.of_below hb) ?_
        clear hK K
        try simp only [Act.put, List.getElem_toArray, List.getElem_cons_zero, List.getElem_cons_succ, List.setIfInBounds_toArray, List.set_cons_zero, List.set_cons_succ]
        refine pt_look rfl (by rfl) 45 (.tmp 22) (.tmp 24) false rfl (mv := .map (some M)) (xv := keyV c) rfl rfl (fun w' h => vlook (HF.1.map.heap (h.same M HF.1.map.lt (by have := HS.out; omega))) hc false) ?_
        try simp only [Act.put, List.getElem_toArray, List.getElem_cons_zero, List.getElem_cons_succ, List.setIfInBounds_toArray, List.set_cons_zero, List.set_cons_succ]
        refine pt_c ?_
        refine pt_put_row rfl (by rfl) 52 (.tmp 8) (.tmp 25) rfl (Wd.heap.size) (rowC (lk E c).1 (lk E c).2) rfl rfl hz rfl (by kernel_rfl) rfl hp4 ?_; intro w6 R6 hb6; have hp6 := hp4
        try simp only [Act.put, List.getElem_toArray, List.getElem_cons_zero, List.getElem_cons_succ, List.setIfInBounds_toArray, List.set_cons_zero, List.set_cons_succ]
        refine pt_done ?_
        have HB4 := HB
        exact ⟨rfl, _, rfl, R6, hp6, HB4.out.trans (hb6.below (fun k hk => by subst hk; exact hp6) HB4.out.size)⟩
    case post =>
      rintro e a' w6 ⟨rfl, p, ha, R6, hp, hb6⟩
      obtain ⟨u, hu⟩ : ∃ u : Nat → Value, ∀ i, a'.tmps.getD i undef = u i := ⟨_, fun _ => rfl⟩
      simp only [hu] at ha
      clear hu
      subst ha
      replace HF := Cap.up _ _ hb6 HF
      replace HB := Lib.hid (below_up HB.out hb6)
      have hget : ∃ q, get E c = some q := by
        cases hg : get E c with
        | some q => exact ⟨q, rfl⟩
        | none =>
          have : lk E c = (zct, 0) := by unfold lk; rw [hg]; rfl
          rw [this] at h3
          simp only at h3; omega
      obtain ⟨q, hg⟩ := hget
      have hlk : lk E c = q := by unfold lk; rw [hg]; rfl
      have hg' : E.find? (fun p => keyEq p.1 c) = some q := hg
      have hk1 : keyEq q.1 c = true := List.find?_some (p := fun p : Ct × Int => keyEq p.1 c) hg'
      obtain ⟨A, B, hE⟩ := List.append_of_mem (List.mem_of_find?_eq_some hg')
      have hk := keyV_eq.2 hk1
      rw [hlk] at R6 h3 hn hn1
      have hwr : IntKind.u64.wrap (q.2 - n) = q.2 - n := IntWalk.u64_in _ ⟨by omega, by omega⟩
      have r5 := R6.cell (i := 5) (v := .int .u64 q.2) rfl
      have f5 := R6.fz 5
      have hd0 := HF.2.2.2.cell (i := 0) (v := .int .u64 n) rfl
      have hMp : ¬ p = M := by have := HS.out; omega
      have hS0 := HB.out.size
      have hw4 : w.heap.size ≤ w4.heap.size := by have := HS.out; omega
      have R7 : RowAt (w6.setCell ⟨p, 5, none⟩ (.int .u64 (q.2 - n))) p (rowC q.1 (q.2 - n)).toArray 52 := R6.set 5 _
      have hbp : But (· = p) w6 (w6.setCell ⟨p, 5, none⟩ (.int .u64 (q.2 - n))) := But.setCell _ _ _ (.inl rfl)
      have HF : Cap L M E c n w.heap.size (w.heap.size + 1) (w.heap.size + 1 + 1) (w6.setCell ⟨p, 5, none⟩ (.int .u64 (q.2 - n))) := by
        have hh := HS.out
        exact ⟨HF.1.but hbp (by omega) (by omega), (hbp.same _ HF.2.1.lt (by omega)).trans HF.2.1, (hbp.same _ HF.2.2.1.lt (by omega)).trans HF.2.2.1, (hbp.same _ HF.2.2.2.lt (by omega)).trans HF.2.2.2⟩
      replace HB := Lib.hid (HB.out.setCell (show w.heap.size ≤ (⟨p, 5, none⟩ : Addr).block by simp; omega) (.int .u64 (q.2 - n)))
      have H3 := Lib.hid h3
      go_wp2
      refine wp_region_pt (· = M) (.q 0 (.q 1 (.q 2 (.q 3 (.q 4 (.q 6 (.c 5 (.c 7 .done)))))))) (by kernel_rfl) (by kernel_rfl) (by kernel_rfl) (by decide) (fun _ _ d _ _ h => by cases d <;> exact h) (fun Wd hBd => ?_)
      try simp only [Act.put, List.getElem_toArray, List.getElem_cons_zero, List.getElem_cons_succ, List.setIfInBounds_toArray, List.set_cons_zero, List.set_cons_succ]
      replace HB := Lib.hid (below_up HB.out hBd)
      replace HF := Cap.up _ _ hBd HF
      have fa : ∀ w', But (· = M) Wd w' → w'.cell? ⟨w.heap.size, 0, none⟩ = some (.pointer (some ⟨L, 0, none⟩)) := fun w' hb => hb.cell (HF.2.1.cell (i := 0) rfl) hMa
      have fl : ∀ w', But (· = M) Wd w' → w'.cell? ⟨L, 0, none⟩ = some (.map (some M)) := fun w' hb => hb.cell (HF.1.var.cell (i := 0) rfl) h.ne
      replace R7 := R7.below hBd
      refine pt_q (v := ?_) rfl (by rfl) ?_ ?_
      rotate_left
      · intro w' hBw'
        first | (go_simp; done) | (go_simp; with_reducible rfl)
      try simp only [Act.put, List.getElem_toArray, List.getElem_cons_zero, List.getElem_cons_succ, List.setIfInBounds_toArray, List.set_cons_zero, List.set_cons_succ]
      refine pt_q (v := ?_) rfl (by rfl) ?_ ?_
      rotate_left
      · intro w' hBw'
        first | (go_simp; done) | (go_simp; with_reducible rfl)
      try simp only [Act.put, List.getElem_toArray, List.getElem_cons_zero, List.getElem_cons_succ, List.setIfInBounds_toArray, List.set_cons_zero, List.set_cons_succ]
      refine pt_q (v := ?_) rfl (by rfl) ?_ ?_
      rotate_left
      · intro w' hBw'
        first | (go_simp; done) | (go_simp; with_reducible rfl)
      try simp only [Act.put, List.getElem_toArray, List.getElem_cons_zero, List.getElem_cons_succ, List.setIfInBounds_toArray, List.set_cons_zero, List.set_cons_succ]
      refine pt_q (v := ?_) rfl (by rfl) ?_ ?_
      rotate_left
      · intro w' hBw'
        first | (go_simp; done) | (go_simp; with_reducible rfl)
      try simp only [Act.put, List.getElem_toArray, List.getElem_cons_zero, List.getElem_cons_succ, List.setIfInBounds_toArray, List.set_cons_zero, List.set_cons_succ]
      refine pt_load rfl (by rfl) 32 (.tmp 4) rfl (w.heap.size + 1) 0 rfl (ctC c) _ HF.2.2.1.range hMb Try.underlying32 rfl (by kernel_rfl) ?_
      try simp only [Act.put, List.getElem_toArray, List.getElem_cons_zero, List.getElem_cons_succ, List.setIfInBounds_toArray, List.set_cons_zero, List.set_cons_succ]
      refine pt_load rfl (by rfl) 52 (.tmp 8) rfl p 0 rfl (rowC q.1 (q.2 - n)) _ R7.range hMp Try.underlying52 rfl (by kernel_rfl) ?_
      try simp only [Act.put, List.getElem_toArray, List.getElem_cons_zero, List.getElem_cons_succ, List.setIfInBounds_toArray, List.set_cons_zero, List.set_cons_succ]
      refine pt_c ?_
      refine pt_step rfl (by rfl) (fun K hK => ?_)
      go_simp
      refine (ctOf_c c _).mono ?_
      rintro en w8 ⟨rfl, hb⟩
      replace HB := Lib.hid (below_up HB.out hb)
      replace HF := Cap.up _ _ hb HF
      replace R7 := R7.below hb
      have hme : VMap w8 M (A ++ q :: B) := by rw [← hE]; exact HF.1.map
      obtain ⟨w9, hput, hM9, hb9⟩ := vset hme hc hk (n := q.2 - n)
      go_wp2_with fail
      refine hK.out _ _ (But.of_below hb) ?_
      clear hK K
      try simp only [Act.put, List.getElem_toArray, List.getElem_cons_zero, List.getElem_cons_succ, List.setIfInBounds_toArray, List.set_cons_zero, List.set_cons_succ]
      refine pt_c ?_
      refine pt_put rfl (by rfl) 45 (.tmp 34) (.tmp 36) (.tmp 37) rfl (mv := .map (some M)) (xv := keyV c) (yv := rowV q.1 (q.2 - n)) rfl rfl rfl hput hb9 ?_
      try simp only [Act.put, List.getElem_toArray, List.getElem_cons_zero, List.getElem_cons_succ, List.setIfInBounds_toArray, List.set_cons_zero, List.set_cons_succ]
      refine pt_done ?_
      have hC := (hb9.same _ HF.2.2.1.lt hMb).trans HF.2.2.1
      have hD := (hb9.same _ HF.2.1.lt hMa).trans HF.2.1
      have hLv := (hb9.same L HF.1.var.lt h.ne).trans HF.1.var
      have R9 := (hb9.same p R7.lt hMp).trans R7
      have hC : RowAt w9 (w.heap.size + 1) (ctC c).toArray 32 := hC
      have hD : RowAt w9 w.heap.size #[.pointer (some ⟨L, 0, none⟩)] 23 := hD
      have hLv : RowAt w9 L #[.map (some M)] 47 := hLv
      have R9 : RowAt w9 p (rowC q.1 (q.2 - n)).toArray 52 := R9
      have r9 := R9.cell (i := 5) (v := .int .u64 (q.2 - n)) rfl
      have HBM := (But.of_below (O := (· = M)) HB.out).trans hb9
      clear HF R7
      by_cases hz : q.2 = n
      · have hz1 : (q.2 - n == 0) = true := by rw [beq_iff_eq]; omega
        go_wp2
        refine wp_region_pt (· = M) (.q 0 (.q 1 (.q 2 (.q 3 (.q 4 (.c 5 (.c 6 .done))))))) (by kernel_rfl) (by kernel_rfl) (by kernel_rfl) (by decide) (fun _ _ d _ _ h => by cases d <;> exact h) (fun Wd hBd => ?_)
        try simp only [Act.put, List.getElem_toArray, List.getElem_cons_zero, List.getElem_cons_succ, List.setIfInBounds_toArray, List.set_cons_zero, List.set_cons_succ]
        have hC := hC.below hBd
        have hD := hD.below hBd
        have hLv := hLv.below hBd
        have hM9 := hM9.heap (hBd.block M hM9.lt)
        have fa : ∀ w', But (· = M) Wd w' → w'.cell? ⟨w.heap.size, 0, none⟩ = some (.pointer (some ⟨L, 0, none⟩)) := fun w' hb => hb.cell (hD.cell (i := 0) rfl) hMa
        have fl : ∀ w', But (· = M) Wd w' → w'.cell? ⟨L, 0, none⟩ = some (.map (some M)) := fun w' hb => hb.cell (hLv.cell (i := 0) rfl) h.ne
        refine pt_q (v := ?_) rfl (by rfl) ?_ ?_
        rotate_left
        · intro w' hBw'
          first | (go_simp; done) | (go_simp; with_reducible rfl)
        try simp only [Act.put, List.getElem_toArray, List.getElem_cons_zero, List.getElem_cons_succ, List.setIfInBounds_toArray, List.set_cons_zero, List.set_cons_succ]
        refine pt_q (v := ?_) rfl (by rfl) ?_ ?_
        rotate_left
        · intro w' hBw'
          first | (go_simp; done) | (go_simp; with_reducible rfl)
        try simp only [Act.put, List.getElem_toArray, List.getElem_cons_zero, List.getElem_cons_succ, List.setIfInBounds_toArray, List.set_cons_zero, List.set_cons_succ]
        refine pt_q (v := ?_) rfl (by rfl) ?_ ?_
        rotate_left
        · intro w' hBw'
          first | (go_simp; done) | (go_simp; with_reducible rfl)
        try simp only [Act.put, List.getElem_toArray, List.getElem_cons_zero, List.getElem_cons_succ, List.setIfInBounds_toArray, List.set_cons_zero, List.set_cons_succ]
        refine pt_q (v := ?_) rfl (by rfl) ?_ ?_
        rotate_left
        · intro w' hBw'
          first | (go_simp; done) | (go_simp; with_reducible rfl)
        try simp only [Act.put, List.getElem_toArray, List.getElem_cons_zero, List.getElem_cons_succ, List.setIfInBounds_toArray, List.set_cons_zero, List.set_cons_succ]
        refine pt_load rfl (by rfl) 32 (.tmp 4) rfl (w.heap.size + 1) 0 rfl (ctC c) _ hC.range hMb Try.underlying32 rfl (by kernel_rfl) ?_
        try simp only [Act.put, List.getElem_toArray, List.getElem_cons_zero, List.getElem_cons_succ, List.setIfInBounds_toArray, List.set_cons_zero, List.set_cons_succ]
        refine pt_c ?_
        refine pt_step rfl (by rfl) (fun K hK => ?_)
        go_simp
        refine (ctOf_c c _).mono ?_
        rintro en w11 ⟨rfl, hb11⟩
        replace hLv := hLv.below hb11
        replace hM9 := hM9.heap (hb11.block M hM9.lt)
        obtain ⟨w12, hdel, hM12, hb12⟩ := vdel hM9 hc hk (ty := 0)
        go_wp2_with fail
        refine hK.out _ _ (But.of_below hb11) ?_
        clear hK K
        try simp only [Act.put, List.getElem_toArray, List.getElem_cons_zero, List.getElem_cons_succ, List.setIfInBounds_toArray, List.set_cons_zero, List.set_cons_succ]
        refine pt_c ?_
        refine pt_del rfl (by rfl) 45 55 (.tmp 44) (.tmp 46) rfl (mv := .map (some M)) (xv := keyV c) rfl rfl hdel hb12 ?_
        try simp only [Act.put, List.getElem_toArray, List.getElem_cons_zero, List.getElem_cons_succ, List.setIfInBounds_toArray, List.set_cons_zero, List.set_cons_succ]
        refine pt_done ?_
        go_wp2
        go_ret
        exact ⟨A ++ B, .inr ⟨by rw [hlk]; have := H3.out; omega, rfl, A, q, B, hE, hlk, .inl ⟨hz, rfl⟩⟩, ⟨(hb12.same L hLv.lt h.ne).trans hLv, hM12, h.ne⟩, ((HBM.trans (But.of_below hBd)).trans (But.of_below hb11)).trans hb12⟩
      · have hz1 : (q.2 - n == 0) = false := by rw [beq_eq_false_iff_ne]; omega
        go_wp2
        go_ret
        exact ⟨A ++ (q.1, q.2 - n) :: B, .inr ⟨by rw [hlk]; have := H3.out; omega, rfl, A, q, B, hE, hlk, .inr ⟨hz, rfl⟩⟩, ⟨hLv, hM9, h.ne⟩, HBM⟩
end Go.Proofs.Ytbeccnlcidokmaa
