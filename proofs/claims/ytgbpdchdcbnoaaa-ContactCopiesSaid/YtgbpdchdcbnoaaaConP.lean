/-
  An append within a drawn region; contracts of the reference's Prune, Drop.
-/
import Derived.Test.YtgbpdchdcbnoaaaConO
namespace Go.Proofs.Ytgbpdchdcbnoaaa
open Go.RowKit Vol
set_option linter.unusedSimpArgs false
set_option linter.unusedVariables false

section
variable {P : Program} {ops : Array Oper} {Q : Exit → Act → World → Prop} {O : Nat → Prop}
theorem pt_app {i : Nat} {o : Oper} {R : Act → World → Prop} {a : Act} {w : World} (hi : ops[i]? = some o) (hw : Region.wanted o (yielded ops a.tmps) = true) (s x : Operand) (t : TypeId)
    (ho : o.op = .call { callee := .builtin .append, args := #[s, x], argTypes := #[t, t] })
    {e : TypeId} {sz bytes : Nat} (T : SlT P t e sz bytes) (base : Nat) {v : Value} {n : Nat} {xs : List Value} (hs : a.eval s = v) (hown : w.ownsRow base e sz v n xs)
    {xv : Value} {m : Nat} {news : List Value} (hx : a.eval x = xv) (hsl : Sl w sz xv m news) (h1 : ∀ u ∈ news, u.oneCell' = true)
    (h63 : n + m ≤ maxLen) (hbytes : (n + m) * bytes ≤ 140737488355328) (hbase : base ≤ w.heap.size) (hO : ∀ k, base ≤ k → O k)
    (h : ∀ v' w', w'.ownsRow base e sz v' (n + m) (xs ++ news) → But (fun k => base ≤ k) w w' → R (a.put o.dst v') w') : ptStep P O ops Q i R a w :=
  ⟨o, hi, hw, by
    obtain ⟨v', w', hr, h2, h3, h4, h5⟩ := run_app_at T o.type w base v n xs hown xv m news hsl h1 h63 hbytes hbase
    have hb : But (fun k => base ≤ k) w w' := But.grown h3 (fun r hr => .inl (own_of_some hown hr).1)
    unfold Oper.wp execOp
    simp only [ho, resolve, invoke, builtin, Sem.run_bind, Sem.run_pure, Result.andThen_ok, List.map_toArray, List.map_cons, List.map_nil, hs, hx, hr]
    exact ⟨hb.mono fun j _ e => hO j e, h v' w' h2 hb⟩⟩
theorem pt_app2 {i : Nat} {o : Oper} {R : Act → World → Prop} {a : Act} {w : World} (hi : ops[i]? = some o) (hw : Region.wanted o (yielded ops a.tmps) = true) (s x : Operand) (t : TypeId)
    (ho : o.op = .call { callee := .builtin .append, args := #[s, x], argTypes := #[t, t] })
    {e : TypeId} {sz bytes : Nat} (T : SlT P t e sz bytes) (base : Nat) {v : Value} {n : Nat} {xs : List Value} (hs : a.eval s = v) (hown : w.ownsRow base e sz v n xs)
    {xv : Value} {m : Nat} {news : List Value} (hx : a.eval x = xv) (hsl : Sl w sz xv m news) (h1 : ∀ u ∈ news, u.oneCell' = true)
    (h63 : n + m ≤ maxLen) (hbytes : (n + m) * bytes ≤ 140737488355328) (hbase : base ≤ w.heap.size) (hO : ∀ k, base ≤ k → O k)
    (h : ∀ v' w', w'.ownsRow base e sz v' (n + m) (xs ++ news) → But (fun k => v.ownBlock = some k) w w' → R (a.put o.dst v') w') : ptStep P O ops Q i R a w :=
  ⟨o, hi, hw, by
    obtain ⟨v', w', hr, h2, h3, h4, h5⟩ := run_app_at T o.type w base v n xs hown xv m news hsl h1 h63 hbytes hbase
    have hb : But (fun k => v.ownBlock = some k) w w' := But.grown h3 (fun r hr => .inl hr)
    unfold Oper.wp execOp
    simp only [ho, resolve, invoke, builtin, Sem.run_bind, Sem.run_pure, Result.andThen_ok, List.map_toArray, List.map_cons, List.map_nil, hs, hx, hr]
    exact ⟨hb.mono fun j _ e => hO j (own_of_some hown e).1, h v' w' h2 hb⟩⟩
end

set_option maxHeartbeats 2000000 in
set_option maxRecDepth 100000 in
theorem rPrune_c (L : List Ct) (v : Value) (n : Nat) (at_ : Int) (w : World) (hv : Sl w 5 v n (L.flatMap ctC)) (hN : n ≤ 100000) :
    Calls Try.prog 48 #[.agg #[v], .int .u64 at_] w fun en w' => ∃ v', en = .returned (.tuple #[.agg #[v'], .int .i64 ((L.length : Int) - (pruneF L at_).length)]) ∧ w'.ownsRow w.heap.size 27 5 v' (pruneF L at_).length ((pruneF L at_).flatMap ctC) ∧ Below w.heap.size w w' := by
  have Hln := Lib.hid (Sl.recs (cells := ctC) (sz := 5) (fun _ => rfl) (by decide) hv)
  have hn := hv.n_max
  obtain ⟨av, cv, rfl⟩ := hv.len
  have hB0 := (below_alloc w (.cells #[.slice av n cv] 47)).alloc (by simp) (.cells #[.slice none 0 0] 47)
  have K0 := (RowAt.new w #[.slice av n cv] 47).below (below_alloc _ (.cells #[.slice none 0 0] 47))
  have Z0 := RowAt.new (w.alloc (.cells #[.slice av n cv] 47)) #[.slice none 0 0] 47
  rw [World.size_alloc] at Z0
  go_enter Try.func48, Try.ntmps48
  go_wp2
  go_loopw [6, 7] (fun o i wr => ∃ (k : Nat) (T : List Ct), k ≤ n ∧ i = .int .i64 k ∧ RowKit.Hid ((L.take k).filter (fun c => !decide (c.b ≤ at_)) = T) ∧ T.length ≤ k ∧ wr.ownsRow (w.heap.size + 1 + 1) 27 5 o T.length (T.flatMap ctC) ∧ RowAt wr w.heap.size #[.slice av n cv] 47 ∧ RowAt wr (w.heap.size + 1) #[.slice none 0 0] 47 ∧ Below w.heap.size w wr) (fun _ i _ => n - (intOf i).toNat)
  case atStart => exact ⟨0, [], Nat.zero_le _, rfl, Lib.hid rfl, Nat.le_refl _, World.ownsRow_nil _ _ _ _, K0, Z0, hB0⟩
  case round =>
    clear K0 Z0 hB0
    obtain ⟨k, T, hk, rfl, HT, hTk, hown, K, Z, hB⟩ := hrel
    have c0 := K.cell (i := 0) (v := .slice av n cv) rfl
    by_cases hlt : k < n
    · have hltI : (k : Int) < (n : Int) := by omega
      have hlt' : k < L.length := by rw [Hln.out]; exact hlt
      obtain ⟨b, off, rfl, hr⟩ := (hv.up hB).rec_at (cells := ctC) (sz := 5) (fun _ => rfl) hlt hlt'
      have HS := Lib.hid (flt_succ (q := fun c => !decide (c.b ≤ at_)) hlt')
      rw [HT.out] at HS
      generalize L[k] = x at *
      have r3 := hr 3 _ rfl
      by_cases hb1 : x.b ≤ at_
      · have HS2 := Lib.hid (HS.out.trans (by simp [hb1]) : (L.take (k + 1)).filter (fun c => !decide (c.b ≤ at_)) = T)
        have hb2 : ¬ at_ < x.b := by omega
        clear HS
        go_wp2
        go_roundw
        case rel => exact ⟨k + 1, T, by omega, by go_num, HS2, by omega, hown, K, Z, hB⟩
        case measure => simp [intOf]; omega
      · have HS2 := Lib.hid (HS.out.trans (by simp [hb1]) : (L.take (k + 1)).filter (fun c => !decide (c.b ≤ at_)) = T ++ [x])
        have hb2 : at_ < x.b := by omega
        clear HS
        have hlt0 := Z.lt
        have hbA := below_alloc wr (.cells (ctC x).toArray 27)
        have hszA : w.heap.size + 1 + 1 ≤ (wr.alloc (.cells (ctC x).toArray 27)).heap.size := by rw [World.size_alloc]; omega
        go_wp2_with (first
          | (refine wpList_load_mid rfl 27 (.tmp 28) rfl b (off + k * 5) rfl (ctC x) _ hr Try.underlying27 rfl (by kernel_rfl) ?_)
          | (at_builtin; refine wpList_app rfl _ _ 38 rfl slC (w.heap.size + 1 + 1) rfl (own_up hown hbA) rfl (slOne _ _ rfl _ x) (one_ct _) (by simp only [maxLen]; omega) (by omega) hszA ?_; intro v' w2 hown2 hgrow _))
        have hg0 := fun q hq => (own_of_some (own_up hown hbA) (k := q) hq).1
        have hg2 := grown_below (below_up hB hbA) hgrow (fun q hq => by have := hg0 q hq; omega)
        have hgK := (K.below hbA).but (But.grown (O := fun q => u6.ownBlock = some q) hgrow (fun r hr => .inl hr)) (fun e => by have := hg0 _ e; omega)
        have hgZ := (Z.below hbA).but (But.grown (O := fun q => u6.ownBlock = some q) hgrow (fun r hr => .inl hr)) (fun e => by have := hg0 _ e; omega)
        go_roundw
        case rel => exact ⟨k + 1, T ++ [x], by omega, by go_num, HS2, by simp; omega, by rw [List.length_append, List.flatMap_append]; exact hown2, hgK, hgZ, hg2⟩
        case measure => simp [intOf]; omega
    · obtain rfl : k = n := by omega
      rw [List.take_of_length_le (by rw [Hln.out]; exact Nat.le_refl _)] at HT
      obtain ⟨ao, co, rfl⟩ := own_slice hown
      go_wp2
      refine wp_region_pt (fun j => j = w.heap.size + 1) (.q 0 (.q 2 (.q 5 (.q 3 (.q 4 (.q 6 (.q 7 (.q 1 (.c 8 (.q 9 .done)))))))))) (by kernel_rfl) (by kernel_rfl) (by kernel_rfl) (by decide) (fun _ _ d _ _ h => by cases d <;> exact h) (fun Wd hBd => ?_)
      try simp only [Act.put, List.getElem_toArray, List.getElem_cons_zero, List.getElem_cons_succ, List.setIfInBounds_toArray, List.set_cons_zero, List.set_cons_succ]
      have V := And.intro (K.below hBd) (Z.below hBd)
      have cK : ∀ w', But (fun j => j = w.heap.size + 1) Wd w' → w'.cell? ⟨w.heap.size, 0, none⟩ = some (.slice av k cv) := fun w' hb => hb.cell (V.1.cell (i := 0) rfl) (by omega)
      refine pt_q (v := ?_) rfl (by rfl) ?_ ?_
      rotate_left
      · intro w' hBw'
        first | (go_simp; done) | (go_simp; with_reducible rfl)
      try simp only [Act.put, List.getElem_toArray, List.getElem_cons_zero, List.getElem_cons_succ, List.setIfInBounds_toArray, List.set_cons_zero, List.set_cons_succ]
      refine pt_q (v := ?_) rfl (by rfl) ?_ ?_
      rotate_left
      · intro w' hBw'
        first | (go_simp; done) | (go_simp; with_reducible rfl)
      try simp only [Act.put, List.getElem_toArray, List.getElem_cons_zero, List.getElem_cons_succ, List.setIfInBounds_toArray, List.set_cons_zero, List.set_cons_succ]
      refine pt_q (v := ?_) rfl (by rfl) ?_ ?_
      rotate_left
      · intro w' hBw'
        first | (go_simp; done) | (go_simp; with_reducible rfl)
      try simp only [Act.put, List.getElem_toArray, List.getElem_cons_zero, List.getElem_cons_succ, List.setIfInBounds_toArray, List.set_cons_zero, List.set_cons_succ]
      refine pt_q (v := ?_) rfl (by rfl) ?_ ?_
      rotate_left
      · intro w' hBw'
        first | (go_simp; done) | (go_simp; with_reducible rfl)
      try simp only [Act.put, List.getElem_toArray, List.getElem_cons_zero, List.getElem_cons_succ, List.setIfInBounds_toArray, List.set_cons_zero, List.set_cons_succ]
      refine pt_q (v := ?_) rfl (by rfl) ?_ ?_
      rotate_left
      · intro w' hBw'
        first | (go_simp; done) | (go_simp; with_reducible rfl)
      try simp only [Act.put, List.getElem_toArray, List.getElem_cons_zero, List.getElem_cons_succ, List.setIfInBounds_toArray, List.set_cons_zero, List.set_cons_succ]
      refine pt_q (v := ?_) rfl (by rfl) ?_ ?_
      rotate_left
      · intro w' hBw'
        first | (go_simp; done) | (go_simp; with_reducible rfl)
      try simp only [Act.put, List.getElem_toArray, List.getElem_cons_zero, List.getElem_cons_succ, List.setIfInBounds_toArray, List.set_cons_zero, List.set_cons_succ]
      refine pt_q (v := ?_) rfl (by rfl) ?_ ?_
      rotate_left
      · intro w' hBw'
        first | (go_simp; done) | (go_simp; with_reducible rfl)
      try simp only [Act.put, List.getElem_toArray, List.getElem_cons_zero, List.getElem_cons_succ, List.setIfInBounds_toArray, List.set_cons_zero, List.set_cons_succ]
      refine pt_q (v := ?_) rfl (by rfl) ?_ ?_
      rotate_left
      · intro w' hBw'
        first | (go_simp; done) | (go_simp; with_reducible rfl)
      try simp only [Act.put, List.getElem_toArray, List.getElem_cons_zero, List.getElem_cons_succ, List.setIfInBounds_toArray, List.set_cons_zero, List.set_cons_succ]
      refine pt_c ?_
      refine pt_put_row rfl (by rfl) 47 _ _ rfl (w.heap.size + 1) [.slice ao T.length co] rfl rfl V.2 rfl (by kernel_rfl) rfl rfl (fun W8 hR8 hb8 => ?_)
      try simp only [Act.put, List.getElem_toArray, List.getElem_cons_zero, List.getElem_cons_succ, List.setIfInBounds_toArray, List.set_cons_zero, List.set_cons_succ]
      refine pt_q (v := ?_) rfl (by rfl) ?_ ?_
      rotate_left
      · intro w' hBw'
        first | (go_simp; done) | (go_simp; with_reducible rfl)
      try simp only [Act.put, List.getElem_toArray, List.getElem_cons_zero, List.getElem_cons_succ, List.setIfInBounds_toArray, List.set_cons_zero, List.set_cons_succ]
      refine pt_done ?_
      have z8 := hR8.cell (i := 0) rfl
      have f8 := hR8.fz 0
      have hwr : IntKind.i64.wrap ((k : Int) - T.length) = (k : Int) - T.length := IntWalk.i64_in _ ⟨by omega, by omega⟩
      go_wp2
      refine bodyPost_ret (v := .tuple #[.agg #[.slice ao T.length co], .int .i64 ((k : Int) - T.length)]) (by simp [results, Try.results48, go_sem, z8, hwr]) rfl ?_
      unfold pruneF
      rw [HT.out]
      exact ⟨_, by rw [Hln.out], own_down (own_but (own_up hown hBd) hb8 (fun q hq e => by have := (own_of_some hown hq).1; omega)) (by omega), (below_up hB hBd).trans (hb8.below (fun q hq => by omega) (by have := V.1.lt; omega))⟩

namespace Vol
theorem dropF_none {L : List Ct} {f t at_ : Int} (ha : atR L f t at_ = none) : dropF L f t at_ = L := by
  unfold dropF
  rw [List.findIdx?_eq_none_iff.2 (fun x hx => by simpa using List.find?_eq_none.1 ha x hx)]
theorem dropF_some {L : List Ct} {f t at_ : Int} {k : Nat} (hat : atF L f t at_ = k) : dropF L f t at_ = L.take k ++ L.drop (k + 1) := by
  unfold dropF
  unfold atF idx at hat
  cases hf : L.findIdx? (btwB f t fun x y => Clk.inB x y at_) with
  | none => rw [hf] at hat; simp at hat <;> omega
  | some j => rw [hf] at hat; simp at hat; rw [show j = k by omega]
end Vol
/-- What the reference's Drop has at hand. -/
structure RdW (w w1 : World) (v : Value) : Prop where
  below : Below w.heap.size w w1
  p : RowAt w1 w.heap.size #[v] 47
  r : RowAt w1 (w.heap.size + 1) #[.slice none 0 0] 47
  z : RowAt w1 (w.heap.size + 1 + 1) (ctC zct0).toArray 27
theorem RdW.up {w w1 w2 : World} {v : Value} (h : RdW w w1 v) (hb : Below w1.heap.size w1 w2) : RdW w w2 v := ⟨below_up h.below hb, h.p.below hb, h.r.below hb, h.z.below hb⟩
theorem RdW.start (w : World) (v : Value) : RdW w (((w.alloc (.cells #[v] 47)).alloc (.cells #[.slice none 0 0] 47)).alloc (.cells (ctC zct0).toArray 27)) v := by
  have hB3 : Below w.heap.size w (((w.alloc (.cells #[v] 47)).alloc (.cells #[.slice none 0 0] 47)).alloc (.cells (ctC zct0).toArray 27)) := ((below_alloc w _).alloc (by simp) _).alloc (by simp; omega) _
  have h2 := RowAt.new (w.alloc (.cells #[v] 47)) #[.slice none 0 0] 47
  rw [World.size_alloc] at h2
  have h3 := RowAt.new ((w.alloc (.cells #[v] 47)).alloc (.cells #[.slice none 0 0] 47)) (ctC zct0).toArray 27
  rw [World.size_alloc, World.size_alloc] at h3
  exact ⟨hB3, ((RowAt.new w _ _).below (below_alloc _ _)).below (below_alloc _ _), h2.below (below_alloc _ _), h3⟩

set_option maxHeartbeats 4000000 in
set_option maxRecDepth 100000 in
theorem rDrop_c (L : List Ct) (v : Value) (n : Nat) (f t at_ : Int) (w : World) (hv : Sl w 5 v n (L.flatMap ctC)) (hN : n ≤ 100000) :
    Calls Try.prog 47 #[.agg #[v], .int .u32 f, .int .u32 t, .int .u64 at_] w fun en w' => ∃ v', en = .returned (.tuple #[.agg #[v'], ctV ((atR L f t at_).getD zct0), .int .i64 (dropE (atR L f t at_))]) ∧
      Sl w' 5 v' (dropF L f t at_).length ((dropF L f t at_).flatMap ctC) ∧ Below w.heap.size w w' ∧ (v' = v ∨ ∀ k, v'.ownBlock = some k → w.heap.size ≤ k ∧ k < w'.heap.size) := by
  have Hln := Lib.hid (Sl.recs (cells := ctC) (sz := 5) (fun _ => rfl) (by decide) hv)
  have hn := hv.n_max
  obtain ⟨av, cv, rfl⟩ := hv.len
  obtain ⟨i, hi⟩ : ∃ i, i = atF L f t at_ := ⟨_, rfl⟩
  have hat := fun w' (hb : Below w.heap.size w w') => rAt_c L (.slice av n cv) n f t at_ w' (hv.up hb)
  rw [← hi] at hat
  have HI := Lib.hid hi
  have HAT := Lib.hid hat
  clear hi hat
  have V0 := RdW.start w (.slice av n cv)
  have hp0 := V0.p.cell (i := 0) (v := .slice av n cv) rfl
  cases ha : atR L f t at_ with
  | none =>
    have hif : i = -1 := HI.out.trans (atF_none ha)
    rw [dropF_none ha]
    subst hif
    go_enter Try.func47, Try.ntmps47
    go_wp2_with (first
      | (go_at_call 50; refine (HAT.out _ V0.below).mono ?_; rintro en w1 ⟨rfl, hb⟩; have V1 := V0.up hb; have hp1 := V1.p.cell (i := 0) (v := .slice av n cv) rfl; have z0 := V1.z.cell (i := 0) (v := .int .u32 0) rfl; have z1 := V1.z.cell (i := 1) (v := .int .u32 0) rfl; have z2 := V1.z.cell (i := 2) (v := .int .u64 0) rfl; have z3 := V1.z.cell (i := 3) (v := .int .u64 0) rfl; have z4 := V1.z.cell (i := 4) (v := .int .u64 0) rfl; have f0 := V1.z.fz 0; have f1 := V1.z.fz 1; have f2 := V1.z.fz 2; have f3 := V1.z.fz 3; have f4 := V1.z.fz 4; have rr := V1.r.cell (i := 0) (v := .slice none 0 0) rfl; have fr := V1.r.fz 0))
    have hBf := ((((((V1.below.setCell (p := ⟨w.heap.size + 1, 0, none⟩) (by show w.heap.size ≤ w.heap.size + 1; omega) (.slice av n cv)).setCell (p := ⟨w.heap.size + 1 + 1, 0, none⟩) (by show w.heap.size ≤ w.heap.size + 1 + 1; omega) (.int .u32 0)).setCell (p := ⟨w.heap.size + 1 + 1, 1, none⟩) (by show w.heap.size ≤ w.heap.size + 1 + 1; omega) (.int .u32 0)).setCell (p := ⟨w.heap.size + 1 + 1, 2, none⟩) (by show w.heap.size ≤ w.heap.size + 1 + 1; omega) (.int .u64 0)).setCell (p := ⟨w.heap.size + 1 + 1, 3, none⟩) (by show w.heap.size ≤ w.heap.size + 1 + 1; omega) (.int .u64 0)).setCell (p := ⟨w.heap.size + 1 + 1, 4, none⟩) (by show w.heap.size ≤ w.heap.size + 1 + 1; omega) (.int .u64 0))
    exact bodyPost_ret (v := .tuple #[.agg #[.slice av n cv], ctV zct0, .int .i64 5]) (by simp [results, Try.results47, go_sem, z0, z1, z2, z3, z4, f0, f1, f2, f3, f4, rr, fr, zct0]) rfl ⟨.slice av n cv, rfl, by rw [Hln.out]; exact hv.up hBf, hBf, .inl rfl⟩
  | some c =>
    obtain ⟨k, hk, hat, hkc⟩ := atF_some ha
    have hif : i = (k : Int) := HI.out.trans hat
    rw [dropF_some hat]
    subst hif
    have HC := Lib.hid hkc
    clear hat HI hkc
    have hk0 : ¬ (k : Int) < 0 := by omega
    have hkn : k < n := by rw [← Hln.out]; exact hk
    have hkL : (k : Int) < (n : Int) := by omega
    obtain ⟨bb, off, rfl, hr⟩ := hv.rec_at (cells := ctC) (sz := 5) (fun _ => rfl) hkn hk
    rw [HC.out] at hr
    obtain ⟨a1, hs1, sl1⟩ := cut_h slC hv k (by omega)
    obtain ⟨a2, hs2, sl2⟩ := cut_l slC hv (k + 1) (by omega)
    replace hs1 := fun w' => hs1 .i64 w'
    replace hs2 := fun w' => hs2 .i64 w'
    simp only [Int.natCast_add, Int.natCast_one] at hs2
    rw [ct_take] at sl1
    rw [ct_drop] at sl2
    have hwr : IntKind.i64.wrap ((k : Int) + 1) = (k : Int) + 1 := IntWalk.i64_in _ ⟨by omega, by omega⟩
    have hbl := sl2.block_lt (by decide)
    have hbb : bb < w.heap.size := World.block_lt_of_cell? w ⟨bb, off + k * 5 + 0, none⟩ (hr 0 _ rfl)
    go_enter Try.func47, Try.ntmps47
    go_wp2_with (go_at_call 50; refine (HAT.out _ V0.below).mono ?_; rintro en w1 ⟨rfl, hb⟩; have V1 := V0.up hb)
    have hz1 := V1.z.lt
    refine wp_region_pt (fun j => j = w.heap.size + 1 ∨ j = w.heap.size + 1 + 1 ∨ w1.heap.size ≤ j) (.q 1 (.q 2 (.q 3 (.q 6 (.q 7 (.q 8 (.q 9 (.q 13 (.q 14 (.q 15 (.q 4 (.q 10 (.q 16 (.q 17 (.c 0 (.c 5 (.c 11 (.q 12 (.c 18 (.c 19 (.q 20 .done))))))))))))))))))))) (by kernel_rfl) (by kernel_rfl) (by kernel_rfl) (by decide) (fun _ _ d _ _ h => by cases d <;> exact h) (fun Wd hBd => ?_)
    try simp only [Act.put, List.getElem_toArray, List.getElem_cons_zero, List.getElem_cons_succ, List.setIfInBounds_toArray, List.set_cons_zero, List.set_cons_succ]
    have V := V1.up hBd
    have hr1 := rangeAt_up V.below hr
    have cK : ∀ w', But (fun j => j = w.heap.size + 1 ∨ j = w.heap.size + 1 + 1 ∨ w1.heap.size ≤ j) Wd w' → w'.cell? ⟨w.heap.size, 0, none⟩ = some (.slice (some ⟨bb, off, none⟩) n cv) := fun w' hb => hb.cell (V.p.cell (i := 0) rfl) (by omega)
    refine pt_q (v := ?_) rfl (by rfl) ?_ ?_
    rotate_left
    · intro w' hBw'
      first | (go_simp; done) | (go_simp; with_reducible rfl)
    try simp only [Act.put, List.getElem_toArray, List.getElem_cons_zero, List.getElem_cons_succ, List.setIfInBounds_toArray, List.set_cons_zero, List.set_cons_succ]
    refine pt_q (v := ?_) rfl (by rfl) ?_ ?_
    rotate_left
    · intro w' hBw'
      first | (go_simp; done) | (go_simp; with_reducible rfl)
    try simp only [Act.put, List.getElem_toArray, List.getElem_cons_zero, List.getElem_cons_succ, List.setIfInBounds_toArray, List.set_cons_zero, List.set_cons_succ]
    refine pt_q (v := ?_) rfl (by rfl) ?_ ?_
    rotate_left
    · intro w' hBw'
      first | (go_simp; done) | (go_simp; with_reducible rfl)
    try simp only [Act.put, List.getElem_toArray, List.getElem_cons_zero, List.getElem_cons_succ, List.setIfInBounds_toArray, List.set_cons_zero, List.set_cons_succ]
    refine pt_q (v := ?_) rfl (by rfl) ?_ ?_
    rotate_left
    · intro w' hBw'
      first | (go_simp; done) | (go_simp; with_reducible rfl)
    try simp only [Act.put, List.getElem_toArray, List.getElem_cons_zero, List.getElem_cons_succ, List.setIfInBounds_toArray, List.set_cons_zero, List.set_cons_succ]
    refine pt_q (v := ?_) rfl (by rfl) ?_ ?_
    rotate_left
    · intro w' hBw'
      first | (go_simp; done) | (go_simp; with_reducible rfl)
    try simp only [Act.put, List.getElem_toArray, List.getElem_cons_zero, List.getElem_cons_succ, List.setIfInBounds_toArray, List.set_cons_zero, List.set_cons_succ]
    refine pt_q (v := ?_) rfl (by rfl) ?_ ?_
    rotate_left
    · intro w' hBw'
      first | (go_simp; done) | (go_simp; with_reducible rfl)
    try simp only [Act.put, List.getElem_toArray, List.getElem_cons_zero, List.getElem_cons_succ, List.setIfInBounds_toArray, List.set_cons_zero, List.set_cons_succ]
    refine pt_q (v := ?_) rfl (by rfl) ?_ ?_
    rotate_left
    · intro w' hBw'
      first | (go_simp; done) | (go_simp; with_reducible rfl)
    try simp only [Act.put, List.getElem_toArray, List.getElem_cons_zero, List.getElem_cons_succ, List.setIfInBounds_toArray, List.set_cons_zero, List.set_cons_succ]
    refine pt_q (v := ?_) rfl (by rfl) ?_ ?_
    rotate_left
    · intro w' hBw'
      first | (go_simp; done) | (go_simp; with_reducible rfl)
    try simp only [Act.put, List.getElem_toArray, List.getElem_cons_zero, List.getElem_cons_succ, List.setIfInBounds_toArray, List.set_cons_zero, List.set_cons_succ]
    refine pt_q (v := ?_) rfl (by rfl) ?_ ?_
    rotate_left
    · intro w' hBw'
      first | (go_simp; done) | (go_simp; with_reducible rfl)
    try simp only [Act.put, List.getElem_toArray, List.getElem_cons_zero, List.getElem_cons_succ, List.setIfInBounds_toArray, List.set_cons_zero, List.set_cons_succ]
    refine pt_q (v := ?_) rfl (by rfl) ?_ ?_
    rotate_left
    · intro w' hBw'
      first | (go_simp; done) | (go_simp; with_reducible rfl)
    try simp only [Act.put, List.getElem_toArray, List.getElem_cons_zero, List.getElem_cons_succ, List.setIfInBounds_toArray, List.set_cons_zero, List.set_cons_succ]
    refine pt_q (v := ?_) rfl (by rfl) ?_ ?_
    rotate_left
    · intro w' hBw'
      first | (go_simp; done) | (go_simp; with_reducible rfl)
    try simp only [Act.put, List.getElem_toArray, List.getElem_cons_zero, List.getElem_cons_succ, List.setIfInBounds_toArray, List.set_cons_zero, List.set_cons_succ]
    refine pt_q (v := ?_) rfl (by rfl) ?_ ?_
    rotate_left
    · intro w' hBw'
      first | (go_simp; done) | (go_simp; with_reducible rfl)
    try simp only [Act.put, List.getElem_toArray, List.getElem_cons_zero, List.getElem_cons_succ, List.setIfInBounds_toArray, List.set_cons_zero, List.set_cons_succ]
    refine pt_q (v := ?_) rfl (by rfl) ?_ ?_
    rotate_left
    · intro w' hBw'
      first | (go_simp; done) | (go_simp; with_reducible rfl)
    try simp only [Act.put, List.getElem_toArray, List.getElem_cons_zero, List.getElem_cons_succ, List.setIfInBounds_toArray, List.set_cons_zero, List.set_cons_succ]
    refine pt_load rfl (by rfl) 27 (.tmp 37) rfl bb (off + k * 5) rfl (ctC c) _ hr1 (by omega) Try.underlying27 rfl (by kernel_rfl) ?_
    try simp only [Act.put, List.getElem_toArray, List.getElem_cons_zero, List.getElem_cons_succ, List.setIfInBounds_toArray, List.set_cons_zero, List.set_cons_succ]
    refine pt_c ?_
    refine pt_step rfl (by rfl) (fun K hK => ?_)
    go_simp
    refine hK.out _ _ (But.alloc _ _) ?_
    clear hK K
    try simp only [Act.put, List.getElem_toArray, List.getElem_cons_zero, List.getElem_cons_succ, List.setIfInBounds_toArray, List.set_cons_zero, List.set_cons_succ]
    have hA := below_alloc Wd (.cells #[] 27)
    have h0 : (Wd.alloc (.cells #[] 27)).ownsRow w1.heap.size 27 5 (.slice (some ⟨Wd.heap.size, 0, none⟩) 0 0) 0 [] := World.ownsRow_lit Wd #[] 0 hBd.size (by decide) rfl
    refine pt_c ?_
    refine pt_app rfl (by rfl) _ _ 38 rfl slC w1.heap.size rfl h0 rfl ((sl1.up V.below).up hA) (one_ct _) (by simp only [maxLen]; omega) (by omega) (by have := hBd.size; have := hA.size; omega) (fun j hj => .inr (.inr hj)) (fun v5 w5 h5 hb5 => ?_)
    try simp only [Act.put, List.getElem_toArray, List.getElem_cons_zero, List.getElem_cons_succ, List.setIfInBounds_toArray, List.set_cons_zero, List.set_cons_succ]
    have V5 : RowAt w5 (w.heap.size + 1) #[.slice none 0 0] 47 ∧ RowAt w5 (w.heap.size + 1 + 1) (ctC zct0).toArray 27 := ⟨(V.r.below hA).but hb5 (by omega), (V.z.below hA).but hb5 (by omega)⟩
    have s5 : Sl w5 5 (.slice a2 (n - (k + 1)) (cv - (k + 1))) (n - (k + 1)) ((L.drop (k + 1)).flatMap ctC) := ((sl2.up V.below).up hA).but hb5 (hbl.imp id fun h q hq e => by have := h q hq; omega)
    have z5 : Wd.heap.size ≤ w5.heap.size := by have := hA.size; have := hb5.size; omega
    refine pt_c ?_
    refine pt_app rfl (by rfl) _ _ 38 rfl slC w1.heap.size rfl h5 rfl s5 (one_ct _) (by simp only [maxLen]; omega) (by omega) (by have := hBd.size; omega) (fun j hj => .inr (.inr hj)) (fun v6 w6 h6 hb6 => ?_)
    try simp only [Act.put, List.getElem_toArray, List.getElem_cons_zero, List.getElem_cons_succ, List.setIfInBounds_toArray, List.set_cons_zero, List.set_cons_succ]
    have V6 : RowAt w6 (w.heap.size + 1) #[.slice none 0 0] 47 ∧ RowAt w6 (w.heap.size + 1 + 1) (ctC zct0).toArray 27 := ⟨V5.1.but hb6 (by omega), V5.2.but hb6 (by omega)⟩
    obtain ⟨a6, c6, rfl⟩ := own_slice h6
    obtain ⟨N6, hN6⟩ : ∃ N, N = 0 + k + (n - (k + 1)) := ⟨_, rfl⟩
    rw [← hN6] at h6
    try rw [← hN6]
    have HN6 := Lib.hid hN6
    clear hN6
    refine pt_q (v := ?_) rfl (by rfl) ?_ ?_
    rotate_left
    · intro w' hBw'
      first | (go_simp; done) | (go_simp; with_reducible rfl)
    try simp only [Act.put, List.getElem_toArray, List.getElem_cons_zero, List.getElem_cons_succ, List.setIfInBounds_toArray, List.set_cons_zero, List.set_cons_succ]
    refine pt_c ?_
    refine pt_put_row rfl (by rfl) 47 _ _ rfl (w.heap.size + 1) [.slice a6 N6 c6] rfl rfl V6.1 rfl (by kernel_rfl) rfl (.inl rfl) (fun W8 hR8 hb8 => ?_)
    try simp only [Act.put, List.getElem_toArray, List.getElem_cons_zero, List.getElem_cons_succ, List.setIfInBounds_toArray, List.set_cons_zero, List.set_cons_succ]
    have Z8 := V6.2.but hb8 (by omega)
    refine pt_c ?_
    refine pt_put_row rfl (by rfl) 27 _ _ rfl (w.heap.size + 1 + 1) (ctC c) rfl rfl Z8 rfl (by kernel_rfl) rfl (.inr (.inl rfl)) (fun W9 hR9 hb9 => ?_)
    try simp only [Act.put, List.getElem_toArray, List.getElem_cons_zero, List.getElem_cons_succ, List.setIfInBounds_toArray, List.set_cons_zero, List.set_cons_succ]
    refine pt_q (v := ?_) rfl (by rfl) ?_ ?_
    rotate_left
    · intro w' hBw'
      first | (go_simp; done) | (go_simp; with_reducible rfl)
    try simp only [Act.put, List.getElem_toArray, List.getElem_cons_zero, List.getElem_cons_succ, List.setIfInBounds_toArray, List.set_cons_zero, List.set_cons_succ]
    refine pt_done ?_
    have P9 := hR8.but hb9 (by omega)
    have p9 := P9.cell (i := 0) rfl
    have z0 := hR9.cell (i := 0) rfl
    have z1 := hR9.cell (i := 1) rfl
    have z2 := hR9.cell (i := 2) rfl
    have z3 := hR9.cell (i := 3) rfl
    have z4 := hR9.cell (i := 4) rfl
    go_wp2
    have hlast : (L.take k ++ L.drop (k + 1)).length = N6 := by have := Hln.out; have := HN6.out; simp; omega
    have hblk : ∀ q, (Value.slice a6 N6 c6).ownBlock = some q → w1.heap.size ≤ q ∧ q < w6.heap.size := fun q hq => own_of_some h6 hq
    have hs8 := hb8.size
    have hs9 := hb9.size
    have hsA := hA.size
    have hsd := hBd.size
    have hBe : Below w.heap.size w W9 := ((((V.below.trans ((But.of_below (O := fun j => w.heap.size ≤ j) hA).below (fun q hq => hq) (by omega))).trans (hb5.below (fun q hq => by omega) (by omega))).trans (hb6.below (fun q hq => by omega) (by omega))).trans (hb8.below (fun q hq => by omega) (by have := hb6.size; omega))).trans (hb9.below (fun q hq => by omega) (by have := hb6.size; omega))
    refine bodyPost_ret (v := .tuple #[.agg #[.slice a6 N6 c6], ctV c, .int .i64 0]) (by simp [results, Try.results47, go_sem, p9, z0, z1, z2, z3, z4]) rfl ⟨_, rfl, ?_, hBe, .inr fun q hq => by have := hblk q hq; omega⟩
    rw [hlast, List.flatMap_append]
    exact ((Sl.of_own h6).but hb8 (.inr fun q hq e => by have := hblk q hq; omega)).but hb9 (.inr fun q hq e => by have := hblk q hq; omega)
end Go.Proofs.Ytgbpdchdcbnoaaa
