/-
  A region that draws its order, whose last operation waits for all others: what it turns does not disturb what was read ahead of it.
-/
import Derived.Test.YtfoncaamhleckaaFork
import Derived.StillTail
import Derived.ArgAppend
import Derived.Laws.Tables
import Derived.Great.BuildSlice
namespace Go.Proofs.Ytfoncaamhleckaa
open Go.RowKit
set_option linter.unusedSimpArgs false
set_option linter.unusedVariables false

section
variable {P : Program} {ops : Array Oper} {Q : Exit → Act → World → Prop} {md : Region.Mode} {S : World → Prop} {O : Nat → Prop} {n : Nat}

/-- Whatever order is picked, and S holds behind every operation but n. -/
def wpAnyN (P : Program) (md : Region.Mode) (ops : Array Oper) (Q : Exit → Act → World → Prop) (S : World → Prop) (n : Nat) : Nat → Array Bool → Act → World → Prop
  | 0, listed, a, w => Region.ready md ops listed = [] ∧ Q .normal a w
  | fuel + 1, listed, a, w =>
    (Region.ready md ops listed = [] → Q .normal a w) ∧
    ∀ i ∈ Region.ready md ops listed, wpOp P ops Q i (fun a' w' => (i = n ∨ S w') ∧ wpAnyN P md ops Q S n fuel (listed.setIfInBounds i true) a' w') a w
theorem wpAny_of_N : ∀ (fuel : Nat) (listed : Array Bool) (a : Act) (w : World), wpAnyN P md ops Q S n fuel listed a w → wpAny P md ops Q fuel listed a w
  | 0, _, _, _, h => h
  | fuel + 1, _, _, _, h => ⟨h.1, fun i hi => wpOp_mono (fun a' w' h' => wpAny_of_N fuel _ a' w' h'.2) (h.2 i hi)⟩
theorem N_sub {S S' : World → Prop} (hs : ∀ w, S w → S' w) : ∀ (fuel : Nat) (listed : Array Bool) (a : Act) (w : World), wpAnyN P md ops Q S n fuel listed a w → wpAnyN P md ops Q S' n fuel listed a w
  | 0, _, _, _, h => h
  | fuel + 1, _, _, _, h => ⟨h.1, fun i hi => wpOp_mono (fun a' w' h' => ⟨h'.1.imp id (hs w'), N_sub hs fuel _ a' w' h'.2⟩) (h.2 i hi)⟩

theorem wpAnyN_first {i : Nat} {oi : Oper} {v : Value} (hi : ops[i]? = some oi) (hwt : Region.waitsFor md ops n i = true) (hsel : ∀ (j : Nat) (o : Oper) cs b, ops[j]? = some o → o.op ≠ .select cs b)
    (hQ : ∀ c a w, Q (.panic c) (a.put oi.dst v) w → Q (.panic c) a w) :
    ∀ (fuel : Nat) (listed : Array Bool) (a : Act) (w : World),
      (∀ j oj, ops[j]? = some oj → j ≠ i → listed.getD j true = false → (∀ e ∈ oj.after, Region.binds md e = true → e.on ≠ i) → oi.apart ops oj = true) →
      i ∈ Region.ready md ops listed → YieldsIf P ops S oi v a → S w →
      wpAnyN P md ops Q S n fuel (listed.setIfInBounds i true) (a.put oi.dst v) w → wpAnyN P md ops Q S n (fuel + 1) listed a w := by
  intro fuel
  induction fuel with
  | zero =>
    intro listed a w _ hr hy hS H
    refine ⟨fun h => (by rw [h] at hr; cases hr), fun j hj => ?_⟩
    by_cases hji : j = i
    · subst hji; exact hy.wpOp hi hS ⟨.inr hS, H⟩
    · have := ready_mono hj hji
      rw [H.1] at this
      cases this
  | succ fuel ih =>
    intro listed a w hfree hr hy hS H
    refine ⟨fun h => (by rw [h] at hr; cases hr), fun j hj => ?_⟩
    by_cases hji : j = i
    · subst hji; exact hy.wpOp hi hS ⟨.inr hS, H⟩
    · have h1 := H.2 j (ready_mono hj hji)
      obtain ⟨hjun, oj, hoj, hall⟩ := mem_ready.1 hj
      have hnot : ∀ e ∈ oj.after, Region.binds md e = true → e.on ≠ i := fun e he hb heq => by
        have h1 := hall e he hb
        have h0 := (mem_ready.1 hr).1
        rw [heq] at h1
        rcases Nat.lt_or_ge i listed.size with h' | h'
        · simp [h'] at h0 h1; rw [h0] at h1; cases h1
        · simp [Array.getElem?_eq_none h'] at h1
      have hjn : j ≠ n := fun e => by
        subst e
        obtain ⟨oj', hj', e, he, hb, hon⟩ := Region.waitsFor_spec hwt
        have : oj' = oj := Option.some.inj (hj'.symm.trans hoj)
        subst this
        exact hnot e he hb hon
      have h2 := wpOp_putIf hoj (hfree j oj hoj hji hjun hnot) (fun cs b => hsel i oi cs b hi) (fun cs b => hsel j oj cs b hoj) hQ hy h1
      have hfree' : ∀ k ok, ops[k]? = some ok → k ≠ i → (listed.setIfInBounds j true).getD k true = false →
          (∀ e ∈ ok.after, Region.binds md e = true → e.on ≠ i) → oi.apart ops ok = true := fun k ok hk hki hun hno => by
        refine hfree k ok hk hki ?_ hno
        by_cases hjk : j = k
        · subst hjk; exact hjun
        · rw [getD_set_ne true hjk] at hun; exact hun
      refine wpOp_mono (fun a' w' h3 => ?_) h2
      have hSw : S w' := h3.2.1.elim (fun e => absurd e hjn) id
      refine ⟨.inr hSw, ih (listed.setIfInBounds j true) a' w' hfree' (ready_mono hr (Ne.symm hji)) h3.1 hSw ?_⟩
      rw [Array.setIfInBounds_comm _ _ hji]
      exact h3.2.2

/-- What the tree leaves: operation n, then all is done. -/
def lastQ (P : Program) (ops : Array Oper) (Q : Exit → Act → World → Prop) (n : Nat) : Exit → Act → World → Prop
  | .normal, a, w => ∃ o, ops[n]? = some o ∧ Region.wanted o (yielded ops a.tmps) = true ∧ o.wp P a w (Q .normal) Q
  | e, a, w => Q e a w
def pzB (md : Region.Mode) (ops : Array Oper) (n : Nat) : Pt → Array Bool → Bool
  | .done, listed => decide (Region.ready md ops listed = [n]) && (Region.ready md ops (listed.setIfInBounds n true)).isEmpty
  | .q i t, listed => (Region.ready md ops listed).contains i && Region.free md ops listed i && Region.waitsFor md ops n i && pzB md ops n t (listed.setIfInBounds i true)
  | .c i t, listed => decide (Region.ready md ops listed = [i]) && pzB md ops n t (listed.setIfInBounds i true)
  | .f i t j u, listed => decide (Region.ready md ops listed = [i, j]) && (pzB md ops n t (listed.setIfInBounds i true) && pzB md ops n u (listed.setIfInBounds j true))
  | .g i t j u k v, listed => decide (Region.ready md ops listed = [i, j, k]) && (pzB md ops n t (listed.setIfInBounds i true) && (pzB md ops n u (listed.setIfInBounds j true) && pzB md ops n v (listed.setIfInBounds k true)))

theorem lastQ_wp {o : Oper} {a : Act} {w : World} {K : Act → World → Prop} (h : o.wp P a w K (lastQ P ops Q n)) : o.wp P a w K Q := by
  unfold Oper.wp at *
  generalize (execOp a.eval o).run P w = r at *
  cases r with
  | ok k w' =>
    cases k <;> simp only [Oper.upon] at h ⊢
    case value u => exact h
    case skip => exact h
    case defer d => exact h
    case enter f args =>
      refine Calls.mono h fun e w'' he => ?_
      cases e <;> exact he
    case row row args => exact h
  | halt x w' => cases x <;> exact h
theorem pz_wpOp {fuel : Nat} {i : Nat} {t : Pt} {listed : Array Bool} {a : Act} {w : World} (h : ptStep P O ops (lastQ P ops Q n) i (wpPt P O ops (lastQ P ops Q n) t) a w)
    (ih : ∀ a' w', wpPt P O ops (lastQ P ops Q n) t a' w' → wpAnyN P md ops Q (But O w') n fuel (listed.setIfInBounds i true) a' w') :
    wpOp P ops Q i (fun a' w' => (i = n ∨ But O w w') ∧ wpAnyN P md ops Q (But O w) n fuel (listed.setIfInBounds i true) a' w') a w := by
  obtain ⟨o, hi, hw, h⟩ := h
  unfold wpOp
  simp only [hi, hw, if_true]
  exact .inl (Oper.wp_mono (fun a' w' h' => ⟨.inr h'.1, N_sub (fun _ hx => h'.1.trans hx) _ _ _ _ (ih a' w' h'.2)⟩) (lastQ_wp h))

theorem wpAnyN_done {listed : Array Bool} {a : Act} {w : World} (hr : Region.ready md ops listed = []) (h : Q .normal a w) : ∀ fuel, wpAnyN P md ops Q S n fuel listed a w
  | 0 => ⟨hr, h⟩
  | _ + 1 => ⟨fun _ => h, by rw [hr]; simp⟩
theorem held_of_pz (hs : Region.noSelect ops = true) (hQ : ∀ c (a : Act) d v w, Q (.panic c) (a.put d v) w → Q (.panic c) a w) : ∀ (t : Pt) (fuel : Nat) (listed : Array Bool) (a : Act) (w : World),
    t.len + 1 ≤ fuel → pzB md ops n t listed = true → wpPt P O ops (lastQ P ops Q n) t a w → wpAnyN P md ops Q (But O w) n fuel listed a w
  | .done, 0, _, _, _, hl, _, _ => by simp [Pt.len] at hl
  | .done, fuel + 1, listed, a, w, hl, hB, h => by
    simp only [pzB, Bool.and_eq_true, decide_eq_true_eq, List.isEmpty_iff] at hB
    refine ⟨fun h0 => (by rw [hB.1] at h0; cases h0), fun j hj => ?_⟩
    rw [hB.1] at hj
    obtain rfl : j = n := by simpa using hj
    obtain ⟨o, hi, hw, h⟩ := h
    unfold wpOp
    simp only [hi, hw, if_true]
    exact .inl (Oper.wp_mono (fun a' w' h' => ⟨.inl True.intro, wpAnyN_done hB.2 h' _⟩) h)
  | .q i t, 0, _, _, _, hl, _, _ => by simp [Pt.len] at hl
  | .q i t, fuel + 1, listed, a, w, hl, hB, h => by
    obtain ⟨o, v, hi, hy, h⟩ := h
    simp only [pzB, Bool.and_eq_true] at hB
    exact wpAnyN_first hi hB.1.2 (Region.noSelect_spec hs) (fun c a w hq => hQ c a o.dst v w hq) fuel listed a w (Region.free_spec hi hB.1.1.2) (by simpa using hB.1.1.1) hy (But.refl _ _) (held_of_pz hs hQ t fuel _ _ _ (by simp [Pt.len] at hl; omega) hB.2 h)
  | .c i t, 0, _, _, _, hl, _, _ => by simp [Pt.len] at hl
  | .c i t, fuel + 1, listed, a, w, hl, hB, h => by
    simp only [pzB, Bool.and_eq_true, decide_eq_true_eq] at hB
    refine ⟨fun h0 => (by rw [hB.1] at h0; cases h0), fun j hj => ?_⟩
    rw [hB.1] at hj
    obtain rfl : j = i := by simpa using hj
    exact pz_wpOp h (fun a' w' h' => held_of_pz hs hQ t fuel _ _ _ (by simp [Pt.len] at hl; omega) hB.2 h')
  | .f i t j u, 0, _, _, _, hl, _, _ => by simp [Pt.len] at hl
  | .f i t j u, fuel + 1, listed, a, w, hl, hB, h => by
    simp only [pzB, Bool.and_eq_true, decide_eq_true_eq] at hB
    simp only [Pt.len] at hl
    refine ⟨fun h0 => (by rw [hB.1] at h0; cases h0), fun m hm => ?_⟩
    rw [hB.1] at hm
    rcases (show m = i ∨ m = j by simpa using hm) with rfl | rfl
    · exact pz_wpOp h.1 (fun a' w' h' => held_of_pz hs hQ t fuel _ _ _ (by omega) hB.2.1 h')
    · exact pz_wpOp h.2 (fun a' w' h' => held_of_pz hs hQ u fuel _ _ _ (by omega) hB.2.2 h')
  | .g i t j u k v, 0, _, _, _, hl, _, _ => by simp [Pt.len] at hl
  | .g i t j u k v, fuel + 1, listed, a, w, hl, hB, h => by
    simp only [pzB, Bool.and_eq_true, decide_eq_true_eq] at hB
    simp only [Pt.len] at hl
    refine ⟨fun h0 => (by rw [hB.1] at h0; cases h0), fun m hm => ?_⟩
    rw [hB.1] at hm
    rcases (show m = i ∨ m = j ∨ m = k by simpa using hm) with rfl | rfl | rfl
    · exact pz_wpOp h.1 (fun a' w' h' => held_of_pz hs hQ t fuel _ _ _ (by omega) hB.2.1 h')
    · exact pz_wpOp h.2.1 (fun a' w' h' => held_of_pz hs hQ u fuel _ _ _ (by omega) hB.2.2.1 h')
    · exact pz_wpOp h.2.2 (fun a' w' h' => held_of_pz hs hQ v fuel _ _ _ (by omega) hB.2.2.2 h')

/-- The tree serves all operations but n, which waits for all that are quiet; n itself may turn what was read. -/
theorem wp_region_pz {id : Nat} {a : Act} {w : World} (O : Nat → Prop) (n : Nat) (t : Pt) (hm : P.follows .mixedOrders = true) (hs : Region.noSelect ops = true) (hB : pzB .any ops n t (Array.replicate ops.size false) = true) (hl : t.len + 1 ≤ ops.size)
    (hQ : ∀ c (a : Act) d v w, Q (.panic c) (a.put d v) w → Q (.panic c) a w) (h : ∀ Wd, Below w.heap.size w Wd → wpPt P O ops (lastQ P ops Q n) t a Wd) : (Code.region id ops true).wp P Q a w :=
  wp_region_any hm (wpAny_of_N (S := But O w.drew) (n := n) _ _ _ _ (held_of_pz (md := .any) hs hQ t _ _ _ _ hl hB (h w.drew (Below.refl _ _).drew)))
theorem pz_last {o : Oper} {a : Act} {w : World} (hi : ops[n]? = some o) (hw : Region.wanted o (yielded ops a.tmps) = true) (h : ∀ K : Act → World → Prop, Shut (∀ a' w', Q .normal a' w' → K a' w') → o.wp P a w K Q) : wpPt P O ops (lastQ P ops Q n) .done a w := ⟨o, hi, hw, h _ (fun _ _ h => h)⟩
theorem pz_put_row {o : Oper} {a : Act} {w : World} (hi : ops[n]? = some o) (hw : Region.wanted o (yielded ops a.tmps) = true) (ty : TypeId) (x y : Operand) (ho : o.op = .store ty x y)
    (H : Nat) (vs : List Value) {cs : Array Value} {T : TypeId} (hx : a.eval x = .pointer (some ⟨H, 0, none⟩)) (hy : a.eval y = .agg vs.toArray) (hr : RowAt w H cs T) (hl : vs.length = cs.size)
    (hi2 : (P.info? ty).map (·.size) = some vs.length) (h1 : vs.all (·.oneCell') = true)
    (h : ∀ w', RowAt w' H vs.toArray T → But (· = H) w w' → Q .normal (a.put o.dst undef) w') : wpPt P O ops (lastQ P ops Q n) .done a w :=
  ⟨o, hi, hw, wp_store_mid ty x y ho H 0 vs.toArray hx hy (hr.there (by simp; omega)) (by simpa using hi2) (by simpa using h1) (h _ (hr.setAll vs hl) (But.setCells _ _ _ rfl))⟩

/-- A composite built of parts. -/
theorem exec_build {o : Oper} {a : Act} {w : World} (t : TypeId) (parts : Array (Nat × Operand)) (ho : o.op = .build t parts) (ps : List (Nat × Value)) (cells : Array Value) (hp : (parts.toList.map fun p => (p.1, a.eval p.2)) = ps)
    (h : P.built t ps = some cells) : (execOp a.eval o).run P w = .ok (.value (.agg cells)) w := by
  rw [← hp, ← Array.toList_map] at h
  unfold execOp
  simp only [ho, Sem.run_bind, run_build w t _ cells h, Result.andThen_ok]
  rfl
theorem pt_buildSlice {i : Nat} {o : Oper} {R : Act → World → Prop} {a : Act} {w : World} (hi : ops[i]? = some o) (hw : Region.wanted o (yielded ops a.tmps) = true) (t e : TypeId) (len : Nat) (parts : Array (Nat × Operand)) (ho : o.op = .buildSlice t len parts)
    (cells : Array Value) (ie : TypeInfo) (z : Value)
    (hu : P.underlying t = some (.slice e)) (hie : P.info? e = some ie) (hz : ie.zero = some z) (hsmall : ¬ len * ie.size > 2 ^ 24) (hpos : ¬ len * ie.size = 0)
    (ps : List (Nat × Value)) (hp : (parts.toList.map fun p => (p.1, a.eval p.2)) = ps)
    (hf : Instr.fill (fun i => some (i * ie.size, ie.size)) ((Array.range (len * ie.size)).map (z.cells[· % z.cells.size]!)) ps = some cells)
    (h : R (a.put o.dst (.slice (some ⟨w.heap.size, 0, none⟩) len len)) (w.alloc (.cells cells e))) : ptStep P O ops Q i R a w :=
  ⟨o, hi, hw, wp_buildSlice t e len parts ho cells ie z hu hie hz hsmall hpos (by rw [← hp, ← Array.toList_map] at hf; exact hf) ⟨But.alloc _ _, h⟩⟩
theorem fold_set (off : Nat) : ∀ (l : List Value) (k : Nat) (cs : Array Value), ((l.zipIdx k).foldl (fun cs x => cs.setIfInBounds (off + x.2) x.1) cs) = setAllA cs (off + k) l
  | [], _, _ => rfl
  | v :: r, k, cs => by
    rw [List.zipIdx_cons, List.foldl_cons, fold_set off r (k + 1), setAllA]; rfl
/-- A part laid. -/
theorem fill_part {place : Nat → Option (Nat × Nat)} {cells : Array Value} {i off size : Nat} {v : Value} {rest : List (Nat × Value)} (hp : place i = some (off, size)) (hs : v.cells.size = size) (hl : off + size ≤ cells.size) :
    Instr.fill place cells ((i, v) :: rest) = Instr.fill place (setAllA cells off v.cells.toList) rest := by
  subst hs
  rw [Instr.fill, hp]
  simp only [ne_eq, not_true_eq_false, decide_false, Bool.false_or, decide_eq_true_eq]
  rw [if_neg (by omega)]
  congr 1
  have := fold_set off v.cells.toList 0 cells
  rw [Nat.add_zero] at this
  rw [← this, ← Array.foldl_toList, Array.toList_zipIdx]

/-- An append to a slice without room: the new row is one's own. -/
theorem run_app_grows {t e : TypeId} {sz bytes : Nat} (T : SlT P t e sz bytes) (ty : TypeId) (w : World) (v : Value) (m : Nat) (xs : List Value) (hv : Sl w sz v m xs) (hcap : ∃ a, v = .slice a m m)
    (x : Value) (k : Nat) (news : List Value) (hx : Sl w sz x k news) (h1c : ∀ u ∈ news, u.oneCell' = true) (hk : 0 < k) (h63 : m + k ≤ maxLen) (hbytes : (m + k) * bytes ≤ 140737488355328) :
    ∃ v' w', (Builtin.append_ #[t, t] ty #[v, x]).run P w = .ok v' w' ∧ w'.ownsRow w.heap.size e sz v' (m + k) (xs ++ news) ∧ w.grownBy w' none := by
  obtain ⟨i, z, hi, hz, hsize, hby, hzs, hsz⟩ := T.inf
  obtain ⟨a0, rfl⟩ := hcap
  obtain ⟨hlx, ⟨a, c, _, h0⟩ | ⟨bx, ox, cx, rfl, hnx, hmx, hcx⟩⟩ := hx
  · omega
  obtain ⟨hl, hv⟩ := hv
  by_cases hm0 : m = 0
  · subst hm0
    have hxs : xs = [] := List.eq_nil_of_length_eq_zero (by omega)
    subst hxs
    cases a0 with
    | none =>
      obtain ⟨v', w', h1, h2, h3, _⟩ := run_append_own w w.heap.size t ty e i z sz bytes T.und hi hz hsize hby hzs hsz (.slice none 0 0) 0 [] ⟨by simp, .inl ⟨rfl, rfl⟩⟩ ⟨bx, ox, none⟩ k cx news hlx (fun j u hj => by rw [Addr.add_lit]; exact hcx j u hj) h1c h63 hbytes (Nat.le_refl _)
      exact ⟨v', w', h1, h2, h3⟩
    | some b => exact run_append_arg_grows w t ty e i z sz bytes T.und hi hz hsize hby hzs hsz b 0 0 [] (by simp) (by simp) ⟨bx, ox, none⟩ k cx news hlx (fun j u hj => by rw [Addr.add_lit]; exact hcx j u hj) (by omega) h63 hbytes
  · rcases hv with ⟨_, _, _, h⟩ | ⟨b, off, cap, h1, hn, hmm, hc⟩
    · omega
    · simp only [Value.slice.injEq] at h1
      rw [h1.1]
      exact run_append_arg_grows w t ty e i z sz bytes T.und hi hz hsize hby hzs hsz ⟨b, off, none⟩ m m xs hl (fun j u hj => by rw [Addr.add_lit]; exact hc j u hj) ⟨bx, ox, none⟩ k cx news hlx (fun j u hj => by rw [Addr.add_lit]; exact hcx j u hj) (by omega) h63 hbytes
theorem pt_app_grows {i : Nat} {o : Oper} {R : Act → World → Prop} {a : Act} {w : World} (hi : ops[i]? = some o) (hw : Region.wanted o (yielded ops a.tmps) = true) (s x : Operand) (t : TypeId)
    (ho : o.op = .call { callee := .builtin .append, args := #[s, x], argTypes := #[t, t] })
    {e : TypeId} {sz bytes : Nat} (T : SlT P t e sz bytes) {v : Value} {m : Nat} {xs : List Value} (hs : a.eval s = v) (hv : Sl w sz v m xs) (hcap : ∃ a, v = .slice a m m)
    {xv : Value} {k : Nat} {news : List Value} (hx : a.eval x = xv) (hsl : Sl w sz xv k news) (h1c : ∀ u ∈ news, u.oneCell' = true) (hk : 0 < k)
    (h63 : m + k ≤ maxLen) (hbytes : (m + k) * bytes ≤ 140737488355328)
    (h : ∀ v' w', w'.ownsRow w.heap.size e sz v' (m + k) (xs ++ news) → Below w.heap.size w w' → R (a.put o.dst v') w') : ptStep P O ops Q i R a w :=
  ⟨o, hi, hw, by
    obtain ⟨v', w', hr, h2, h3⟩ := run_app_grows T o.type w v m xs hv hcap xv k news hsl h1c hk h63 hbytes
    have hb : Below w.heap.size w w' := ⟨h3.os, h3.tape, h3.output, h3.size, fun j hj => h3.block j hj (by simp)⟩
    unfold Oper.wp execOp
    simp only [ho, resolve, invoke, builtin, Sem.run_bind, Sem.run_pure, Result.andThen_ok, List.map_toArray, List.map_cons, List.map_nil, hs, hx, hr]
    exact ⟨But.of_below hb, h v' w' h2 hb⟩⟩
end
end Go.Proofs.Ytfoncaamhleckaa
