/-
  Pz, Fast: several texts in one (bundle.py).
-/
import Derived.Test.YtpkonagjnfphkaaGreatDoorPmB06
import Derived.StillTail
import Derived.ArgAppend
import Derived.Laws.Tables
import Derived.Great.BuildSlice
namespace Go.Proofs.YtpkonagjnfphkaaGreatDoor
open Go.RowKit
set_option linter.unusedSimpArgs false
set_option linter.unusedVariables false

section
variable {P : Program} {ops : Array Oper} {Q : Exit → Act → World → Prop} {md : Region.Mode} {S : World → Prop} {O : Nat → Prop} {n : Nat}

/-- Whatever order is picked, and S holds behind every operation but n. -/
def wpAnyN (P : Program) (md : Region.Mode) (ops : Array Oper) (Q : Exit → Act → World → Prop) (S : World → Prop) (n : Nat) : Nat → Array Bool → Act → World → Prop
  | 0, listed, a, w => Region.ready md ops listed = [] ∧ Q .normal a w
  | fuel + 1, listed, a, w =>
    (Region.ready md ops listed = [] → Q .normal a w) ∧
    ∀ i ∈ Region.ready md ops listed, wpOp P ops Q i (fun a' w' => (i = n ∨ S w') ∧ wpAnyN P md ops Q S n fuel (listed.setIfInBounds i true) a' w') a w
theorem wpAny_of_N : ∀ (fuel : Nat) (listed : Array Bool) (a : Act) (w : World), wpAnyN P md ops Q S n fuel listed a w → wpAny P md ops Q fuel listed a w
  | 0, _, _, _, h => h
  | fuel + 1, _, _, _, h => ⟨h.1, fun i hi => wpOp_mono (fun a' w' h' => wpAny_of_N fuel _ a' w' h'.2) (h.2 i hi)⟩
theorem N_sub {S S' : World → Prop} (hs : ∀ w, S w → S' w) : ∀ (fuel : Nat) (listed : Array Bool) (a : Act) (w : World), wpAnyN P md ops Q S n fuel listed a w → wpAnyN P md ops Q S' n fuel listed a w
  | 0, _, _, _, h => h
  | fuel + 1, _, _, _, h => ⟨h.1, fun i hi => wpOp_mono (fun a' w' h' => ⟨h'.1.imp id (hs w'), N_sub hs fuel _ a' w' h'.2⟩) (h.2 i hi)⟩

theorem wpAnyN_first {i : Nat} {oi : Oper} {v : Value} (hi : ops[i]? = some oi) (hwt : Region.waitsFor md ops n i = true) (hsel : ∀ (j : Nat) (o : Oper) cs b, ops[j]? = some o → o.op ≠ .select cs b)
    (hQ : ∀ c a w, Q (.panic c) (a.put oi.dst v) w → Q (.panic c) a w) :
    ∀ (fuel : Nat) (listed : Array Bool) (a : Act) (w : World),
      (∀ j oj, ops[j]? = some oj → j ≠ i → listed.getD j true = false → (∀ e ∈ oj.after, Region.binds md e = true → e.on ≠ i) → oi.apart ops oj = true) →
      i ∈ Region.ready md ops listed → YieldsIf P ops S oi v a → S w →
      wpAnyN P md ops Q S n fuel (listed.setIfInBounds i true) (a.put oi.dst v) w → wpAnyN P md ops Q S n (fuel + 1) listed a w := by
  intro fuel
  induction fuel with
  | zero =>
    intro listed a w _ hr hy hS H
    refine ⟨fun h => (by rw [h] at hr; cases hr), fun j hj => ?_⟩
    by_cases hji : j = i
    · subst hji; exact hy.wpOp hi hS ⟨.inr hS, H⟩
    · have := ready_mono hj hji
      rw [H.1] at this
      cases this
  | succ fuel ih =>
    intro listed a w hfree hr hy hS H
    refine ⟨fun h => (by rw [h] at hr; cases hr), fun j hj => ?_⟩
    by_cases hji : j = i
    · subst hji; exact hy.wpOp hi hS ⟨.inr hS, H⟩
    · have h1 := H.2 j (ready_mono hj hji)
      obtain ⟨hjun, oj, hoj, hall⟩ := mem_ready.1 hj
      have hnot : ∀ e ∈ oj.after, Region.binds md e = true → e.on ≠ i := fun e he hb heq => by
        have h1 := hall e he hb
        have h0 := (mem_ready.1 hr).1
        rw [heq] at h1
        rcases Nat.lt_or_ge i listed.size with h' | h'
        · simp [h'] at h0 h1; rw [h0] at h1; cases h1
        · simp [Array.getElem?_eq_none h'] at h1
      have hjn : j ≠ n := fun e => by
        subst e
        obtain ⟨oj', hj', e, he, hb, hon⟩ := Region.waitsFor_spec hwt
        have : oj' = oj := Option.some.inj (hj'.symm.trans hoj)
        subst this
        exact hnot e he hb hon
      have h2 := wpOp_putIf hoj (hfree j oj hoj hji hjun hnot) (fun cs b => hsel i oi cs b hi) (fun cs b => hsel j oj cs b hoj) hQ hy h1
      have hfree' : ∀ k ok, ops[k]? = some ok → k ≠ i → (listed.setIfInBounds j true).getD k true = false →
          (∀ e ∈ ok.after, Region.binds md e = true → e.on ≠ i) → oi.apart ops ok = true := fun k ok hk hki hun hno => by
        refine hfree k ok hk hki ?_ hno
        by_cases hjk : j = k
        · subst hjk; exact hjun
        · rw [getD_set_ne true hjk] at hun; exact hun
      refine wpOp_mono (fun a' w' h3 => ?_) h2
      have hSw : S w' := h3.2.1.elim (fun e => absurd e hjn) id
      refine ⟨.inr hSw, ih (listed.setIfInBounds j true) a' w' hfree' (ready_mono hr (Ne.symm hji)) h3.1 hSw ?_⟩
      rw [Array.setIfInBounds_comm _ _ hji]
      exact h3.2.2

/-- What the tree leaves: operation n, then all is done. -/
def lastQ (P : Program) (ops : Array Oper) (Q : Exit → Act → World → Prop) (n : Nat) : Exit → Act → World → Prop
  | .normal, a, w => ∃ o, ops[n]? = some o ∧ Region.wanted o (yielded ops a.tmps) = true ∧ o.wp P a w (Q .normal) Q
  | e, a, w => Q e a w
def pzB (md : Region.Mode) (ops : Array Oper) (n : Nat) : Pt → Array Bool → Bool
  | .done, listed => decide (Region.ready md ops listed = [n]) && (Region.ready md ops (listed.setIfInBounds n true)).isEmpty
  | .q i t, listed => (Region.ready md ops listed).contains i && Region.free md ops listed i && Region.waitsFor md ops n i && pzB md ops n t (listed.setIfInBounds i true)
  | .c i t, listed => decide (Region.ready md ops listed = [i]) && pzB md ops n t (listed.setIfInBounds i true)
  | .f i t j u, listed => decide (Region.ready md ops listed = [i, j]) && (pzB md ops n t (listed.setIfInBounds i true) && pzB md ops n u (listed.setIfInBounds j true))
  | .g i t j u k v, listed => decide (Region.ready md ops listed = [i, j, k]) && (pzB md ops n t (listed.setIfInBounds i true) && (pzB md ops n u (listed.setIfInBounds j true) && pzB md ops n v (listed.setIfInBounds k true)))

theorem lastQ_wp {o : Oper} {a : Act} {w : World} {K : Act → World → Prop} (h : o.wp P a w K (lastQ P ops Q n)) : o.wp P a w K Q := by
  unfold Oper.wp at *
  generalize (execOp a.eval o).run P w = r at *
  cases r with
  | ok k w' =>
    cases k <;> simp only [Oper.upon] at h ⊢
    case value u => exact h
    case skip => exact h
    case defer d => exact h
    case enter f args =>
      refine Calls.mono h fun e w'' he => ?_
      cases e <;> exact he
    case row row args => exact h
  | halt x w' => cases x <;> exact h
theorem pz_wpOp {fuel : Nat} {i : Nat} {t : Pt} {listed : Array Bool} {a : Act} {w : World} (h : ptStep P O ops (lastQ P ops Q n) i (wpPt P O ops (lastQ P ops Q n) t) a w)
    (ih : ∀ a' w', wpPt P O ops (lastQ P ops Q n) t a' w' → wpAnyN P md ops Q (But O w') n fuel (listed.setIfInBounds i true) a' w') :
    wpOp P ops Q i (fun a' w' => (i = n ∨ But O w w') ∧ wpAnyN P md ops Q (But O w) n fuel (listed.setIfInBounds i true) a' w') a w := by
  obtain ⟨o, hi, hw, h⟩ := h
  unfold wpOp
  simp only [hi, hw, if_true]
  exact .inl (Oper.wp_mono (fun a' w' h' => ⟨.inr h'.1, N_sub (fun _ hx => h'.1.trans hx) _ _ _ _ (ih a' w' h'.2)⟩) (lastQ_wp h))

theorem wpAnyN_done {listed : Array Bool} {a : Act} {w : World} (hr : Region.ready md ops listed = []) (h : Q .normal a w) : ∀ fuel, wpAnyN P md ops Q S n fuel listed a w
  | 0 => ⟨hr, h⟩
  | _ + 1 => ⟨fun _ => h, by rw [hr]; simp⟩
theorem held_of_pz (hs : Region.noSelect ops = true) (hQ : ∀ c (a : Act) d v w, Q (.panic c) (a.put d v) w → Q (.panic c) a w) : ∀ (t : Pt) (fuel : Nat) (listed : Array Bool) (a : Act) (w : World),
    t.len + 1 ≤ fuel → pzB md ops n t listed = true → wpPt P O ops (lastQ P ops Q n) t a w → wpAnyN P md ops Q (But O w) n fuel listed a w
  | .done, 0, _, _, _, hl, _, _ => by simp [Pt.len] at hl
  | .done, fuel + 1, listed, a, w, hl, hB, h => by
    simp only [pzB, Bool.and_eq_true, decide_eq_true_eq, List.isEmpty_iff] at hB
    refine ⟨fun h0 => (by rw [hB.1] at h0; cases h0), fun j hj => ?_⟩
    rw [hB.1] at hj
    obtain rfl : j = n := by simpa using hj
    obtain ⟨o, hi, hw, h⟩ := h
    unfold wpOp
    simp only [hi, hw, if_true]
    exact .inl (Oper.wp_mono (fun a' w' h' => ⟨.inl True.intro, wpAnyN_done hB.2 h' _⟩) h)
  | .q i t, 0, _, _, _, hl, _, _ => by simp [Pt.len] at hl
  | .q i t, fuel + 1, listed, a, w, hl, hB, h => by
    obtain ⟨o, v, hi, hy, h⟩ := h
    simp only [pzB, Bool.and_eq_true] at hB
    exact wpAnyN_first hi hB.1.2 (Region.noSelect_spec hs) (fun c a w hq => hQ c a o.dst v w hq) fuel listed a w (Region.free_spec hi hB.1.1.2) (by simpa using hB.1.1.1) hy (But.refl _ _) (held_of_pz hs hQ t fuel _ _ _ (by simp [Pt.len] at hl; omega) hB.2 h)
  | .c i t, 0, _, _, _, hl, _, _ => by simp [Pt.len] at hl
  | .c i t, fuel + 1, listed, a, w, hl, hB, h => by
    simp only [pzB, Bool.and_eq_true, decide_eq_true_eq] at hB
    refine ⟨fun h0 => (by rw [hB.1] at h0; cases h0), fun j hj => ?_⟩
    rw [hB.1] at hj
    obtain rfl : j = i := by simpa using hj
    exact pz_wpOp h (fun a' w' h' => held_of_pz hs hQ t fuel _ _ _ (by simp [Pt.len] at hl; omega) hB.2 h')
  | .f i t j u, 0, _, _, _, hl, _, _ => by simp [Pt.len] at hl
  | .f i t j u, fuel + 1, listed, a, w, hl, hB, h => by
    simp only [pzB, Bool.and_eq_true, decide_eq_true_eq] at hB
    simp only [Pt.len] at hl
    refine ⟨fun h0 => (by rw [hB.1] at h0; cases h0), fun m hm => ?_⟩
    rw [hB.1] at hm
    rcases (show m = i ∨ m = j by simpa using hm) with rfl | rfl
    · exact pz_wpOp h.1 (fun a' w' h' => held_of_pz hs hQ t fuel _ _ _ (by omega) hB.2.1 h')
    · exact pz_wpOp h.2 (fun a' w' h' => held_of_pz hs hQ u fuel _ _ _ (by omega) hB.2.2 h')
  | .g i t j u k v, 0, _, _, _, hl, _, _ => by simp [Pt.len] at hl
  | .g i t j u k v, fuel + 1, listed, a, w, hl, hB, h => by
    simp only [pzB, Bool.and_eq_true, decide_eq_true_eq] at hB
    simp only [Pt.len] at hl
    refine ⟨fun h0 => (by rw [hB.1] at h0; cases h0), fun m hm => ?_⟩
    rw [hB.1] at hm
    rcases (show m = i ∨ m = j ∨ m = k by simpa using hm) with rfl | rfl | rfl
    · exact pz_wpOp h.1 (fun a' w' h' => held_of_pz hs hQ t fuel _ _ _ (by omega) hB.2.1 h')
    · exact pz_wpOp h.2.1 (fun a' w' h' => held_of_pz hs hQ u fuel _ _ _ (by omega) hB.2.2.1 h')
    · exact pz_wpOp h.2.2 (fun a' w' h' => held_of_pz hs hQ v fuel _ _ _ (by omega) hB.2.2.2 h')

/-- The tree serves all operations but n, which waits for all that are quiet; n itself may turn what was read. -/
theorem wp_region_pz {id : Nat} {a : Act} {w : World} (O : Nat → Prop) (n : Nat) (t : Pt) (hm : P.follows .mixedOrders = true) (hs : Region.noSelect ops = true) (hB : pzB .any ops n t (Array.replicate ops.size false) = true) (hl : t.len + 1 ≤ ops.size)
    (hQ : ∀ c (a : Act) d v w, Q (.panic c) (a.put d v) w → Q (.panic c) a w) (h : ∀ Wd, Below w.heap.size w Wd → wpPt P O ops (lastQ P ops Q n) t a Wd) : (Code.region id ops true).wp P Q a w :=
  wp_region_any hm (wpAny_of_N (S := But O w.drew) (n := n) _ _ _ _ (held_of_pz (md := .any) hs hQ t _ _ _ _ hl hB (h w.drew (Below.refl _ _).drew)))
theorem pz_last {o : Oper} {a : Act} {w : World} (hi : ops[n]? = some o) (hw : Region.wanted o (yielded ops a.tmps) = true) (h : ∀ K : Act → World → Prop, Shut (∀ a' w', Q .normal a' w' → K a' w') → o.wp P a w K Q) : wpPt P O ops (lastQ P ops Q n) .done a w := ⟨o, hi, hw, h _ (fun _ _ h => h)⟩
theorem pz_put_row {o : Oper} {a : Act} {w : World} (hi : ops[n]? = some o) (hw : Region.wanted o (yielded ops a.tmps) = true) (ty : TypeId) (x y : Operand) (ho : o.op = .store ty x y)
    (H : Nat) (vs : List Value) {cs : Array Value} {T : TypeId} (hx : a.eval x = .pointer (some ⟨H, 0, none⟩)) (hy : a.eval y = .agg vs.toArray) (hr : RowAt w H cs T) (hl : vs.length = cs.size)
    (hi2 : (P.info? ty).map (·.size) = some vs.length) (h1 : vs.all (·.oneCell') = true)
    (h : ∀ w', RowAt w' H vs.toArray T → But (· = H) w w' → Q .normal (a.put o.dst undef) w') : wpPt P O ops (lastQ P ops Q n) .done a w :=
  ⟨o, hi, hw, wp_store_mid ty x y ho H 0 vs.toArray hx hy (hr.there (by simp; omega)) (by simpa using hi2) (by simpa using h1) (h _ (hr.setAll vs hl) (But.setCells _ _ _ rfl))⟩

/-- A composite built of parts. -/
theorem exec_build {o : Oper} {a : Act} {w : World} (t : TypeId) (parts : Array (Nat × Operand)) (ho : o.op = .build t parts) (ps : List (Nat × Value)) (cells : Array Value) (hp : (parts.toList.map fun p => (p.1, a.eval p.2)) = ps)
    (h : P.built t ps = some cells) : (execOp a.eval o).run P w = .ok (.value (.agg cells)) w := by
  rw [← hp, ← Array.toList_map] at h
  unfold execOp
  simp only [ho, Sem.run_bind, run_build w t _ cells h, Result.andThen_ok]
  rfl
theorem pt_buildSlice {i : Nat} {o : Oper} {R : Act → World → Prop} {a : Act} {w : World} (hi : ops[i]? = some o) (hw : Region.wanted o (yielded ops a.tmps) = true) (t e : TypeId) (len : Nat) (parts : Array (Nat × Operand)) (ho : o.op = .buildSlice t len parts)
    (cells : Array Value) (ie : TypeInfo) (z : Value)
    (hu : P.underlying t = some (.slice e)) (hie : P.info? e = some ie) (hz : ie.zero = some z) (hsmall : ¬ len * ie.size > 2 ^ 24) (hpos : ¬ len * ie.size = 0)
    (ps : List (Nat × Value)) (hp : (parts.toList.map fun p => (p.1, a.eval p.2)) = ps)
    (hf : Instr.fill (fun i => some (i * ie.size, ie.size)) ((Array.range (len * ie.size)).map (z.cells[· % z.cells.size]!)) ps = some cells)
    (h : R (a.put o.dst (.slice (some ⟨w.heap.size, 0, none⟩) len len)) (w.alloc (.cells cells e))) : ptStep P O ops Q i R a w :=
  ⟨o, hi, hw, wp_buildSlice t e len parts ho cells ie z hu hie hz hsmall hpos (by rw [← hp, ← Array.toList_map] at hf; exact hf) ⟨But.alloc _ _, h⟩⟩
theorem fold_set (off : Nat) : ∀ (l : List Value) (k : Nat) (cs : Array Value), ((l.zipIdx k).foldl (fun cs x => cs.setIfInBounds (off + x.2) x.1) cs) = setAllA cs (off + k) l
  | [], _, _ => rfl
  | v :: r, k, cs => by
    rw [List.zipIdx_cons, List.foldl_cons, fold_set off r (k + 1), setAllA]; rfl
/-- A part laid. -/
theorem fill_part {place : Nat → Option (Nat × Nat)} {cells : Array Value} {i off size : Nat} {v : Value} {rest : List (Nat × Value)} (hp : place i = some (off, size)) (hs : v.cells.size = size) (hl : off + size ≤ cells.size) :
    Instr.fill place cells ((i, v) :: rest) = Instr.fill place (setAllA cells off v.cells.toList) rest := by
  subst hs
  rw [Instr.fill, hp]
  simp only [ne_eq, not_true_eq_false, decide_false, Bool.false_or, decide_eq_true_eq]
  rw [if_neg (by omega)]
  congr 1
  have := fold_set off v.cells.toList 0 cells
  rw [Nat.add_zero] at this
  rw [← this, ← Array.foldl_toList, Array.toList_zipIdx]

/-- An append to a slice without room: the new row is one's own. -/
theorem run_app_grows {t e : TypeId} {sz bytes : Nat} (T : SlT P t e sz bytes) (ty : TypeId) (w : World) (v : Value) (m : Nat) (xs : List Value) (hv : Sl w sz v m xs) (hcap : ∃ a, v = .slice a m m)
    (x : Value) (k : Nat) (news : List Value) (hx : Sl w sz x k news) (h1c : ∀ u ∈ news, u.oneCell' = true) (hk : 0 < k) (h63 : m + k ≤ maxLen) (hbytes : (m + k) * bytes ≤ 140737488355328) :
    ∃ v' w', (Builtin.append_ #[t, t] ty #[v, x]).run P w = .ok v' w' ∧ w'.ownsRow w.heap.size e sz v' (m + k) (xs ++ news) ∧ w.grownBy w' none := by
  obtain ⟨i, z, hi, hz, hsize, hby, hzs, hsz⟩ := T.inf
  obtain ⟨a0, rfl⟩ := hcap
  obtain ⟨hlx, ⟨a, c, _, h0⟩ | ⟨bx, ox, cx, rfl, hnx, hmx, hcx⟩⟩ := hx
  · omega
  obtain ⟨hl, hv⟩ := hv
  by_cases hm0 : m = 0
  · subst hm0
    have hxs : xs = [] := List.eq_nil_of_length_eq_zero (by omega)
    subst hxs
    cases a0 with
    | none =>
      obtain ⟨v', w', h1, h2, h3, _⟩ := run_append_own w w.heap.size t ty e i z sz bytes T.und hi hz hsize hby hzs hsz (.slice none 0 0) 0 [] ⟨by simp, .inl ⟨rfl, rfl⟩⟩ ⟨bx, ox, none⟩ k cx news hlx (fun j u hj => by rw [Addr.add_lit]; exact hcx j u hj) h1c h63 hbytes (Nat.le_refl _)
      exact ⟨v', w', h1, h2, h3⟩
    | some b => exact run_append_arg_grows w t ty e i z sz bytes T.und hi hz hsize hby hzs hsz b 0 0 [] (by simp) (by simp) ⟨bx, ox, none⟩ k cx news hlx (fun j u hj => by rw [Addr.add_lit]; exact hcx j u hj) (by omega) h63 hbytes
  · rcases hv with ⟨_, _, _, h⟩ | ⟨b, off, cap, h1, hn, hmm, hc⟩
    · omega
    · simp only [Value.slice.injEq] at h1
      rw [h1.1]
      exact run_append_arg_grows w t ty e i z sz bytes T.und hi hz hsize hby hzs hsz ⟨b, off, none⟩ m m xs hl (fun j u hj => by rw [Addr.add_lit]; exact hc j u hj) ⟨bx, ox, none⟩ k cx news hlx (fun j u hj => by rw [Addr.add_lit]; exact hcx j u hj) (by omega) h63 hbytes
theorem pt_app_grows {i : Nat} {o : Oper} {R : Act → World → Prop} {a : Act} {w : World} (hi : ops[i]? = some o) (hw : Region.wanted o (yielded ops a.tmps) = true) (s x : Operand) (t : TypeId)
    (ho : o.op = .call { callee := .builtin .append, args := #[s, x], argTypes := #[t, t] })
    {e : TypeId} {sz bytes : Nat} (T : SlT P t e sz bytes) {v : Value} {m : Nat} {xs : List Value} (hs : a.eval s = v) (hv : Sl w sz v m xs) (hcap : ∃ a, v = .slice a m m)
    {xv : Value} {k : Nat} {news : List Value} (hx : a.eval x = xv) (hsl : Sl w sz xv k news) (h1c : ∀ u ∈ news, u.oneCell' = true) (hk : 0 < k)
    (h63 : m + k ≤ maxLen) (hbytes : (m + k) * bytes ≤ 140737488355328)
    (h : ∀ v' w', w'.ownsRow w.heap.size e sz v' (m + k) (xs ++ news) → Below w.heap.size w w' → R (a.put o.dst v') w') : ptStep P O ops Q i R a w :=
  ⟨o, hi, hw, by
    obtain ⟨v', w', hr, h2, h3⟩ := run_app_grows T o.type w v m xs hv hcap xv k news hsl h1c hk h63 hbytes
    have hb : Below w.heap.size w w' := ⟨h3.os, h3.tape, h3.output, h3.size, fun j hj => h3.block j hj (by simp)⟩
    unfold Oper.wp execOp
    simp only [ho, resolve, invoke, builtin, Sem.run_bind, Sem.run_pure, Result.andThen_ok, List.map_toArray, List.map_cons, List.map_nil, hs, hx, hr]
    exact ⟨But.of_below hb, h v' w' h2 hb⟩⟩
end
end Go.Proofs.YtpkonagjnfphkaaGreatDoor

namespace Go.Proofs.YtpkonagjnfphkaaGreatDoor
open Go.RowKit
set_option linter.unusedSimpArgs false
set_option linter.unusedVariables false

section
variable {md : Region.Mode} {ops : Array Oper}

/-- On which an operation waits, as bits. -/
def maskOf (md : Region.Mode) (l : List Edge) : Nat := l.foldr (fun e m => if Region.binds md e then m ||| (1 <<< e.on) else m) 0
theorem maskOf_bit (l : List Edge) (k : Nat) : (maskOf md l).testBit k = l.any (fun e => Region.binds md e && e.on == k) := by
  induction l with
  | nil => simp [maskOf]
  | cons e r ih =>
    rw [maskOf, List.foldr_cons, List.any_cons]
    rw [maskOf] at ih
    by_cases hb : Region.binds md e = true
    · rw [if_pos hb, Nat.testBit_or, ih, hb, Bool.true_and, Bool.or_comm, Nat.one_shiftLeft, Nat.testBit_two_pow]
      congr 1
    · rw [if_neg hb, ih]
      simp [hb]
/-- All masks in one number, w bits each. -/
def masksN (md : Region.Mode) (w : Nat) (l : List Oper) : Nat := l.foldr (fun o m => (m <<< w) + maskOf md o.after.toList % 2 ^ w) 0
def maskAt (w M i : Nat) : Nat := (M >>> (w * i)) % 2 ^ w
theorem maskAt_spec (w : Nat) : ∀ (l : List Oper) (i : Nat) (hi : i < l.length), maskAt w (masksN md w l) i = maskOf md l[i].after.toList % 2 ^ w
  | [], i, hi => by simp at hi
  | o :: r, 0, _ => by
    simp only [maskAt, masksN, List.foldr_cons, Nat.mul_zero, Nat.shiftRight_zero, List.getElem_cons_zero]
    rw [Nat.shiftLeft_eq, Nat.add_mod, Nat.mul_mod_left, Nat.zero_add, Nat.mod_mod, Nat.mod_mod]
  | o :: r, i + 1, hi => by
    have ih := maskAt_spec w r i (by simpa using hi)
    simp only [maskAt, List.getElem_cons_succ] at ih ⊢
    rw [← ih]
    simp only [masksN, List.foldr_cons]
    rw [Nat.mul_add, Nat.mul_one, Nat.add_comm (w * i) w, Nat.shiftRight_add]
    congr 2
    rw [Nat.shiftRight_eq_div_pow, Nat.shiftLeft_eq, Nat.add_comm, Nat.add_mul_div_right _ _ (Nat.two_pow_pos w), Nat.div_eq_of_lt (Nat.mod_lt _ (Nat.two_pow_pos w)), Nat.zero_add]

structure Rep (listed : Array Bool) (n m : Nat) : Prop where
  size : listed.size = n
  bit : ∀ j, j < n → listed.getD j false = m.testBit j
theorem Rep.getT {listed : Array Bool} {n m : Nat} (h : Rep listed n m) {j : Nat} (hj : j < n) (d : Bool) : listed.getD j d = m.testBit j := by
  rw [← h.bit j hj]
  simp [Array.getD, h.size, hj]
theorem Rep.start (n : Nat) : Rep (Array.replicate n false) n 0 := ⟨by simp, fun j hj => by simp [Array.getD, hj]⟩
theorem Rep.set {listed : Array Bool} {n m : Nat} (h : Rep listed n m) (i : Nat) : Rep (listed.setIfInBounds i true) n (m ||| (1 <<< i)) := by
  refine ⟨by simp [h.size], fun j hj => ?_⟩
  rw [Nat.testBit_or, Nat.one_shiftLeft, Nat.testBit_two_pow]
  by_cases hij : i = j
  · subst hij
    simp [Array.getD, h.size, hj]
  · rw [getD_set_ne false hij, h.bit j hj]
    simp [hij]

/-- The masks are right. -/
structure Msk (md : Region.Mode) (ops : Array Oper) (n M : Nat) : Prop where
  size : ops.size = n
  at_ : ∀ i (hi : i < ops.size) k, k < n → (maskAt n M i).testBit k = ops[i].after.any (fun e => Region.binds md e && e.on == k)
  low : ∀ i (hi : i < ops.size), ∀ e ∈ ops[i].after, Region.binds md e = true → e.on < n
def rdyF (n M m i : Nat) : Bool := !m.testBit i && (maskAt n M i &&& m == maskAt n M i)
theorem rdy_iff {listed : Array Bool} {n M m i : Nat} (hM : Msk md ops n M) (h : Rep listed n m) (hi : i < n) : rdyF n M m i = true ↔ i ∈ Region.ready md ops listed := by
  have hio : i < ops.size := by rw [hM.size]; exact hi
  rw [mem_ready, h.getT hi]
  simp only [rdyF, Bool.and_eq_true, Bool.not_eq_true', beq_iff_eq]
  constructor
  · rintro ⟨h0, h1⟩
    refine ⟨h0, ops[i], Array.getElem?_eq_getElem hio, fun e he hb => ?_⟩
    have hlt := hM.low i hio e he hb
    rw [h.getT hlt]
    have hb1 : (maskAt n M i).testBit e.on = true := by
      rw [hM.at_ i hio e.on hlt, Array.any_eq_true']
      exact ⟨e, he, by simp [hb]⟩
    rw [← h1, Nat.testBit_and] at hb1
    exact (Bool.and_eq_true_iff.1 hb1).2
  · rintro ⟨h0, o, ho, h1⟩
    refine ⟨h0, Nat.eq_of_testBit_eq fun k => ?_⟩
    obtain rfl : ops[i] = o := by rw [Array.getElem?_eq_getElem hio] at ho; exact Option.some.inj ho
    rw [Nat.testBit_and]
    by_cases hk : k < n
    · cases hq : (maskAt n M i).testBit k with
      | false => rfl
      | true =>
        rw [hM.at_ i hio k hk, Array.any_eq_true'] at hq
        obtain ⟨e, he, hb⟩ := hq
        simp only [Bool.and_eq_true, beq_iff_eq] at hb
        have := h1 e he hb.1
        rw [hb.2, h.bit k hk] at this
        rw [this]; rfl
    · have : (maskAt n M i).testBit k = false := by
        unfold maskAt
        rw [Nat.testBit_mod_two_pow]
        simp [hk]
      rw [this]; rfl
theorem only_ready {listed : Array Bool} {n M m i : Nat} (hM : Msk md ops n M) (h : Rep listed n m) (hi : i < n) (h1 : rdyF n M m i = true) (h2 : ∀ j, j < n → j ≠ i → rdyF n M m j = false) : Region.ready md ops listed = [i] := by
  have hnd : (Region.ready md ops listed).Nodup := List.Pairwise.sublist List.filter_sublist List.nodup_range
  have hm := (rdy_iff hM h hi).1 h1
  have hall : ∀ j ∈ Region.ready md ops listed, j = i := fun j hj => by
    have hjn : j < n := by
      unfold Region.ready at hj
      rw [List.mem_filter, List.mem_range, hM.size] at hj
      exact hj.1
    exact Decidable.byContradiction fun hne => by
      have := h2 j hjn hne
      rw [(rdy_iff hM h hjn).2 hj] at this
      cases this
  generalize Region.ready md ops listed = l at *
  cases l with
  | nil => cases hm
  | cons a r =>
    obtain rfl := hall a (by simp)
    cases r with
    | nil => rfl
    | cons b r =>
      have hb := hall b (by simp)
      subst hb
      simp at hnd
/-- No two write one slot; who looks at what another one writes waits for it, or is waited for. -/
def ssaF (n M : Nat) (ops : Array Oper) : Bool :=
  (List.range n).all fun p => match (ops[p]?).bind (·.dst) with
    | none => true
    | some d => (List.range n).all fun j => j == p || (match ops[j]? with
      | none => true
      | some o => o.dst != some d && (!(o.looksAt ops).contains d || ((maskAt n M j).testBit p || (maskAt n M p).testBit j)))
theorem free_of {listed : Array Bool} {n M m i : Nat} (hM : Msk md ops n M) (h : Rep listed n m) (hi : i < n) (hr : rdyF n M m i = true) (hs : ssaF n M ops = true) : Region.free md ops listed i = true := by
  have hio : i < ops.size := by rw [hM.size]; exact hi
  unfold Region.free
  rw [Array.getElem?_eq_getElem hio]
  simp only [List.all_eq_true, List.mem_range, Bool.or_eq_true, beq_iff_eq]
  intro j hj
  have hjn : j < n := by rw [← hM.size]; exact hj
  by_cases hji : j = i
  · exact .inl (.inl hji)
  cases hlj : listed.getD j true with
  | true => exact .inl (.inr rfl)
  | false =>
    refine .inr ?_
    rw [Array.getElem?_eq_getElem hj]
    simp only [Bool.or_eq_true]
    cases hw : ops[j].after.any (fun e => Region.binds md e && e.on == i) with
    | true => exact .inl rfl
    | false =>
      refine .inr ?_
      have hwj : (maskAt n M j).testBit i = false := by rw [hM.at_ j hj i hi]; exact hw
      have hwi : (maskAt n M i).testBit j = false := by
        cases hq : (maskAt n M i).testBit j with
        | false => rfl
        | true =>
          simp only [rdyF, Bool.and_eq_true, beq_iff_eq] at hr
          rw [← hr.2, Nat.testBit_and] at hq
          have := (Bool.and_eq_true_iff.1 hq).2
          rw [h.getT hjn, this] at hlj
          cases hlj
      simp only [ssaF, List.all_eq_true, List.mem_range] at hs
      unfold Oper.apart
      rw [Bool.and_eq_true]
      constructor
      · cases hd : ops[i].dst with
        | none => rfl
        | some d =>
          have := hs i hi
          rw [Array.getElem?_eq_getElem hio] at this
          simp only [Option.bind_some, hd, List.all_eq_true, List.mem_range] at this
          have := this j hjn
          rw [Array.getElem?_eq_getElem hj] at this
          simp only [Bool.or_eq_true, beq_iff_eq, hji, false_or, Bool.and_eq_true, hwj, hwi, Bool.false_eq_true, or_false] at this
          simp only [Bool.and_eq_true]
          exact ⟨this.2, this.1⟩
      · cases hd : ops[j].dst with
        | none => rfl
        | some d =>
          have := hs j hjn
          rw [Array.getElem?_eq_getElem hj] at this
          simp only [Option.bind_some, hd, List.all_eq_true, List.mem_range] at this
          have := this i hi
          rw [Array.getElem?_eq_getElem hio] at this
          simp only [Bool.or_eq_true, beq_iff_eq, Ne.symm hji, false_or, Bool.and_eq_true, hwj, hwi, Bool.false_eq_true, or_false] at this
          exact this.2

def mskF (md : Region.Mode) (n : Nat) (ops : Array Oper) : Bool := ops.toList.all fun o => o.after.toList.all fun e => !Region.binds md e || decide (e.on < n)
theorem msk_of {n : Nat} (hn : ops.size = n) (h : mskF md n ops = true) : Msk md ops n (masksN md n ops.toList) := by
  refine ⟨hn, fun i hi k hk => ?_, fun i hi e he hb => ?_⟩
  · rw [maskAt_spec n ops.toList i (by simpa using hi), Nat.testBit_mod_two_pow, maskOf_bit]
    simp [hk]
  · simp only [mskF, List.all_eq_true, Bool.or_eq_true, Bool.not_eq_true', decide_eq_true_eq] at h
    have := h ops[i] (by simp) e (by simpa using he)
    exact this.resolve_left (by simp [hb])

def onlyF (n M m i : Nat) : Bool := rdyF n M m i && (List.range n).all fun j => j == i || !rdyF n M m j
def noneF (n M m : Nat) : Bool := (List.range n).all fun j => !rdyF n M m j
/-- The order's check. -/
def piFB (n M : Nat) : List (Nat × Bool) → Nat → Bool
  | [], m => noneF n M m
  | (i, false) :: r, m => decide (i < n) && (rdyF n M m i && piFB n M r (m ||| (1 <<< i)))
  | (i, true) :: r, m => decide (i < n) && (onlyF n M m i && piFB n M r (m ||| (1 <<< i)))
theorem none_ready {listed : Array Bool} {n M m : Nat} (hM : Msk md ops n M) (h : Rep listed n m) (hn : noneF n M m = true) : Region.ready md ops listed = [] := by
  refine List.eq_nil_iff_forall_not_mem.2 fun j hj => ?_
  have hjn : j < n := by
    have := hj
    unfold Region.ready at this
    rw [List.mem_filter, List.mem_range, hM.size] at this
    exact this.1
  simp only [noneF, List.all_eq_true, List.mem_range] at hn
  have := hn j hjn
  rw [(rdy_iff hM h hjn).2 hj] at this
  cases this
theorem only_of {listed : Array Bool} {n M m i : Nat} (hM : Msk md ops n M) (h : Rep listed n m) (hi : i < n) (ho : onlyF n M m i = true) : Region.ready md ops listed = [i] := by
  simp only [onlyF, Bool.and_eq_true, List.all_eq_true, List.mem_range, Bool.or_eq_true, beq_iff_eq, Bool.not_eq_true'] at ho
  exact only_ready hM h hi ho.1 fun j hj hne => (ho.2 j hj).resolve_left hne
theorem piB_of {n M : Nat} (hM : Msk md ops n M) (hs : ssaF n M ops = true) : ∀ (r : List (Nat × Bool)) (listed : Array Bool) (m : Nat), Rep listed n m → piFB n M r m = true → piB md ops r listed = true
  | [], listed, m, h, hb => by
    rw [piB, none_ready hM h hb]; rfl
  | (i, false) :: r, listed, m, h, hb => by
    simp only [piFB, Bool.and_eq_true, decide_eq_true_eq] at hb
    simp only [piB, Bool.and_eq_true]
    exact ⟨⟨by simpa using (rdy_iff hM h hb.1).1 hb.2.1, free_of hM h hb.1 hb.2.1 hs⟩, piB_of hM hs r _ _ (h.set i) hb.2.2⟩
  | (i, true) :: r, listed, m, h, hb => by
    simp only [piFB, Bool.and_eq_true, decide_eq_true_eq] at hb
    simp only [piB, Bool.and_eq_true, decide_eq_true_eq]
    exact ⟨only_of hM h hb.1 hb.2.1, piB_of hM hs r _ _ (h.set i) hb.2.2⟩
/-- All checks at once. -/
def fastPi (n : Nat) (ops : Array Oper) (r : List (Nat × Bool)) : Bool :=
  mskF .any n ops && (ssaF n (masksN .any n ops.toList) ops && piFB n (masksN .any n ops.toList) r 0)
theorem piB_fast {r : List (Nat × Bool)} (h : fastPi ops.size ops r = true) : piB .any ops r (Array.replicate ops.size false) = true := by
  simp only [fastPi, Bool.and_eq_true] at h
  exact piB_of (msk_of rfl h.1) h.2.1 r _ _ (Rep.start _) h.2.2

/-- The same for a tree of orders. -/
def ptFB (n M : Nat) : Pt → Nat → Bool
  | .done, m => noneF n M m
  | .q i t, m => decide (i < n) && (rdyF n M m i && ptFB n M t (m ||| (1 <<< i)))
  | .c i t, m => decide (i < n) && (onlyF n M m i && ptFB n M t (m ||| (1 <<< i)))
  | _, _ => false
theorem ptB_of {n M : Nat} (hM : Msk md ops n M) (hs : ssaF n M ops = true) : ∀ (t : Pt) (listed : Array Bool) (m : Nat), Rep listed n m → ptFB n M t m = true → ptB md ops t listed = true
  | .done, listed, m, h, hb => by
    rw [ptB, none_ready hM h hb]; rfl
  | .q i t, listed, m, h, hb => by
    simp only [ptFB, Bool.and_eq_true, decide_eq_true_eq] at hb
    simp only [ptB, Bool.and_eq_true]
    exact ⟨⟨by simpa using (rdy_iff hM h hb.1).1 hb.2.1, free_of hM h hb.1 hb.2.1 hs⟩, ptB_of hM hs t _ _ (h.set i) hb.2.2⟩
  | .c i t, listed, m, h, hb => by
    simp only [ptFB, Bool.and_eq_true, decide_eq_true_eq] at hb
    simp only [ptB, Bool.and_eq_true, decide_eq_true_eq]
    exact ⟨only_of hM h hb.1 hb.2.1, ptB_of hM hs t _ _ (h.set i) hb.2.2⟩
  | .f _ _ _ _, _, _, _, hb => by simp [ptFB] at hb
  | .g _ _ _ _ _ _, _, _, _, hb => by simp [ptFB] at hb
def fastPt (n : Nat) (ops : Array Oper) (t : Pt) : Bool :=
  mskF .any n ops && (ssaF n (masksN .any n ops.toList) ops && ptFB n (masksN .any n ops.toList) t 0)
theorem ptB_fast {t : Pt} (h : fastPt ops.size ops t = true) : ptB .any ops t (Array.replicate ops.size false) = true := by
  simp only [fastPt, Bool.and_eq_true] at h
  exact ptB_of (msk_of rfl h.1) h.2.1 t _ _ (Rep.start _) h.2.2
def pzFB (n M z : Nat) : Pt → Nat → Bool
  | .done, m => decide (z < n) && (onlyF n M m z && noneF n M (m ||| (1 <<< z)))
  | .q i t, m => decide (i < n) && (rdyF n M m i && ((maskAt n M z).testBit i && pzFB n M z t (m ||| (1 <<< i))))
  | .c i t, m => decide (i < n) && (onlyF n M m i && pzFB n M z t (m ||| (1 <<< i)))
  | _, _ => false
theorem waits_of {n M z i : Nat} (hM : Msk md ops n M) (hz : z < n) (hi : i < n) (h : (maskAt n M z).testBit i = true) : Region.waitsFor md ops z i = true := by
  have hzo : z < ops.size := by rw [hM.size]; exact hz
  unfold Region.waitsFor
  rw [Array.getElem?_eq_getElem hzo]
  rwa [hM.at_ z hzo i hi] at h
theorem pzB_of {n M z : Nat} (hM : Msk md ops n M) (hz : z < n) (hs : ssaF n M ops = true) : ∀ (t : Pt) (listed : Array Bool) (m : Nat), Rep listed n m → pzFB n M z t m = true → pzB md ops z t listed = true
  | .done, listed, m, h, hb => by
    simp only [pzFB, Bool.and_eq_true, decide_eq_true_eq] at hb
    simp only [pzB, Bool.and_eq_true, decide_eq_true_eq]
    exact ⟨only_of hM h hz hb.2.1, by rw [none_ready hM (h.set z) hb.2.2]; rfl⟩
  | .q i t, listed, m, h, hb => by
    simp only [pzFB, Bool.and_eq_true, decide_eq_true_eq] at hb
    simp only [pzB, Bool.and_eq_true]
    exact ⟨⟨⟨by simpa using (rdy_iff hM h hb.1).1 hb.2.1, free_of hM h hb.1 hb.2.1 hs⟩, waits_of hM hz hb.1 hb.2.2.1⟩, pzB_of hM hz hs t _ _ (h.set i) hb.2.2.2⟩
  | .c i t, listed, m, h, hb => by
    simp only [pzFB, Bool.and_eq_true, decide_eq_true_eq] at hb
    simp only [pzB, Bool.and_eq_true, decide_eq_true_eq]
    exact ⟨only_of hM h hb.1 hb.2.1, pzB_of hM hz hs t _ _ (h.set i) hb.2.2⟩
  | .f _ _ _ _, _, _, _, hb => by simp [pzFB] at hb
  | .g _ _ _ _ _ _, _, _, _, hb => by simp [pzFB] at hb
def fastPz (n z : Nat) (ops : Array Oper) (t : Pt) : Bool :=
  decide (z < n) && (mskF .any n ops && (ssaF n (masksN .any n ops.toList) ops && pzFB n (masksN .any n ops.toList) z t 0))
theorem pzB_fast {t : Pt} {z : Nat} (h : fastPz ops.size z ops t = true) : pzB .any ops z t (Array.replicate ops.size false) = true := by
  simp only [fastPz, Bool.and_eq_true, decide_eq_true_eq] at h
  exact pzB_of (msk_of rfl h.2.1) h.1 h.2.2.1 t _ _ (Rep.start _) h.2.2.2
end

section
variable {P : Program} {ops : Array Oper} {Q : Exit → Act → World → Prop}
/-- The region's laws with the operations held by a local name, so that no step's simp walks through them. -/
theorem wp_region_piL {id : Nat} {a : Act} {w : World} (r : List (Nat × Bool)) (hm : P.follows .mixedOrders = true) (hs : Region.noSelect ops = true) (hB : fastPi ops.size ops r = true) (hl : r.length = ops.size)
    (hQ : ∀ c (a : Act) d v w, Q (.panic c) (a.put d v) w → Q (.panic c) a w) (h : ∀ O, Hid (ops = O) → ∀ Wd, Below w.heap.size w Wd → wpPi P O Q r a Wd) : (Code.region id ops true).wp P Q a w :=
  wp_region_pi r hm hs (piB_fast hB) hl hQ (h ops (Lib.hid rfl))
theorem wp_region_ptL {id : Nat} {a : Act} {w : World} (O : Nat → Prop) (t : Pt) (hm : P.follows .mixedOrders = true) (hs : Region.noSelect ops = true) (hB : fastPt ops.size ops t = true) (hl : t.len ≤ ops.size)
    (hQ : ∀ c (a : Act) d v w, Q (.panic c) (a.put d v) w → Q (.panic c) a w) (h : ∀ L, Hid (ops = L) → ∀ Wd, Below w.heap.size w Wd → wpPt P O L Q t a Wd) : (Code.region id ops true).wp P Q a w :=
  wp_region_pt O t hm hs (ptB_fast hB) hl hQ (h ops (Lib.hid rfl))
theorem wp_region_pzL {id : Nat} {a : Act} {w : World} (O : Nat → Prop) (n : Nat) (t : Pt) (hm : P.follows .mixedOrders = true) (hs : Region.noSelect ops = true) (hB : fastPz ops.size n ops t = true) (hl : t.len + 1 ≤ ops.size)
    (hQ : ∀ c (a : Act) d v w, Q (.panic c) (a.put d v) w → Q (.panic c) a w) (h : ∀ L, Hid (ops = L) → ∀ Wd, Below w.heap.size w Wd → wpPt P O L (lastQ P L Q n) t a Wd) : (Code.region id ops true).wp P Q a w :=
  wp_region_pz O n t hm hs (pzB_fast hB) hl hQ (h ops (Lib.hid rfl))

/-- A call of a function by its number. -/
theorem exec_call {o : Oper} {a : Act} {w : World} {f : FuncId} {xs : Array Operand} {ts : Array TypeId} (ho : o.op = .call { callee := .value (.func f), args := xs, argTypes := ts }) {args : List Value} (hx : xs.toList.map a.eval = args)
    (he : Enters P f) : (execOp a.eval o).run P w = .ok (.enter f args.toArray) w := by
  have e : xs.map a.eval = args.toArray := by rw [← hx, ← Array.toList_map]
  unfold execOp
  simp only [ho, resolve, Sem.run_bind]
  rw [e]
  have hv : a.eval (.func f) = .func (.func f) #[] #[] := rfl
  rw [hv]
  simp only [Deferred.ofValue, Sem.run_pure, Result.andThen_ok, invoke]
  rw [Array.append_empty, Array.empty_append]
  exact he _ _
theorem wp_call {o : Oper} {a : Act} {w : World} {K : Act → World → Prop} {f : FuncId} {xs : Array Operand} {ts : Array TypeId} (ho : o.op = .call { callee := .value (.func f), args := xs, argTypes := ts }) {args : List Value} (hx : xs.toList.map a.eval = args)
    (he : Enters P f) {R : Ending → World → Prop} (hc : Calls P f args.toArray w R) (h : ∀ e w', R e w' → ∃ v, e = .returned v ∧ K (a.put o.dst v) w') : o.wp P a w K Q := by
  unfold Oper.wp
  rw [exec_call ho hx he]
  refine Calls.mono hc fun e w' hr => ?_
  obtain ⟨v, rfl, hk⟩ := h e w' hr
  exact hk
theorem pi_call {i : Nat} {o : Oper} {r : List (Nat × Bool)} {a : Act} {w : World} (hi : ops[i]? = some o) (hw : Region.wanted o (yielded ops a.tmps) = true)
    {f : FuncId} {xs : Array Operand} {ts : Array TypeId} {args : List Value} {R : Ending → World → Prop} (hc : Calls P f args.toArray w R)
    (he : Enters P f) (ho : o.op = .call { callee := .value (.func f), args := xs, argTypes := ts }) (hx : xs.toList.map a.eval = args) (h : ∀ e w', R e w' → ∃ v, e = .returned v ∧ Below w.heap.size w w' ∧ wpPi P ops Q r (a.put o.dst v) w') : wpPi P ops Q ((i, true) :: r) a w :=
  ⟨o, hi, hw, wp_call ho hx he hc h⟩
theorem pt_call {i : Nat} {o : Oper} {O : Nat → Prop} {R0 : Act → World → Prop} {a : Act} {w : World} (hi : ops[i]? = some o) (hw : Region.wanted o (yielded ops a.tmps) = true)
    {f : FuncId} {xs : Array Operand} {ts : Array TypeId} {args : List Value} {R : Ending → World → Prop} (hc : Calls P f args.toArray w R)
    (he : Enters P f) (ho : o.op = .call { callee := .value (.func f), args := xs, argTypes := ts }) (hx : xs.toList.map a.eval = args) (h : ∀ e w', R e w' → ∃ v, e = .returned v ∧ But O w w' ∧ R0 (a.put o.dst v) w') : ptStep P O ops Q i R0 a w :=
  ⟨o, hi, hw, wp_call ho hx he hc h⟩
end
end Go.Proofs.YtpkonagjnfphkaaGreatDoor
