/-
  Pz, Fast, PtM, CbHd, CbI: several texts in one (bundle.py).
-/
import Derived.Test.YtpkonagjnfphkaaGreatDoorPmY06
import Derived.StillTail
import Derived.ArgAppend
import Derived.Laws.Tables
import Derived.Great.BuildSlice
import Derived.Test.YtpkonagjnfphkaaGreatDoorPmY04
import Derived.Test.YtpkonagjnfphkaaGreatDoorPmY02
import Derived.Test.YtpkonagjnfphkaaGreatDoorPmY05
import Derived.Test.YtpkonagjnfphkaaGreatDoorPmY01
set_option linter.unusedSimpArgs false
set_option linter.unusedVariables false
set_option maxRecDepth 100000
set_option maxHeartbeats 4000000
namespace Go.Proofs.YtpkonagjnfphkaaGreatDoor
open Go.RowKit
section
variable {P : Program} {ops : Array Oper} {Q : Exit → Act → World → Prop} {md : Region.Mode} {S : World → Prop} {O : Nat → Prop} {n : Nat}
def wpAnyN (P : Program) (md : Region.Mode) (ops : Array Oper) (Q : Exit → Act → World → Prop) (S : World → Prop) (n : Nat) : Nat → Array Bool → Act → World → Prop
  | 0, listed, a, w => Region.ready md ops listed = [] ∧ Q .normal a w
  | fuel + 1, listed, a, w =>
    (Region.ready md ops listed = [] → Q .normal a w) ∧
    ∀ i ∈ Region.ready md ops listed, wpOp P ops Q i (fun a' w' => (i = n ∨ S w') ∧ wpAnyN P md ops Q S n fuel (listed.setIfInBounds i true) a' w') a w
theorem wpAny_of_N : ∀ (fuel : Nat) (listed : Array Bool) (a : Act) (w : World), wpAnyN P md ops Q S n fuel listed a w → wpAny P md ops Q fuel listed a w
  | 0, _, _, _, h => h
  | fuel + 1, _, _, _, h => ⟨h.1, fun i hi => wpOp_mono (fun a' w' h' => wpAny_of_N fuel _ a' w' h'.2) (h.2 i hi)⟩
theorem N_sub {S S' : World → Prop} (hs : ∀ w, S w → S' w) : ∀ (fuel : Nat) (listed : Array Bool) (a : Act) (w : World), wpAnyN P md ops Q S n fuel listed a w → wpAnyN P md ops Q S' n fuel listed a w
  | 0, _, _, _, h => h
  | fuel + 1, _, _, _, h => ⟨h.1, fun i hi => wpOp_mono (fun a' w' h' => ⟨h'.1.imp id (hs w'), N_sub hs fuel _ a' w' h'.2⟩) (h.2 i hi)⟩
theorem wpAnyN_first {i : Nat} {oi : Oper} {v : Value} (hi : ops[i]? = some oi) (hwt : Region.waitsFor md ops n i = true) (hsel : ∀ (j : Nat) (o : Oper) cs b, ops[j]? = some o → o.op ≠ .select cs b)
    (hQ : ∀ c a w, Q (.panic c) (a.put oi.dst v) w → Q (.panic c) a w) :
    ∀ (fuel : Nat) (listed : Array Bool) (a : Act) (w : World),
      (∀ j oj, ops[j]? = some oj → j ≠ i → listed.getD j true = false → (∀ e ∈ oj.after, Region.binds md e = true → e.on ≠ i) → oi.apart ops oj = true) →
      i ∈ Region.ready md ops listed → YieldsIf P ops S oi v a → S w →
      wpAnyN P md ops Q S n fuel (listed.setIfInBounds i true) (a.put oi.dst v) w → wpAnyN P md ops Q S n (fuel + 1) listed a w := by
  intro fuel
  induction fuel with
  | zero =>
    intro listed a w _ hr hy hS H; refine ⟨fun h => (by rw [h] at hr; cases hr), fun j hj => ?_⟩; by_cases hji : j = i
    · subst hji; exact hy.wpOp hi hS ⟨.inr hS, H⟩
    · have := ready_mono hj hji
      rw [H.1] at this; cases this
  | succ fuel ih =>
    intro listed a w hfree hr hy hS H; refine ⟨fun h => (by rw [h] at hr; cases hr), fun j hj => ?_⟩; by_cases hji : j = i
    · subst hji; exact hy.wpOp hi hS ⟨.inr hS, H⟩
    · have h1 := H.2 j (ready_mono hj hji)
      obtain ⟨hjun, oj, hoj, hall⟩ := mem_ready.1 hj
      have hnot : ∀ e ∈ oj.after, Region.binds md e = true → e.on ≠ i := fun e he hb heq => by
        have h1 := hall e he hb; have h0 := (mem_ready.1 hr).1; rw [heq] at h1; rcases Nat.lt_or_ge i listed.size with h' | h'
        · simp [h'] at h0 h1; rw [h0] at h1; cases h1
        · simp [Array.getElem?_eq_none h'] at h1
      have hjn : j ≠ n := fun e => by
        subst e; obtain ⟨oj', hj', e, he, hb, hon⟩ := Region.waitsFor_spec hwt; have : oj' = oj := Option.some.inj (hj'.symm.trans hoj); subst this; exact hnot e he hb hon
      have h2 := wpOp_putIf hoj (hfree j oj hoj hji hjun hnot) (fun cs b => hsel i oi cs b hi) (fun cs b => hsel j oj cs b hoj) hQ hy h1
      have hfree' : ∀ k ok, ops[k]? = some ok → k ≠ i → (listed.setIfInBounds j true).getD k true = false →
          (∀ e ∈ ok.after, Region.binds md e = true → e.on ≠ i) → oi.apart ops ok = true := fun k ok hk hki hun hno => by
        refine hfree k ok hk hki ?_ hno; by_cases hjk : j = k
        · subst hjk; exact hjun
        · rw [getD_set_ne true hjk] at hun; exact hun
      refine wpOp_mono (fun a' w' h3 => ?_) h2; have hSw : S w' := h3.2.1.elim (fun e => absurd e hjn) id; refine ⟨.inr hSw, ih (listed.setIfInBounds j true) a' w' hfree' (ready_mono hr (Ne.symm hji)) h3.1 hSw ?_⟩; rw [Array.setIfInBounds_comm _ _ hji]; exact h3.2.2
def lastQ (P : Program) (ops : Array Oper) (Q : Exit → Act → World → Prop) (n : Nat) : Exit → Act → World → Prop
  | .normal, a, w => ∃ o, ops[n]? = some o ∧ Region.wanted o (yielded ops a.tmps) = true ∧ o.wp P a w (Q .normal) Q
  | e, a, w => Q e a w
def pzB (md : Region.Mode) (ops : Array Oper) (n : Nat) : Pt → Array Bool → Bool
  | .done, listed => decide (Region.ready md ops listed = [n]) && (Region.ready md ops (listed.setIfInBounds n true)).isEmpty
  | .q i t, listed => (Region.ready md ops listed).contains i && Region.free md ops listed i && Region.waitsFor md ops n i && pzB md ops n t (listed.setIfInBounds i true)
  | .c i t, listed => decide (Region.ready md ops listed = [i]) && pzB md ops n t (listed.setIfInBounds i true)
  | .f i t j u, listed => decide (Region.ready md ops listed = [i, j]) && (pzB md ops n t (listed.setIfInBounds i true) && pzB md ops n u (listed.setIfInBounds j true))
  | .g i t j u k v, listed => decide (Region.ready md ops listed = [i, j, k]) && (pzB md ops n t (listed.setIfInBounds i true) && (pzB md ops n u (listed.setIfInBounds j true) && pzB md ops n v (listed.setIfInBounds k true)))
theorem lastQ_wp {o : Oper} {a : Act} {w : World} {K : Act → World → Prop} (h : o.wp P a w K (lastQ P ops Q n)) : o.wp P a w K Q := by
  unfold Oper.wp at *; generalize (execOp a.eval o).run P w = r at *
  cases r with
  | ok k w' =>
    cases k <;> simp only [Oper.upon] at h ⊢
    case value u => exact h
    case skip => exact h
    case defer d => exact h
    case enter f args =>
      refine Calls.mono h fun e w'' he => ?_
      cases e <;> exact he
    case row row args => exact h
  | halt x w' => cases x <;> exact h
theorem pz_wpOp {fuel : Nat} {i : Nat} {t : Pt} {listed : Array Bool} {a : Act} {w : World} (h : ptStep P O ops (lastQ P ops Q n) i (wpPt P O ops (lastQ P ops Q n) t) a w)
    (ih : ∀ a' w', wpPt P O ops (lastQ P ops Q n) t a' w' → wpAnyN P md ops Q (But O w') n fuel (listed.setIfInBounds i true) a' w') :
    wpOp P ops Q i (fun a' w' => (i = n ∨ But O w w') ∧ wpAnyN P md ops Q (But O w) n fuel (listed.setIfInBounds i true) a' w') a w := by
  obtain ⟨o, hi, hw, h⟩ := h; unfold wpOp; simp only [hi, hw, if_true]; exact .inl (Oper.wp_mono (fun a' w' h' => ⟨.inr h'.1, N_sub (fun _ hx => h'.1.trans hx) _ _ _ _ (ih a' w' h'.2)⟩) (lastQ_wp h))
theorem wpAnyN_done {listed : Array Bool} {a : Act} {w : World} (hr : Region.ready md ops listed = []) (h : Q .normal a w) : ∀ fuel, wpAnyN P md ops Q S n fuel listed a w
  | 0 => ⟨hr, h⟩
  | _ + 1 => ⟨fun _ => h, by rw [hr]; simp⟩
theorem held_of_pz (hs : Region.noSelect ops = true) (hQ : ∀ c (a : Act) d v w, Q (.panic c) (a.put d v) w → Q (.panic c) a w) : ∀ (t : Pt) (fuel : Nat) (listed : Array Bool) (a : Act) (w : World),
    t.len + 1 ≤ fuel → pzB md ops n t listed = true → wpPt P O ops (lastQ P ops Q n) t a w → wpAnyN P md ops Q (But O w) n fuel listed a w
  | .done, 0, _, _, _, hl, _, _ => by simp [Pt.len] at hl
  | .done, fuel + 1, listed, a, w, hl, hB, h => by
    simp only [pzB, Bool.and_eq_true, decide_eq_true_eq, List.isEmpty_iff] at hB; refine ⟨fun h0 => (by rw [hB.1] at h0; cases h0), fun j hj => ?_⟩; rw [hB.1] at hj
    obtain rfl : j = n := by simpa using hj
    obtain ⟨o, hi, hw, h⟩ := h; unfold wpOp; simp only [hi, hw, if_true]; exact .inl (Oper.wp_mono (fun a' w' h' => ⟨.inl True.intro, wpAnyN_done hB.2 h' _⟩) h)
  | .q i t, 0, _, _, _, hl, _, _ => by simp [Pt.len] at hl
  | .q i t, fuel + 1, listed, a, w, hl, hB, h => by
    obtain ⟨o, v, hi, hy, h⟩ := h; simp only [pzB, Bool.and_eq_true] at hB; exact wpAnyN_first hi hB.1.2 (Region.noSelect_spec hs) (fun c a w hq => hQ c a o.dst v w hq) fuel listed a w (Region.free_spec hi hB.1.1.2) (by simpa using hB.1.1.1) hy (But.refl _ _) (held_of_pz hs hQ t fuel _ _ _ (by simp [Pt.len] at hl; omega) hB.2 h)
  | .c i t, 0, _, _, _, hl, _, _ => by simp [Pt.len] at hl
  | .c i t, fuel + 1, listed, a, w, hl, hB, h => by
    simp only [pzB, Bool.and_eq_true, decide_eq_true_eq] at hB; refine ⟨fun h0 => (by rw [hB.1] at h0; cases h0), fun j hj => ?_⟩; rw [hB.1] at hj
    obtain rfl : j = i := by simpa using hj
    exact pz_wpOp h (fun a' w' h' => held_of_pz hs hQ t fuel _ _ _ (by simp [Pt.len] at hl; omega) hB.2 h')
  | .f i t j u, 0, _, _, _, hl, _, _ => by simp [Pt.len] at hl
  | .f i t j u, fuel + 1, listed, a, w, hl, hB, h => by
    simp only [pzB, Bool.and_eq_true, decide_eq_true_eq] at hB; simp only [Pt.len] at hl; refine ⟨fun h0 => (by rw [hB.1] at h0; cases h0), fun m hm => ?_⟩; rw [hB.1] at hm; rcases (show m = i ∨ m = j by simpa using hm) with rfl | rfl
    · exact pz_wpOp h.1 (fun a' w' h' => held_of_pz hs hQ t fuel _ _ _ (by omega) hB.2.1 h')
    · exact pz_wpOp h.2 (fun a' w' h' => held_of_pz hs hQ u fuel _ _ _ (by omega) hB.2.2 h')
  | .g i t j u k v, 0, _, _, _, hl, _, _ => by simp [Pt.len] at hl
  | .g i t j u k v, fuel + 1, listed, a, w, hl, hB, h => by
    simp only [pzB, Bool.and_eq_true, decide_eq_true_eq] at hB; simp only [Pt.len] at hl; refine ⟨fun h0 => (by rw [hB.1] at h0; cases h0), fun m hm => ?_⟩; rw [hB.1] at hm; rcases (show m = i ∨ m = j ∨ m = k by simpa using hm) with rfl | rfl | rfl
    · exact pz_wpOp h.1 (fun a' w' h' => held_of_pz hs hQ t fuel _ _ _ (by omega) hB.2.1 h')
    · exact pz_wpOp h.2.1 (fun a' w' h' => held_of_pz hs hQ u fuel _ _ _ (by omega) hB.2.2.1 h')
    · exact pz_wpOp h.2.2 (fun a' w' h' => held_of_pz hs hQ v fuel _ _ _ (by omega) hB.2.2.2 h')
theorem wp_region_pz {id : Nat} {a : Act} {w : World} (O : Nat → Prop) (n : Nat) (t : Pt) (hm : P.follows .mixedOrders = true) (hs : Region.noSelect ops = true) (hB : pzB .any ops n t (Array.replicate ops.size false) = true) (hl : t.len + 1 ≤ ops.size)
    (hQ : ∀ c (a : Act) d v w, Q (.panic c) (a.put d v) w → Q (.panic c) a w) (h : ∀ Wd, Below w.heap.size w Wd → wpPt P O ops (lastQ P ops Q n) t a Wd) : (Code.region id ops true).wp P Q a w :=
  wp_region_any hm (wpAny_of_N (S := But O w.drew) (n := n) _ _ _ _ (held_of_pz (md := .any) hs hQ t _ _ _ _ hl hB (h w.drew (Below.refl _ _).drew)))
theorem pz_last {o : Oper} {a : Act} {w : World} (hi : ops[n]? = some o) (hw : Region.wanted o (yielded ops a.tmps) = true) (h : ∀ K : Act → World → Prop, Shut (∀ a' w', Q .normal a' w' → K a' w') → o.wp P a w K Q) : wpPt P O ops (lastQ P ops Q n) .done a w := ⟨o, hi, hw, h _ (fun _ _ h => h)⟩
theorem pt_buildSlice {i : Nat} {o : Oper} {R : Act → World → Prop} {a : Act} {w : World} (hi : ops[i]? = some o) (hw : Region.wanted o (yielded ops a.tmps) = true) (t e : TypeId) (len : Nat) (parts : Array (Nat × Operand)) (ho : o.op = .buildSlice t len parts)
    (cells : Array Value) (ie : TypeInfo) (z : Value)
    (hu : P.underlying t = some (.slice e)) (hie : P.info? e = some ie) (hz : ie.zero = some z) (hsmall : ¬ len * ie.size > 2 ^ 24) (hpos : ¬ len * ie.size = 0)
    (ps : List (Nat × Value)) (hp : (parts.toList.map fun p => (p.1, a.eval p.2)) = ps)
    (hf : Instr.fill (fun i => some (i * ie.size, ie.size)) ((Array.range (len * ie.size)).map (z.cells[· % z.cells.size]!)) ps = some cells)
    (h : R (a.put o.dst (.slice (some ⟨w.heap.size, 0, none⟩) len len)) (w.alloc (.cells cells e))) : ptStep P O ops Q i R a w :=
  ⟨o, hi, hw, wp_buildSlice t e len parts ho cells ie z hu hie hz hsmall hpos (by rw [← hp, ← Array.toList_map] at hf; exact hf) ⟨But.alloc _ _, h⟩⟩
end
section
variable {md : Region.Mode} {ops : Array Oper}
def maskOf (md : Region.Mode) (l : List Edge) : Nat := l.foldr (fun e m => if Region.binds md e then m ||| (1 <<< e.on) else m) 0
theorem maskOf_bit (l : List Edge) (k : Nat) : (maskOf md l).testBit k = l.any (fun e => Region.binds md e && e.on == k) := by
  induction l with
  | nil => simp [maskOf]
  | cons e r ih =>
    rw [maskOf, List.foldr_cons, List.any_cons]; rw [maskOf] at ih; by_cases hb : Region.binds md e = true
    · rw [if_pos hb, Nat.testBit_or, ih, hb, Bool.true_and, Bool.or_comm, Nat.one_shiftLeft, Nat.testBit_two_pow]
      congr 1
    · rw [if_neg hb, ih]
      simp [hb]
def masksN (md : Region.Mode) (w : Nat) (l : List Oper) : Nat := l.foldr (fun o m => (m <<< w) + maskOf md o.after.toList % 2 ^ w) 0
def maskAt (w M i : Nat) : Nat := (M >>> (w * i)) % 2 ^ w
theorem maskAt_spec (w : Nat) : ∀ (l : List Oper) (i : Nat) (hi : i < l.length), maskAt w (masksN md w l) i = maskOf md l[i].after.toList % 2 ^ w
  | [], i, hi => by simp at hi
  | o :: r, 0, _ => by
    simp only [maskAt, masksN, List.foldr_cons, Nat.mul_zero, Nat.shiftRight_zero, List.getElem_cons_zero]; rw [Nat.shiftLeft_eq, Nat.add_mod, Nat.mul_mod_left, Nat.zero_add, Nat.mod_mod, Nat.mod_mod]
  | o :: r, i + 1, hi => by
    have ih := maskAt_spec w r i (by simpa using hi); simp only [maskAt, List.getElem_cons_succ] at ih ⊢; rw [← ih]; simp only [masksN, List.foldr_cons]; rw [Nat.mul_add, Nat.mul_one, Nat.add_comm (w * i) w, Nat.shiftRight_add]
    congr 2
    rw [Nat.shiftRight_eq_div_pow, Nat.shiftLeft_eq, Nat.add_comm, Nat.add_mul_div_right _ _ (Nat.two_pow_pos w), Nat.div_eq_of_lt (Nat.mod_lt _ (Nat.two_pow_pos w)), Nat.zero_add]
structure Rep (listed : Array Bool) (n m : Nat) : Prop where
  size : listed.size = n
  bit : ∀ j, j < n → listed.getD j false = m.testBit j
theorem Rep.getT {listed : Array Bool} {n m : Nat} (h : Rep listed n m) {j : Nat} (hj : j < n) (d : Bool) : listed.getD j d = m.testBit j := by
  rw [← h.bit j hj]; simp [Array.getD, h.size, hj]
theorem Rep.start (n : Nat) : Rep (Array.replicate n false) n 0 := ⟨by simp, fun j hj => by simp [Array.getD, hj]⟩
theorem Rep.set {listed : Array Bool} {n m : Nat} (h : Rep listed n m) (i : Nat) : Rep (listed.setIfInBounds i true) n (m ||| (1 <<< i)) := by
  refine ⟨by simp [h.size], fun j hj => ?_⟩; rw [Nat.testBit_or, Nat.one_shiftLeft, Nat.testBit_two_pow]; by_cases hij : i = j
  · subst hij
    simp [Array.getD, h.size, hj]
  · rw [getD_set_ne false hij, h.bit j hj]
    simp [hij]
structure Msk (md : Region.Mode) (ops : Array Oper) (n M : Nat) : Prop where
  size : ops.size = n
  at_ : ∀ i (hi : i < ops.size) k, k < n → (maskAt n M i).testBit k = ops[i].after.any (fun e => Region.binds md e && e.on == k)
  low : ∀ i (hi : i < ops.size), ∀ e ∈ ops[i].after, Region.binds md e = true → e.on < n
def rdyF (n M m i : Nat) : Bool := !m.testBit i && (maskAt n M i &&& m == maskAt n M i)
theorem rdy_iff {listed : Array Bool} {n M m i : Nat} (hM : Msk md ops n M) (h : Rep listed n m) (hi : i < n) : rdyF n M m i = true ↔ i ∈ Region.ready md ops listed := by
  have hio : i < ops.size := by rw [hM.size]; exact hi
  rw [mem_ready, h.getT hi]; simp only [rdyF, Bool.and_eq_true, Bool.not_eq_true', beq_iff_eq]; constructor
  · rintro ⟨h0, h1⟩
    refine ⟨h0, ops[i], Array.getElem?_eq_getElem hio, fun e he hb => ?_⟩; have hlt := hM.low i hio e he hb; rw [h.getT hlt]
    have hb1 : (maskAt n M i).testBit e.on = true := by
      rw [hM.at_ i hio e.on hlt, Array.any_eq_true']; exact ⟨e, he, by simp [hb]⟩
    rw [← h1, Nat.testBit_and] at hb1; exact (Bool.and_eq_true_iff.1 hb1).2
  · rintro ⟨h0, o, ho, h1⟩
    refine ⟨h0, Nat.eq_of_testBit_eq fun k => ?_⟩
    obtain rfl : ops[i] = o := by rw [Array.getElem?_eq_getElem hio] at ho; exact Option.some.inj ho
    rw [Nat.testBit_and]; by_cases hk : k < n
    · cases hq : (maskAt n M i).testBit k with
      | false => rfl
      | true =>
        rw [hM.at_ i hio k hk, Array.any_eq_true'] at hq; obtain ⟨e, he, hb⟩ := hq; simp only [Bool.and_eq_true, beq_iff_eq] at hb; have := h1 e he hb.1; rw [hb.2, h.bit k hk] at this; rw [this]; rfl
    · have : (maskAt n M i).testBit k = false := by
        unfold maskAt; rw [Nat.testBit_mod_two_pow]; simp [hk]
      rw [this]; rfl
theorem only_ready {listed : Array Bool} {n M m i : Nat} (hM : Msk md ops n M) (h : Rep listed n m) (hi : i < n) (h1 : rdyF n M m i = true) (h2 : ∀ j, j < n → j ≠ i → rdyF n M m j = false) : Region.ready md ops listed = [i] := by
  have hnd : (Region.ready md ops listed).Nodup := List.Pairwise.sublist List.filter_sublist List.nodup_range; have hm := (rdy_iff hM h hi).1 h1
  have hall : ∀ j ∈ Region.ready md ops listed, j = i := fun j hj => by
    have hjn : j < n := by
      unfold Region.ready at hj; rw [List.mem_filter, List.mem_range, hM.size] at hj; exact hj.1
    exact Decidable.byContradiction fun hne => by
      have := h2 j hjn hne; rw [(rdy_iff hM h hjn).2 hj] at this; cases this
  generalize Region.ready md ops listed = l at *
  cases l with
  | nil => cases hm
  | cons a r =>
    obtain rfl := hall a (by simp)
    cases r with
    | nil => rfl
    | cons b r =>
      have hb := hall b (by simp); subst hb; simp at hnd
def ssaF (n M : Nat) (ops : Array Oper) : Bool :=
  (List.range n).all fun p => match (ops[p]?).bind (·.dst) with
    | none => true
    | some d => (List.range n).all fun j => j == p || (match ops[j]? with
      | none => true
      | some o => o.dst != some d && (!(o.looksAt ops).contains d || ((maskAt n M j).testBit p || (maskAt n M p).testBit j)))
theorem free_of {listed : Array Bool} {n M m i : Nat} (hM : Msk md ops n M) (h : Rep listed n m) (hi : i < n) (hr : rdyF n M m i = true) (hs : ssaF n M ops = true) : Region.free md ops listed i = true := by
  have hio : i < ops.size := by rw [hM.size]; exact hi
  unfold Region.free; rw [Array.getElem?_eq_getElem hio]; simp only [List.all_eq_true, List.mem_range, Bool.or_eq_true, beq_iff_eq]; intro j hj
  have hjn : j < n := by rw [← hM.size]; exact hj
  by_cases hji : j = i
  · exact .inl (.inl hji)
  cases hlj : listed.getD j true with
  | true => exact .inl (.inr rfl)
  | false =>
    refine .inr ?_; rw [Array.getElem?_eq_getElem hj]; simp only [Bool.or_eq_true]
    cases hw : ops[j].after.any (fun e => Region.binds md e && e.on == i) with
    | true => exact .inl rfl
    | false =>
      refine .inr ?_
      have hwj : (maskAt n M j).testBit i = false := by rw [hM.at_ j hj i hi]; exact hw
      have hwi : (maskAt n M i).testBit j = false := by
        cases hq : (maskAt n M i).testBit j with
        | false => rfl
        | true =>
          simp only [rdyF, Bool.and_eq_true, beq_iff_eq] at hr; rw [← hr.2, Nat.testBit_and] at hq; have := (Bool.and_eq_true_iff.1 hq).2; rw [h.getT hjn, this] at hlj; cases hlj
      simp only [ssaF, List.all_eq_true, List.mem_range] at hs; unfold Oper.apart; rw [Bool.and_eq_true]; constructor
      · cases hd : ops[i].dst with
        | none => rfl
        | some d =>
          have := hs i hi; rw [Array.getElem?_eq_getElem hio] at this; simp only [Option.bind_some, hd, List.all_eq_true, List.mem_range] at this; have := this j hjn; rw [Array.getElem?_eq_getElem hj] at this; simp only [Bool.or_eq_true, beq_iff_eq, hji, false_or, Bool.and_eq_true, hwj, hwi, Bool.false_eq_true, or_false] at this; simp only [Bool.and_eq_true]; exact ⟨this.2, this.1⟩
      · cases hd : ops[j].dst with
        | none => rfl
        | some d =>
          have := hs j hjn; rw [Array.getElem?_eq_getElem hj] at this; simp only [Option.bind_some, hd, List.all_eq_true, List.mem_range] at this; have := this i hi; rw [Array.getElem?_eq_getElem hio] at this; simp only [Bool.or_eq_true, beq_iff_eq, Ne.symm hji, false_or, Bool.and_eq_true, hwj, hwi, Bool.false_eq_true, or_false] at this; exact this.2
def mskF (md : Region.Mode) (n : Nat) (ops : Array Oper) : Bool := ops.toList.all fun o => o.after.toList.all fun e => !Region.binds md e || decide (e.on < n)
theorem msk_of {n : Nat} (hn : ops.size = n) (h : mskF md n ops = true) : Msk md ops n (masksN md n ops.toList) := by
  refine ⟨hn, fun i hi k hk => ?_, fun i hi e he hb => ?_⟩
  · rw [maskAt_spec n ops.toList i (by simpa using hi), Nat.testBit_mod_two_pow, maskOf_bit]
    simp [hk]
  · simp only [mskF, List.all_eq_true, Bool.or_eq_true, Bool.not_eq_true', decide_eq_true_eq] at h
    have := h ops[i] (by simp) e (by simpa using he); exact this.resolve_left (by simp [hb])
def onlyF (n M m i : Nat) : Bool := rdyF n M m i && (List.range n).all fun j => j == i || !rdyF n M m j
def noneF (n M m : Nat) : Bool := (List.range n).all fun j => !rdyF n M m j
theorem none_ready {listed : Array Bool} {n M m : Nat} (hM : Msk md ops n M) (h : Rep listed n m) (hn : noneF n M m = true) : Region.ready md ops listed = [] := by
  refine List.eq_nil_iff_forall_not_mem.2 fun j hj => ?_
  have hjn : j < n := by
    have := hj; unfold Region.ready at this; rw [List.mem_filter, List.mem_range, hM.size] at this; exact this.1
  simp only [noneF, List.all_eq_true, List.mem_range] at hn; have := hn j hjn; rw [(rdy_iff hM h hjn).2 hj] at this; cases this
theorem only_of {listed : Array Bool} {n M m i : Nat} (hM : Msk md ops n M) (h : Rep listed n m) (hi : i < n) (ho : onlyF n M m i = true) : Region.ready md ops listed = [i] := by
  simp only [onlyF, Bool.and_eq_true, List.all_eq_true, List.mem_range, Bool.or_eq_true, beq_iff_eq, Bool.not_eq_true'] at ho
  exact only_ready hM h hi ho.1 fun j hj hne => (ho.2 j hj).resolve_left hne
def ptFB (n M : Nat) : Pt → Nat → Bool
  | .done, m => noneF n M m
  | .q i t, m => decide (i < n) && (rdyF n M m i && ptFB n M t (m ||| (1 <<< i)))
  | .c i t, m => decide (i < n) && (onlyF n M m i && ptFB n M t (m ||| (1 <<< i)))
  | _, _ => false
theorem ptB_of {n M : Nat} (hM : Msk md ops n M) (hs : ssaF n M ops = true) : ∀ (t : Pt) (listed : Array Bool) (m : Nat), Rep listed n m → ptFB n M t m = true → ptB md ops t listed = true
  | .done, listed, m, h, hb => by
    rw [ptB, none_ready hM h hb]; rfl
  | .q i t, listed, m, h, hb => by
    simp only [ptFB, Bool.and_eq_true, decide_eq_true_eq] at hb; simp only [ptB, Bool.and_eq_true]; exact ⟨⟨by simpa using (rdy_iff hM h hb.1).1 hb.2.1, free_of hM h hb.1 hb.2.1 hs⟩, ptB_of hM hs t _ _ (h.set i) hb.2.2⟩
  | .c i t, listed, m, h, hb => by
    simp only [ptFB, Bool.and_eq_true, decide_eq_true_eq] at hb; simp only [ptB, Bool.and_eq_true, decide_eq_true_eq]; exact ⟨only_of hM h hb.1 hb.2.1, ptB_of hM hs t _ _ (h.set i) hb.2.2⟩
  | .f _ _ _ _, _, _, _, hb => by simp [ptFB] at hb
  | .g _ _ _ _ _ _, _, _, _, hb => by simp [ptFB] at hb
def fastPt (n : Nat) (ops : Array Oper) (t : Pt) : Bool :=
  mskF .any n ops && (ssaF n (masksN .any n ops.toList) ops && ptFB n (masksN .any n ops.toList) t 0)
theorem ptB_fast {t : Pt} (h : fastPt ops.size ops t = true) : ptB .any ops t (Array.replicate ops.size false) = true := by
  simp only [fastPt, Bool.and_eq_true] at h; exact ptB_of (msk_of rfl h.1) h.2.1 t _ _ (Rep.start _) h.2.2
end
section
variable {P : Program} {ops : Array Oper} {Q : Exit → Act → World → Prop}
theorem wp_region_ptL {id : Nat} {a : Act} {w : World} (O : Nat → Prop) (t : Pt) (hm : P.follows .mixedOrders = true) (hs : Region.noSelect ops = true) (hB : fastPt ops.size ops t = true) (hl : t.len ≤ ops.size)
    (hQ : ∀ c (a : Act) d v w, Q (.panic c) (a.put d v) w → Q (.panic c) a w) (h : ∀ L, Hid (ops = L) → ∀ Wd, Below w.heap.size w Wd → wpPt P O L Q t a Wd) : (Code.region id ops true).wp P Q a w :=
  wp_region_pt O t hm hs (ptB_fast hB) hl hQ (h ops (Lib.hid rfl))
theorem exec_call {o : Oper} {a : Act} {w : World} {f : FuncId} {xs : Array Operand} {ts : Array TypeId} (ho : o.op = .call { callee := .value (.func f), args := xs, argTypes := ts }) {args : List Value} (hx : xs.toList.map a.eval = args)
    (he : Enters P f) : (execOp a.eval o).run P w = .ok (.enter f args.toArray) w := by
  have e : xs.map a.eval = args.toArray := by rw [← hx, ← Array.toList_map]
  unfold execOp; simp only [ho, resolve, Sem.run_bind]; rw [e]; have hv : a.eval (.func f) = .func (.func f) #[] #[] := rfl; rw [hv]; simp only [Deferred.ofValue, Sem.run_pure, Result.andThen_ok, invoke]; rw [Array.append_empty, Array.empty_append]; exact he _ _
theorem wp_call {o : Oper} {a : Act} {w : World} {K : Act → World → Prop} {f : FuncId} {xs : Array Operand} {ts : Array TypeId} (ho : o.op = .call { callee := .value (.func f), args := xs, argTypes := ts }) {args : List Value} (hx : xs.toList.map a.eval = args)
    (he : Enters P f) {R : Ending → World → Prop} (hc : Calls P f args.toArray w R) (h : ∀ e w', R e w' → ∃ v, e = .returned v ∧ K (a.put o.dst v) w') : o.wp P a w K Q := by
  unfold Oper.wp; rw [exec_call ho hx he]
  refine Calls.mono hc fun e w' hr => ?_
  obtain ⟨v, rfl, hk⟩ := h e w' hr; exact hk
theorem pi_call {i : Nat} {o : Oper} {r : List (Nat × Bool)} {a : Act} {w : World} (hi : ops[i]? = some o) (hw : Region.wanted o (yielded ops a.tmps) = true)
    {f : FuncId} {xs : Array Operand} {ts : Array TypeId} {args : List Value} {R : Ending → World → Prop} (hc : Calls P f args.toArray w R)
    (he : Enters P f) (ho : o.op = .call { callee := .value (.func f), args := xs, argTypes := ts }) (hx : xs.toList.map a.eval = args) (h : ∀ e w', R e w' → ∃ v, e = .returned v ∧ Below w.heap.size w w' ∧ wpPi P ops Q r (a.put o.dst v) w') : wpPi P ops Q ((i, true) :: r) a w :=
  ⟨o, hi, hw, wp_call ho hx he hc h⟩
theorem pt_call {i : Nat} {o : Oper} {O : Nat → Prop} {R0 : Act → World → Prop} {a : Act} {w : World} (hi : ops[i]? = some o) (hw : Region.wanted o (yielded ops a.tmps) = true)
    {f : FuncId} {xs : Array Operand} {ts : Array TypeId} {args : List Value} {R : Ending → World → Prop} (hc : Calls P f args.toArray w R)
    (he : Enters P f) (ho : o.op = .call { callee := .value (.func f), args := xs, argTypes := ts }) (hx : xs.toList.map a.eval = args) (h : ∀ e w', R e w' → ∃ v, e = .returned v ∧ But O w w' ∧ R0 (a.put o.dst v) w') : ptStep P O ops Q i R0 a w :=
  ⟨o, hi, hw, wp_call ho hx he hc h⟩
end
def onlyN (Q : Exit → Act → World → Prop) : Exit → Act → World → Prop := fun e a w => e = .normal ∧ Q .normal a w
theorem onlyN_panic {Q : Exit → Act → World → Prop} : ∀ c (a : Act) d v w, onlyN Q (.panic c) (a.put d v) w → onlyN Q (.panic c) a w := fun _ _ _ _ _ h => by cases h.1
theorem wp_onlyN {P : Program} {c : Code} {Q : Exit → Act → World → Prop} {a : Act} {w : World} (h : c.wp P (onlyN Q) a w) : c.wp P Q a w :=
  Code.wp_mono (fun e a' w' he => by obtain ⟨rfl, h⟩ := he; exact h) h
theorem pt_doneN {P : Program} {ops : Array Oper} {Q : Exit → Act → World → Prop} {O : Nat → Prop} {a : Act} {w : World} (h : Q .normal a w) : wpPt P O ops (onlyN Q) .done a w := ⟨rfl, h⟩
theorem pi_nilN {P : Program} {ops : Array Oper} {Q : Exit → Act → World → Prop} {a : Act} {w : World} (h : Q .normal a w) : wpPi P ops (onlyN Q) [] a w := ⟨rfl, h⟩
theorem wpList_valG {P : Program} {ops : Array Oper} {rest : List Oper} {o : Oper} {a : Act} {w : World} {Q : Exit → Act → World → Prop} (hw : Region.wanted o (yielded ops a.tmps) = true) {v : Value} (hv : (execOp a.eval o).run P w = .ok (.value v) w)
    (h : wpList P ops Q rest (a.put o.dst v) w) : wpList P ops Q (o :: rest) a w := by
  unfold wpList; rw [if_pos hw]; refine .inl ?_; unfold Oper.wp; rw [hv]; exact h
end Go.Proofs.YtpkonagjnfphkaaGreatDoor
namespace Go.Proofs.YtpkonagjnfphkaaGreatDoor
open Go.RowKit Cb
namespace Cb
def headN (low : Nat) (r : List UInt8) : Option (Int × Nat) :=
  if low < 24 then some ((low : Int), 1) else if 28 ≤ low then none else if r.length < 2 ^ (low - 24) then none else some (Oct.getV (r.take (2 ^ (low - 24))), 1 + 2 ^ (low - 24))
def headOk (b : List UInt8) (m n : Int) (k : Nat) : Bool := Oct.beginsB b (headB m n) && decide ((headB m n).length = k)
def headP (b : List UInt8) : Option (Int × Int × Nat) :=
  match b with
  | [] => none
  | f :: r => match headN (f.toNat % 32) r with
    | none => none
    | some (n, k) => if headOk b ((f.toNat / 32 : Nat) : Int) n k then some (((f.toNat / 32 : Nat) : Int), n, k) else none
end Cb
theorem wrap_i64 {x : Int} (h0 : -9223372036854775808 ≤ x) (h1 : x ≤ 9223372036854775807) : IntKind.i64.wrap x = x := by
  have hs : IntKind.i64.signed = true := rfl; simp [IntKind.wrap, go_sem, hs]
  split <;> omega
theorem enters_headC : Enters Tryz.prog 164 := enters_of Tryz.func164 (by kernel_rfl) rfl
theorem enters_begins : Enters Tryz.prog 144 := enters_of Tryz.func144 (by kernel_rfl) rfl
theorem enters_must : Enters Tryz.prog 125 := enters_of Tryz.func125 (by kernel_rfl) rfl
def HdE (b : List UInt8) (w : World) (D : Nat) (en : Ending) (w' : World) : Prop :=
  But (fun k => k = D) w w' ∧ match headP b with
    | none => en = .panicked (gup 121)
    | some (m, n, k) => en = .returned (.tuple #[.int .i64 m, .int .u64 n]) ∧ ∃ v', RdAt w' D v' (b.drop k)
theorem hd_low (w : World) (D : Nat) (v : Value) (f : UInt8) (r : List UInt8) (h : RdAt w D v (f :: r)) (hbl : (f :: r).length ≤ 1000000) (hl : f.toNat % 32 < 24) :
    Calls Tryz.prog 146 #[.pointer (some ⟨D, 0, none⟩)] w (HdE (f :: r) w D) := by
  obtain ⟨a, c, rfl⟩ := h.sl.len; have c0 := h.box.cell (i := 0) (v := .slice a (f :: r).length c) rfl; have hty := take_yes w D _ (f :: r) 1 h (by simp) hbl; have hF := f.toNat_lt; have hsl := h.sl; have hfar := h.far
  have HP := Lib.hid (show headP (f :: r) = if headOk (f :: r) ((f.toNat / 32 : Nat) : Int) ((f.toNat % 32 : Nat) : Int) 1 then some (((f.toNat / 32 : Nat) : Int), ((f.toNat % 32 : Nat) : Int), 1) else none by
    simp only [headP, headN, if_pos hl])
  have hone : headB ((f.toNat : Int) / 32) ((f.toNat : Int) % 32) = [f] := by
    rw [headB_small (by omega), show ((f.toNat : Int) / 32 * 32 + (f.toNat : Int) % 32).toNat = f.toNat by omega]; simp
  have hz : Oct.beginsB (f :: r) (headB ((f.toNat : Int) / 32) ((f.toNat : Int) % 32)) = true := by rw [hone]; simp [Oct.beginsB]
  have hel : (headB ((f.toNat : Int) / 32) ((f.toNat : Int) % 32)).length = 1 := by rw [hone]; rfl
  have hok : headOk (f :: r) ((f.toNat : Int) / 32) ((f.toNat : Int) % 32) 1 = true := by unfold headOk; rw [hz, hel]; rfl
  clear hone; rw [show (f :: r).take 1 = [f] by simp, show (f :: r).drop 1 = r by simp] at hty
  have hdm : ((f.toNat / 32 : Nat) : Int) = (f.toNat : Int) / 32 := by omega
  have hdn : ((f.toNat % 32 : Nat) : Int) = (f.toNat : Int) % 32 := by omega
  rw [hdm, hdn] at HP; rw [hok, if_pos rfl] at HP; clear hok; have HDR := Lib.hid (show (f :: r).drop 1 = r by simp)
  have hrl : (f :: r).length = r.length + 1 := by simp
  generalize hX : f :: r = b at *; generalize hL : b.length = L at *; go_enter Tryz.func146, Tryz.ntmps146
  go_wp2_with (first
    | (go_at_call 145; refine hty.mono ?_; rintro en w1 ⟨u, v', rfl, ho, hR, hb⟩; obtain ⟨au, cu, rfl⟩ := own_slice ho; obtain ⟨g, off, rfl, hcu⟩ := (Sl.of_own ho).cellAt (k := 0) (by decide) (by decide); simp only [Nat.add_zero] at hcu; rw [show (by8 [f])[0]? = some (.int .u8 f.toNat) from rfl] at hcu))
  have hfar2 : L = 0 ∨ ∀ k, (Value.slice a L c).ownBlock = some k → ¬ k = D := hfar.imp id fun h k hk => Nat.ne_of_lt (h k hk)
  have hslO := hsl.but hb hfar2; obtain ⟨ar, cr, hvr⟩ := hR.sl.len; subst hvr; have hcR := hR.box.cell (i := 0) rfl; have HR := Lib.hid hR; have HB := Lib.hid hb
  have hM0 : 0 ≤ (f.toNat : Int) / 32 := by omega
  have hM7 : (f.toNat : Int) / 32 ≤ 7 := by omega
  have hN0 : 0 ≤ (f.toNat : Int) % 32 := by omega
  have hN1 : (f.toNat : Int) % 32 ≤ 18446744073709551615 := by omega
  generalize (f.toNat : Int) / 32 = M at *; generalize (f.toNat : Int) % 32 = N at *; generalize hLR : r.length = LR at *; have HRL := Lib.hid hrl; clear hrl hLR hL hX; refine wp_region_pi [(0, false), (1, false), (2, false), (3, true), (4, true), (5, false), (6, false), (7, false), (8, false), (9, false), (10, false), (11, false), (12, false), (13, false), (14, false), (15, false), (16, true), (17, false), (18, false), (19, false), (20, true)] (by kernel_rfl) (by kernel_rfl) (by kernel_rfl) rfl (fun _ _ d _ _ h => by cases d <;> exact h) (fun Wd hBd => ?_)
  try simp only [zq]
  have c1 : ∀ w', Below Wd.heap.size Wd w' → w'.cell? ⟨D, 0, none⟩ = some (.slice ar LR cr) := fun w' h => cell_up h (cell_up hBd hcR)
  refine zi rfl (by rfl) ?_; refine zi rfl (by rfl) ?_; refine zi rfl (by rfl) ?_; refine pi_call rfl (by rfl) ((head_c M N Wd hM0 hM7 hN0 hN1)) enters_headC (by rfl) (by kernel_rfl) ?_; rintro en wN ⟨v1, rfl, ho1, hb1⟩; obtain ⟨a1, c1', rfl⟩ := own_slice ho1
  have c1 : ∀ w', Below wN.heap.size wN w' → w'.cell? ⟨D, 0, none⟩ = some (.slice ar LR cr) := fun w' h => c1 w' (below_up hb1 h)
  have hslW := (hslO.up hBd).up hb1; refine ⟨_, rfl, hb1, ?_⟩
  try simp only [zq]
  refine pi_call rfl (by rfl) ((begins_c _ (headB M N) _ _ _ _ _ hslW (Sl.of_own ho1) (by omega))) enters_begins (by rfl) (by kernel_rfl) ?_; rintro en wN ⟨rfl, hb2⟩; rw [hz]
  have c1 : ∀ w', Below wN.heap.size wN w' → w'.cell? ⟨D, 0, none⟩ = some (.slice ar LR cr) := fun w' h => c1 w' (below_up hb2 h)
  refine ⟨_, rfl, hb2, ?_⟩
  try simp only [zq]
  iterate 8
    refine zi rfl (by rfl) ?_
  refine pi_q (v := .int .i64 (1 : Int)) rfl (by rfl) (fun w' hBw' => by have hrl := HRL.out; go_simp; rw [wrap_i64 (by omega) (by omega)]; omega) ?_
  try simp only [zq]
  refine zi rfl (by rfl) ?_; refine zi rfl (by rfl) ?_; refine pi_call rfl (by rfl) ((head_c M N _ hM0 hM7 hN0 hN1)) enters_headC (by rfl) (by kernel_rfl) ?_; rintro en wN ⟨v3, rfl, ho3, hb3⟩; obtain ⟨a3, c3', rfl⟩ := own_slice ho3; refine ⟨_, rfl, hb3, ?_⟩
  try simp only [zq]
  refine zi rfl (by rfl) ?_; refine pi_q (v := .bool true) rfl (by rfl) (fun w' hBw' => by have hrl := HRL.out; go_simp; try omega) ?_
  try simp only [zq]
  refine zi rfl (by rfl) ?_; refine pi_call rfl (by rfl) ((must_yes 121 _)) enters_must (by rfl) (by kernel_rfl) ?_; rintro en wN ⟨rfl, rfl⟩; refine ⟨_, rfl, (Below.refl _ _), ?_⟩
  try simp only [zq]
  refine pi_nil ?_; go_wp2; have hbw := below_up (below_up (below_up hBd hb1) hb2) hb3
  have hfin : HdE b w D (.returned (.tuple #[.int .i64 M, .int .u64 N])) wN := by
    refine ⟨HB.out.trans (But.of_below hbw), ?_⟩; rw [HP.out]; exact ⟨rfl, _, by rw [HDR.out]; exact HR.out.up hbw⟩
  go_ret2
  exact hfin
end Go.Proofs.YtpkonagjnfphkaaGreatDoor
namespace Go.Proofs.YtpkonagjnfphkaaGreatDoor
open Go.RowKit
namespace Cb
inductive It where
  | mk (k n : Int) (b : List UInt8) (s : ByteArray) (l : List It)
def It.k : It → Int | .mk k _ _ _ _ => k
def It.n : It → Int | .mk _ n _ _ _ => n
def It.b : It → List UInt8 | .mk _ _ b _ _ => b
def It.s : It → ByteArray | .mk _ _ _ s _ => s
def It.l : It → List It | .mk _ _ _ _ l => l
mutual
def cnt : It → Nat
  | .mk _ _ b s l => 1 + b.length + s.size + cntL l
def cntL : List It → Nat
  | [] => 0
  | x :: l => cnt x + cntL l
end
theorem cnt_pos : ∀ x : It, 1 ≤ cnt x
  | .mk _ _ b s l => by simp only [cnt]; omega
theorem cntL_mem : ∀ {l : List It} {x : It}, x ∈ l → cnt x ≤ cntL l
  | y :: l, x, h => by
    simp only [cntL]; rcases List.mem_cons.1 h with rfl | h
    · omega
    · have := cntL_mem h; omega
theorem cnt_mem {x y : It} (h : y ∈ x.l) : cnt y < cnt x := by
  cases x with
  | mk k n b s l =>
    have := cntL_mem (l := l) h; simp only [cnt]; omega
theorem cntL_len : ∀ l : List It, l.length ≤ cntL l
  | [] => Nat.le_refl _
  | x :: l => by have := cnt_pos x; have := cntL_len l; simp only [cntL, List.length_cons]; omega
theorem cntL_app : ∀ l m : List It, cntL (l ++ m) = cntL l + cntL m
  | [], m => by simp [cntL]
  | x :: l, m => by simp only [List.cons_append, cntL, cntL_app l m]; omega
theorem It.ind {p : It → Prop} (h : ∀ x : It, (∀ y ∈ x.l, p y) → p x) (x : It) : p x := by
  suffices ∀ n (x : It), cnt x ≤ n → p x from this _ x (Nat.le_refl _)
  intro n
  induction n with
  | zero => intro x hx; have := cnt_pos x; omega
  | succ n ih => intro x hx; exact h x fun y hy => ih y (by have := cnt_mem hy; omega)
structure Rw where
  k : Int
  n : Int
  b : Value
  s : ByteArray
  l : Value
end Cb
open Cb
abbrev rwC (r : Rw) : List Value := [.int .i64 r.k, .int .u64 r.n, r.b, .string r.s, r.l]
abbrev rwV (r : Rw) : Value := .agg (rwC r).toArray
def SlS (S : Nat → Prop) (w : World) (sz : Nat) (v : Value) (n : Nat) (cs : List Value) : Prop := Sl w sz v n cs ∧ (n = 0 ∨ ∀ k, v.ownBlock = some k → S k)
theorem SlS.but {S : Nat → Prop} {w w' : World} {sz : Nat} {v : Value} {n : Nat} {cs : List Value} (h : SlS S w sz v n cs) {O : Nat → Prop} (hb : But O w w') (hO : ∀ k, S k → ¬ O k) : SlS S w' sz v n cs :=
  ⟨h.1.but hb (h.2.imp id fun h k hk => hO k (h k hk)), h.2⟩
theorem SlS.mono {S S' : Nat → Prop} {w : World} {sz : Nat} {v : Value} {n : Nat} {cs : List Value} (h : SlS S w sz v n cs) (hS : ∀ k, S k → S' k) : SlS S' w sz v n cs := ⟨h.1, h.2.imp id fun h k hk => hS k (h k hk)⟩
theorem SlS.up {S : Nat → Prop} {w w' : World} {sz : Nat} {v : Value} {n : Nat} {cs : List Value} (h : SlS S w sz v n cs) (hb : Below w.heap.size w w') : SlS S w' sz v n cs := ⟨h.1.up hb, h.2⟩
theorem SlS.cell {S : Nat → Prop} {w : World} {sz : Nat} {v : Value} {n : Nat} {cs : List Value} (h : SlS S w sz v n cs) : ∃ a c, v = .slice a n c := h.1.len
mutual
def ItR (S : Nat → Prop) (w : World) : It → Rw → Prop
  | .mk k n b s l, r => r.k = k ∧ r.n = n ∧ r.s = s ∧ (0 ≤ n ∧ n ≤ 18446744073709551615) ∧ SlS S w 1 r.b b.length (by8 b) ∧ ∃ rows : List Rw, SlS S w 5 r.l l.length (rows.flatMap rwC) ∧ ItsR S w l rows
def ItsR (S : Nat → Prop) (w : World) : List It → List Rw → Prop
  | [], rows => rows = []
  | x :: l, rows => ∃ r rs, rows = r :: rs ∧ ItR S w x r ∧ ItsR S w l rs
end
theorem ItsR.len {S : Nat → Prop} {w : World} : ∀ {l : List It} {rows : List Rw}, ItsR S w l rows → rows.length = l.length
  | [], rows, h => by simp only [ItsR] at h; rw [h]; rfl
  | x :: l, rows, h => by
    simp only [ItsR] at h; obtain ⟨r, rs, rfl, _, h⟩ := h; simp [ItsR.len h]
theorem ItsR.get {S : Nat → Prop} {w : World} : ∀ {l : List It} {rows : List Rw}, ItsR S w l rows → ∀ {i : Nat} (hi : i < l.length) (hr : i < rows.length), ItR S w l[i] rows[i]
  | [], rows, h, i, hi, hr => by simp at hi
  | x :: l, rows, h, i, hi, hr => by
    simp only [ItsR] at h; obtain ⟨r, rs, rfl, h1, h2⟩ := h
    cases i with
    | zero => exact h1
    | succ i => exact ItsR.get h2 (by simpa using hi) (by simpa using hr)
theorem ItsR.of {S : Nat → Prop} {w : World} : ∀ {l : List It} {rows : List Rw}, rows.length = l.length → (∀ (i : Nat) (hi : i < l.length) (hr : i < rows.length), ItR S w l[i] rows[i]) → ItsR S w l rows
  | [], rows, hl, _ => by simp only [ItsR]; exact List.eq_nil_of_length_eq_zero hl
  | x :: l, [], hl, _ => by simp at hl
  | x :: l, r :: rs, hl, h => by
    simp only [ItsR]; exact ⟨r, rs, rfl, h 0 (by simp) (by simp), ItsR.of (by simpa using hl) fun i hi hr => h (i + 1) (by simpa using hi) (by simpa using hr)⟩
theorem ItsR.snoc {S : Nat → Prop} {w : World} : ∀ {l : List It} {rows : List Rw} {x : It} {r : Rw}, ItsR S w l rows → ItR S w x r → ItsR S w (l ++ [x]) (rows ++ [r])
  | [], rows, x, r, h, hx => by
    simp only [ItsR] at h; subst h; simp only [List.nil_append, ItsR]; exact ⟨r, [], rfl, hx, rfl⟩
  | y :: l, rows, x, r, h, hx => by
    simp only [ItsR] at h; obtain ⟨q, rs, rfl, h1, h2⟩ := h; simp only [List.cons_append, ItsR]; exact ⟨q, rs ++ [r], rfl, h1, ItsR.snoc h2 hx⟩
theorem ItR.turn {S S' : Nat → Prop} {w w' : World} (hs : ∀ (sz : Nat) (v : Value) (n : Nat) (cs : List Value), SlS S w sz v n cs → SlS S' w' sz v n cs) : ∀ (x : It) (r : Rw), ItR S w x r → ItR S' w' x r := by
  intro x
  induction x using It.ind with
  | h x ih =>
    intro r h
    cases x with
    | mk k n b s l =>
      simp only [ItR] at h ⊢; obtain ⟨h1, h2, h3, h4, h5, rows, h6, h7⟩ := h; refine ⟨h1, h2, h3, h4, hs _ _ _ _ h5, rows, hs _ _ _ _ h6, ItsR.of h7.len fun i hi hr => ?_⟩; exact ih l[i] (List.getElem_mem hi) _ (h7.get hi hr)
theorem ItR.but {S : Nat → Prop} {w w' : World} {x : It} {r : Rw} (h : ItR S w x r) {O : Nat → Prop} (hb : But O w w') (hO : ∀ k, S k → ¬ O k) : ItR S w' x r := ItR.turn (fun _ _ _ _ h => h.but hb hO) x r h
theorem ItR.up {S : Nat → Prop} {w w' : World} {x : It} {r : Rw} (h : ItR S w x r) (hb : Below w.heap.size w w') : ItR S w' x r := ItR.turn (fun _ _ _ _ h => h.up hb) x r h
theorem ItR.mono {S S' : Nat → Prop} {w : World} {x : It} {r : Rw} (h : ItR S w x r) (hS : ∀ k, S k → S' k) : ItR S' w x r := ItR.turn (fun _ _ _ _ h => h.mono hS) x r h
theorem ItsR.turn {S S' : Nat → Prop} {w w' : World} (hs : ∀ (sz : Nat) (v : Value) (n : Nat) (cs : List Value), SlS S w sz v n cs → SlS S' w' sz v n cs) {l : List It} {rows : List Rw} (h : ItsR S w l rows) : ItsR S' w' l rows :=
  ItsR.of h.len fun i hi hr => ItR.turn hs _ _ (h.get hi hr)
theorem ItsR.up {S : Nat → Prop} {w w' : World} {l : List It} {rows : List Rw} (h : ItsR S w l rows) (hb : Below w.heap.size w w') : ItsR S w' l rows := h.turn (fun _ _ _ _ h => h.up hb)
structure Parts (S : Nat → Prop) (w : World) (x : It) (r : Rw) (rows : List Rw) : Prop where
  k : r.k = x.k
  n : r.n = x.n
  s : r.s = x.s
  lo : 0 ≤ x.n
  hi : x.n ≤ 18446744073709551615
  b : SlS S w 1 r.b x.b.length (by8 x.b)
  l : SlS S w 5 r.l x.l.length (rows.flatMap rwC)
  each : ItsR S w x.l rows
theorem ItR.parts {S : Nat → Prop} {w : World} {x : It} {r : Rw} (h : ItR S w x r) : ∃ rows, Parts S w x r rows := by
  cases x with
  | mk k n b s l =>
    simp only [ItR] at h; obtain ⟨h1, h2, h3, h4, h5, rows, h6, h7⟩ := h; exact ⟨rows, h1, h2, h3, h4.1, h4.2, h5, h6, h7⟩
theorem Parts.it {S : Nat → Prop} {w : World} {x : It} {r : Rw} {rows : List Rw} (h : Parts S w x r rows) : ItR S w x r := by
  cases x with
  | mk k n b s l =>
    simp only [ItR]; exact ⟨h.k, h.n, h.s, ⟨h.lo, h.hi⟩, h.b, rows, h.l, h.each⟩
end Go.Proofs.YtpkonagjnfphkaaGreatDoor
