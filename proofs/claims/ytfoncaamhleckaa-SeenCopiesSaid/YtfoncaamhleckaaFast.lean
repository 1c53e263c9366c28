/-
  The checks on an order of a drawn region, quick for the kernel: what is listed is a number's bits.
-/
import Derived.Test.YtfoncaamhleckaaPz
namespace Go.Proofs.Ytfoncaamhleckaa
open Go.RowKit
set_option linter.unusedSimpArgs false
set_option linter.unusedVariables false

section
variable {md : Region.Mode} {ops : Array Oper}

/-- On which an operation waits, as bits. -/
def maskOf (md : Region.Mode) (l : List Edge) : Nat := l.foldr (fun e m => if Region.binds md e then m ||| (1 <<< e.on) else m) 0
theorem maskOf_bit (l : List Edge) (k : Nat) : (maskOf md l).testBit k = l.any (fun e => Region.binds md e && e.on == k) := by
  induction l with
  | nil => simp [maskOf]
  | cons e r ih =>
    rw [maskOf, List.foldr_cons, List.any_cons]
    rw [maskOf] at ih
    by_cases hb : Region.binds md e = true
    · rw [if_pos hb, Nat.testBit_or, ih, hb, Bool.true_and, Bool.or_comm, Nat.one_shiftLeft, Nat.testBit_two_pow]
      congr 1
    · rw [if_neg hb, ih]
      simp [hb]
/-- All masks in one number, w bits each. -/
def masksN (md : Region.Mode) (w : Nat) (l : List Oper) : Nat := l.foldr (fun o m => (m <<< w) + maskOf md o.after.toList % 2 ^ w) 0
def maskAt (w M i : Nat) : Nat := (M >>> (w * i)) % 2 ^ w
theorem maskAt_spec (w : Nat) : ∀ (l : List Oper) (i : Nat) (hi : i < l.length), maskAt w (masksN md w l) i = maskOf md l[i].after.toList % 2 ^ w
  | [], i, hi => by simp at hi
  | o :: r, 0, _ => by
    simp only [maskAt, masksN, List.foldr_cons, Nat.mul_zero, Nat.shiftRight_zero, List.getElem_cons_zero]
    rw [Nat.shiftLeft_eq, Nat.add_mod, Nat.mul_mod_left, Nat.zero_add, Nat.mod_mod, Nat.mod_mod]
  | o :: r, i + 1, hi => by
    have ih := maskAt_spec w r i (by simpa using hi)
    simp only [maskAt, List.getElem_cons_succ] at ih ⊢
    rw [← ih]
    simp only [masksN, List.foldr_cons]
    rw [Nat.mul_add, Nat.mul_one, Nat.add_comm (w * i) w, Nat.shiftRight_add]
    congr 2
    rw [Nat.shiftRight_eq_div_pow, Nat.shiftLeft_eq, Nat.add_comm, Nat.add_mul_div_right _ _ (Nat.two_pow_pos w), Nat.div_eq_of_lt (Nat.mod_lt _ (Nat.two_pow_pos w)), Nat.zero_add]

structure Rep (listed : Array Bool) (n m : Nat) : Prop where
  size : listed.size = n
  bit : ∀ j, j < n → listed.getD j false = m.testBit j
theorem Rep.getT {listed : Array Bool} {n m : Nat} (h : Rep listed n m) {j : Nat} (hj : j < n) (d : Bool) : listed.getD j d = m.testBit j := by
  rw [← h.bit j hj]
  simp [Array.getD, h.size, hj]
theorem Rep.start (n : Nat) : Rep (Array.replicate n false) n 0 := ⟨by simp, fun j hj => by simp [Array.getD, hj]⟩
theorem Rep.set {listed : Array Bool} {n m : Nat} (h : Rep listed n m) (i : Nat) : Rep (listed.setIfInBounds i true) n (m ||| (1 <<< i)) := by
  refine ⟨by simp [h.size], fun j hj => ?_⟩
  rw [Nat.testBit_or, Nat.one_shiftLeft, Nat.testBit_two_pow]
  by_cases hij : i = j
  · subst hij
    simp [Array.getD, h.size, hj]
  · rw [getD_set_ne false hij, h.bit j hj]
    simp [hij]

/-- The masks are right. -/
structure Msk (md : Region.Mode) (ops : Array Oper) (n M : Nat) : Prop where
  size : ops.size = n
  at_ : ∀ i (hi : i < ops.size) k, k < n → (maskAt n M i).testBit k = ops[i].after.any (fun e => Region.binds md e && e.on == k)
  low : ∀ i (hi : i < ops.size), ∀ e ∈ ops[i].after, Region.binds md e = true → e.on < n
def rdyF (n M m i : Nat) : Bool := !m.testBit i && (maskAt n M i &&& m == maskAt n M i)
theorem rdy_iff {listed : Array Bool} {n M m i : Nat} (hM : Msk md ops n M) (h : Rep listed n m) (hi : i < n) : rdyF n M m i = true ↔ i ∈ Region.ready md ops listed := by
  have hio : i < ops.size := by rw [hM.size]; exact hi
  rw [mem_ready, h.getT hi]
  simp only [rdyF, Bool.and_eq_true, Bool.not_eq_true', beq_iff_eq]
  constructor
  · rintro ⟨h0, h1⟩
    refine ⟨h0, ops[i], Array.getElem?_eq_getElem hio, fun e he hb => ?_⟩
    have hlt := hM.low i hio e he hb
    rw [h.getT hlt]
    have hb1 : (maskAt n M i).testBit e.on = true := by
      rw [hM.at_ i hio e.on hlt, Array.any_eq_true']
      exact ⟨e, he, by simp [hb]⟩
    rw [← h1, Nat.testBit_and] at hb1
    exact (Bool.and_eq_true_iff.1 hb1).2
  · rintro ⟨h0, o, ho, h1⟩
    refine ⟨h0, Nat.eq_of_testBit_eq fun k => ?_⟩
    obtain rfl : ops[i] = o := by rw [Array.getElem?_eq_getElem hio] at ho; exact Option.some.inj ho
    rw [Nat.testBit_and]
    by_cases hk : k < n
    · cases hq : (maskAt n M i).testBit k with
      | false => rfl
      | true =>
        rw [hM.at_ i hio k hk, Array.any_eq_true'] at hq
        obtain ⟨e, he, hb⟩ := hq
        simp only [Bool.and_eq_true, beq_iff_eq] at hb
        have := h1 e he hb.1
        rw [hb.2, h.bit k hk] at this
        rw [this]; rfl
    · have : (maskAt n M i).testBit k = false := by
        unfold maskAt
        rw [Nat.testBit_mod_two_pow]
        simp [hk]
      rw [this]; rfl
theorem only_ready {listed : Array Bool} {n M m i : Nat} (hM : Msk md ops n M) (h : Rep listed n m) (hi : i < n) (h1 : rdyF n M m i = true) (h2 : ∀ j, j < n → j ≠ i → rdyF n M m j = false) : Region.ready md ops listed = [i] := by
  have hnd : (Region.ready md ops listed).Nodup := List.Pairwise.sublist List.filter_sublist List.nodup_range
  have hm := (rdy_iff hM h hi).1 h1
  have hall : ∀ j ∈ Region.ready md ops listed, j = i := fun j hj => by
    have hjn : j < n := by
      unfold Region.ready at hj
      rw [List.mem_filter, List.mem_range, hM.size] at hj
      exact hj.1
    exact Decidable.byContradiction fun hne => by
      have := h2 j hjn hne
      rw [(rdy_iff hM h hjn).2 hj] at this
      cases this
  generalize Region.ready md ops listed = l at *
  cases l with
  | nil => cases hm
  | cons a r =>
    obtain rfl := hall a (by simp)
    cases r with
    | nil => rfl
    | cons b r =>
      have hb := hall b (by simp)
      subst hb
      simp at hnd
/-- No two write one slot; who looks at what another one writes waits for it, or is waited for. -/
def ssaF (n M : Nat) (ops : Array Oper) : Bool :=
  (List.range n).all fun p => match (ops[p]?).bind (·.dst) with
    | none => true
    | some d => (List.range n).all fun j => j == p || (match ops[j]? with
      | none => true
      | some o => o.dst != some d && (!(o.looksAt ops).contains d || ((maskAt n M j).testBit p || (maskAt n M p).testBit j)))
theorem free_of {listed : Array Bool} {n M m i : Nat} (hM : Msk md ops n M) (h : Rep listed n m) (hi : i < n) (hr : rdyF n M m i = true) (hs : ssaF n M ops = true) : Region.free md ops listed i = true := by
  have hio : i < ops.size := by rw [hM.size]; exact hi
  unfold Region.free
  rw [Array.getElem?_eq_getElem hio]
  simp only [List.all_eq_true, List.mem_range, Bool.or_eq_true, beq_iff_eq]
  intro j hj
  have hjn : j < n := by rw [← hM.size]; exact hj
  by_cases hji : j = i
  · exact .inl (.inl hji)
  cases hlj : listed.getD j true with
  | true => exact .inl (.inr rfl)
  | false =>
    refine .inr ?_
    rw [Array.getElem?_eq_getElem hj]
    simp only [Bool.or_eq_true]
    cases hw : ops[j].after.any (fun e => Region.binds md e && e.on == i) with
    | true => exact .inl rfl
    | false =>
      refine .inr ?_
      have hwj : (maskAt n M j).testBit i = false := by rw [hM.at_ j hj i hi]; exact hw
      have hwi : (maskAt n M i).testBit j = false := by
        cases hq : (maskAt n M i).testBit j with
        | false => rfl
        | true =>
          simp only [rdyF, Bool.and_eq_true, beq_iff_eq] at hr
          rw [← hr.2, Nat.testBit_and] at hq
          have := (Bool.and_eq_true_iff.1 hq).2
          rw [h.getT hjn, this] at hlj
          cases hlj
      simp only [ssaF, List.all_eq_true, List.mem_range] at hs
      unfold Oper.apart
      rw [Bool.and_eq_true]
      constructor
      · cases hd : ops[i].dst with
        | none => rfl
        | some d =>
          have := hs i hi
          rw [Array.getElem?_eq_getElem hio] at this
          simp only [Option.bind_some, hd, List.all_eq_true, List.mem_range] at this
          have := this j hjn
          rw [Array.getElem?_eq_getElem hj] at this
          simp only [Bool.or_eq_true, beq_iff_eq, hji, false_or, Bool.and_eq_true, hwj, hwi, Bool.false_eq_true, or_false] at this
          simp only [Bool.and_eq_true]
          exact ⟨this.2, this.1⟩
      · cases hd : ops[j].dst with
        | none => rfl
        | some d =>
          have := hs j hjn
          rw [Array.getElem?_eq_getElem hj] at this
          simp only [Option.bind_some, hd, List.all_eq_true, List.mem_range] at this
          have := this i hi
          rw [Array.getElem?_eq_getElem hio] at this
          simp only [Bool.or_eq_true, beq_iff_eq, Ne.symm hji, false_or, Bool.and_eq_true, hwj, hwi, Bool.false_eq_true, or_false] at this
          exact this.2

def mskF (md : Region.Mode) (n : Nat) (ops : Array Oper) : Bool := ops.toList.all fun o => o.after.toList.all fun e => !Region.binds md e || decide (e.on < n)
theorem msk_of {n : Nat} (hn : ops.size = n) (h : mskF md n ops = true) : Msk md ops n (masksN md n ops.toList) := by
  refine ⟨hn, fun i hi k hk => ?_, fun i hi e he hb => ?_⟩
  · rw [maskAt_spec n ops.toList i (by simpa using hi), Nat.testBit_mod_two_pow, maskOf_bit]
    simp [hk]
  · simp only [mskF, List.all_eq_true, Bool.or_eq_true, Bool.not_eq_true', decide_eq_true_eq] at h
    have := h ops[i] (by simp) e (by simpa using he)
    exact this.resolve_left (by simp [hb])

def onlyF (n M m i : Nat) : Bool := rdyF n M m i && (List.range n).all fun j => j == i || !rdyF n M m j
def noneF (n M m : Nat) : Bool := (List.range n).all fun j => !rdyF n M m j
/-- The order's check. -/
def piFB (n M : Nat) : List (Nat × Bool) → Nat → Bool
  | [], m => noneF n M m
  | (i, false) :: r, m => decide (i < n) && (rdyF n M m i && piFB n M r (m ||| (1 <<< i)))
  | (i, true) :: r, m => decide (i < n) && (onlyF n M m i && piFB n M r (m ||| (1 <<< i)))
theorem none_ready {listed : Array Bool} {n M m : Nat} (hM : Msk md ops n M) (h : Rep listed n m) (hn : noneF n M m = true) : Region.ready md ops listed = [] := by
  refine List.eq_nil_iff_forall_not_mem.2 fun j hj => ?_
  have hjn : j < n := by
    have := hj
    unfold Region.ready at this
    rw [List.mem_filter, List.mem_range, hM.size] at this
    exact this.1
  simp only [noneF, List.all_eq_true, List.mem_range] at hn
  have := hn j hjn
  rw [(rdy_iff hM h hjn).2 hj] at this
  cases this
theorem only_of {listed : Array Bool} {n M m i : Nat} (hM : Msk md ops n M) (h : Rep listed n m) (hi : i < n) (ho : onlyF n M m i = true) : Region.ready md ops listed = [i] := by
  simp only [onlyF, Bool.and_eq_true, List.all_eq_true, List.mem_range, Bool.or_eq_true, beq_iff_eq, Bool.not_eq_true'] at ho
  exact only_ready hM h hi ho.1 fun j hj hne => (ho.2 j hj).resolve_left hne
theorem piB_of {n M : Nat} (hM : Msk md ops n M) (hs : ssaF n M ops = true) : ∀ (r : List (Nat × Bool)) (listed : Array Bool) (m : Nat), Rep listed n m → piFB n M r m = true → piB md ops r listed = true
  | [], listed, m, h, hb => by
    rw [piB, none_ready hM h hb]; rfl
  | (i, false) :: r, listed, m, h, hb => by
    simp only [piFB, Bool.and_eq_true, decide_eq_true_eq] at hb
    simp only [piB, Bool.and_eq_true]
    exact ⟨⟨by simpa using (rdy_iff hM h hb.1).1 hb.2.1, free_of hM h hb.1 hb.2.1 hs⟩, piB_of hM hs r _ _ (h.set i) hb.2.2⟩
  | (i, true) :: r, listed, m, h, hb => by
    simp only [piFB, Bool.and_eq_true, decide_eq_true_eq] at hb
    simp only [piB, Bool.and_eq_true, decide_eq_true_eq]
    exact ⟨only_of hM h hb.1 hb.2.1, piB_of hM hs r _ _ (h.set i) hb.2.2⟩
/-- All checks at once. -/
def fastPi (n : Nat) (ops : Array Oper) (r : List (Nat × Bool)) : Bool :=
  mskF .any n ops && (ssaF n (masksN .any n ops.toList) ops && piFB n (masksN .any n ops.toList) r 0)
theorem piB_fast {r : List (Nat × Bool)} (h : fastPi ops.size ops r = true) : piB .any ops r (Array.replicate ops.size false) = true := by
  simp only [fastPi, Bool.and_eq_true] at h
  exact piB_of (msk_of rfl h.1) h.2.1 r _ _ (Rep.start _) h.2.2

/-- The same for a tree of orders. -/
def ptFB (n M : Nat) : Pt → Nat → Bool
  | .done, m => noneF n M m
  | .q i t, m => decide (i < n) && (rdyF n M m i && ptFB n M t (m ||| (1 <<< i)))
  | .c i t, m => decide (i < n) && (onlyF n M m i && ptFB n M t (m ||| (1 <<< i)))
  | _, _ => false
theorem ptB_of {n M : Nat} (hM : Msk md ops n M) (hs : ssaF n M ops = true) : ∀ (t : Pt) (listed : Array Bool) (m : Nat), Rep listed n m → ptFB n M t m = true → ptB md ops t listed = true
  | .done, listed, m, h, hb => by
    rw [ptB, none_ready hM h hb]; rfl
  | .q i t, listed, m, h, hb => by
    simp only [ptFB, Bool.and_eq_true, decide_eq_true_eq] at hb
    simp only [ptB, Bool.and_eq_true]
    exact ⟨⟨by simpa using (rdy_iff hM h hb.1).1 hb.2.1, free_of hM h hb.1 hb.2.1 hs⟩, ptB_of hM hs t _ _ (h.set i) hb.2.2⟩
  | .c i t, listed, m, h, hb => by
    simp only [ptFB, Bool.and_eq_true, decide_eq_true_eq] at hb
    simp only [ptB, Bool.and_eq_true, decide_eq_true_eq]
    exact ⟨only_of hM h hb.1 hb.2.1, ptB_of hM hs t _ _ (h.set i) hb.2.2⟩
  | .f _ _ _ _, _, _, _, hb => by simp [ptFB] at hb
  | .g _ _ _ _ _ _, _, _, _, hb => by simp [ptFB] at hb
def fastPt (n : Nat) (ops : Array Oper) (t : Pt) : Bool :=
  mskF .any n ops && (ssaF n (masksN .any n ops.toList) ops && ptFB n (masksN .any n ops.toList) t 0)
theorem ptB_fast {t : Pt} (h : fastPt ops.size ops t = true) : ptB .any ops t (Array.replicate ops.size false) = true := by
  simp only [fastPt, Bool.and_eq_true] at h
  exact ptB_of (msk_of rfl h.1) h.2.1 t _ _ (Rep.start _) h.2.2
def pzFB (n M z : Nat) : Pt → Nat → Bool
  | .done, m => decide (z < n) && (onlyF n M m z && noneF n M (m ||| (1 <<< z)))
  | .q i t, m => decide (i < n) && (rdyF n M m i && ((maskAt n M z).testBit i && pzFB n M z t (m ||| (1 <<< i))))
  | .c i t, m => decide (i < n) && (onlyF n M m i && pzFB n M z t (m ||| (1 <<< i)))
  | _, _ => false
theorem waits_of {n M z i : Nat} (hM : Msk md ops n M) (hz : z < n) (hi : i < n) (h : (maskAt n M z).testBit i = true) : Region.waitsFor md ops z i = true := by
  have hzo : z < ops.size := by rw [hM.size]; exact hz
  unfold Region.waitsFor
  rw [Array.getElem?_eq_getElem hzo]
  rwa [hM.at_ z hzo i hi] at h
theorem pzB_of {n M z : Nat} (hM : Msk md ops n M) (hz : z < n) (hs : ssaF n M ops = true) : ∀ (t : Pt) (listed : Array Bool) (m : Nat), Rep listed n m → pzFB n M z t m = true → pzB md ops z t listed = true
  | .done, listed, m, h, hb => by
    simp only [pzFB, Bool.and_eq_true, decide_eq_true_eq] at hb
    simp only [pzB, Bool.and_eq_true, decide_eq_true_eq]
    exact ⟨only_of hM h hz hb.2.1, by rw [none_ready hM (h.set z) hb.2.2]; rfl⟩
  | .q i t, listed, m, h, hb => by
    simp only [pzFB, Bool.and_eq_true, decide_eq_true_eq] at hb
    simp only [pzB, Bool.and_eq_true]
    exact ⟨⟨⟨by simpa using (rdy_iff hM h hb.1).1 hb.2.1, free_of hM h hb.1 hb.2.1 hs⟩, waits_of hM hz hb.1 hb.2.2.1⟩, pzB_of hM hz hs t _ _ (h.set i) hb.2.2.2⟩
  | .c i t, listed, m, h, hb => by
    simp only [pzFB, Bool.and_eq_true, decide_eq_true_eq] at hb
    simp only [pzB, Bool.and_eq_true, decide_eq_true_eq]
    exact ⟨only_of hM h hb.1 hb.2.1, pzB_of hM hz hs t _ _ (h.set i) hb.2.2⟩
  | .f _ _ _ _, _, _, _, hb => by simp [pzFB] at hb
  | .g _ _ _ _ _ _, _, _, _, hb => by simp [pzFB] at hb
def fastPz (n z : Nat) (ops : Array Oper) (t : Pt) : Bool :=
  decide (z < n) && (mskF .any n ops && (ssaF n (masksN .any n ops.toList) ops && pzFB n (masksN .any n ops.toList) z t 0))
theorem pzB_fast {t : Pt} {z : Nat} (h : fastPz ops.size z ops t = true) : pzB .any ops z t (Array.replicate ops.size false) = true := by
  simp only [fastPz, Bool.and_eq_true, decide_eq_true_eq] at h
  exact pzB_of (msk_of rfl h.2.1) h.1 h.2.2.1 t _ _ (Rep.start _) h.2.2.2
end

section
variable {P : Program} {ops : Array Oper} {Q : Exit → Act → World → Prop}
/-- The region's laws with the operations held by a local name, so that no step's simp walks through them. -/
theorem wp_region_piL {id : Nat} {a : Act} {w : World} (r : List (Nat × Bool)) (hm : P.follows .mixedOrders = true) (hs : Region.noSelect ops = true) (hB : fastPi ops.size ops r = true) (hl : r.length = ops.size)
    (hQ : ∀ c (a : Act) d v w, Q (.panic c) (a.put d v) w → Q (.panic c) a w) (h : ∀ O, Hid (ops = O) → ∀ Wd, Below w.heap.size w Wd → wpPi P O Q r a Wd) : (Code.region id ops true).wp P Q a w :=
  wp_region_pi r hm hs (piB_fast hB) hl hQ (h ops (Lib.hid rfl))
theorem wp_region_ptL {id : Nat} {a : Act} {w : World} (O : Nat → Prop) (t : Pt) (hm : P.follows .mixedOrders = true) (hs : Region.noSelect ops = true) (hB : fastPt ops.size ops t = true) (hl : t.len ≤ ops.size)
    (hQ : ∀ c (a : Act) d v w, Q (.panic c) (a.put d v) w → Q (.panic c) a w) (h : ∀ L, Hid (ops = L) → ∀ Wd, Below w.heap.size w Wd → wpPt P O L Q t a Wd) : (Code.region id ops true).wp P Q a w :=
  wp_region_pt O t hm hs (ptB_fast hB) hl hQ (h ops (Lib.hid rfl))
theorem wp_region_pzL {id : Nat} {a : Act} {w : World} (O : Nat → Prop) (n : Nat) (t : Pt) (hm : P.follows .mixedOrders = true) (hs : Region.noSelect ops = true) (hB : fastPz ops.size n ops t = true) (hl : t.len + 1 ≤ ops.size)
    (hQ : ∀ c (a : Act) d v w, Q (.panic c) (a.put d v) w → Q (.panic c) a w) (h : ∀ L, Hid (ops = L) → ∀ Wd, Below w.heap.size w Wd → wpPt P O L (lastQ P L Q n) t a Wd) : (Code.region id ops true).wp P Q a w :=
  wp_region_pz O n t hm hs (pzB_fast hB) hl hQ (h ops (Lib.hid rfl))

/-- A call of a function by its number. -/
theorem exec_call {o : Oper} {a : Act} {w : World} {f : FuncId} {xs : Array Operand} {ts : Array TypeId} (ho : o.op = .call { callee := .value (.func f), args := xs, argTypes := ts }) {args : List Value} (hx : xs.toList.map a.eval = args)
    (he : Enters P f) : (execOp a.eval o).run P w = .ok (.enter f args.toArray) w := by
  have e : xs.map a.eval = args.toArray := by rw [← hx, ← Array.toList_map]
  unfold execOp
  simp only [ho, resolve, Sem.run_bind]
  rw [e]
  have hv : a.eval (.func f) = .func (.func f) #[] #[] := rfl
  rw [hv]
  simp only [Deferred.ofValue, Sem.run_pure, Result.andThen_ok, invoke]
  rw [Array.append_empty, Array.empty_append]
  exact he _ _
theorem wp_call {o : Oper} {a : Act} {w : World} {K : Act → World → Prop} {f : FuncId} {xs : Array Operand} {ts : Array TypeId} (ho : o.op = .call { callee := .value (.func f), args := xs, argTypes := ts }) {args : List Value} (hx : xs.toList.map a.eval = args)
    (he : Enters P f) {R : Ending → World → Prop} (hc : Calls P f args.toArray w R) (h : ∀ e w', R e w' → ∃ v, e = .returned v ∧ K (a.put o.dst v) w') : o.wp P a w K Q := by
  unfold Oper.wp
  rw [exec_call ho hx he]
  refine Calls.mono hc fun e w' hr => ?_
  obtain ⟨v, rfl, hk⟩ := h e w' hr
  exact hk
theorem pi_call {i : Nat} {o : Oper} {r : List (Nat × Bool)} {a : Act} {w : World} (hi : ops[i]? = some o) (hw : Region.wanted o (yielded ops a.tmps) = true)
    {f : FuncId} {xs : Array Operand} {ts : Array TypeId} {args : List Value} {R : Ending → World → Prop} (hc : Calls P f args.toArray w R)
    (he : Enters P f) (ho : o.op = .call { callee := .value (.func f), args := xs, argTypes := ts }) (hx : xs.toList.map a.eval = args) (h : ∀ e w', R e w' → ∃ v, e = .returned v ∧ Below w.heap.size w w' ∧ wpPi P ops Q r (a.put o.dst v) w') : wpPi P ops Q ((i, true) :: r) a w :=
  ⟨o, hi, hw, wp_call ho hx he hc h⟩
theorem pt_call {i : Nat} {o : Oper} {O : Nat → Prop} {R0 : Act → World → Prop} {a : Act} {w : World} (hi : ops[i]? = some o) (hw : Region.wanted o (yielded ops a.tmps) = true)
    {f : FuncId} {xs : Array Operand} {ts : Array TypeId} {args : List Value} {R : Ending → World → Prop} (hc : Calls P f args.toArray w R)
    (he : Enters P f) (ho : o.op = .call { callee := .value (.func f), args := xs, argTypes := ts }) (hx : xs.toList.map a.eval = args) (h : ∀ e w', R e w' → ∃ v, e = .returned v ∧ But O w w' ∧ R0 (a.put o.dst v) w') : ptStep P O ops Q i R0 a w :=
  ⟨o, hi, hw, wp_call ho hx he hc h⟩
end
end Go.Proofs.Ytfoncaamhleckaa
