/-
  Fast, NmSh, CbB0: several texts in one (bundle.py).
-/
import Derived.Test.YtpfgepgjpnekdaaDoorNmI22
import Derived.Test.YtpfgepgjpnekdaaDoorNmI08
import Derived.Test.YtpfgepgjpnekdaaDoorNmI10
import Derived.Test.YtpfgepgjpnekdaaDoorNmI04
namespace Go.Proofs.YtpfgepgjpnekdaaDoor
open Go.RowKit
set_option linter.unusedSimpArgs false
set_option linter.unusedVariables false

section
variable {md : Region.Mode} {ops : Array Oper}

/-- On which an operation waits, as bits. -/
def maskOf (md : Region.Mode) (l : List Edge) : Nat := l.foldr (fun e m => if Region.binds md e then m ||| (1 <<< e.on) else m) 0
theorem maskOf_bit (l : List Edge) (k : Nat) : (maskOf md l).testBit k = l.any (fun e => Region.binds md e && e.on == k) := by
  induction l with
  | nil => simp [maskOf]
  | cons e r ih =>
    rw [maskOf, List.foldr_cons, List.any_cons]
    rw [maskOf] at ih
    by_cases hb : Region.binds md e = true
    · rw [if_pos hb, Nat.testBit_or, ih, hb, Bool.true_and, Bool.or_comm, Nat.one_shiftLeft, Nat.testBit_two_pow]
      congr 1
    · rw [if_neg hb, ih]
      simp [hb]
/-- All masks in one number, w bits each. -/
def masksN (md : Region.Mode) (w : Nat) (l : List Oper) : Nat := l.foldr (fun o m => (m <<< w) + maskOf md o.after.toList % 2 ^ w) 0
def maskAt (w M i : Nat) : Nat := (M >>> (w * i)) % 2 ^ w
theorem maskAt_spec (w : Nat) : ∀ (l : List Oper) (i : Nat) (hi : i < l.length), maskAt w (masksN md w l) i = maskOf md l[i].after.toList % 2 ^ w
  | [], i, hi => by simp at hi
  | o :: r, 0, _ => by
    simp only [maskAt, masksN, List.foldr_cons, Nat.mul_zero, Nat.shiftRight_zero, List.getElem_cons_zero]
    rw [Nat.shiftLeft_eq, Nat.add_mod, Nat.mul_mod_left, Nat.zero_add, Nat.mod_mod, Nat.mod_mod]
  | o :: r, i + 1, hi => by
    have ih := maskAt_spec w r i (by simpa using hi)
    simp only [maskAt, List.getElem_cons_succ] at ih ⊢
    rw [← ih]
    simp only [masksN, List.foldr_cons]
    rw [Nat.mul_add, Nat.mul_one, Nat.add_comm (w * i) w, Nat.shiftRight_add]
    congr 2
    rw [Nat.shiftRight_eq_div_pow, Nat.shiftLeft_eq, Nat.add_comm, Nat.add_mul_div_right _ _ (Nat.two_pow_pos w), Nat.div_eq_of_lt (Nat.mod_lt _ (Nat.two_pow_pos w)), Nat.zero_add]

structure Rep (listed : Array Bool) (n m : Nat) : Prop where
  size : listed.size = n
  bit : ∀ j, j < n → listed.getD j false = m.testBit j
theorem Rep.getT {listed : Array Bool} {n m : Nat} (h : Rep listed n m) {j : Nat} (hj : j < n) (d : Bool) : listed.getD j d = m.testBit j := by
  rw [← h.bit j hj]
  simp [Array.getD, h.size, hj]
theorem Rep.start (n : Nat) : Rep (Array.replicate n false) n 0 := ⟨by simp, fun j hj => by simp [Array.getD, hj]⟩
theorem Rep.set {listed : Array Bool} {n m : Nat} (h : Rep listed n m) (i : Nat) : Rep (listed.setIfInBounds i true) n (m ||| (1 <<< i)) := by
  refine ⟨by simp [h.size], fun j hj => ?_⟩
  rw [Nat.testBit_or, Nat.one_shiftLeft, Nat.testBit_two_pow]
  by_cases hij : i = j
  · subst hij
    simp [Array.getD, h.size, hj]
  · rw [getD_set_ne false hij, h.bit j hj]
    simp [hij]

/-- The masks are right. -/
structure Msk (md : Region.Mode) (ops : Array Oper) (n M : Nat) : Prop where
  size : ops.size = n
  at_ : ∀ i (hi : i < ops.size) k, k < n → (maskAt n M i).testBit k = ops[i].after.any (fun e => Region.binds md e && e.on == k)
  low : ∀ i (hi : i < ops.size), ∀ e ∈ ops[i].after, Region.binds md e = true → e.on < n
def rdyF (n M m i : Nat) : Bool := !m.testBit i && (maskAt n M i &&& m == maskAt n M i)
theorem rdy_iff {listed : Array Bool} {n M m i : Nat} (hM : Msk md ops n M) (h : Rep listed n m) (hi : i < n) : rdyF n M m i = true ↔ i ∈ Region.ready md ops listed := by
  have hio : i < ops.size := by rw [hM.size]; exact hi
  rw [mem_ready, h.getT hi]
  simp only [rdyF, Bool.and_eq_true, Bool.not_eq_true', beq_iff_eq]
  constructor
  · rintro ⟨h0, h1⟩
    refine ⟨h0, ops[i], Array.getElem?_eq_getElem hio, fun e he hb => ?_⟩
    have hlt := hM.low i hio e he hb
    rw [h.getT hlt]
    have hb1 : (maskAt n M i).testBit e.on = true := by
      rw [hM.at_ i hio e.on hlt, Array.any_eq_true']
      exact ⟨e, he, by simp [hb]⟩
    rw [← h1, Nat.testBit_and] at hb1
    exact (Bool.and_eq_true_iff.1 hb1).2
  · rintro ⟨h0, o, ho, h1⟩
    refine ⟨h0, Nat.eq_of_testBit_eq fun k => ?_⟩
    obtain rfl : ops[i] = o := by rw [Array.getElem?_eq_getElem hio] at ho; exact Option.some.inj ho
    rw [Nat.testBit_and]
    by_cases hk : k < n
    · cases hq : (maskAt n M i).testBit k with
      | false => rfl
      | true =>
        rw [hM.at_ i hio k hk, Array.any_eq_true'] at hq
        obtain ⟨e, he, hb⟩ := hq
        simp only [Bool.and_eq_true, beq_iff_eq] at hb
        have := h1 e he hb.1
        rw [hb.2, h.bit k hk] at this
        rw [this]; rfl
    · have : (maskAt n M i).testBit k = false := by
        unfold maskAt
        rw [Nat.testBit_mod_two_pow]
        simp [hk]
      rw [this]; rfl
theorem only_ready {listed : Array Bool} {n M m i : Nat} (hM : Msk md ops n M) (h : Rep listed n m) (hi : i < n) (h1 : rdyF n M m i = true) (h2 : ∀ j, j < n → j ≠ i → rdyF n M m j = false) : Region.ready md ops listed = [i] := by
  have hnd : (Region.ready md ops listed).Nodup := List.Pairwise.sublist List.filter_sublist List.nodup_range
  have hm := (rdy_iff hM h hi).1 h1
  have hall : ∀ j ∈ Region.ready md ops listed, j = i := fun j hj => by
    have hjn : j < n := by
      unfold Region.ready at hj
      rw [List.mem_filter, List.mem_range, hM.size] at hj
      exact hj.1
    exact Decidable.byContradiction fun hne => by
      have := h2 j hjn hne
      rw [(rdy_iff hM h hjn).2 hj] at this
      cases this
  generalize Region.ready md ops listed = l at *
  cases l with
  | nil => cases hm
  | cons a r =>
    obtain rfl := hall a (by simp)
    cases r with
    | nil => rfl
    | cons b r =>
      have hb := hall b (by simp)
      subst hb
      simp at hnd
/-- No two write one slot; who looks at what another one writes waits for it, or is waited for. -/
def ssaF (n M : Nat) (ops : Array Oper) : Bool :=
  (List.range n).all fun p => match (ops[p]?).bind (·.dst) with
    | none => true
    | some d => (List.range n).all fun j => j == p || (match ops[j]? with
      | none => true
      | some o => o.dst != some d && (!(o.looksAt ops).contains d || ((maskAt n M j).testBit p || (maskAt n M p).testBit j)))
theorem free_of {listed : Array Bool} {n M m i : Nat} (hM : Msk md ops n M) (h : Rep listed n m) (hi : i < n) (hr : rdyF n M m i = true) (hs : ssaF n M ops = true) : Region.free md ops listed i = true := by
  have hio : i < ops.size := by rw [hM.size]; exact hi
  unfold Region.free
  rw [Array.getElem?_eq_getElem hio]
  simp only [List.all_eq_true, List.mem_range, Bool.or_eq_true, beq_iff_eq]
  intro j hj
  have hjn : j < n := by rw [← hM.size]; exact hj
  by_cases hji : j = i
  · exact .inl (.inl hji)
  cases hlj : listed.getD j true with
  | true => exact .inl (.inr rfl)
  | false =>
    refine .inr ?_
    rw [Array.getElem?_eq_getElem hj]
    simp only [Bool.or_eq_true]
    cases hw : ops[j].after.any (fun e => Region.binds md e && e.on == i) with
    | true => exact .inl rfl
    | false =>
      refine .inr ?_
      have hwj : (maskAt n M j).testBit i = false := by rw [hM.at_ j hj i hi]; exact hw
      have hwi : (maskAt n M i).testBit j = false := by
        cases hq : (maskAt n M i).testBit j with
        | false => rfl
        | true =>
          simp only [rdyF, Bool.and_eq_true, beq_iff_eq] at hr
          rw [← hr.2, Nat.testBit_and] at hq
          have := (Bool.and_eq_true_iff.1 hq).2
          rw [h.getT hjn, this] at hlj
          cases hlj
      simp only [ssaF, List.all_eq_true, List.mem_range] at hs
      unfold Oper.apart
      rw [Bool.and_eq_true]
      constructor
      · cases hd : ops[i].dst with
        | none => rfl
        | some d =>
          have := hs i hi
          rw [Array.getElem?_eq_getElem hio] at this
          simp only [Option.bind_some, hd, List.all_eq_true, List.mem_range] at this
          have := this j hjn
          rw [Array.getElem?_eq_getElem hj] at this
          simp only [Bool.or_eq_true, beq_iff_eq, hji, false_or, Bool.and_eq_true, hwj, hwi, Bool.false_eq_true, or_false] at this
          simp only [Bool.and_eq_true]
          exact ⟨this.2, this.1⟩
      · cases hd : ops[j].dst with
        | none => rfl
        | some d =>
          have := hs j hjn
          rw [Array.getElem?_eq_getElem hj] at this
          simp only [Option.bind_some, hd, List.all_eq_true, List.mem_range] at this
          have := this i hi
          rw [Array.getElem?_eq_getElem hio] at this
          simp only [Bool.or_eq_true, beq_iff_eq, Ne.symm hji, false_or, Bool.and_eq_true, hwj, hwi, Bool.false_eq_true, or_false] at this
          exact this.2

def mskF (md : Region.Mode) (n : Nat) (ops : Array Oper) : Bool := ops.toList.all fun o => o.after.toList.all fun e => !Region.binds md e || decide (e.on < n)
theorem msk_of {n : Nat} (hn : ops.size = n) (h : mskF md n ops = true) : Msk md ops n (masksN md n ops.toList) := by
  refine ⟨hn, fun i hi k hk => ?_, fun i hi e he hb => ?_⟩
  · rw [maskAt_spec n ops.toList i (by simpa using hi), Nat.testBit_mod_two_pow, maskOf_bit]
    simp [hk]
  · simp only [mskF, List.all_eq_true, Bool.or_eq_true, Bool.not_eq_true', decide_eq_true_eq] at h
    have := h ops[i] (by simp) e (by simpa using he)
    exact this.resolve_left (by simp [hb])

def onlyF (n M m i : Nat) : Bool := rdyF n M m i && (List.range n).all fun j => j == i || !rdyF n M m j
def noneF (n M m : Nat) : Bool := (List.range n).all fun j => !rdyF n M m j
/-- The order's check. -/
def piFB (n M : Nat) : List (Nat × Bool) → Nat → Bool
  | [], m => noneF n M m
  | (i, false) :: r, m => decide (i < n) && (rdyF n M m i && piFB n M r (m ||| (1 <<< i)))
  | (i, true) :: r, m => decide (i < n) && (onlyF n M m i && piFB n M r (m ||| (1 <<< i)))
theorem none_ready {listed : Array Bool} {n M m : Nat} (hM : Msk md ops n M) (h : Rep listed n m) (hn : noneF n M m = true) : Region.ready md ops listed = [] := by
  refine List.eq_nil_iff_forall_not_mem.2 fun j hj => ?_
  have hjn : j < n := by
    have := hj
    unfold Region.ready at this
    rw [List.mem_filter, List.mem_range, hM.size] at this
    exact this.1
  simp only [noneF, List.all_eq_true, List.mem_range] at hn
  have := hn j hjn
  rw [(rdy_iff hM h hjn).2 hj] at this
  cases this
theorem only_of {listed : Array Bool} {n M m i : Nat} (hM : Msk md ops n M) (h : Rep listed n m) (hi : i < n) (ho : onlyF n M m i = true) : Region.ready md ops listed = [i] := by
  simp only [onlyF, Bool.and_eq_true, List.all_eq_true, List.mem_range, Bool.or_eq_true, beq_iff_eq, Bool.not_eq_true'] at ho
  exact only_ready hM h hi ho.1 fun j hj hne => (ho.2 j hj).resolve_left hne
theorem piB_of {n M : Nat} (hM : Msk md ops n M) (hs : ssaF n M ops = true) : ∀ (r : List (Nat × Bool)) (listed : Array Bool) (m : Nat), Rep listed n m → piFB n M r m = true → piB md ops r listed = true
  | [], listed, m, h, hb => by
    rw [piB, none_ready hM h hb]; rfl
  | (i, false) :: r, listed, m, h, hb => by
    simp only [piFB, Bool.and_eq_true, decide_eq_true_eq] at hb
    simp only [piB, Bool.and_eq_true]
    exact ⟨⟨by simpa using (rdy_iff hM h hb.1).1 hb.2.1, free_of hM h hb.1 hb.2.1 hs⟩, piB_of hM hs r _ _ (h.set i) hb.2.2⟩
  | (i, true) :: r, listed, m, h, hb => by
    simp only [piFB, Bool.and_eq_true, decide_eq_true_eq] at hb
    simp only [piB, Bool.and_eq_true, decide_eq_true_eq]
    exact ⟨only_of hM h hb.1 hb.2.1, piB_of hM hs r _ _ (h.set i) hb.2.2⟩
/-- All checks at once. -/
def fastPi (n : Nat) (ops : Array Oper) (r : List (Nat × Bool)) : Bool :=
  mskF .any n ops && (ssaF n (masksN .any n ops.toList) ops && piFB n (masksN .any n ops.toList) r 0)
theorem piB_fast {r : List (Nat × Bool)} (h : fastPi ops.size ops r = true) : piB .any ops r (Array.replicate ops.size false) = true := by
  simp only [fastPi, Bool.and_eq_true] at h
  exact piB_of (msk_of rfl h.1) h.2.1 r _ _ (Rep.start _) h.2.2

/-- The same for a tree of orders. -/
def ptFB (n M : Nat) : Pt → Nat → Bool
  | .done, m => noneF n M m
  | .q i t, m => decide (i < n) && (rdyF n M m i && ptFB n M t (m ||| (1 <<< i)))
  | .c i t, m => decide (i < n) && (onlyF n M m i && ptFB n M t (m ||| (1 <<< i)))
  | _, _ => false
theorem ptB_of {n M : Nat} (hM : Msk md ops n M) (hs : ssaF n M ops = true) : ∀ (t : Pt) (listed : Array Bool) (m : Nat), Rep listed n m → ptFB n M t m = true → ptB md ops t listed = true
  | .done, listed, m, h, hb => by
    rw [ptB, none_ready hM h hb]; rfl
  | .q i t, listed, m, h, hb => by
    simp only [ptFB, Bool.and_eq_true, decide_eq_true_eq] at hb
    simp only [ptB, Bool.and_eq_true]
    exact ⟨⟨by simpa using (rdy_iff hM h hb.1).1 hb.2.1, free_of hM h hb.1 hb.2.1 hs⟩, ptB_of hM hs t _ _ (h.set i) hb.2.2⟩
  | .c i t, listed, m, h, hb => by
    simp only [ptFB, Bool.and_eq_true, decide_eq_true_eq] at hb
    simp only [ptB, Bool.and_eq_true, decide_eq_true_eq]
    exact ⟨only_of hM h hb.1 hb.2.1, ptB_of hM hs t _ _ (h.set i) hb.2.2⟩
  | .f _ _ _ _, _, _, _, hb => by simp [ptFB] at hb
  | .g _ _ _ _ _ _, _, _, _, hb => by simp [ptFB] at hb
def fastPt (n : Nat) (ops : Array Oper) (t : Pt) : Bool :=
  mskF .any n ops && (ssaF n (masksN .any n ops.toList) ops && ptFB n (masksN .any n ops.toList) t 0)
theorem ptB_fast {t : Pt} (h : fastPt ops.size ops t = true) : ptB .any ops t (Array.replicate ops.size false) = true := by
  simp only [fastPt, Bool.and_eq_true] at h
  exact ptB_of (msk_of rfl h.1) h.2.1 t _ _ (Rep.start _) h.2.2
def pzFB (n M z : Nat) : Pt → Nat → Bool
  | .done, m => decide (z < n) && (onlyF n M m z && noneF n M (m ||| (1 <<< z)))
  | .q i t, m => decide (i < n) && (rdyF n M m i && ((maskAt n M z).testBit i && pzFB n M z t (m ||| (1 <<< i))))
  | .c i t, m => decide (i < n) && (onlyF n M m i && pzFB n M z t (m ||| (1 <<< i)))
  | _, _ => false
theorem waits_of {n M z i : Nat} (hM : Msk md ops n M) (hz : z < n) (hi : i < n) (h : (maskAt n M z).testBit i = true) : Region.waitsFor md ops z i = true := by
  have hzo : z < ops.size := by rw [hM.size]; exact hz
  unfold Region.waitsFor
  rw [Array.getElem?_eq_getElem hzo]
  rwa [hM.at_ z hzo i hi] at h
theorem pzB_of {n M z : Nat} (hM : Msk md ops n M) (hz : z < n) (hs : ssaF n M ops = true) : ∀ (t : Pt) (listed : Array Bool) (m : Nat), Rep listed n m → pzFB n M z t m = true → pzB md ops z t listed = true
  | .done, listed, m, h, hb => by
    simp only [pzFB, Bool.and_eq_true, decide_eq_true_eq] at hb
    simp only [pzB, Bool.and_eq_true, decide_eq_true_eq]
    exact ⟨only_of hM h hz hb.2.1, by rw [none_ready hM (h.set z) hb.2.2]; rfl⟩
  | .q i t, listed, m, h, hb => by
    simp only [pzFB, Bool.and_eq_true, decide_eq_true_eq] at hb
    simp only [pzB, Bool.and_eq_true]
    exact ⟨⟨⟨by simpa using (rdy_iff hM h hb.1).1 hb.2.1, free_of hM h hb.1 hb.2.1 hs⟩, waits_of hM hz hb.1 hb.2.2.1⟩, pzB_of hM hz hs t _ _ (h.set i) hb.2.2.2⟩
  | .c i t, listed, m, h, hb => by
    simp only [pzFB, Bool.and_eq_true, decide_eq_true_eq] at hb
    simp only [pzB, Bool.and_eq_true, decide_eq_true_eq]
    exact ⟨only_of hM h hb.1 hb.2.1, pzB_of hM hz hs t _ _ (h.set i) hb.2.2⟩
  | .f _ _ _ _, _, _, _, hb => by simp [pzFB] at hb
  | .g _ _ _ _ _ _, _, _, _, hb => by simp [pzFB] at hb
def fastPz (n z : Nat) (ops : Array Oper) (t : Pt) : Bool :=
  decide (z < n) && (mskF .any n ops && (ssaF n (masksN .any n ops.toList) ops && pzFB n (masksN .any n ops.toList) z t 0))
theorem pzB_fast {t : Pt} {z : Nat} (h : fastPz ops.size z ops t = true) : pzB .any ops z t (Array.replicate ops.size false) = true := by
  simp only [fastPz, Bool.and_eq_true, decide_eq_true_eq] at h
  exact pzB_of (msk_of rfl h.2.1) h.1 h.2.2.1 t _ _ (Rep.start _) h.2.2.2
end

section
variable {P : Program} {ops : Array Oper} {Q : Exit → Act → World → Prop}
/-- The region's laws with the operations held by a local name, so that no step's simp walks through them. -/
theorem wp_region_piL {id : Nat} {a : Act} {w : World} (r : List (Nat × Bool)) (hm : P.follows .mixedOrders = true) (hs : Region.noSelect ops = true) (hB : fastPi ops.size ops r = true) (hl : r.length = ops.size)
    (hQ : ∀ c (a : Act) d v w, Q (.panic c) (a.put d v) w → Q (.panic c) a w) (h : ∀ O, Hid (ops = O) → ∀ Wd, Below w.heap.size w Wd → wpPi P O Q r a Wd) : (Code.region id ops true).wp P Q a w :=
  wp_region_pi r hm hs (piB_fast hB) hl hQ (h ops (Lib.hid rfl))
theorem wp_region_ptL {id : Nat} {a : Act} {w : World} (O : Nat → Prop) (t : Pt) (hm : P.follows .mixedOrders = true) (hs : Region.noSelect ops = true) (hB : fastPt ops.size ops t = true) (hl : t.len ≤ ops.size)
    (hQ : ∀ c (a : Act) d v w, Q (.panic c) (a.put d v) w → Q (.panic c) a w) (h : ∀ L, Hid (ops = L) → ∀ Wd, Below w.heap.size w Wd → wpPt P O L Q t a Wd) : (Code.region id ops true).wp P Q a w :=
  wp_region_pt O t hm hs (ptB_fast hB) hl hQ (h ops (Lib.hid rfl))
theorem wp_region_pzL {id : Nat} {a : Act} {w : World} (O : Nat → Prop) (n : Nat) (t : Pt) (hm : P.follows .mixedOrders = true) (hs : Region.noSelect ops = true) (hB : fastPz ops.size n ops t = true) (hl : t.len + 1 ≤ ops.size)
    (hQ : ∀ c (a : Act) d v w, Q (.panic c) (a.put d v) w → Q (.panic c) a w) (h : ∀ L, Hid (ops = L) → ∀ Wd, Below w.heap.size w Wd → wpPt P O L (lastQ P L Q n) t a Wd) : (Code.region id ops true).wp P Q a w :=
  wp_region_pz O n t hm hs (pzB_fast hB) hl hQ (h ops (Lib.hid rfl))

/-- A call of a function by its number. -/
theorem exec_call {o : Oper} {a : Act} {w : World} {f : FuncId} {xs : Array Operand} {ts : Array TypeId} (ho : o.op = .call { callee := .value (.func f), args := xs, argTypes := ts }) {args : List Value} (hx : xs.toList.map a.eval = args)
    (he : Enters P f) : (execOp a.eval o).run P w = .ok (.enter f args.toArray) w := by
  have e : xs.map a.eval = args.toArray := by rw [← hx, ← Array.toList_map]
  unfold execOp
  simp only [ho, resolve, Sem.run_bind]
  rw [e]
  have hv : a.eval (.func f) = .func (.func f) #[] #[] := rfl
  rw [hv]
  simp only [Deferred.ofValue, Sem.run_pure, Result.andThen_ok, invoke]
  rw [Array.append_empty, Array.empty_append]
  exact he _ _
theorem wp_call {o : Oper} {a : Act} {w : World} {K : Act → World → Prop} {f : FuncId} {xs : Array Operand} {ts : Array TypeId} (ho : o.op = .call { callee := .value (.func f), args := xs, argTypes := ts }) {args : List Value} (hx : xs.toList.map a.eval = args)
    (he : Enters P f) {R : Ending → World → Prop} (hc : Calls P f args.toArray w R) (h : ∀ e w', R e w' → ∃ v, e = .returned v ∧ K (a.put o.dst v) w') : o.wp P a w K Q := by
  unfold Oper.wp
  rw [exec_call ho hx he]
  refine Calls.mono hc fun e w' hr => ?_
  obtain ⟨v, rfl, hk⟩ := h e w' hr
  exact hk
theorem pi_call {i : Nat} {o : Oper} {r : List (Nat × Bool)} {a : Act} {w : World} (hi : ops[i]? = some o) (hw : Region.wanted o (yielded ops a.tmps) = true)
    {f : FuncId} {xs : Array Operand} {ts : Array TypeId} {args : List Value} {R : Ending → World → Prop} (hc : Calls P f args.toArray w R)
    (he : Enters P f) (ho : o.op = .call { callee := .value (.func f), args := xs, argTypes := ts }) (hx : xs.toList.map a.eval = args) (h : ∀ e w', R e w' → ∃ v, e = .returned v ∧ Below w.heap.size w w' ∧ wpPi P ops Q r (a.put o.dst v) w') : wpPi P ops Q ((i, true) :: r) a w :=
  ⟨o, hi, hw, wp_call ho hx he hc h⟩
theorem pt_call {i : Nat} {o : Oper} {O : Nat → Prop} {R0 : Act → World → Prop} {a : Act} {w : World} (hi : ops[i]? = some o) (hw : Region.wanted o (yielded ops a.tmps) = true)
    {f : FuncId} {xs : Array Operand} {ts : Array TypeId} {args : List Value} {R : Ending → World → Prop} (hc : Calls P f args.toArray w R)
    (he : Enters P f) (ho : o.op = .call { callee := .value (.func f), args := xs, argTypes := ts }) (hx : xs.toList.map a.eval = args) (h : ∀ e w', R e w' → ∃ v, e = .returned v ∧ But O w w' ∧ R0 (a.put o.dst v) w') : ptStep P O ops Q i R0 a w :=
  ⟨o, hi, hw, wp_call ho hx he hc h⟩
end
end Go.Proofs.YtpfgepgjpnekdaaDoor

namespace Go.Proofs.YtpfgepgjpnekdaaDoor
open Go.RowKit Cb
set_option linter.unusedSimpArgs false
set_option linter.unusedVariables false
/-- A list of items of these kinds. -/
def shB (x : It) (K : List Int) : Bool := (x.k == 4) && (x.l.map It.k == K)
set_option maxHeartbeats 1000000 in
set_option maxRecDepth 100000 in
theorem shapeR_c (S : Nat → Prop) (x : It) (K : List Int) (r : Rw) (u : Value) (n : Nat) (w : World) (hx : ItR S w x r) (hu : Sl w 1 u n (K.map (.int .i64))) (hcx : cnt x ≤ 1000000) : Calls Tryd.prog 74 #[rwV r, u] w (Ret (.bool (shB x K)) w) := by
  obtain ⟨k1, n1, ba1, bn1, bc1, s1, la1, ln1, lc1, rfl⟩ := hx.shape
  obtain ⟨rows, p⟩ := hx.parts
  have hK : K.length = n := by have := hu.1; simpa using this
  have hll : ln1 = x.l.length := by obtain ⟨a, c, h⟩ := p.l.1.len; simp at h; omega
  have hrl : rows.length = x.l.length := p.each.len
  have hkk : x.k = k1 := p.k.symm
  obtain ⟨R, hR⟩ : ∃ R, R = shB x K := ⟨_, rfl⟩
  rw [← hR]
  have hb0 := below_alloc w (.cells (rwC ⟨k1, n1, .slice ba1 bn1 bc1, s1, .slice la1 ln1 lc1⟩).toArray 48)
  have X0 := RowAt.new w (rwC ⟨k1, n1, .slice ba1 bn1 bc1, s1, .slice la1 ln1 lc1⟩).toArray 48
  have hcl : x.l.length ≤ 1000000 := by have := cntL_len x.l; cases x; simp only [cnt, It.l] at *; omega
  by_cases h4 : k1 = 4
  · subst h4
    by_cases hn : ln1 = n
    · subst hn
      have hRe : R = (x.l.map It.k == K) := by rw [hR]; unfold shB; rw [hkk]; simp
      have hu2 : Sl w 1 u ln1 (K.flatMap fun y => [.int .i64 y]) := by rw [List.map_eq_flatMap] at hu; exact hu
      obtain ⟨a, c, rfl⟩ := hu.len
      have hl2 : Sl w 5 (.slice la1 ln1 lc1) ln1 (rows.flatMap rwC) := by have := p.l.1; rw [← hll] at this; exact this
      have x4 := X0.cell (i := 4) rfl
      have HRE := Lib.hid hRe
      have HU := Lib.hid hu2
      have HL := Lib.hid hl2
      have HE := Lib.hid p.each
      have HLL := Lib.hid hll
      have HRL := Lib.hid hrl
      have HK := Lib.hid hK
      have HB0 := Lib.hid hb0
      have HX0 := Lib.hid X0
      have hln : (ln1 : Nat) ≤ 1000000 := by omega
      clear hR hRe p hx hu hu2 hl2 hll hrl hkk hK hcl hb0 X0 hcx
      go_enter Tryd.func74, Tryd.ntmps74
      go_wp2
      go_loopw [5] (fun i wr => ∃ j : Nat, j ≤ ln1 ∧ i = .int .i64 j ∧ RowKit.Hid ((x.l.map It.k).take j = K.take j) ∧ Below (w.alloc (.cells (rwC ⟨4, n1, .slice ba1 bn1 bc1, s1, .slice la1 ln1 lc1⟩).toArray 48)).heap.size (w.alloc (.cells (rwC ⟨4, n1, .slice ba1 bn1 bc1, s1, .slice la1 ln1 lc1⟩).toArray 48)) wr) (fun i _ => ln1 - (intOf i).toNat)
      case atStart => exact ⟨0, Nat.zero_le _, rfl, Lib.hid (by simp), Below.refl _ _⟩
      case round =>
        obtain ⟨j, hj, rfl, Hsame, hB⟩ := hrel
        have HB := Lib.hid (below_up HB0.out hB)
        by_cases hlt : j < ln1
        · have hl' : j < x.l.length := by rw [← HLL.out]; exact hlt
          have hr' : j < rows.length := by rw [HRL.out]; exact hl'
          have hk' : j < K.length := by rw [HK.out]; exact hlt
          obtain ⟨b, off, rfl, hr⟩ := (HL.out.up HB.out).rec_at (cells := rwC) (sz := 5) (fun _ => rfl) hlt hr'
          obtain ⟨b2, off2, rfl, hr2⟩ := (HU.out.up HB.out).rec_at (cells := fun y : Int => [.int .i64 y]) (sz := 1) (fun _ => rfl) hlt hk'
          have c1 := hr 0 _ rfl
          have c2 := hr2 0 _ rfl
          have x5 := (HX0.out.below hB).cell (i := 4) rfl
          obtain ⟨rows2, q⟩ := (HE.out.get hl' hr').parts
          have hkq := q.k
          have hs1 : (x.l.map It.k).take (j + 1) = (x.l.map It.k).take j ++ [x.l[j].k] := by rw [List.take_succ_eq_append_getElem (by rw [List.length_map]; exact hl')]; simp
          have hs2 : K.take (j + 1) = K.take j ++ [K[j]] := List.take_succ_eq_append_getElem hk'
          have Hs := Lib.hid (fun h : x.l[j].k = K[j] => show (x.l.map It.k).take (j + 1) = K.take (j + 1) by rw [hs1, hs2, h, Hsame.out])
          have Hno := Lib.hid (fun h : ¬ x.l[j].k = K[j] => show R = false by
            rw [HRE.out, beq_eq_false_iff_ne]
            intro e
            refine h ?_
            have := congrArg (fun l => l[j]?) e
            simpa [hl', hk'] using this)
          have hlti : (j : Int) < (ln1 : Int) := by omega
          have hB2 := hB
          clear hs1 hs2 q hr hr2 hB x4
          simp only [Nat.mul_one, Nat.add_zero] at c1 c2
          rw [hkq] at c1
          generalize x.l[j].k = kk at *
          generalize K[j] = KK at *
          by_cases he : kk = KK
          · subst he
            have HS := Lib.hid (Hs.out rfl)
            clear Hs Hno
            go_wp2
            refine wp_region_pt (fun _ => False) (.q 0 (.q 1 (.q 2 (.q 3 (.q 4 (.q 5 (.q 6 (.q 7 (.q 8 (.q 9 (.q 10 .done))))))))))) (by kernel_rfl) (by kernel_rfl) (by kernel_rfl) (by decide) (fun _ _ d _ _ h => by cases d <;> exact h) (fun Wd hBd => ?_)
            try simp only [Act.put, List.getElem_toArray, List.getElem_cons_zero, List.getElem_cons_succ, List.setIfInBounds_toArray, List.set_cons_zero, List.set_cons_succ]
            have d1 := cell_up hBd c1
            have d2 := cell_up hBd c2
            have d5 := cell_up hBd x5
            refine pt_q (v := ?_) rfl (by rfl) ?_ ?_
            rotate_left
            · intro w' hBw'
              first | (go_simp; done) | (go_simp; with_reducible rfl)
            try simp only [Act.put, List.getElem_toArray, List.getElem_cons_zero, List.getElem_cons_succ, List.setIfInBounds_toArray, List.set_cons_zero, List.set_cons_succ]
            refine pt_q (v := ?_) rfl (by rfl) ?_ ?_
            rotate_left
            · intro w' hBw'
              have qL0 := hBw'.cell d5 (fun e => e)
              first | (go_simp; done) | (go_simp; with_reducible rfl)
            try simp only [Act.put, List.getElem_toArray, List.getElem_cons_zero, List.getElem_cons_succ, List.setIfInBounds_toArray, List.set_cons_zero, List.set_cons_succ]
            refine pt_q (v := ?_) rfl (by rfl) ?_ ?_
            rotate_left
            · intro w' hBw'
              first | (go_simp; done) | (go_simp; with_reducible rfl)
            try simp only [Act.put, List.getElem_toArray, List.getElem_cons_zero, List.getElem_cons_succ, List.setIfInBounds_toArray, List.set_cons_zero, List.set_cons_succ]
            refine pt_q (v := ?_) rfl (by rfl) ?_ ?_
            rotate_left
            · intro w' hBw'
              first | (go_simp; done) | (go_simp; with_reducible rfl)
            try simp only [Act.put, List.getElem_toArray, List.getElem_cons_zero, List.getElem_cons_succ, List.setIfInBounds_toArray, List.set_cons_zero, List.set_cons_succ]
            refine pt_q (v := ?_) rfl (by rfl) ?_ ?_
            rotate_left
            · intro w' hBw'
              first | (go_simp; done) | (go_simp; with_reducible rfl)
            try simp only [Act.put, List.getElem_toArray, List.getElem_cons_zero, List.getElem_cons_succ, List.setIfInBounds_toArray, List.set_cons_zero, List.set_cons_succ]
            refine pt_q (v := ?_) rfl (by rfl) ?_ ?_
            rotate_left
            · intro w' hBw'
              have qL0 := hBw'.cell d1 (fun e => e)
              first | (go_simp; done) | (go_simp; with_reducible rfl)
            try simp only [Act.put, List.getElem_toArray, List.getElem_cons_zero, List.getElem_cons_succ, List.setIfInBounds_toArray, List.set_cons_zero, List.set_cons_succ]
            refine pt_q (v := ?_) rfl (by rfl) ?_ ?_
            rotate_left
            · intro w' hBw'
              first | (go_simp; done) | (go_simp; with_reducible rfl)
            try simp only [Act.put, List.getElem_toArray, List.getElem_cons_zero, List.getElem_cons_succ, List.setIfInBounds_toArray, List.set_cons_zero, List.set_cons_succ]
            refine pt_q (v := ?_) rfl (by rfl) ?_ ?_
            rotate_left
            · intro w' hBw'
              first | (go_simp; done) | (go_simp; with_reducible rfl)
            try simp only [Act.put, List.getElem_toArray, List.getElem_cons_zero, List.getElem_cons_succ, List.setIfInBounds_toArray, List.set_cons_zero, List.set_cons_succ]
            refine pt_q (v := ?_) rfl (by rfl) ?_ ?_
            rotate_left
            · intro w' hBw'
              first | (go_simp; done) | (go_simp; with_reducible rfl)
            try simp only [Act.put, List.getElem_toArray, List.getElem_cons_zero, List.getElem_cons_succ, List.setIfInBounds_toArray, List.set_cons_zero, List.set_cons_succ]
            refine pt_q (v := ?_) rfl (by rfl) ?_ ?_
            rotate_left
            · intro w' hBw'
              have qL0 := hBw'.cell d2 (fun e => e)
              first | (go_simp; done) | (go_simp; with_reducible rfl)
            try simp only [Act.put, List.getElem_toArray, List.getElem_cons_zero, List.getElem_cons_succ, List.setIfInBounds_toArray, List.set_cons_zero, List.set_cons_succ]
            refine pt_q (v := ?_) rfl (by rfl) ?_ ?_
            rotate_left
            · intro w' hBw'
              first | (go_simp; done) | (go_simp; with_reducible rfl)
            try simp only [Act.put, List.getElem_toArray, List.getElem_cons_zero, List.getElem_cons_succ, List.setIfInBounds_toArray, List.set_cons_zero, List.set_cons_succ]
            refine pt_done ?_
            go_wp2
            have HB2 := Lib.hid (hB2.trans (hBd.mono hB2.size))
            go_roundw
            case rel => exact ⟨j + 1, by omega, by go_num, HS, HB2.out⟩
            case measure => simp [intOf]; omega
          · have HRF := Lib.hid (Hno.out he)
            clear Hs Hno
            go_wp2
            refine wp_region_pt (fun _ => False) (.q 0 (.q 1 (.q 2 (.q 3 (.q 4 (.q 5 (.q 6 (.q 7 (.q 8 (.q 9 (.q 10 .done))))))))))) (by kernel_rfl) (by kernel_rfl) (by kernel_rfl) (by decide) (fun _ _ d _ _ h => by cases d <;> exact h) (fun Wd hBd => ?_)
            try simp only [Act.put, List.getElem_toArray, List.getElem_cons_zero, List.getElem_cons_succ, List.setIfInBounds_toArray, List.set_cons_zero, List.set_cons_succ]
            have d1 := cell_up hBd c1
            have d2 := cell_up hBd c2
            have d5 := cell_up hBd x5
            refine pt_q (v := ?_) rfl (by rfl) ?_ ?_
            rotate_left
            · intro w' hBw'
              first | (go_simp; done) | (go_simp; with_reducible rfl)
            try simp only [Act.put, List.getElem_toArray, List.getElem_cons_zero, List.getElem_cons_succ, List.setIfInBounds_toArray, List.set_cons_zero, List.set_cons_succ]
            refine pt_q (v := ?_) rfl (by rfl) ?_ ?_
            rotate_left
            · intro w' hBw'
              have qL0 := hBw'.cell d5 (fun e => e)
              first | (go_simp; done) | (go_simp; with_reducible rfl)
            try simp only [Act.put, List.getElem_toArray, List.getElem_cons_zero, List.getElem_cons_succ, List.setIfInBounds_toArray, List.set_cons_zero, List.set_cons_succ]
            refine pt_q (v := ?_) rfl (by rfl) ?_ ?_
            rotate_left
            · intro w' hBw'
              first | (go_simp; done) | (go_simp; with_reducible rfl)
            try simp only [Act.put, List.getElem_toArray, List.getElem_cons_zero, List.getElem_cons_succ, List.setIfInBounds_toArray, List.set_cons_zero, List.set_cons_succ]
            refine pt_q (v := ?_) rfl (by rfl) ?_ ?_
            rotate_left
            · intro w' hBw'
              first | (go_simp; done) | (go_simp; with_reducible rfl)
            try simp only [Act.put, List.getElem_toArray, List.getElem_cons_zero, List.getElem_cons_succ, List.setIfInBounds_toArray, List.set_cons_zero, List.set_cons_succ]
            refine pt_q (v := ?_) rfl (by rfl) ?_ ?_
            rotate_left
            · intro w' hBw'
              first | (go_simp; done) | (go_simp; with_reducible rfl)
            try simp only [Act.put, List.getElem_toArray, List.getElem_cons_zero, List.getElem_cons_succ, List.setIfInBounds_toArray, List.set_cons_zero, List.set_cons_succ]
            refine pt_q (v := ?_) rfl (by rfl) ?_ ?_
            rotate_left
            · intro w' hBw'
              have qL0 := hBw'.cell d1 (fun e => e)
              first | (go_simp; done) | (go_simp; with_reducible rfl)
            try simp only [Act.put, List.getElem_toArray, List.getElem_cons_zero, List.getElem_cons_succ, List.setIfInBounds_toArray, List.set_cons_zero, List.set_cons_succ]
            refine pt_q (v := ?_) rfl (by rfl) ?_ ?_
            rotate_left
            · intro w' hBw'
              first | (go_simp; done) | (go_simp; with_reducible rfl)
            try simp only [Act.put, List.getElem_toArray, List.getElem_cons_zero, List.getElem_cons_succ, List.setIfInBounds_toArray, List.set_cons_zero, List.set_cons_succ]
            refine pt_q (v := ?_) rfl (by rfl) ?_ ?_
            rotate_left
            · intro w' hBw'
              first | (go_simp; done) | (go_simp; with_reducible rfl)
            try simp only [Act.put, List.getElem_toArray, List.getElem_cons_zero, List.getElem_cons_succ, List.setIfInBounds_toArray, List.set_cons_zero, List.set_cons_succ]
            refine pt_q (v := ?_) rfl (by rfl) ?_ ?_
            rotate_left
            · intro w' hBw'
              first | (go_simp; done) | (go_simp; with_reducible rfl)
            try simp only [Act.put, List.getElem_toArray, List.getElem_cons_zero, List.getElem_cons_succ, List.setIfInBounds_toArray, List.set_cons_zero, List.set_cons_succ]
            refine pt_q (v := ?_) rfl (by rfl) ?_ ?_
            rotate_left
            · intro w' hBw'
              have qL0 := hBw'.cell d2 (fun e => e)
              first | (go_simp; done) | (go_simp; with_reducible rfl)
            try simp only [Act.put, List.getElem_toArray, List.getElem_cons_zero, List.getElem_cons_succ, List.setIfInBounds_toArray, List.set_cons_zero, List.set_cons_succ]
            refine pt_q (v := ?_) rfl (by rfl) ?_ ?_
            rotate_left
            · intro w' hBw'
              first | (go_simp; done) | (go_simp; with_reducible rfl)
            try simp only [Act.put, List.getElem_toArray, List.getElem_cons_zero, List.getElem_cons_succ, List.setIfInBounds_toArray, List.set_cons_zero, List.set_cons_succ]
            refine pt_done ?_
            go_wp2
            go_ret
            exact ⟨retB HRF.out.symm, below_up HB.out hBd⟩
        · obtain rfl : j = ln1 := by omega
          have HRT : R = true := by
            rw [HRE.out, beq_iff_eq]
            have := Hsame.out
            rwa [List.take_of_length_le (by rw [List.length_map, ← HLL.out]; exact Nat.le_refl _), List.take_of_length_le (by rw [HK.out]; exact Nat.le_refl _)] at this
          go_wp2
          go_ret
          exact ⟨retB HRT.symm, HB.out⟩
    · have hf : R = false := by
        rw [hR]; unfold shB
        rw [hkk]
        have : ¬ x.l.map It.k = K := fun e => hn (by rw [← hK, ← e, List.length_map, hll])
        simp [this]
      obtain ⟨a, c, rfl⟩ := hu.len
      have hne : ¬ ((ln1 : Int) = (n : Int)) := by omega
      have x4 := X0.cell (i := 4) rfl
      rw [hf]
      clear hR hf p hx hu hll hrl hkk hK hcl
      go_enter Tryd.func74, Tryd.ntmps74
      go_wp2
      go_ret
      exact ⟨rfl, hb0⟩
  · have hf : R = false := by
      rw [hR]; unfold shB
      rw [hkk]; simp [h4]
    rw [hf]
    clear hR hf p hx hll hrl hkk hK hcl
    obtain ⟨a, c, rfl⟩ := hu.len
    go_enter Tryd.func74, Tryd.ntmps74
    go_wp2
    go_ret
    exact ⟨rfl, hb0⟩
end Go.Proofs.YtpfgepgjpnekdaaDoor

namespace Go.Proofs.YtpfgepgjpnekdaaDoor
open Go.RowKit
set_option linter.unusedVariables false
namespace Cb
/-- No part that the kind does not name. -/
def bareB (x : It) : Bool := (x.k == 1 || x.k == 5 || x.n == 0) && ((x.k == 2 || x.b.length == 0) && ((x.k == 3 || x.s.size == 0) && (x.k == 4 || x.l.length == 0)))
mutual
/-- What it holds takes no more room than there is. -/
def szOk : It → Prop
  | .mk _ _ b s l => (b.length ≤ 140737488355328 ∧ s.size ≤ 140737488355328) ∧ szOkL l
def szOkL : List It → Prop
  | [] => True
  | x :: l => szOk x ∧ szOkL l
end
theorem szOk_eq (x : It) : szOk x ↔ (x.b.length ≤ 140737488355328 ∧ x.s.size ≤ 140737488355328) ∧ szOkL x.l := by cases x; exact Iff.rfl
theorem szOkL_mem : ∀ {l : List It} {x : It}, szOkL l → x ∈ l → szOk x
  | y :: l, x, h, hx => by
    simp only [szOkL] at h
    rcases List.mem_cons.1 hx with rfl | hx
    · exact h.1
    · exact szOkL_mem h.2 hx
theorem cnt_sum (x : It) : cnt x = 1 + x.b.length + x.s.size + cntL x.l := by cases x; rfl
theorem cntL_take {l : List It} {j : Nat} (h : j < l.length) : cntL (l.take (j + 1)) = cntL (l.take j) + cnt l[j] := by
  rw [List.take_succ_eq_append_getElem h, cntL_app]; simp [cntL]
mutual
/-- The kinds are numbers that an int has. -/
def kwB : It → Prop
  | .mk k _ _ _ l => (-9223372036854775808 ≤ k ∧ k ≤ 9223372036854775807) ∧ kwL l
def kwL : List It → Prop
  | [] => True
  | x :: l => kwB x ∧ kwL l
end
theorem kwB_eq (x : It) : kwB x ↔ (-9223372036854775808 ≤ x.k ∧ x.k ≤ 9223372036854775807) ∧ kwL x.l := by cases x; exact Iff.rfl
theorem kwL_mem : ∀ {l : List It} {x : It}, kwL l → x ∈ l → kwB x
  | y :: l, x, h, hx => by
    simp only [kwL] at h
    rcases List.mem_cons.1 hx with rfl | hx
    · exact h.1
    · exact kwL_mem h.2 hx
theorem kwL_all : ∀ {l : List It}, (∀ x ∈ l, kwB x) → kwL l
  | [], _ => trivial
  | y :: l, h => ⟨h y (by simp), kwL_all fun x hx => h x (by simp [hx])⟩
end Cb
end Go.Proofs.YtpfgepgjpnekdaaDoor
