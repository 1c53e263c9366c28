/-
  NmUp, PiO, Store, Fork, PtM, IterB, Brk: several texts in one (bundle.py).
-/
import Derived.Test.YtpkonagjnfphkaaGreatDoorPmT02
import Derived.Test.YtpkonagjnfphkaaGreatDoorPmT03
import Derived.Lib.OthersKept
namespace Go.Proofs.YtpkonagjnfphkaaGreatDoor
open Go.RowKit
set_option linter.unusedSimpArgs false
set_option linter.unusedVariables false

theorem bytes_get! (l : List UInt8) (p : Nat) (h : p < l.length) : (⟨l.toArray⟩ : ByteArray).get! p = l[p] := by
  rw [Dig.get!_lt _ _ (by show p < l.toArray.size; simpa using h)]
theorem bytes_extract (l : List UInt8) (a b : Nat) : (⟨l.toArray⟩ : ByteArray).extract a b = ⟨((l.take b).drop a).toArray⟩ := by
  apply ByteArray.ext
  rw [ByteArray.data_extract]
  apply Array.ext'
  simp [Array.toList_extract, List.drop_take]
/-- What upTo tells. -/
def UpTo (c : UInt8) (l : List UInt8) (b : Nat) (T : TypeId) (w : World) (en : Ending) (w' : World) : Prop := match Dig.cut c l with
  | some p => en = .returned (strV p.1) ∧ But (· = b) w w' ∧ RowAt w' b #[strV p.2] T
  | none => en = .panicked (gup 130) ∧ Below w.heap.size w w'
theorem upTo_hit {c : UInt8} (hc : c.toNat < 128) {l : List UInt8} {s : ByteArray} (hs : s = ⟨l.toArray⟩) {p r k : Nat} (hlt : p < s.size) (HI : ∀ j, j < p → s.get! j ≠ c) (HC : (r < 128 ∧ k = 1 ∧ (s.get! p).toNat = r) ∨ (128 ≤ r ∧ ∀ j, p ≤ j → j < p + k → 128 ≤ (s.get! j).toNat)) (hr : r = c.toNat) :
    Dig.cut c l = some (l.take p, l.drop (p + 1)) ∧ s.extract 0 p = ⟨(l.take p).toArray⟩ ∧ s.extract (p + 1) s.size = ⟨(l.drop (p + 1)).toArray⟩ := by
  subst hs
  have hsz : (⟨l.toArray⟩ : ByteArray).size = l.length := by show l.toArray.size = _; simp
  rw [hsz] at hlt
  have hp : (( ⟨l.toArray⟩ : ByteArray).get! p).toNat = r := by rcases HC with h | h; exact h.2.2; omega
  rw [bytes_get! l p hlt] at hp
  refine ⟨Dig.cut_at c l p hlt (fun j hj hjp => ?_) (UInt8.toNat_inj.1 (by omega)), by rw [bytes_extract]; simp, by rw [bytes_extract, hsz, List.take_length]⟩
  have := HI j hjp
  rwa [bytes_get! l j hj] at this
theorem upTo_miss {c : UInt8} (hc : c.toNat < 128) {s : ByteArray} {p r k : Nat} (HI : ∀ j, j < p → s.get! j ≠ c) (HC : (r < 128 ∧ k = 1 ∧ (s.get! p).toNat = r) ∨ (128 ≤ r ∧ ∀ j, p ≤ j → j < p + k → 128 ≤ (s.get! j).toNat)) (hr : r ≠ c.toNat) : ∀ j, j < p + k → s.get! j ≠ c := by
  intro j hj e
  rcases Nat.lt_or_ge j p with h | h
  · exact HI j h e
  · rcases HC with ⟨h1, rfl, h2⟩ | ⟨h1, h2⟩
    · obtain rfl : j = p := by omega
      rw [e] at h2
      exact hr h2.symm
    · have := h2 j h hj
      rw [e] at this
      omega
theorem upTo_none {c : UInt8} {l : List UInt8} {s : ByteArray} (hs : s = ⟨l.toArray⟩) {p : Nat} (hp : p = s.size) (HI : ∀ j, j < p → s.get! j ≠ c) : Dig.cut c l = none := by
  subst hs
  have hsz : (⟨l.toArray⟩ : ByteArray).size = l.length := by show l.toArray.size = _; simp
  refine Dig.cut_none c l fun j hj => ?_
  have := HI j (by omega)
  rwa [bytes_get! l j hj] at this
end Go.Proofs.YtpkonagjnfphkaaGreatDoor

namespace Go.Proofs.YtpkonagjnfphkaaGreatDoor
open Go.RowKit

section
variable {P : Program} {md : Region.Mode} {ops : Array Oper} {Q : Exit → Act → World → Prop} {O : Nat → Prop}

def wpPo (P : Program) (O : Nat → Prop) (ops : Array Oper) (Q : Exit → Act → World → Prop) : List (Nat × Bool) → Act → World → Prop
  | [], a, w => Q .normal a w
  | (i, false) :: r, a, w => ∃ o v, ops[i]? = some o ∧ YieldsIf P ops (But O w) o v a ∧ wpPo P O ops Q r (a.put o.dst v) w
  | (i, true) :: r, a, w => ∃ o, ops[i]? = some o ∧ Region.wanted o (yielded ops a.tmps) = true ∧ o.wp P a w (fun a' w' => But O w w' ∧ wpPo P O ops Q r a' w') Q

theorem held_of_po (hs : Region.noSelect ops = true) (hQ : ∀ c (a : Act) d v w, Q (.panic c) (a.put d v) w → Q (.panic c) a w) : ∀ (π : List (Nat × Bool)) (listed : Array Bool) (a : Act) (w : World),
    piB md ops π listed = true → wpPo P O ops Q π a w → wpAnyH P md ops Q (But O w) π.length listed a w
  | [], _, _, _, hB, h => ⟨by simpa [piB] using hB, h⟩
  | (i, false) :: r, listed, a, w, hB, h => by
    obtain ⟨o, v, hi, hy, h⟩ := h
    simp only [piB, Bool.and_eq_true] at hB
    exact wpAnyH_take hi hs hB.1.2 hB.1.1 (fun c a w hq => hQ c a o.dst v w hq) hy (But.refl _ _) (held_of_po hs hQ r _ _ _ hB.2 h)
  | (i, true) :: r, listed, a, w, hB, h => by
    obtain ⟨o, hi, hw, h⟩ := h
    simp only [piB, Bool.and_eq_true, decide_eq_true_eq] at hB
    refine ⟨fun h0 => (by rw [hB.1] at h0; cases h0), fun j hj => ?_⟩
    rw [hB.1] at hj
    obtain rfl : j = i := by simpa using hj
    unfold wpOp
    simp only [hi, hw, if_true]
    exact .inl (Oper.wp_mono (fun a' w' h' => ⟨h'.1, held_sub (fun _ hx => h'.1.trans hx) _ _ _ _ (held_of_po hs hQ r _ _ _ hB.2 h'.2)⟩) h)

theorem wp_region_po {id : Nat} {a : Act} {w : World} (O : Nat → Prop) (π : List (Nat × Bool)) (hm : P.follows .mixedOrders = true) (hs : Region.noSelect ops = true) (hB : piB .any ops π (Array.replicate ops.size false) = true) (hl : π.length = ops.size)
    (hQ : ∀ c (a : Act) d v w, Q (.panic c) (a.put d v) w → Q (.panic c) a w) (h : ∀ Wd, Below w.heap.size w Wd → wpPo P O ops Q π a Wd) : (Code.region id ops true).wp P Q a w :=
  wp_region_held (S := But O w.drew) hm (by have := held_of_po (md := .any) hs hQ π _ _ _ hB (h w.drew (Below.refl _ _).drew); rw [hl] at this; exact this)

theorem po_q {i : Nat} {o : Oper} {v : Value} {r : List (Nat × Bool)} {a : Act} {w : World} (hi : ops[i]? = some o) (hw : Region.wanted o (yielded ops a.tmps) = true) (hy : ∀ w', But O w w' → (execOp a.eval o).run P w' = .ok (.value v) w')
    (h : wpPo P O ops Q r (a.put o.dst v) w) : wpPo P O ops Q ((i, false) :: r) a w := ⟨o, v, hi, .inl ⟨hw, hy⟩, h⟩
theorem po_no {i : Nat} {o : Oper} {r : List (Nat × Bool)} {a : Act} {w : World} (hi : ops[i]? = some o) (hw : Region.wanted o (yielded ops a.tmps) = false)
    (h : wpPo P O ops Q r (a.put o.dst undef) w) : wpPo P O ops Q ((i, false) :: r) a w := ⟨o, undef, hi, .inr ⟨hw, rfl⟩, h⟩
theorem po_c {i : Nat} {o : Oper} {r : List (Nat × Bool)} {a : Act} {w : World} (hi : ops[i]? = some o) (hw : Region.wanted o (yielded ops a.tmps) = true)
    (h : ∀ K : Act → World → Prop, Shut (∀ a' w', But O w w' → wpPo P O ops Q r a' w' → K a' w') → o.wp P a w K Q) : wpPo P O ops Q ((i, true) :: r) a w :=
  ⟨o, hi, hw, h _ (fun _ _ h1 h2 => ⟨h1, h2⟩)⟩
theorem po_load {i : Nat} {o : Oper} {r : List (Nat × Bool)} {a : Act} {w : World} (hi : ops[i]? = some o) (hw : Region.wanted o (yielded ops a.tmps) = true)
    (ty : TypeId) (x : Operand) (ho : o.op = .load ty x) (b off : Nat) (hx : a.eval x = .pointer (some ⟨b, off, none⟩)) (cs : List Value) (d : TypeDesc) (hr : w.rangeAt b off cs) (hO : ¬ O b)
    (hu : P.underlying ty = some d) (hd : d.isRow = true) (hn : (P.info? ty).map (·.size) = some cs.length) (h : wpPo P O ops Q r (a.put o.dst (.agg cs.toArray)) w) : wpPo P O ops Q ((i, false) :: r) a w :=
  ⟨o, _, hi, yieldsIf_load_mid hw ty x ho b off hx cs d (fun _ hb j v hj => hb.cell (hr j v hj) hO) hu hd hn, h⟩
theorem po_look {i : Nat} {o : Oper} {v : Value} {r : List (Nat × Bool)} {a : Act} {w : World} (hi : ops[i]? = some o) (hw : Region.wanted o (yielded ops a.tmps) = true) (t : TypeId) (m x : Operand) (c : Bool) (ho : o.op = .lookup t m x c)
    {mv xv : Value} (hm : a.eval m = mv) (hx : a.eval x = xv) (hr : ∀ w', But O w w' → (Instr.lookup t mv xv c).run P w' = .ok v w')
    (h : wpPo P O ops Q r (a.put o.dst v) w) : wpPo P O ops Q ((i, false) :: r) a w :=
  po_q hi hw (fun w' hb => by unfold execOp; simp only [ho, hm, hx, Sem.run_bind, Sem.run_pure, Result.andThen_ok, hr w' hb]) h
theorem po_put {i : Nat} {o : Oper} {r : List (Nat × Bool)} {a : Act} {w w' : World} (hi : ops[i]? = some o) (hw : Region.wanted o (yielded ops a.tmps) = true) (t : TypeId) (m x y : Operand) (ho : o.op = .mapUpdate t m x y)
    {mv xv yv : Value} (hm : a.eval m = mv) (hx : a.eval x = xv) (hy : a.eval y = yv) (hr : (Instr.mapUpdate t mv xv yv).run P w = .ok () w') (hb : But O w w')
    (h : wpPo P O ops Q r (a.put o.dst undef) w') : wpPo P O ops Q ((i, true) :: r) a w :=
  ⟨o, hi, hw, by
    unfold Oper.wp execOp
    simp only [ho, hm, hx, hy, Sem.run_bind, Sem.run_pure, Result.andThen_ok, hr]
    exact ⟨hb, h⟩⟩
theorem pi_look {i : Nat} {o : Oper} {v : Value} {r : List (Nat × Bool)} {a : Act} {w : World} (hi : ops[i]? = some o) (hw : Region.wanted o (yielded ops a.tmps) = true) (t : TypeId) (m x : Operand) (c : Bool) (ho : o.op = .lookup t m x c)
    {mv xv : Value} (hm : a.eval m = mv) (hx : a.eval x = xv) (hr : ∀ w', Below w.heap.size w w' → (Instr.lookup t mv xv c).run P w' = .ok v w')
    (h : wpPi P ops Q r (a.put o.dst v) w) : wpPi P ops Q ((i, false) :: r) a w :=
  pi_q hi hw (fun w' hb => by unfold execOp; simp only [ho, hm, hx, Sem.run_bind, Sem.run_pure, Result.andThen_ok, hr w' hb]) h
theorem po_nil {a : Act} {w : World} (h : Q .normal a w) : wpPo P O ops Q [] a w := h
end
end Go.Proofs.YtpkonagjnfphkaaGreatDoor

namespace Go.Proofs.YtpkonagjnfphkaaGreatDoor
open Go.RowKit
set_option linter.unusedVariables false

def setAllA (cs : Array Value) : Nat → List Value → Array Value
  | _, [] => cs
  | o, v :: r => setAllA (cs.setIfInBounds o v) (o + 1) r
theorem setAllA_size : ∀ (vs : List Value) (cs : Array Value) (o : Nat), (setAllA cs o vs).size = cs.size
  | [], _, _ => rfl
  | v :: r, cs, o => by rw [setAllA, setAllA_size r]; simp
theorem setAllA_get : ∀ (vs : List Value) (cs : Array Value) (o i : Nat), o + vs.length ≤ cs.size → (setAllA cs o vs)[i]? = if o ≤ i ∧ i < o + vs.length then vs[i - o]? else cs[i]?
  | [], cs, o, i, _ => by rw [setAllA, if_neg (by simp)]
  | v :: r, cs, o, i, h => by
    simp only [List.length_cons] at h
    rw [setAllA, setAllA_get r _ (o + 1) i (by simp; omega)]
    simp only [List.length_cons]
    by_cases h1 : i = o
    · subst h1
      rw [if_neg (by omega), if_pos (by omega)]
      rw [Nat.sub_self, Array.getElem?_setIfInBounds_self_of_lt (by omega)]; rfl
    · by_cases h2 : o + 1 ≤ i ∧ i < o + 1 + r.length
      · rw [if_pos h2, if_pos (by omega)]
        rw [show i - o = (i - (o + 1)) + 1 by omega, List.getElem?_cons_succ]
      · rw [if_neg h2, if_neg (by omega)]
        rw [Array.getElem?_setIfInBounds_ne (fun e => h1 e.symm)]
theorem setAllA_all (vs : List Value) (cs : Array Value) (h : vs.length = cs.size) : setAllA cs 0 vs = vs.toArray := by
  refine Array.ext_getElem? fun i => ?_
  rw [setAllA_get vs cs 0 i (by omega)]
  by_cases hi : i < vs.length
  · rw [if_pos (by omega)]; simp
  · rw [if_neg (by omega), Array.getElem?_eq_none (by omega), Array.getElem?_eq_none (by simp; omega)]
theorem RowAt.sets {H : Nat} {T : TypeId} : ∀ (vs : List Value) {w : World} {cs : Array Value} (o : Nat), RowAt w H cs T → RowAt (w.setCells H o vs) H (setAllA cs o vs) T
  | [], _, _, _, h => h
  | v :: r, w, cs, o, h => RowAt.sets r (o + 1) (h.set o v)
theorem RowAt.setAll {w : World} {H : Nat} {cs : Array Value} {T : TypeId} (h : RowAt w H cs T) (vs : List Value) (hl : vs.length = cs.size) : RowAt (w.setCells H 0 vs) H vs.toArray T := by
  have := RowAt.sets vs 0 h
  rwa [setAllA_all vs cs hl] at this
theorem But.setCells {O : Nat → Prop} {b : Nat} : ∀ (vs : List Value) (w : World) (o : Nat), O b → But O w (w.setCells b o vs)
  | [], w, _, _ => But.refl _ w
  | v :: r, w, o, h => (But.setCell w ⟨b, o, none⟩ v (.inl h)).trans (But.setCells r _ (o + 1) h)
theorem RowAt.there {w : World} {H : Nat} {cs : Array Value} {T : TypeId} (h : RowAt w H cs T) {n : Nat} (hn : n ≤ cs.size) : w.there H 0 n := fun j hj => by
  rw [Nat.zero_add]
  exact ⟨by rw [h.cell (Array.getElem?_eq_getElem (by omega))]; rfl, h.fz j⟩
theorem wpList_put_row {P : Program} {ops : Array Oper} {rest : List Oper} {op : Oper} {a : Act} {w : World} {Q : Exit → Act → World → Prop} (hgd : op.guard = none) (ty : TypeId) (x y : Operand) (ho : op.op = .store ty x y)
    (H : Nat) (vs : List Value) {cs : Array Value} {T : TypeId} (hx : a.eval x = .pointer (some ⟨H, 0, none⟩)) (hy : a.eval y = .agg vs.toArray) (hr : RowAt w H cs T) (hl : vs.length = cs.size)
    (hi : (P.info? ty).map (·.size) = some vs.length) (h1 : vs.all (·.oneCell') = true)
    (h : ∀ w', RowAt w' H vs.toArray T → But (· = H) w w' → wpList P ops Q rest (a.put op.dst undef) w') : wpList P ops Q (op :: rest) a w :=
  wpList_store_mid hgd ty x y ho H 0 vs.toArray hx hy (hr.there (by simp; omega)) (by simpa using hi) (by simpa using h1) (h _ (hr.setAll vs hl) (But.setCells _ _ _ rfl))
theorem result_row {P : Program} {w : World} {H : Nat} {cs : List Value} {T : TypeId} {d : TypeDesc} (h : RowAt w H cs.toArray T) (ty : TypeId) (hu : P.underlying ty = some d) (hd : d.isRow = true) (hi : (P.info? ty).map (·.size) = some cs.length) :
    (loadVar ty ⟨H, 0, none⟩).run P w = .ok (.agg cs.toArray) w := run_loadVar_mid w H 0 ty cs d h.range hu hd hi
end Go.Proofs.YtpkonagjnfphkaaGreatDoor

namespace Go.Proofs.YtpkonagjnfphkaaGreatDoor
open Go.RowKit

/-- q: a quiet one is taken; c: just this one is ready; f: just these two are; g: just these three. -/
inductive Pt where
  | done
  | q (i : Nat) (t : Pt)
  | c (i : Nat) (t : Pt)
  | f (i : Nat) (t : Pt) (j : Nat) (u : Pt)
  | g (i : Nat) (t : Pt) (j : Nat) (u : Pt) (k : Nat) (v : Pt)

def Pt.len : Pt → Nat
  | .done => 0
  | .q _ t => t.len + 1
  | .c _ t => t.len + 1
  | .f _ t _ u => max t.len u.len + 1
  | .g _ t _ u _ v => max t.len (max u.len v.len) + 1

section
variable {P : Program} {md : Region.Mode} {ops : Array Oper} {Q : Exit → Act → World → Prop} {O : Nat → Prop}

def ptB (md : Region.Mode) (ops : Array Oper) : Pt → Array Bool → Bool
  | .done, listed => (Region.ready md ops listed).isEmpty
  | .q i t, listed => (Region.ready md ops listed).contains i && Region.free md ops listed i && ptB md ops t (listed.setIfInBounds i true)
  | .c i t, listed => decide (Region.ready md ops listed = [i]) && ptB md ops t (listed.setIfInBounds i true)
  | .f i t j u, listed => decide (Region.ready md ops listed = [i, j]) && (ptB md ops t (listed.setIfInBounds i true) && ptB md ops u (listed.setIfInBounds j true))
  | .g i t j u k v, listed => decide (Region.ready md ops listed = [i, j, k]) && (ptB md ops t (listed.setIfInBounds i true) && (ptB md ops u (listed.setIfInBounds j true) && ptB md ops v (listed.setIfInBounds k true)))

def ptStep (P : Program) (O : Nat → Prop) (ops : Array Oper) (Q : Exit → Act → World → Prop) (i : Nat) (R : Act → World → Prop) (a : Act) (w : World) : Prop :=
  ∃ o, ops[i]? = some o ∧ Region.wanted o (yielded ops a.tmps) = true ∧ o.wp P a w (fun a' w' => But O w w' ∧ R a' w') Q

def wpPt (P : Program) (O : Nat → Prop) (ops : Array Oper) (Q : Exit → Act → World → Prop) : Pt → Act → World → Prop
  | .done, a, w => Q .normal a w
  | .q i t, a, w => ∃ o v, ops[i]? = some o ∧ YieldsIf P ops (But O w) o v a ∧ wpPt P O ops Q t (a.put o.dst v) w
  | .c i t, a, w => ptStep P O ops Q i (wpPt P O ops Q t) a w
  | .f i t j u, a, w => ptStep P O ops Q i (wpPt P O ops Q t) a w ∧ ptStep P O ops Q j (wpPt P O ops Q u) a w
  | .g i t j u k v, a, w => ptStep P O ops Q i (wpPt P O ops Q t) a w ∧ ptStep P O ops Q j (wpPt P O ops Q u) a w ∧ ptStep P O ops Q k (wpPt P O ops Q v) a w

theorem pt_wpOp {fuel : Nat} {i : Nat} {t : Pt} {listed : Array Bool} {a : Act} {w : World} (h : ptStep P O ops Q i (wpPt P O ops Q t) a w)
    (ih : ∀ a' w', wpPt P O ops Q t a' w' → wpAnyH P md ops Q (But O w') fuel (listed.setIfInBounds i true) a' w') :
    wpOp P ops Q i (fun a' w' => But O w w' ∧ wpAnyH P md ops Q (But O w) fuel (listed.setIfInBounds i true) a' w') a w := by
  obtain ⟨o, hi, hw, h⟩ := h
  unfold wpOp
  simp only [hi, hw, if_true]
  exact .inl (Oper.wp_mono (fun a' w' h' => ⟨h'.1, held_sub (fun _ hx => h'.1.trans hx) _ _ _ _ (ih a' w' h'.2)⟩) h)

theorem held_of_pt (hs : Region.noSelect ops = true) (hQ : ∀ c (a : Act) d v w, Q (.panic c) (a.put d v) w → Q (.panic c) a w) : ∀ (t : Pt) (fuel : Nat) (listed : Array Bool) (a : Act) (w : World),
    t.len ≤ fuel → ptB md ops t listed = true → wpPt P O ops Q t a w → wpAnyH P md ops Q (But O w) fuel listed a w
  | .done, fuel, listed, a, w, _, hB, h => wpAnyH_done (by simpa [ptB] using hB) h fuel
  | .q i t, 0, _, _, _, hl, _, _ => by simp [Pt.len] at hl
  | .q i t, fuel + 1, listed, a, w, hl, hB, h => by
    obtain ⟨o, v, hi, hy, h⟩ := h
    simp only [ptB, Bool.and_eq_true] at hB
    exact wpAnyH_take hi hs hB.1.2 hB.1.1 (fun c a w hq => hQ c a o.dst v w hq) hy (But.refl _ _) (held_of_pt hs hQ t fuel _ _ _ (by simp [Pt.len] at hl; omega) hB.2 h)
  | .c i t, 0, _, _, _, hl, _, _ => by simp [Pt.len] at hl
  | .c i t, fuel + 1, listed, a, w, hl, hB, h => by
    simp only [ptB, Bool.and_eq_true, decide_eq_true_eq] at hB
    refine ⟨fun h0 => (by rw [hB.1] at h0; cases h0), fun j hj => ?_⟩
    rw [hB.1] at hj
    obtain rfl : j = i := by simpa using hj
    exact pt_wpOp h (fun a' w' h' => held_of_pt hs hQ t fuel _ _ _ (by simp [Pt.len] at hl; omega) hB.2 h')
  | .f i t j u, 0, _, _, _, hl, _, _ => by simp [Pt.len] at hl
  | .f i t j u, fuel + 1, listed, a, w, hl, hB, h => by
    simp only [ptB, Bool.and_eq_true, decide_eq_true_eq] at hB
    simp only [Pt.len] at hl
    refine ⟨fun h0 => (by rw [hB.1] at h0; cases h0), fun m hm => ?_⟩
    rw [hB.1] at hm
    rcases (show m = i ∨ m = j by simpa using hm) with rfl | rfl
    · exact pt_wpOp h.1 (fun a' w' h' => held_of_pt hs hQ t fuel _ _ _ (by omega) hB.2.1 h')
    · exact pt_wpOp h.2 (fun a' w' h' => held_of_pt hs hQ u fuel _ _ _ (by omega) hB.2.2 h')
  | .g i t j u k v, 0, _, _, _, hl, _, _ => by simp [Pt.len] at hl
  | .g i t j u k v, fuel + 1, listed, a, w, hl, hB, h => by
    simp only [ptB, Bool.and_eq_true, decide_eq_true_eq] at hB
    simp only [Pt.len] at hl
    refine ⟨fun h0 => (by rw [hB.1] at h0; cases h0), fun m hm => ?_⟩
    rw [hB.1] at hm
    rcases (show m = i ∨ m = j ∨ m = k by simpa using hm) with rfl | rfl | rfl
    · exact pt_wpOp h.1 (fun a' w' h' => held_of_pt hs hQ t fuel _ _ _ (by omega) hB.2.1 h')
    · exact pt_wpOp h.2.1 (fun a' w' h' => held_of_pt hs hQ u fuel _ _ _ (by omega) hB.2.2.1 h')
    · exact pt_wpOp h.2.2 (fun a' w' h' => held_of_pt hs hQ v fuel _ _ _ (by omega) hB.2.2.2 h')

theorem wp_region_pt {id : Nat} {a : Act} {w : World} (O : Nat → Prop) (t : Pt) (hm : P.follows .mixedOrders = true) (hs : Region.noSelect ops = true) (hB : ptB .any ops t (Array.replicate ops.size false) = true) (hl : t.len ≤ ops.size)
    (hQ : ∀ c (a : Act) d v w, Q (.panic c) (a.put d v) w → Q (.panic c) a w) (h : ∀ Wd, Below w.heap.size w Wd → wpPt P O ops Q t a Wd) : (Code.region id ops true).wp P Q a w :=
  wp_region_held (S := But O w.drew) hm (held_of_pt (md := .any) hs hQ t _ _ _ _ hl hB (h w.drew (Below.refl _ _).drew))

theorem pt_q {i : Nat} {o : Oper} {v : Value} {t : Pt} {a : Act} {w : World} (hi : ops[i]? = some o) (hw : Region.wanted o (yielded ops a.tmps) = true) (hy : ∀ w', But O w w' → (execOp a.eval o).run P w' = .ok (.value v) w')
    (h : wpPt P O ops Q t (a.put o.dst v) w) : wpPt P O ops Q (.q i t) a w := ⟨o, v, hi, .inl ⟨hw, hy⟩, h⟩
theorem pt_no {i : Nat} {o : Oper} {t : Pt} {a : Act} {w : World} (hi : ops[i]? = some o) (hw : Region.wanted o (yielded ops a.tmps) = false)
    (h : wpPt P O ops Q t (a.put o.dst undef) w) : wpPt P O ops Q (.q i t) a w := ⟨o, undef, hi, .inr ⟨hw, rfl⟩, h⟩
theorem pt_step {i : Nat} {o : Oper} {R : Act → World → Prop} {a : Act} {w : World} (hi : ops[i]? = some o) (hw : Region.wanted o (yielded ops a.tmps) = true)
    (h : ∀ K : Act → World → Prop, Shut (∀ a' w', But O w w' → R a' w' → K a' w') → o.wp P a w K Q) : ptStep P O ops Q i R a w :=
  ⟨o, hi, hw, h _ (fun _ _ h1 h2 => ⟨h1, h2⟩)⟩
theorem pt_load {i : Nat} {o : Oper} {t : Pt} {a : Act} {w : World} (hi : ops[i]? = some o) (hw : Region.wanted o (yielded ops a.tmps) = true)
    (ty : TypeId) (x : Operand) (ho : o.op = .load ty x) (b off : Nat) (hx : a.eval x = .pointer (some ⟨b, off, none⟩)) (cs : List Value) (d : TypeDesc) (hr : w.rangeAt b off cs) (hO : ¬ O b)
    (hu : P.underlying ty = some d) (hd : d.isRow = true) (hn : (P.info? ty).map (·.size) = some cs.length) (h : wpPt P O ops Q t (a.put o.dst (.agg cs.toArray)) w) : wpPt P O ops Q (.q i t) a w :=
  ⟨o, _, hi, yieldsIf_load_mid hw ty x ho b off hx cs d (fun _ hb j v hj => hb.cell (hr j v hj) hO) hu hd hn, h⟩
theorem pt_look {i : Nat} {o : Oper} {v : Value} {t : Pt} {a : Act} {w : World} (hi : ops[i]? = some o) (hw : Region.wanted o (yielded ops a.tmps) = true) (ty : TypeId) (m x : Operand) (c : Bool) (ho : o.op = .lookup ty m x c)
    {mv xv : Value} (hm : a.eval m = mv) (hx : a.eval x = xv) (hr : ∀ w', But O w w' → (Instr.lookup ty mv xv c).run P w' = .ok v w')
    (h : wpPt P O ops Q t (a.put o.dst v) w) : wpPt P O ops Q (.q i t) a w :=
  pt_q hi hw (fun w' hb => by unfold execOp; simp only [ho, hm, hx, Sem.run_bind, Sem.run_pure, Result.andThen_ok, hr w' hb]) h
theorem pt_c {i : Nat} {t : Pt} {a : Act} {w : World} (h : ptStep P O ops Q i (wpPt P O ops Q t) a w) : wpPt P O ops Q (.c i t) a w := h
theorem pt_f {i j : Nat} {t u : Pt} {a : Act} {w : World} (h : ptStep P O ops Q i (wpPt P O ops Q t) a w) (h2 : ptStep P O ops Q j (wpPt P O ops Q u) a w) : wpPt P O ops Q (.f i t j u) a w := ⟨h, h2⟩
theorem pt_g {i j k : Nat} {t u v : Pt} {a : Act} {w : World} (h : ptStep P O ops Q i (wpPt P O ops Q t) a w) (h2 : ptStep P O ops Q j (wpPt P O ops Q u) a w) (h3 : ptStep P O ops Q k (wpPt P O ops Q v) a w) : wpPt P O ops Q (.g i t j u k v) a w := ⟨h, h2, h3⟩
/-- A row of one's own is stored whole. -/
theorem pt_put_row {i : Nat} {o : Oper} {R : Act → World → Prop} {a : Act} {w : World} (hi : ops[i]? = some o) (hw : Region.wanted o (yielded ops a.tmps) = true) (ty : TypeId) (x y : Operand) (ho : o.op = .store ty x y)
    (H : Nat) (vs : List Value) {cs : Array Value} {T : TypeId} (hx : a.eval x = .pointer (some ⟨H, 0, none⟩)) (hy : a.eval y = .agg vs.toArray) (hr : RowAt w H cs T) (hl : vs.length = cs.size)
    (hi2 : (P.info? ty).map (·.size) = some vs.length) (h1 : vs.all (·.oneCell') = true) (hO : O H)
    (h : ∀ w', RowAt w' H vs.toArray T → But (· = H) w w' → R (a.put o.dst undef) w') : ptStep P O ops Q i R a w :=
  ⟨o, hi, hw, wp_store_mid ty x y ho H 0 vs.toArray hx hy (hr.there (by simp; omega)) (by simpa using hi2) (by simpa using h1)
    ⟨But.setCells _ _ _ hO, h _ (hr.setAll vs hl) (But.setCells _ _ _ rfl)⟩⟩
theorem pt_put {i : Nat} {o : Oper} {R : Act → World → Prop} {a : Act} {w w' : World} (hi : ops[i]? = some o) (hw : Region.wanted o (yielded ops a.tmps) = true) (t : TypeId) (m x y : Operand) (ho : o.op = .mapUpdate t m x y)
    {mv xv yv : Value} (hm : a.eval m = mv) (hx : a.eval x = xv) (hy : a.eval y = yv) (hr : (Instr.mapUpdate t mv xv yv).run P w = .ok () w') (hb : But O w w')
    (h : R (a.put o.dst undef) w') : ptStep P O ops Q i R a w :=
  ⟨o, hi, hw, by
    unfold Oper.wp execOp
    simp only [ho, hm, hx, hy, Sem.run_bind, Sem.run_pure, Result.andThen_ok, hr]
    exact ⟨hb, h⟩⟩
theorem pt_done {a : Act} {w : World} (h : Q .normal a w) : wpPt P O ops Q .done a w := h
end
end Go.Proofs.YtpkonagjnfphkaaGreatDoor

namespace Go.Proofs.YtpkonagjnfphkaaGreatDoor
open Go.RowKit

def onlyN (Q : Exit → Act → World → Prop) : Exit → Act → World → Prop := fun e a w => e = .normal ∧ Q .normal a w
theorem onlyN_panic {Q : Exit → Act → World → Prop} : ∀ c (a : Act) d v w, onlyN Q (.panic c) (a.put d v) w → onlyN Q (.panic c) a w := fun _ _ _ _ _ h => by cases h.1
theorem wp_onlyN {P : Program} {c : Code} {Q : Exit → Act → World → Prop} {a : Act} {w : World} (h : c.wp P (onlyN Q) a w) : c.wp P Q a w :=
  Code.wp_mono (fun e a' w' he => by obtain ⟨rfl, h⟩ := he; exact h) h
theorem pt_doneN {P : Program} {ops : Array Oper} {Q : Exit → Act → World → Prop} {O : Nat → Prop} {a : Act} {w : World} (h : Q .normal a w) : wpPt P O ops (onlyN Q) .done a w := ⟨rfl, h⟩
theorem pi_nilN {P : Program} {ops : Array Oper} {Q : Exit → Act → World → Prop} {a : Act} {w : World} (h : Q .normal a w) : wpPi P ops (onlyN Q) [] a w := ⟨rfl, h⟩
/-- A guarded operation that is wanted and gives a value. -/
theorem wpList_valG {P : Program} {ops : Array Oper} {rest : List Oper} {o : Oper} {a : Act} {w : World} {Q : Exit → Act → World → Prop} (hw : Region.wanted o (yielded ops a.tmps) = true) {v : Value} (hv : (execOp a.eval o).run P w = .ok (.value v) w)
    (h : wpList P ops Q rest (a.put o.dst v) w) : wpList P ops Q (o :: rest) a w := by
  unfold wpList
  rw [if_pos hw]
  refine .inl ?_
  unfold Oper.wp
  rw [hv]
  exact h
/-- .. a record read whole. -/
theorem wpList_loadG {P : Program} {ops : Array Oper} {rest : List Oper} {o : Oper} {a : Act} {w : World} {Q : Exit → Act → World → Prop} (hw : Region.wanted o (yielded ops a.tmps) = true) (ty : TypeId) (x : Operand) (ho : o.op = .load ty x)
    (b off : Nat) (hx : a.eval x = .pointer (some ⟨b, off, none⟩)) (cs : List Value) (d : TypeDesc) (hr : w.rangeAt b off cs) (hu : P.underlying ty = some d) (hd : d.isRow = true) (hn : (P.info? ty).map (·.size) = some cs.length)
    (h : wpList P ops Q rest (a.put o.dst (.agg cs.toArray)) w) : wpList P ops Q (o :: rest) a w :=
  wpList_valG hw (by
    unfold execOp
    simp only [ho, hx, Instr.loadAt, Instr.sureAddr, Sem.run_bind, Sem.run_pure, Result.andThen_ok, run_loadVar_mid w b off ty cs d hr hu hd hn]) h
end Go.Proofs.YtpkonagjnfphkaaGreatDoor

namespace Go.Proofs.YtpkonagjnfphkaaGreatDoor
open Go.RowKit
set_option linter.unusedVariables false

abbrev markD (D : Nat) : Deferred := { target := .collected D, args := #[] }

theorem leaves_marks {F : Fence} {n : Nat} {P : Program} {fn : Func} {tmps : Array Value} {R : Ending → World → Prop} : ∀ (Ds : List Nat) (w : World), Ds.Nodup → (∀ D ∈ Ds, w.heap[D]? = some (.deferred (some []))) →
    (∀ w', But (· ∈ Ds) w w' → ∃ v, (results fn tmps).run P w' = .ok v w' ∧ R (.returned v) w') → LeavesInM F n P fn tmps R (Ds.map markD) .returning w
  | [], w, _, _, h => h w (But.refl _ _)
  | D :: Ds, w, hnd, hD, h => by
    simp only [List.nodup_cons] at hnd
    have h0 := hD D (by simp)
    refine ⟨by simp, .inl ⟨_, _, rfl, run_takeDeferred h0, leaves_marks Ds _ hnd.2 (fun D' hD' => ?_) (fun w' hb => h w' ?_)⟩⟩
    · rw [World.putObj_heap_other (fun e => hnd.1 (by rw [← e]; exact hD'))]
      exact hD D' (by simp [hD'])
    · exact (But.putObj _ _ _ (.inl (by simp))).trans (hb.mono fun k _ hk => by simp [hk])

theorem still_val {P : Program} {ops : Array Oper} {w : World} {K : Act → Prop} {o : Oper} {rest : List Oper} {a : Act} (hw : Region.wanted o (yielded ops a.tmps) = true) {v : Value} (hv : (execOp a.eval o).run P w = .ok (.value v) w)
    (h : wpStill P ops w K rest (a.put o.dst v)) : wpStill P ops w K (o :: rest) a := by
  unfold wpStill
  rw [if_pos hw]
  unfold Oper.still
  rw [hv]
  exact ⟨rfl, h⟩
theorem still_load {P : Program} {ops : Array Oper} {w : World} {K : Act → Prop} {o : Oper} {rest : List Oper} {a : Act} (hw : Region.wanted o (yielded ops a.tmps) = true) (ty : TypeId) (x : Operand) (ho : o.op = .load ty x)
    (b off : Nat) (hx : a.eval x = .pointer (some ⟨b, off, none⟩)) (cs : List Value) (d : TypeDesc) (hr : w.rangeAt b off cs) (hu : P.underlying ty = some d) (hd : d.isRow = true) (hn : (P.info? ty).map (·.size) = some cs.length)
    (h : wpStill P ops w K rest (a.put o.dst (.agg cs.toArray))) : wpStill P ops w K (o :: rest) a :=
  still_val hw (by
    unfold execOp
    simp only [ho, hx, Instr.loadAt, Instr.sureAddr, Sem.run_bind, Sem.run_pure, Result.andThen_ok, run_loadVar_mid w b off ty cs d hr hu hd hn]) h
theorem wpListIn_val {F : Fence} {n : Nat} {P : Program} {ops : Array Oper} {rest : List Oper} {o : Oper} {a : Act} {w : World} {Q : Exit → Act → World → Prop} (hw : Region.wanted o (yielded ops a.tmps) = true)
    (hab : ∀ f, o.about P w a.eval = some f → F.fn f) (hnd : ∀ c, o.op ≠ .defer c) {v : Value} (hv : (execOp a.eval o).run P w = .ok (.value v) w) (h : wpListIn F n P ops Q rest (a.put o.dst v) w) : wpListIn F n P ops Q (o :: rest) a w := by
  unfold wpListIn
  rw [if_pos hw]
  refine ⟨hab, ?_⟩
  rw [Oper.semAt_eq _ _ _ hnd, hv]
  exact h
theorem wpListIn_loadr {F : Fence} {n : Nat} {P : Program} {ops : Array Oper} {rest : List Oper} {o : Oper} {a : Act} {w : World} {Q : Exit → Act → World → Prop} (hw : Region.wanted o (yielded ops a.tmps) = true) (ty : TypeId) (x : Operand) (ho : o.op = .load ty x)
    (b off : Nat) (hx : a.eval x = .pointer (some ⟨b, off, none⟩)) (cs : List Value) (d : TypeDesc) (hr : w.rangeAt b off cs) (hu : P.underlying ty = some d) (hd : d.isRow = true) (hn : (P.info? ty).map (·.size) = some cs.length)
    (h : wpListIn F n P ops Q rest (a.put o.dst (.agg cs.toArray)) w) : wpListIn F n P ops Q (o :: rest) a w :=
  wpListIn_val hw (fun f hf => by unfold Oper.about at hf; rw [ho] at hf; cases hf) (fun c hc => by rw [ho] at hc; cases hc) (by
    unfold execOp
    simp only [ho, hx, Instr.loadAt, Instr.sureAddr, Sem.run_bind, Sem.run_pure, Result.andThen_ok, run_loadVar_mid w b off ty cs d hr hu hd hn]) h
end Go.Proofs.YtpkonagjnfphkaaGreatDoor

namespace Go.Proofs.YtpkonagjnfphkaaGreatDoor
open Go.RowKit
set_option linter.unusedSimpArgs false
set_option linter.unusedVariables false
theorem wp_cut {P : Program} {c : Code} {Q : Exit → Act → World → Prop} {a : Act} {w : World} (J : Act → World → Prop) (h1 : c.wp P (onlyN fun _ a w => J a w) a w) (h2 : ∀ a' w', J a' w' → Q .normal a' w') : c.wp P Q a w :=
  Code.wp_mono (fun e a' w' he => by obtain ⟨rfl, h⟩ := he; exact h2 _ _ h) h1
/-- A range over a function that may be left by 'break': both ways go on alike. -/
theorem wp_range_brk {P : Program} {n id : Nat} {g : Operand} {ps : Array Tmp} {assign body : Code} {R : Exit → Act → World → Prop} {a : Act} {w : World}
    {gf : Nat} {lb : Array Value} (hg : a.eval g = .func (.func gf) #[] lb) (eg : ∀ args w, (callFunc gf args).run P w = .ok (.enter gf args) w)
    {args : Nat → Array Value} {N : Nat} {S : Nat → Prop} {w0 : World} (hseq : SeqX P gf lb args N S w0) (hb0 : Below w0.heap.size w0 w) (hps : ∀ k, (args k).size = ps.size)
    (G0 : Nat → Prop) (hG0 : ∀ k, G0 k → k < w.heap.size) (hS : ∀ k, S k → k < w.heap.size ∧ ¬ G0 k)
    (I : Nat → (Nat → Prop) → World → Prop) (Im : Nat → Act → (Nat → Prop) → World → Prop) (X : Nat → (Nat → Prop) → World → Prop) (hI : ∀ k, Abide w.heap.size (I k)) (hIm : ∀ k a', Abide w.heap.size (Im k a')) (hX : ∀ k, Abide w.heap.size (X k)) (h0 : I 0 G0 w)
    (hassign : ∀ (l k : Nat) (G : Nat → Prop) (W : World) (K : Act → World → Prop), k < N → I k G W → (∀ a' W', But G W W' → Im k a' (newG G W W') W' → K a' W') →
      assign.wpIn (Fence.wide.inRound l) n P (Exit.then K (fun _ _ _ => False)) { tmps := (ps.zip (args k)).foldl (fun t (p, v) => t.setIfInBounds p v) a.tmps, defers := [] } W)
    (hbody : ∀ (l k : Nat) (a' : Act) (G : Nat → Prop) (W : World), k < N → w.heap.size ≤ l → (∃ r, W.heap[l]? = some (.loop r)) → ¬ G l → Im k a' G W → body.wpIn (Fence.wide.inRound l) n P (endX I (fun c k G W => c = .exit id ∧ X k G W) (k + 1) G W) a' W)
    (hend : ∀ (D : Nat) (G : Nat → Prop) (W : World) (k : Nat), w.heap.size ≤ D → ¬ G D → (k = N ∧ I k G W ∨ k ≤ N ∧ X k G W) → W.heap[D]? = some (.deferred (some [])) → R .normal { a with defers := { target := .collected D, args := #[] } :: a.defers } W) :
    (Code.rangeFunc g ps assign body).wpIn Fence.wide n P (Exit.inBlock id R) a w :=
  wp_range hg eg hseq hb0 hps G0 hG0 hS I Im (fun c k G W => c = .exit id ∧ X k G W) hI hIm (fun c k G A B h hb => ⟨h.1, hX k G A B h.2 hb⟩) h0 hassign hbody
    (fun D G W h1 h2 h3 h4 => hend D G W N h1 h2 (.inl ⟨rfl, h3⟩) h4)
    (fun D c k G W h1 h2 h3 h4 h5 => by
      obtain ⟨rfl, hx⟩ := h4
      refine wpIn_exit ?_
      simp only [Exit.inBlock, if_true]
      exact hend D G W (k + 1) h1 h2 (.inr ⟨h3, hx⟩) h5)
theorem max_int2 (a b : Int) (ts : Array TypeId) (t : TypeId) (w : World) : (Builtin.max_ ts t #[.int .i64 a, .int .i64 b]).run Tryz.prog w = .ok (.int .i64 (if a < b then b else a)) w := by
  rw [run_max_int2]
theorem min_int2 (a b : Int) (ts : Array TypeId) (t : TypeId) (w : World) : (Builtin.min_ ts t #[.int .i64 a, .int .i64 b]).run Tryz.prog w = .ok (.int .i64 (if b < a then b else a)) w := by
  rw [run_min_int2]
end Go.Proofs.YtpkonagjnfphkaaGreatDoor
