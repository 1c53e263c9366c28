/-
  A region that draws its order, whose operations that make memory may come up in several orders: a tree of orders.
-/
import Derived.Test.YtfoncaamhleckaaPiO
import Derived.Test.YtfoncaamhleckaaStore
namespace Go.Proofs.Ytfoncaamhleckaa
open Go.RowKit

/-- q: a quiet one is taken; c: just this one is ready; f: just these two are; g: just these three. -/
inductive Pt where
  | done
  | q (i : Nat) (t : Pt)
  | c (i : Nat) (t : Pt)
  | f (i : Nat) (t : Pt) (j : Nat) (u : Pt)
  | g (i : Nat) (t : Pt) (j : Nat) (u : Pt) (k : Nat) (v : Pt)

def Pt.len : Pt → Nat
  | .done => 0
  | .q _ t => t.len + 1
  | .c _ t => t.len + 1
  | .f _ t _ u => max t.len u.len + 1
  | .g _ t _ u _ v => max t.len (max u.len v.len) + 1

section
variable {P : Program} {md : Region.Mode} {ops : Array Oper} {Q : Exit → Act → World → Prop} {O : Nat → Prop}

def ptB (md : Region.Mode) (ops : Array Oper) : Pt → Array Bool → Bool
  | .done, listed => (Region.ready md ops listed).isEmpty
  | .q i t, listed => (Region.ready md ops listed).contains i && Region.free md ops listed i && ptB md ops t (listed.setIfInBounds i true)
  | .c i t, listed => decide (Region.ready md ops listed = [i]) && ptB md ops t (listed.setIfInBounds i true)
  | .f i t j u, listed => decide (Region.ready md ops listed = [i, j]) && (ptB md ops t (listed.setIfInBounds i true) && ptB md ops u (listed.setIfInBounds j true))
  | .g i t j u k v, listed => decide (Region.ready md ops listed = [i, j, k]) && (ptB md ops t (listed.setIfInBounds i true) && (ptB md ops u (listed.setIfInBounds j true) && ptB md ops v (listed.setIfInBounds k true)))

def ptStep (P : Program) (O : Nat → Prop) (ops : Array Oper) (Q : Exit → Act → World → Prop) (i : Nat) (R : Act → World → Prop) (a : Act) (w : World) : Prop :=
  ∃ o, ops[i]? = some o ∧ Region.wanted o (yielded ops a.tmps) = true ∧ o.wp P a w (fun a' w' => But O w w' ∧ R a' w') Q

def wpPt (P : Program) (O : Nat → Prop) (ops : Array Oper) (Q : Exit → Act → World → Prop) : Pt → Act → World → Prop
  | .done, a, w => Q .normal a w
  | .q i t, a, w => ∃ o v, ops[i]? = some o ∧ YieldsIf P ops (But O w) o v a ∧ wpPt P O ops Q t (a.put o.dst v) w
  | .c i t, a, w => ptStep P O ops Q i (wpPt P O ops Q t) a w
  | .f i t j u, a, w => ptStep P O ops Q i (wpPt P O ops Q t) a w ∧ ptStep P O ops Q j (wpPt P O ops Q u) a w
  | .g i t j u k v, a, w => ptStep P O ops Q i (wpPt P O ops Q t) a w ∧ ptStep P O ops Q j (wpPt P O ops Q u) a w ∧ ptStep P O ops Q k (wpPt P O ops Q v) a w

theorem pt_wpOp {fuel : Nat} {i : Nat} {t : Pt} {listed : Array Bool} {a : Act} {w : World} (h : ptStep P O ops Q i (wpPt P O ops Q t) a w)
    (ih : ∀ a' w', wpPt P O ops Q t a' w' → wpAnyH P md ops Q (But O w') fuel (listed.setIfInBounds i true) a' w') :
    wpOp P ops Q i (fun a' w' => But O w w' ∧ wpAnyH P md ops Q (But O w) fuel (listed.setIfInBounds i true) a' w') a w := by
  obtain ⟨o, hi, hw, h⟩ := h
  unfold wpOp
  simp only [hi, hw, if_true]
  exact .inl (Oper.wp_mono (fun a' w' h' => ⟨h'.1, held_sub (fun _ hx => h'.1.trans hx) _ _ _ _ (ih a' w' h'.2)⟩) h)

theorem held_of_pt (hs : Region.noSelect ops = true) (hQ : ∀ c (a : Act) d v w, Q (.panic c) (a.put d v) w → Q (.panic c) a w) : ∀ (t : Pt) (fuel : Nat) (listed : Array Bool) (a : Act) (w : World),
    t.len ≤ fuel → ptB md ops t listed = true → wpPt P O ops Q t a w → wpAnyH P md ops Q (But O w) fuel listed a w
  | .done, fuel, listed, a, w, _, hB, h => wpAnyH_done (by simpa [ptB] using hB) h fuel
  | .q i t, 0, _, _, _, hl, _, _ => by simp [Pt.len] at hl
  | .q i t, fuel + 1, listed, a, w, hl, hB, h => by
    obtain ⟨o, v, hi, hy, h⟩ := h
    simp only [ptB, Bool.and_eq_true] at hB
    exact wpAnyH_take hi hs hB.1.2 hB.1.1 (fun c a w hq => hQ c a o.dst v w hq) hy (But.refl _ _) (held_of_pt hs hQ t fuel _ _ _ (by simp [Pt.len] at hl; omega) hB.2 h)
  | .c i t, 0, _, _, _, hl, _, _ => by simp [Pt.len] at hl
  | .c i t, fuel + 1, listed, a, w, hl, hB, h => by
    simp only [ptB, Bool.and_eq_true, decide_eq_true_eq] at hB
    refine ⟨fun h0 => (by rw [hB.1] at h0; cases h0), fun j hj => ?_⟩
    rw [hB.1] at hj
    obtain rfl : j = i := by simpa using hj
    exact pt_wpOp h (fun a' w' h' => held_of_pt hs hQ t fuel _ _ _ (by simp [Pt.len] at hl; omega) hB.2 h')
  | .f i t j u, 0, _, _, _, hl, _, _ => by simp [Pt.len] at hl
  | .f i t j u, fuel + 1, listed, a, w, hl, hB, h => by
    simp only [ptB, Bool.and_eq_true, decide_eq_true_eq] at hB
    simp only [Pt.len] at hl
    refine ⟨fun h0 => (by rw [hB.1] at h0; cases h0), fun m hm => ?_⟩
    rw [hB.1] at hm
    rcases (show m = i ∨ m = j by simpa using hm) with rfl | rfl
    · exact pt_wpOp h.1 (fun a' w' h' => held_of_pt hs hQ t fuel _ _ _ (by omega) hB.2.1 h')
    · exact pt_wpOp h.2 (fun a' w' h' => held_of_pt hs hQ u fuel _ _ _ (by omega) hB.2.2 h')
  | .g i t j u k v, 0, _, _, _, hl, _, _ => by simp [Pt.len] at hl
  | .g i t j u k v, fuel + 1, listed, a, w, hl, hB, h => by
    simp only [ptB, Bool.and_eq_true, decide_eq_true_eq] at hB
    simp only [Pt.len] at hl
    refine ⟨fun h0 => (by rw [hB.1] at h0; cases h0), fun m hm => ?_⟩
    rw [hB.1] at hm
    rcases (show m = i ∨ m = j ∨ m = k by simpa using hm) with rfl | rfl | rfl
    · exact pt_wpOp h.1 (fun a' w' h' => held_of_pt hs hQ t fuel _ _ _ (by omega) hB.2.1 h')
    · exact pt_wpOp h.2.1 (fun a' w' h' => held_of_pt hs hQ u fuel _ _ _ (by omega) hB.2.2.1 h')
    · exact pt_wpOp h.2.2 (fun a' w' h' => held_of_pt hs hQ v fuel _ _ _ (by omega) hB.2.2.2 h')

theorem wp_region_pt {id : Nat} {a : Act} {w : World} (O : Nat → Prop) (t : Pt) (hm : P.follows .mixedOrders = true) (hs : Region.noSelect ops = true) (hB : ptB .any ops t (Array.replicate ops.size false) = true) (hl : t.len ≤ ops.size)
    (hQ : ∀ c (a : Act) d v w, Q (.panic c) (a.put d v) w → Q (.panic c) a w) (h : ∀ Wd, Below w.heap.size w Wd → wpPt P O ops Q t a Wd) : (Code.region id ops true).wp P Q a w :=
  wp_region_held (S := But O w.drew) hm (held_of_pt (md := .any) hs hQ t _ _ _ _ hl hB (h w.drew (Below.refl _ _).drew))

theorem pt_q {i : Nat} {o : Oper} {v : Value} {t : Pt} {a : Act} {w : World} (hi : ops[i]? = some o) (hw : Region.wanted o (yielded ops a.tmps) = true) (hy : ∀ w', But O w w' → (execOp a.eval o).run P w' = .ok (.value v) w')
    (h : wpPt P O ops Q t (a.put o.dst v) w) : wpPt P O ops Q (.q i t) a w := ⟨o, v, hi, .inl ⟨hw, hy⟩, h⟩
theorem pt_no {i : Nat} {o : Oper} {t : Pt} {a : Act} {w : World} (hi : ops[i]? = some o) (hw : Region.wanted o (yielded ops a.tmps) = false)
    (h : wpPt P O ops Q t (a.put o.dst undef) w) : wpPt P O ops Q (.q i t) a w := ⟨o, undef, hi, .inr ⟨hw, rfl⟩, h⟩
theorem pt_step {i : Nat} {o : Oper} {R : Act → World → Prop} {a : Act} {w : World} (hi : ops[i]? = some o) (hw : Region.wanted o (yielded ops a.tmps) = true)
    (h : ∀ K : Act → World → Prop, Shut (∀ a' w', But O w w' → R a' w' → K a' w') → o.wp P a w K Q) : ptStep P O ops Q i R a w :=
  ⟨o, hi, hw, h _ (fun _ _ h1 h2 => ⟨h1, h2⟩)⟩
theorem pt_load {i : Nat} {o : Oper} {t : Pt} {a : Act} {w : World} (hi : ops[i]? = some o) (hw : Region.wanted o (yielded ops a.tmps) = true)
    (ty : TypeId) (x : Operand) (ho : o.op = .load ty x) (b off : Nat) (hx : a.eval x = .pointer (some ⟨b, off, none⟩)) (cs : List Value) (d : TypeDesc) (hr : w.rangeAt b off cs) (hO : ¬ O b)
    (hu : P.underlying ty = some d) (hd : d.isRow = true) (hn : (P.info? ty).map (·.size) = some cs.length) (h : wpPt P O ops Q t (a.put o.dst (.agg cs.toArray)) w) : wpPt P O ops Q (.q i t) a w :=
  ⟨o, _, hi, yieldsIf_load_mid hw ty x ho b off hx cs d (fun _ hb j v hj => hb.cell (hr j v hj) hO) hu hd hn, h⟩
theorem pt_look {i : Nat} {o : Oper} {v : Value} {t : Pt} {a : Act} {w : World} (hi : ops[i]? = some o) (hw : Region.wanted o (yielded ops a.tmps) = true) (ty : TypeId) (m x : Operand) (c : Bool) (ho : o.op = .lookup ty m x c)
    {mv xv : Value} (hm : a.eval m = mv) (hx : a.eval x = xv) (hr : ∀ w', But O w w' → (Instr.lookup ty mv xv c).run P w' = .ok v w')
    (h : wpPt P O ops Q t (a.put o.dst v) w) : wpPt P O ops Q (.q i t) a w :=
  pt_q hi hw (fun w' hb => by unfold execOp; simp only [ho, hm, hx, Sem.run_bind, Sem.run_pure, Result.andThen_ok, hr w' hb]) h
theorem pt_c {i : Nat} {t : Pt} {a : Act} {w : World} (h : ptStep P O ops Q i (wpPt P O ops Q t) a w) : wpPt P O ops Q (.c i t) a w := h
theorem pt_f {i j : Nat} {t u : Pt} {a : Act} {w : World} (h : ptStep P O ops Q i (wpPt P O ops Q t) a w) (h2 : ptStep P O ops Q j (wpPt P O ops Q u) a w) : wpPt P O ops Q (.f i t j u) a w := ⟨h, h2⟩
theorem pt_g {i j k : Nat} {t u v : Pt} {a : Act} {w : World} (h : ptStep P O ops Q i (wpPt P O ops Q t) a w) (h2 : ptStep P O ops Q j (wpPt P O ops Q u) a w) (h3 : ptStep P O ops Q k (wpPt P O ops Q v) a w) : wpPt P O ops Q (.g i t j u k v) a w := ⟨h, h2, h3⟩
/-- A row of one's own is stored whole. -/
theorem pt_put_row {i : Nat} {o : Oper} {R : Act → World → Prop} {a : Act} {w : World} (hi : ops[i]? = some o) (hw : Region.wanted o (yielded ops a.tmps) = true) (ty : TypeId) (x y : Operand) (ho : o.op = .store ty x y)
    (H : Nat) (vs : List Value) {cs : Array Value} {T : TypeId} (hx : a.eval x = .pointer (some ⟨H, 0, none⟩)) (hy : a.eval y = .agg vs.toArray) (hr : RowAt w H cs T) (hl : vs.length = cs.size)
    (hi2 : (P.info? ty).map (·.size) = some vs.length) (h1 : vs.all (·.oneCell') = true) (hO : O H)
    (h : ∀ w', RowAt w' H vs.toArray T → But (· = H) w w' → R (a.put o.dst undef) w') : ptStep P O ops Q i R a w :=
  ⟨o, hi, hw, wp_store_mid ty x y ho H 0 vs.toArray hx hy (hr.there (by simp; omega)) (by simpa using hi2) (by simpa using h1)
    ⟨But.setCells _ _ _ hO, h _ (hr.setAll vs hl) (But.setCells _ _ _ rfl)⟩⟩
theorem pt_put {i : Nat} {o : Oper} {R : Act → World → Prop} {a : Act} {w w' : World} (hi : ops[i]? = some o) (hw : Region.wanted o (yielded ops a.tmps) = true) (t : TypeId) (m x y : Operand) (ho : o.op = .mapUpdate t m x y)
    {mv xv yv : Value} (hm : a.eval m = mv) (hx : a.eval x = xv) (hy : a.eval y = yv) (hr : (Instr.mapUpdate t mv xv yv).run P w = .ok () w') (hb : But O w w')
    (h : R (a.put o.dst undef) w') : ptStep P O ops Q i R a w :=
  ⟨o, hi, hw, by
    unfold Oper.wp execOp
    simp only [ho, hm, hx, hy, Sem.run_bind, Sem.run_pure, Result.andThen_ok, hr]
    exact ⟨hb, h⟩⟩
theorem pt_done {a : Act} {w : World} (h : Q .normal a w) : wpPt P O ops Q .done a w := h
end
end Go.Proofs.Ytfoncaamhleckaa
