/-
  Fork, PtM, Brk: several texts in one (bundle.py).
-/
import Derived.Test.YtpfgepgjpnekdaaDoorNmI14
import Derived.Test.YtpfgepgjpnekdaaDoorNmI04
import Derived.Test.YtpfgepgjpnekdaaDoorNmI10
namespace Go.Proofs.YtpfgepgjpnekdaaDoor
open Go.RowKit

/-- q: a quiet one is taken; c: just this one is ready; f: just these two are; g: just these three. -/
inductive Pt where
  | done
  | q (i : Nat) (t : Pt)
  | c (i : Nat) (t : Pt)
  | f (i : Nat) (t : Pt) (j : Nat) (u : Pt)
  | g (i : Nat) (t : Pt) (j : Nat) (u : Pt) (k : Nat) (v : Pt)

def Pt.len : Pt → Nat
  | .done => 0
  | .q _ t => t.len + 1
  | .c _ t => t.len + 1
  | .f _ t _ u => max t.len u.len + 1
  | .g _ t _ u _ v => max t.len (max u.len v.len) + 1

section
variable {P : Program} {md : Region.Mode} {ops : Array Oper} {Q : Exit → Act → World → Prop} {O : Nat → Prop}

def ptB (md : Region.Mode) (ops : Array Oper) : Pt → Array Bool → Bool
  | .done, listed => (Region.ready md ops listed).isEmpty
  | .q i t, listed => (Region.ready md ops listed).contains i && Region.free md ops listed i && ptB md ops t (listed.setIfInBounds i true)
  | .c i t, listed => decide (Region.ready md ops listed = [i]) && ptB md ops t (listed.setIfInBounds i true)
  | .f i t j u, listed => decide (Region.ready md ops listed = [i, j]) && (ptB md ops t (listed.setIfInBounds i true) && ptB md ops u (listed.setIfInBounds j true))
  | .g i t j u k v, listed => decide (Region.ready md ops listed = [i, j, k]) && (ptB md ops t (listed.setIfInBounds i true) && (ptB md ops u (listed.setIfInBounds j true) && ptB md ops v (listed.setIfInBounds k true)))

def ptStep (P : Program) (O : Nat → Prop) (ops : Array Oper) (Q : Exit → Act → World → Prop) (i : Nat) (R : Act → World → Prop) (a : Act) (w : World) : Prop :=
  ∃ o, ops[i]? = some o ∧ Region.wanted o (yielded ops a.tmps) = true ∧ o.wp P a w (fun a' w' => But O w w' ∧ R a' w') Q

def wpPt (P : Program) (O : Nat → Prop) (ops : Array Oper) (Q : Exit → Act → World → Prop) : Pt → Act → World → Prop
  | .done, a, w => Q .normal a w
  | .q i t, a, w => ∃ o v, ops[i]? = some o ∧ YieldsIf P ops (But O w) o v a ∧ wpPt P O ops Q t (a.put o.dst v) w
  | .c i t, a, w => ptStep P O ops Q i (wpPt P O ops Q t) a w
  | .f i t j u, a, w => ptStep P O ops Q i (wpPt P O ops Q t) a w ∧ ptStep P O ops Q j (wpPt P O ops Q u) a w
  | .g i t j u k v, a, w => ptStep P O ops Q i (wpPt P O ops Q t) a w ∧ ptStep P O ops Q j (wpPt P O ops Q u) a w ∧ ptStep P O ops Q k (wpPt P O ops Q v) a w

theorem pt_wpOp {fuel : Nat} {i : Nat} {t : Pt} {listed : Array Bool} {a : Act} {w : World} (h : ptStep P O ops Q i (wpPt P O ops Q t) a w)
    (ih : ∀ a' w', wpPt P O ops Q t a' w' → wpAnyH P md ops Q (But O w') fuel (listed.setIfInBounds i true) a' w') :
    wpOp P ops Q i (fun a' w' => But O w w' ∧ wpAnyH P md ops Q (But O w) fuel (listed.setIfInBounds i true) a' w') a w := by
  obtain ⟨o, hi, hw, h⟩ := h
  unfold wpOp
  simp only [hi, hw, if_true]
  exact .inl (Oper.wp_mono (fun a' w' h' => ⟨h'.1, held_sub (fun _ hx => h'.1.trans hx) _ _ _ _ (ih a' w' h'.2)⟩) h)

theorem held_of_pt (hs : Region.noSelect ops = true) (hQ : ∀ c (a : Act) d v w, Q (.panic c) (a.put d v) w → Q (.panic c) a w) : ∀ (t : Pt) (fuel : Nat) (listed : Array Bool) (a : Act) (w : World),
    t.len ≤ fuel → ptB md ops t listed = true → wpPt P O ops Q t a w → wpAnyH P md ops Q (But O w) fuel listed a w
  | .done, fuel, listed, a, w, _, hB, h => wpAnyH_done (by simpa [ptB] using hB) h fuel
  | .q i t, 0, _, _, _, hl, _, _ => by simp [Pt.len] at hl
  | .q i t, fuel + 1, listed, a, w, hl, hB, h => by
    obtain ⟨o, v, hi, hy, h⟩ := h
    simp only [ptB, Bool.and_eq_true] at hB
    exact wpAnyH_take hi hs hB.1.2 hB.1.1 (fun c a w hq => hQ c a o.dst v w hq) hy (But.refl _ _) (held_of_pt hs hQ t fuel _ _ _ (by simp [Pt.len] at hl; omega) hB.2 h)
  | .c i t, 0, _, _, _, hl, _, _ => by simp [Pt.len] at hl
  | .c i t, fuel + 1, listed, a, w, hl, hB, h => by
    simp only [ptB, Bool.and_eq_true, decide_eq_true_eq] at hB
    refine ⟨fun h0 => (by rw [hB.1] at h0; cases h0), fun j hj => ?_⟩
    rw [hB.1] at hj
    obtain rfl : j = i := by simpa using hj
    exact pt_wpOp h (fun a' w' h' => held_of_pt hs hQ t fuel _ _ _ (by simp [Pt.len] at hl; omega) hB.2 h')
  | .f i t j u, 0, _, _, _, hl, _, _ => by simp [Pt.len] at hl
  | .f i t j u, fuel + 1, listed, a, w, hl, hB, h => by
    simp only [ptB, Bool.and_eq_true, decide_eq_true_eq] at hB
    simp only [Pt.len] at hl
    refine ⟨fun h0 => (by rw [hB.1] at h0; cases h0), fun m hm => ?_⟩
    rw [hB.1] at hm
    rcases (show m = i ∨ m = j by simpa using hm) with rfl | rfl
    · exact pt_wpOp h.1 (fun a' w' h' => held_of_pt hs hQ t fuel _ _ _ (by omega) hB.2.1 h')
    · exact pt_wpOp h.2 (fun a' w' h' => held_of_pt hs hQ u fuel _ _ _ (by omega) hB.2.2 h')
  | .g i t j u k v, 0, _, _, _, hl, _, _ => by simp [Pt.len] at hl
  | .g i t j u k v, fuel + 1, listed, a, w, hl, hB, h => by
    simp only [ptB, Bool.and_eq_true, decide_eq_true_eq] at hB
    simp only [Pt.len] at hl
    refine ⟨fun h0 => (by rw [hB.1] at h0; cases h0), fun m hm => ?_⟩
    rw [hB.1] at hm
    rcases (show m = i ∨ m = j ∨ m = k by simpa using hm) with rfl | rfl | rfl
    · exact pt_wpOp h.1 (fun a' w' h' => held_of_pt hs hQ t fuel _ _ _ (by omega) hB.2.1 h')
    · exact pt_wpOp h.2.1 (fun a' w' h' => held_of_pt hs hQ u fuel _ _ _ (by omega) hB.2.2.1 h')
    · exact pt_wpOp h.2.2 (fun a' w' h' => held_of_pt hs hQ v fuel _ _ _ (by omega) hB.2.2.2 h')

theorem wp_region_pt {id : Nat} {a : Act} {w : World} (O : Nat → Prop) (t : Pt) (hm : P.follows .mixedOrders = true) (hs : Region.noSelect ops = true) (hB : ptB .any ops t (Array.replicate ops.size false) = true) (hl : t.len ≤ ops.size)
    (hQ : ∀ c (a : Act) d v w, Q (.panic c) (a.put d v) w → Q (.panic c) a w) (h : ∀ Wd, Below w.heap.size w Wd → wpPt P O ops Q t a Wd) : (Code.region id ops true).wp P Q a w :=
  wp_region_held (S := But O w.drew) hm (held_of_pt (md := .any) hs hQ t _ _ _ _ hl hB (h w.drew (Below.refl _ _).drew))

theorem pt_q {i : Nat} {o : Oper} {v : Value} {t : Pt} {a : Act} {w : World} (hi : ops[i]? = some o) (hw : Region.wanted o (yielded ops a.tmps) = true) (hy : ∀ w', But O w w' → (execOp a.eval o).run P w' = .ok (.value v) w')
    (h : wpPt P O ops Q t (a.put o.dst v) w) : wpPt P O ops Q (.q i t) a w := ⟨o, v, hi, .inl ⟨hw, hy⟩, h⟩
theorem pt_no {i : Nat} {o : Oper} {t : Pt} {a : Act} {w : World} (hi : ops[i]? = some o) (hw : Region.wanted o (yielded ops a.tmps) = false)
    (h : wpPt P O ops Q t (a.put o.dst undef) w) : wpPt P O ops Q (.q i t) a w := ⟨o, undef, hi, .inr ⟨hw, rfl⟩, h⟩
theorem pt_step {i : Nat} {o : Oper} {R : Act → World → Prop} {a : Act} {w : World} (hi : ops[i]? = some o) (hw : Region.wanted o (yielded ops a.tmps) = true)
    (h : ∀ K : Act → World → Prop, Shut (∀ a' w', But O w w' → R a' w' → K a' w') → o.wp P a w K Q) : ptStep P O ops Q i R a w :=
  ⟨o, hi, hw, h _ (fun _ _ h1 h2 => ⟨h1, h2⟩)⟩
theorem pt_load {i : Nat} {o : Oper} {t : Pt} {a : Act} {w : World} (hi : ops[i]? = some o) (hw : Region.wanted o (yielded ops a.tmps) = true)
    (ty : TypeId) (x : Operand) (ho : o.op = .load ty x) (b off : Nat) (hx : a.eval x = .pointer (some ⟨b, off, none⟩)) (cs : List Value) (d : TypeDesc) (hr : w.rangeAt b off cs) (hO : ¬ O b)
    (hu : P.underlying ty = some d) (hd : d.isRow = true) (hn : (P.info? ty).map (·.size) = some cs.length) (h : wpPt P O ops Q t (a.put o.dst (.agg cs.toArray)) w) : wpPt P O ops Q (.q i t) a w :=
  ⟨o, _, hi, yieldsIf_load_mid hw ty x ho b off hx cs d (fun _ hb j v hj => hb.cell (hr j v hj) hO) hu hd hn, h⟩
theorem pt_look {i : Nat} {o : Oper} {v : Value} {t : Pt} {a : Act} {w : World} (hi : ops[i]? = some o) (hw : Region.wanted o (yielded ops a.tmps) = true) (ty : TypeId) (m x : Operand) (c : Bool) (ho : o.op = .lookup ty m x c)
    {mv xv : Value} (hm : a.eval m = mv) (hx : a.eval x = xv) (hr : ∀ w', But O w w' → (Instr.lookup ty mv xv c).run P w' = .ok v w')
    (h : wpPt P O ops Q t (a.put o.dst v) w) : wpPt P O ops Q (.q i t) a w :=
  pt_q hi hw (fun w' hb => by unfold execOp; simp only [ho, hm, hx, Sem.run_bind, Sem.run_pure, Result.andThen_ok, hr w' hb]) h
theorem pt_c {i : Nat} {t : Pt} {a : Act} {w : World} (h : ptStep P O ops Q i (wpPt P O ops Q t) a w) : wpPt P O ops Q (.c i t) a w := h
theorem pt_f {i j : Nat} {t u : Pt} {a : Act} {w : World} (h : ptStep P O ops Q i (wpPt P O ops Q t) a w) (h2 : ptStep P O ops Q j (wpPt P O ops Q u) a w) : wpPt P O ops Q (.f i t j u) a w := ⟨h, h2⟩
theorem pt_g {i j k : Nat} {t u v : Pt} {a : Act} {w : World} (h : ptStep P O ops Q i (wpPt P O ops Q t) a w) (h2 : ptStep P O ops Q j (wpPt P O ops Q u) a w) (h3 : ptStep P O ops Q k (wpPt P O ops Q v) a w) : wpPt P O ops Q (.g i t j u k v) a w := ⟨h, h2, h3⟩
/-- A row of one's own is stored whole. -/
theorem pt_put_row {i : Nat} {o : Oper} {R : Act → World → Prop} {a : Act} {w : World} (hi : ops[i]? = some o) (hw : Region.wanted o (yielded ops a.tmps) = true) (ty : TypeId) (x y : Operand) (ho : o.op = .store ty x y)
    (H : Nat) (vs : List Value) {cs : Array Value} {T : TypeId} (hx : a.eval x = .pointer (some ⟨H, 0, none⟩)) (hy : a.eval y = .agg vs.toArray) (hr : RowAt w H cs T) (hl : vs.length = cs.size)
    (hi2 : (P.info? ty).map (·.size) = some vs.length) (h1 : vs.all (·.oneCell') = true) (hO : O H)
    (h : ∀ w', RowAt w' H vs.toArray T → But (· = H) w w' → R (a.put o.dst undef) w') : ptStep P O ops Q i R a w :=
  ⟨o, hi, hw, wp_store_mid ty x y ho H 0 vs.toArray hx hy (hr.there (by simp; omega)) (by simpa using hi2) (by simpa using h1)
    ⟨But.setCells _ _ _ hO, h _ (hr.setAll vs hl) (But.setCells _ _ _ rfl)⟩⟩
theorem pt_put {i : Nat} {o : Oper} {R : Act → World → Prop} {a : Act} {w w' : World} (hi : ops[i]? = some o) (hw : Region.wanted o (yielded ops a.tmps) = true) (t : TypeId) (m x y : Operand) (ho : o.op = .mapUpdate t m x y)
    {mv xv yv : Value} (hm : a.eval m = mv) (hx : a.eval x = xv) (hy : a.eval y = yv) (hr : (Instr.mapUpdate t mv xv yv).run P w = .ok () w') (hb : But O w w')
    (h : R (a.put o.dst undef) w') : ptStep P O ops Q i R a w :=
  ⟨o, hi, hw, by
    unfold Oper.wp execOp
    simp only [ho, hm, hx, hy, Sem.run_bind, Sem.run_pure, Result.andThen_ok, hr]
    exact ⟨hb, h⟩⟩
theorem pt_done {a : Act} {w : World} (h : Q .normal a w) : wpPt P O ops Q .done a w := h
end
end Go.Proofs.YtpfgepgjpnekdaaDoor

namespace Go.Proofs.YtpfgepgjpnekdaaDoor
open Go.RowKit

def onlyN (Q : Exit → Act → World → Prop) : Exit → Act → World → Prop := fun e a w => e = .normal ∧ Q .normal a w
theorem onlyN_panic {Q : Exit → Act → World → Prop} : ∀ c (a : Act) d v w, onlyN Q (.panic c) (a.put d v) w → onlyN Q (.panic c) a w := fun _ _ _ _ _ h => by cases h.1
theorem wp_onlyN {P : Program} {c : Code} {Q : Exit → Act → World → Prop} {a : Act} {w : World} (h : c.wp P (onlyN Q) a w) : c.wp P Q a w :=
  Code.wp_mono (fun e a' w' he => by obtain ⟨rfl, h⟩ := he; exact h) h
theorem pt_doneN {P : Program} {ops : Array Oper} {Q : Exit → Act → World → Prop} {O : Nat → Prop} {a : Act} {w : World} (h : Q .normal a w) : wpPt P O ops (onlyN Q) .done a w := ⟨rfl, h⟩
theorem pi_nilN {P : Program} {ops : Array Oper} {Q : Exit → Act → World → Prop} {a : Act} {w : World} (h : Q .normal a w) : wpPi P ops (onlyN Q) [] a w := ⟨rfl, h⟩
/-- A guarded operation that is wanted and gives a value. -/
theorem wpList_valG {P : Program} {ops : Array Oper} {rest : List Oper} {o : Oper} {a : Act} {w : World} {Q : Exit → Act → World → Prop} (hw : Region.wanted o (yielded ops a.tmps) = true) {v : Value} (hv : (execOp a.eval o).run P w = .ok (.value v) w)
    (h : wpList P ops Q rest (a.put o.dst v) w) : wpList P ops Q (o :: rest) a w := by
  unfold wpList
  rw [if_pos hw]
  refine .inl ?_
  unfold Oper.wp
  rw [hv]
  exact h
/-- .. a record read whole. -/
theorem wpList_loadG {P : Program} {ops : Array Oper} {rest : List Oper} {o : Oper} {a : Act} {w : World} {Q : Exit → Act → World → Prop} (hw : Region.wanted o (yielded ops a.tmps) = true) (ty : TypeId) (x : Operand) (ho : o.op = .load ty x)
    (b off : Nat) (hx : a.eval x = .pointer (some ⟨b, off, none⟩)) (cs : List Value) (d : TypeDesc) (hr : w.rangeAt b off cs) (hu : P.underlying ty = some d) (hd : d.isRow = true) (hn : (P.info? ty).map (·.size) = some cs.length)
    (h : wpList P ops Q rest (a.put o.dst (.agg cs.toArray)) w) : wpList P ops Q (o :: rest) a w :=
  wpList_valG hw (by
    unfold execOp
    simp only [ho, hx, Instr.loadAt, Instr.sureAddr, Sem.run_bind, Sem.run_pure, Result.andThen_ok, run_loadVar_mid w b off ty cs d hr hu hd hn]) h
end Go.Proofs.YtpfgepgjpnekdaaDoor

namespace Go.Proofs.YtpfgepgjpnekdaaDoor
open Go.RowKit
set_option linter.unusedSimpArgs false
set_option linter.unusedVariables false
theorem wp_cut {P : Program} {c : Code} {Q : Exit → Act → World → Prop} {a : Act} {w : World} (J : Act → World → Prop) (h1 : c.wp P (onlyN fun _ a w => J a w) a w) (h2 : ∀ a' w', J a' w' → Q .normal a' w') : c.wp P Q a w :=
  Code.wp_mono (fun e a' w' he => by obtain ⟨rfl, h⟩ := he; exact h2 _ _ h) h1
/-- A range over a function that may be left by 'break': both ways go on alike. -/
theorem wp_range_brk {P : Program} {n id : Nat} {g : Operand} {ps : Array Tmp} {assign body : Code} {R : Exit → Act → World → Prop} {a : Act} {w : World}
    {gf : Nat} {lb : Array Value} (hg : a.eval g = .func (.func gf) #[] lb) (eg : ∀ args w, (callFunc gf args).run P w = .ok (.enter gf args) w)
    {args : Nat → Array Value} {N : Nat} {S : Nat → Prop} {w0 : World} (hseq : SeqX P gf lb args N S w0) (hb0 : Below w0.heap.size w0 w) (hps : ∀ k, (args k).size = ps.size)
    (G0 : Nat → Prop) (hG0 : ∀ k, G0 k → k < w.heap.size) (hS : ∀ k, S k → k < w.heap.size ∧ ¬ G0 k)
    (I : Nat → (Nat → Prop) → World → Prop) (Im : Nat → Act → (Nat → Prop) → World → Prop) (X : Nat → (Nat → Prop) → World → Prop) (hI : ∀ k, Abide w.heap.size (I k)) (hIm : ∀ k a', Abide w.heap.size (Im k a')) (hX : ∀ k, Abide w.heap.size (X k)) (h0 : I 0 G0 w)
    (hassign : ∀ (l k : Nat) (G : Nat → Prop) (W : World) (K : Act → World → Prop), k < N → I k G W → (∀ a' W', But G W W' → Im k a' (newG G W W') W' → K a' W') →
      assign.wpIn (Fence.wide.inRound l) n P (Exit.then K (fun _ _ _ => False)) { tmps := (ps.zip (args k)).foldl (fun t (p, v) => t.setIfInBounds p v) a.tmps, defers := [] } W)
    (hbody : ∀ (l k : Nat) (a' : Act) (G : Nat → Prop) (W : World), k < N → w.heap.size ≤ l → (∃ r, W.heap[l]? = some (.loop r)) → ¬ G l → Im k a' G W → body.wpIn (Fence.wide.inRound l) n P (endX I (fun c k G W => c = .exit id ∧ X k G W) (k + 1) G W) a' W)
    (hend : ∀ (D : Nat) (G : Nat → Prop) (W : World) (k : Nat), w.heap.size ≤ D → ¬ G D → (k = N ∧ I k G W ∨ k ≤ N ∧ X k G W) → W.heap[D]? = some (.deferred (some [])) → R .normal { a with defers := { target := .collected D, args := #[] } :: a.defers } W) :
    (Code.rangeFunc g ps assign body).wpIn Fence.wide n P (Exit.inBlock id R) a w :=
  wp_range hg eg hseq hb0 hps G0 hG0 hS I Im (fun c k G W => c = .exit id ∧ X k G W) hI hIm (fun c k G A B h hb => ⟨h.1, hX k G A B h.2 hb⟩) h0 hassign hbody
    (fun D G W h1 h2 h3 h4 => hend D G W N h1 h2 (.inl ⟨rfl, h3⟩) h4)
    (fun D c k G W h1 h2 h3 h4 h5 => by
      obtain ⟨rfl, hx⟩ := h4
      refine wpIn_exit ?_
      simp only [Exit.inBlock, if_true]
      exact hend D G W (k + 1) h1 h2 (.inr ⟨h3, hx⟩) h5)
theorem max_int2 (a b : Int) (ts : Array TypeId) (t : TypeId) (w : World) : (Builtin.max_ ts t #[.int .i64 a, .int .i64 b]).run Tryd.prog w = .ok (.int .i64 (if a < b then b else a)) w := by
  rw [run_max_int2]
theorem min_int2 (a b : Int) (ts : Array TypeId) (t : TypeId) (w : World) : (Builtin.min_ ts t #[.int .i64 a, .int .i64 b]).run Tryd.prog w = .ok (.int .i64 (if b < a then b else a)) w := by
  rw [run_min_int2]
end Go.Proofs.YtpfgepgjpnekdaaDoor
