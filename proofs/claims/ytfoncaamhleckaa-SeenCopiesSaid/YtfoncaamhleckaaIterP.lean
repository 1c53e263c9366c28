/-
  A range over a function whose rounds come in an order that nobody knows ahead: the iterator's contract by a relation of steps; the caller's law, outermost.
-/
import Derived.Test.YtfoncaamhleckaaIter
namespace Go.Proofs.Ytfoncaamhleckaa
open Go.RowKit

section
variable {ι : Type}
/-- What a round leaves, by what yield hands back. -/
structure WentP (J Jx : ι → (Nat → Prop) → World → Prop) (i' : ι) (G : Nat → Prop) (W : World) (g : Bool) (W' : World) : Prop where
  but : But G W W'
  on : g = true → J i' (newG G W W') W'
  off : g = false → Jx i' (newG G W W') W'
def wentP (J Jx : ι → (Nat → Prop) → World → Prop) (i' : ι) (G : Nat → Prop) (W : World) (e : Ending) (W' : World) : Prop := ∃ g, e = .returned (.bool g) ∧ WentP J Jx i' G W g W'

/-- THE ITERATOR's CONTRACT: a round goes from i by the arguments x to i', where R says so; it begins at i0; at its end F holds; G names what the caller owns and its rounds may turn: no block of S. -/
def SeqP (P : Program) (gf : Nat) (lb : Array Value) (R : ι → Array Value → ι → Prop) (i0 : ι) (F : ι → Prop) (S : Nat → Prop) (w : World) : Prop :=
  ∀ (l : Nat) (G : Nat → Prop) (J Jx : ι → (Nat → Prop) → World → Prop) (W : World), Below w.heap.size w W → (∀ k, S k → k < W.heap.size ∧ ¬ G k) → (∀ k, G k → k < W.heap.size) → (∀ i, Abide W.heap.size (J i)) → (∀ i, Abide W.heap.size (Jx i)) →
    (∀ i x i' G W1, R i x i' → J i G W1 → YieldAt Fence.wide 0 P l x W1 (wentP J Jx i' G W1)) →
    J i0 G W → Calls P gf (#[.func (.yield l) #[] #[]] ++ lb) W fun e W' => (∃ v, e = .returned v) ∧ ∃ G, ((∃ i, F i ∧ J i G W') ∨ ∃ i, Jx i G W')

/-- HOW A ROUND's BODY MAY BE LEFT. -/
def endP (I : ι → (Nat → Prop) → World → Prop) (Ix : Code → ι → (Nat → Prop) → World → Prop) (i : ι) (G : Nat → Prop) (W : World) : Exit → Act → World → Prop
  | .normal, _, W' => But G W W' ∧ I i (newG G W W') W'
  | .ret, _, W' => But G W W' ∧ Ix .ret i (newG G W W') W'
  | .exit id, _, W' => But G W W' ∧ Ix (.exit id) i (newG G W W') W'
  | .goto t, _, W' => But G W W' ∧ Ix (.goto t) i (newG G W W') W'
  | .panic _, _, _ => False
  | .outgrown, _, _ => False

variable {P : Program}

/-- 'for x := range seq { .. }', outermost: G0 names the blocks that the body owns, all ahead of the loop. -/
theorem wp_rangeP {n : Nat} {g : Operand} {ps : Array Tmp} {assign body : Code} {Q : Exit → Act → World → Prop} {a : Act} {w : World}
    {gf : Nat} {lb : Array Value} (hg : a.eval g = .func (.func gf) #[] lb) (eg : ∀ args w, (callFunc gf args).run P w = .ok (.enter gf args) w)
    {R : ι → Array Value → ι → Prop} {i0 : ι} {F : ι → Prop} {S : Nat → Prop} {w0 : World} (hseq : SeqP P gf lb R i0 F S w0) (hb0 : Below w0.heap.size w0 w) (hps : ∀ i x i', R i x i' → x.size = ps.size)
    (G0 : Nat → Prop) (hG0 : ∀ k, G0 k → k < w.heap.size) (hS : ∀ k, S k → k < w.heap.size ∧ ¬ G0 k)
    (I : ι → (Nat → Prop) → World → Prop) (Im : ι → Array Value → ι → Act → (Nat → Prop) → World → Prop) (Ix : Code → ι → (Nat → Prop) → World → Prop) (hI : ∀ i, Abide w.heap.size (I i)) (hIm : ∀ i x i' a', Abide w.heap.size (Im i x i' a')) (hIx : ∀ c i, Abide w.heap.size (Ix c i)) (h0 : I i0 G0 w)
    (hassign : ∀ (l : Nat) (i : ι) (x : Array Value) (i' : ι) (G : Nat → Prop) (W : World) (K : Act → World → Prop), R i x i' → I i G W → (∀ a' W', But G W W' → Im i x i' a' (newG G W W') W' → K a' W') →
      assign.wpIn (Fence.wide.inRound l) n P (Exit.then K (fun _ _ _ => False)) { tmps := (ps.zip x).foldl (fun t (p, v) => t.setIfInBounds p v) a.tmps, defers := [] } W)
    (hbody : ∀ (l : Nat) (i : ι) (x : Array Value) (i' : ι) (a' : Act) (G : Nat → Prop) (W : World), R i x i' → w.heap.size ≤ l → (∃ r, W.heap[l]? = some (.loop r)) → ¬ G l → Im i x i' a' G W → body.wpIn (Fence.wide.inRound l) n P (endP I Ix i' G W) a' W)
    (hdone : ∀ (D : Nat) (i : ι) (G : Nat → Prop) (W : World), w.heap.size ≤ D → ¬ G D → F i → I i G W → W.heap[D]? = some (.deferred (some [])) → Q .normal { a with defers := { target := .collected D, args := #[] } :: a.defers } W)
    (hstop : ∀ (D : Nat) (c : Code) (i : ι) (G : Nat → Prop) (W : World), w.heap.size ≤ D → ¬ G D → Ix c i G W → W.heap[D]? = some (.deferred (some [])) → c.wpIn Fence.wide n P Q { a with defers := { target := .collected D, args := #[] } :: a.defers } W) :
    (Code.rangeFunc g ps assign body).wpIn Fence.wide n P Q a w := by
  refine wpIn_rangeFunc ?_
  intro fn _
  rw [show Fence.wide.round = none from rfl]
  obtain ⟨rec, hrec⟩ : ∃ rec : LoopState → Option Code → Loop, rec = fun st pe => { state := st, pending := pe, fn, tmps := a.tmps, params := ps, assign, body, defers := w.heap.size } := ⟨_, rfl⟩
  obtain ⟨W1, hW1⟩ : ∃ W1, (w.alloc (.deferred (some []))).alloc (.loop (rec .ready none)) = W1 := ⟨_, rfl⟩
  have hsz : W1.heap.size = w.heap.size + 2 := by rw [← hW1]; simp
  have hL1 : W1.heap[w.heap.size + 1]? = some (.loop (rec .ready none)) := by
    rw [← hW1]; have := World.alloc_heap_new (w.alloc (.deferred (some []))) (.loop (rec .ready none)); rwa [World.size_alloc] at this
  have hK1 : W1.heap[w.heap.size]? = some (.deferred (some [])) := by
    rw [← hW1]; exact (Below.heap_alloc _ _ _ (by simp)).trans (World.alloc_heap_new w _)
  have hI1 : I i0 G0 W1 := by rw [← hW1]; exact (hI i0).alloc _ ((hI i0).alloc _ h0)
  have hb1 : Below w0.heap.size w0 W1 := by
    rw [← hW1]; exact hb0.trans ((((Below.refl _ w).alloc (Nat.le_refl _) _).alloc (by simp) _).mono hb0.size)
  refine ⟨w.heap.size + 1, [{ target := .collected w.heap.size, args := #[] }], W1, { target := .fn (.func gf) lb, args := #[.func (.yield (w.heap.size + 1)) #[] #[]] }, W1, gf,
    #[.func (.yield (w.heap.size + 1)) #[] #[]] ++ lb, W1, ?_, ?_, ?_, ?_, (fun h => by cases h), ?_⟩
  · rw [← hW1, hrec]; exact run_enterLoop_outer _ _ _ _ _
  · simp only [resolve, hg]
    simp [go_sem]
  · intro f' _; trivial
  · simp [invoke, go_sem, eg]
  · have hD : ∀ {I : (Nat → Prop) → World → Prop}, Abide w.heap.size I → Abide (w.heap.size + 1) (fun G W => I G W ∧ ¬ G w.heap.size ∧ W.heap[w.heap.size]? = some (.deferred (some []))) := fun h => abide_rec h (Nat.le_succ _) (Nat.lt_succ_self _) _
    refine callsIn_wide.2 ((hseq (w.heap.size + 1) (fun j => G0 j ∨ j = w.heap.size + 1)
      (fun i G W => ∃ G', (∀ j, G' j → G j) ∧ ¬ G' (w.heap.size + 1) ∧ G (w.heap.size + 1) ∧ (I i G' W ∧ ¬ G' w.heap.size ∧ W.heap[w.heap.size]? = some (.deferred (some []))) ∧ W.heap[w.heap.size + 1]? = some (.loop (rec .ready none)))
      (fun i G W => ∃ G' c, (∀ j, G' j → G j) ∧ ¬ G' (w.heap.size + 1) ∧ (Ix c i G' W ∧ ¬ G' w.heap.size ∧ W.heap[w.heap.size]? = some (.deferred (some []))) ∧ W.heap[w.heap.size + 1]? = some (.loop (rec .done (some c))))
      W1 hb1 ?_ ?_ ?_ ?_ ?_ ⟨G0, fun _ h => .inl h, (fun h => by have := hG0 _ h; omega), .inr rfl, ⟨hI1, (fun h => by have := hG0 _ h; omega), hK1⟩, hL1⟩).mono ?_)
    · exact fun k h => ⟨by have := (hS k h).1; omega, fun e => by rcases e with e | e; exact (hS k h).2 e; have := (hS k h).1; omega⟩
    · rintro k (h | rfl)
      · have := hG0 k h; omega
      · omega
    · rintro i G A B ⟨G', h1, h2, h3, h4, h5⟩ hb
      exact ⟨G', h1, h2, h3, (hD (hI i)) G' A B h4 (hb.mono fun j _ e => ⟨by omega, fun e' => e.2 (h1 j e')⟩), hb.obj h5 (fun e => by omega)⟩
    · rintro i G A B ⟨G', c, h1, h2, h4, h5⟩ hb
      exact ⟨G', c, h1, h2, (hD (hIx c i)) G' A B h4 (hb.mono fun j _ e => ⟨by omega, fun e' => e.2 (h1 j e')⟩), hb.obj h5 (fun e => by omega)⟩
    · rintro i x i' G W hR ⟨G', h1, h2, h3, h4, h5⟩
      have hlW : w.heap.size + 1 < W.heap.size := (Array.getElem?_eq_some_iff.1 h5).1
      have hY := round_law1 (P := P) (B := w.heap.size + 1) (D := w.heap.size)
        (I := fun j G W => (match j with | 0 => I i G W | _ + 1 => I i' G W) ∧ ¬ G w.heap.size ∧ W.heap[w.heap.size]? = some (.deferred (some [])))
        (Ix := fun c _ G W => Ix c i' G W ∧ ¬ G w.heap.size ∧ W.heap[w.heap.size]? = some (.deferred (some [])))
        (Im := fun a' G W => Im i x i' a' G W ∧ ¬ G w.heap.size ∧ W.heap[w.heap.size]? = some (.deferred (some []))) (n := n) (k := 0) hrec (hps i x i' hR) (l := w.heap.size + 1) (Nat.le_refl _)
        (fun k => by cases k with
          | zero => exact hD (hI i)
          | succ k => exact hD (hI i')) (fun c k => hD (hIx c i')) (fun a' => hD (hIm i x i' a'))
        (fun G W K hi hK => hassign _ i x i' G W K hR hi.1 (fun a' W' hb hm => hK a' W' hb ⟨hm, newG_not hi.2.1 (Array.getElem?_eq_some_iff.1 hi.2.2).1, hb.obj hi.2.2 hi.2.1⟩))
        (fun a' G W hr hl hm => wpIn_mono (hbody _ i x i' a' G W hR (by omega) hr hl hm.1) (fun e a3 W3 hp => by
          have hg : ¬ newG G W W3 w.heap.size := newG_not hm.2.1 (Array.getElem?_eq_some_iff.1 hm.2.2).1
          cases e with
          | normal => exact ⟨hp.1, hp.2, hg, hp.1.obj hm.2.2 hm.2.1⟩
          | ret => exact ⟨hp.1, hp.2, hg, hp.1.obj hm.2.2 hm.2.1⟩
          | exit id => exact ⟨hp.1, hp.2, hg, hp.1.obj hm.2.2 hm.2.1⟩
          | goto t => exact ⟨hp.1, hp.2, hg, hp.1.obj hm.2.2 hm.2.1⟩
          | panic ch => exact hp
          | outgrown => exact hp)) G' W h4 h5 h2
      refine hY.mono ?_
      rintro e W' ⟨g, rfl, hb, h⟩
      have hb' : But G W W' := hb.mono fun j _ e => by rcases e with e | rfl; exact h1 j e; exact h3
      have hsub : ∀ j, newG G' W W' j → newG G W W' j := fun j e => by rcases e with e | e; exact .inl (h1 j e); exact .inr e
      refine ⟨g, rfl, hb', ?_, ?_⟩
      · rintro rfl
        obtain ⟨_, hi, hl⟩ | ⟨h, _⟩ := h
        · exact ⟨_, hsub, newG_not h2 hlW, .inl h3, hi, hl⟩
        · cases h
      · rintro rfl
        obtain ⟨h, _⟩ | ⟨_, c, hi, hl⟩ := h
        · cases h
        · exact ⟨_, c, hsub, newG_not h2 hlW, hi, hl⟩
    · rintro e W2 ⟨⟨v, rfl⟩, G, (⟨i, hF, G', h1, h2, h3, ⟨hi, hd, hk⟩, hl⟩ | ⟨i, G', c, h1, h2, ⟨hi, hd, hk⟩, hl⟩)⟩
      · exact ⟨none, _, by have := run_endLoop (P := P) hl (by rw [hrec]; simp); rw [hrec] at this; exact this, hdone _ i G' _ (Nat.le_refl _) hd hF ((hI i).putObj _ hi (by omega) h2) ((World.putObj_heap_other (by omega)).trans hk)⟩
      · exact ⟨some c, _, by have := run_endLoop (P := P) hl (by rw [hrec]; simp); rw [hrec] at this; exact this, hstop _ c i G' _ (Nat.le_refl _) hd ((hIx c _).putObj _ hi (by omega) h2) ((World.putObj_heap_other (by omega)).trans hk)⟩
end
end Go.Proofs.Ytfoncaamhleckaa
