/-
  A range over a function that 'break' leaves; min and max of two.
-/
import Derived.Test.YtpfgepgjpnekdaaDoorIterB
import Derived.Test.YtpfgepgjpnekdaaDoorPtM
namespace Go.Proofs.YtpfgepgjpnekdaaDoor
open Go.RowKit
set_option linter.unusedSimpArgs false
set_option linter.unusedVariables false
theorem wp_cut {P : Program} {c : Code} {Q : Exit → Act → World → Prop} {a : Act} {w : World} (J : Act → World → Prop) (h1 : c.wp P (onlyN fun _ a w => J a w) a w) (h2 : ∀ a' w', J a' w' → Q .normal a' w') : c.wp P Q a w :=
  Code.wp_mono (fun e a' w' he => by obtain ⟨rfl, h⟩ := he; exact h2 _ _ h) h1
/-- A range over a function that may be left by 'break': both ways go on alike. -/
theorem wp_range_brk {P : Program} {n id : Nat} {g : Operand} {ps : Array Tmp} {assign body : Code} {R : Exit → Act → World → Prop} {a : Act} {w : World}
    {gf : Nat} {lb : Array Value} (hg : a.eval g = .func (.func gf) #[] lb) (eg : ∀ args w, (callFunc gf args).run P w = .ok (.enter gf args) w)
    {args : Nat → Array Value} {N : Nat} {S : Nat → Prop} {w0 : World} (hseq : SeqX P gf lb args N S w0) (hb0 : Below w0.heap.size w0 w) (hps : ∀ k, (args k).size = ps.size)
    (G0 : Nat → Prop) (hG0 : ∀ k, G0 k → k < w.heap.size) (hS : ∀ k, S k → k < w.heap.size ∧ ¬ G0 k)
    (I : Nat → (Nat → Prop) → World → Prop) (Im : Nat → Act → (Nat → Prop) → World → Prop) (X : Nat → (Nat → Prop) → World → Prop) (hI : ∀ k, Abide w.heap.size (I k)) (hIm : ∀ k a', Abide w.heap.size (Im k a')) (hX : ∀ k, Abide w.heap.size (X k)) (h0 : I 0 G0 w)
    (hassign : ∀ (l k : Nat) (G : Nat → Prop) (W : World) (K : Act → World → Prop), k < N → I k G W → (∀ a' W', But G W W' → Im k a' (newG G W W') W' → K a' W') →
      assign.wpIn (Fence.wide.inRound l) n P (Exit.then K (fun _ _ _ => False)) { tmps := (ps.zip (args k)).foldl (fun t (p, v) => t.setIfInBounds p v) a.tmps, defers := [] } W)
    (hbody : ∀ (l k : Nat) (a' : Act) (G : Nat → Prop) (W : World), k < N → w.heap.size ≤ l → (∃ r, W.heap[l]? = some (.loop r)) → ¬ G l → Im k a' G W → body.wpIn (Fence.wide.inRound l) n P (endX I (fun c k G W => c = .exit id ∧ X k G W) (k + 1) G W) a' W)
    (hend : ∀ (D : Nat) (G : Nat → Prop) (W : World) (k : Nat), w.heap.size ≤ D → ¬ G D → (k = N ∧ I k G W ∨ k ≤ N ∧ X k G W) → W.heap[D]? = some (.deferred (some [])) → R .normal { a with defers := { target := .collected D, args := #[] } :: a.defers } W) :
    (Code.rangeFunc g ps assign body).wpIn Fence.wide n P (Exit.inBlock id R) a w :=
  wp_range hg eg hseq hb0 hps G0 hG0 hS I Im (fun c k G W => c = .exit id ∧ X k G W) hI hIm (fun c k G A B h hb => ⟨h.1, hX k G A B h.2 hb⟩) h0 hassign hbody
    (fun D G W h1 h2 h3 h4 => hend D G W N h1 h2 (.inl ⟨rfl, h3⟩) h4)
    (fun D c k G W h1 h2 h3 h4 h5 => by
      obtain ⟨rfl, hx⟩ := h4
      refine wpIn_exit ?_
      simp only [Exit.inBlock, if_true]
      exact hend D G W (k + 1) h1 h2 (.inr ⟨h3, hx⟩) h5)
theorem max_int2 (a b : Int) (ts : Array TypeId) (t : TypeId) (w : World) : (Builtin.max_ ts t #[.int .i64 a, .int .i64 b]).run Tryd.prog w = .ok (.int .i64 (if a < b then b else a)) w := by
  rw [run_max_int2]
theorem min_int2 (a b : Int) (ts : Array TypeId) (t : TypeId) (w : World) : (Builtin.min_ ts t #[.int .i64 a, .int .i64 b]).run Tryd.prog w = .ok (.int .i64 (if b < a then b else a)) w := by
  rw [run_min_int2]
end Go.Proofs.YtpfgepgjpnekdaaDoor
