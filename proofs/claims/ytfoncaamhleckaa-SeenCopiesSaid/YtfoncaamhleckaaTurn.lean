/-
  A law's loop of turns, each of which ranges over a function and counts.
-/
import Derived.Test.YtfoncaamhleckaaIterB
import Derived.Test.YtfoncaamhleckaaRow
import Derived.Test.YtfoncaamhleckaaStore
namespace Go.Proofs.Ytfoncaamhleckaa
open Go.RowKit
set_option linter.unusedVariables false

/-- A range over a function that counts: its counter is the first block behind wr; else nothing of wr turns. -/
structure CtR (wr : World) (k : Nat) (G : Nat → Prop) (W : World) : Prop where
  below : Below wr.heap.size wr W
  cnt : RowAt W wr.heap.size #[.int .i64 k] 3
  g0 : G wr.heap.size
  glow : ∀ j, G j → wr.heap.size ≤ j
theorem CtR.start (wr : World) : CtR wr 0 (· = wr.heap.size) (wr.alloc (.cells #[.int .i64 0] 3)) := ⟨below_alloc _ _, RowAt.new _ _ _, rfl, fun j h => by omega⟩
theorem CtR.abide {wr : World} {k B : Nat} (hB : wr.heap.size ≤ B) : Abide B (CtR wr k) := fun G A C h hb =>
  ⟨h.below.trans (hb.below (fun j e => by have := e.1; omega) h.below.size), (hb.same _ h.cnt.lt (fun e => e.2 h.g0)).trans h.cnt, h.g0, h.glow⟩
theorem CtR.up {wr : World} {k : Nat} {G : Nat → Prop} {W W' : World} (h : CtR wr k G W) (hb : Below W.heap.size W W') : CtR wr k G W' := ⟨below_up h.below hb, h.cnt.below hb, h.g0, h.glow⟩
theorem CtR.alloc {wr : World} {k : Nat} {G : Nat → Prop} {W : World} (h : CtR wr k G W) (o : Obj) : CtR wr k (newG G W (W.alloc o)) (W.alloc o) :=
  ⟨below_up h.below (below_alloc _ _), h.cnt.alloc o, newG_old h.g0, (by
    rintro q (e | e)
    · exact h.glow q e
    · have := h.below.size; omega)⟩
theorem CtR.step {wr : World} {k : Nat} {G : Nat → Prop} {W : World} (h : CtR wr k G W) :
    But G W (W.drew.setCell ⟨wr.heap.size, 0, none⟩ (.int .i64 ((k : Int) + 1))) ∧ CtR wr (k + 1) (newG G W (W.drew.setCell ⟨wr.heap.size, 0, none⟩ (.int .i64 ((k : Int) + 1)))) (W.drew.setCell ⟨wr.heap.size, 0, none⟩ (.int .i64 ((k : Int) + 1))) := by
  have hb : But G W (W.drew.setCell ⟨wr.heap.size, 0, none⟩ (.int .i64 ((k : Int) + 1))) := (But.drew W).trans (But.setCell _ _ _ (.inl h.g0))
  refine ⟨hb, h.below.trans (hb.below h.glow h.below.size), h.cnt.drew.set 0 (.int .i64 ((k : Int) + 1)), newG_old h.g0, ?_⟩
  rintro q (e | e)
  · exact h.glow q e
  · have := h.below.size; omega
/-- .. where the round has not drawn. -/
theorem CtR.stepQ {wr : World} {k : Nat} {G : Nat → Prop} {W : World} (h : CtR wr k G W) :
    But G W (W.setCell ⟨wr.heap.size, 0, none⟩ (.int .i64 ((k : Int) + 1))) ∧ CtR wr (k + 1) (newG G W (W.setCell ⟨wr.heap.size, 0, none⟩ (.int .i64 ((k : Int) + 1)))) (W.setCell ⟨wr.heap.size, 0, none⟩ (.int .i64 ((k : Int) + 1))) := by
  have hb : But G W (W.setCell ⟨wr.heap.size, 0, none⟩ (.int .i64 ((k : Int) + 1))) := But.setCell _ _ _ (.inl h.g0)
  refine ⟨hb, h.below.trans (hb.below h.glow h.below.size), h.cnt.set 0 (.int .i64 ((k : Int) + 1)), newG_old h.g0, ?_⟩
  rintro q (e | e)
  · exact h.glow q e
  · have := h.below.size; omega

/-- What holds at the head of the loop of turns: its variable lies in block T; Ds: the marks. -/
structure TuI (wr : World) (T : Nat) (tn : Int) (Ds : List Nat) (W : World) : Prop where
  below : Below wr.heap.size wr W
  turn : RowAt W T #[.int .i64 tn] 3
  low : wr.heap.size ≤ T
  marks : ∀ D ∈ Ds, W.heap[D]? = some (.deferred (some [])) ∧ wr.heap.size ≤ D
  nodup : Ds.Nodup
theorem TuI.start (wr : World) : TuI wr wr.heap.size 0 [] (wr.alloc (.cells #[.int .i64 0] 3)) := ⟨below_alloc _ _, RowAt.new _ _ _, Nat.le_refl _, (fun D hD => by cases hD), List.nodup_nil⟩
theorem TuI.up {wr : World} {T : Nat} {tn : Int} {Ds : List Nat} {W W' : World} (h : TuI wr T tn Ds W) (hb : Below W.heap.size W W') : TuI wr T tn Ds W' :=
  ⟨below_up h.below hb, h.turn.below hb, h.low, fun D hd => ⟨(hb.block D (Array.getElem?_eq_some_iff.1 (h.marks D hd).1).1).trans (h.marks D hd).1, (h.marks D hd).2⟩, h.nodup⟩
theorem TuI.lt {wr : World} {T : Nat} {tn : Int} {Ds : List Nat} {W : World} (h : TuI wr T tn Ds W) : ∀ D ∈ Ds, D < W.heap.size := fun D hd => (Array.getElem?_eq_some_iff.1 (h.marks D hd).1).1
/-- A turn's end: one more mark, the variable anew. -/
theorem TuI.next {wr : World} {T : Nat} {tn : Int} {Ds : List Nat} {W W3 : World} (h : TuI wr T tn Ds W) (hb : Below W.heap.size W W3) {D : Nat} (hD : W3.heap[D]? = some (.deferred (some []))) (hl : W.heap.size ≤ D) (v : Int) :
    TuI wr W3.heap.size v (D :: Ds) (W3.alloc (.cells #[.int .i64 v] 3)) :=
  have h3 := h.up hb
  have hn : D ∉ Ds := fun e => by have := h.lt D e; omega
  have hb4 := below_alloc W3 (.cells #[.int .i64 v] 3)
  ⟨below_up h3.below hb4, RowAt.new _ _ _, h3.below.size, fun D' hD' => by
    rcases List.mem_cons.1 hD' with rfl | hD'
    · exact ⟨(hb4.block D' (Array.getElem?_eq_some_iff.1 hD).1).trans hD, by have := h.below.size; omega⟩
    · exact ⟨(hb4.block D' (Array.getElem?_eq_some_iff.1 (h3.marks D' hD').1).1).trans (h3.marks D' hD').1, (h.marks D' hD').2⟩, List.nodup_cons.2 ⟨hn, h.nodup⟩⟩
end Go.Proofs.Ytfoncaamhleckaa
