/-
  A row of one's own.
-/
import Derived.Test.YtfoncaamhleckaaBase
import Derived.Test.YtfoncaamhleckaaRec
namespace Go.Proofs.Ytfoncaamhleckaa
open Go.RowKit
/-- A row of one's own lies in block H. -/
def RowAt (w : World) (H : Nat) (cs : Array Value) (T : TypeId) : Prop := w.heap[H]? = some (.cells cs T (0, 0))
theorem RowAt.lt {w : World} {H : Nat} {cs : Array Value} {T : TypeId} (h : RowAt w H cs T) : H < w.heap.size := (Array.getElem?_eq_some_iff.1 h).1
theorem RowAt.cell {w : World} {H : Nat} {cs : Array Value} {T : TypeId} (h : RowAt w H cs T) {i : Nat} {v : Value} (hi : cs[i]? = some v) : w.cell? ⟨H, i, none⟩ = some v := by
  simp [World.cell?, show w.heap[H]? = _ from h, hi]
theorem RowAt.fz {w : World} {H : Nat} {cs : Array Value} {T : TypeId} (h : RowAt w H cs T) (i : Nat) : w.frozen? ⟨H, i, none⟩ = false := by
  simp [World.frozen?, show w.heap[H]? = _ from h]
theorem RowAt.set {w : World} {H : Nat} {cs : Array Value} {T : TypeId} (h : RowAt w H cs T) (i : Nat) (v : Value) : RowAt (w.setCell ⟨H, i, none⟩ v) H (cs.setIfInBounds i v) T := by
  simp only [RowAt, World.setCell, Array.getElem?_modify]
  simp [show w.heap[H]? = _ from h]
theorem RowAt.alloc {w : World} {H : Nat} {cs : Array Value} {T : TypeId} (h : RowAt w H cs T) (o : Obj) : RowAt (w.alloc o) H cs T := by
  have := h.lt
  have e : (w.alloc o).heap = w.heap.push o := rfl
  unfold RowAt
  rw [e, Array.getElem?_push_lt this]
  exact (Array.getElem?_eq_getElem this).symm.trans h
theorem RowAt.new (w : World) (cs : Array Value) (T : TypeId) : RowAt (w.alloc (.cells cs T)) w.heap.size cs T := heap_alloc_new w _
theorem RowAt.same {w : World} {H : Nat} {cs : Array Value} {T : TypeId} (h : RowAt w H cs T) {i : Nat} {v : Value} (hi : cs[i]? = some v) : w.setCell ⟨H, i, none⟩ v = w := by
  have e : (w.heap.modify H fun o => match o with | .cells c t f => .cells (c.setIfInBounds i v) t f | o => o) = w.heap := by
    refine Array.ext (by simp) fun j hj hj' => ?_
    rw [Array.getElem_modify]
    split
    · rename_i e
      subst e
      have hg : w.heap[H] = .cells cs T (0, 0) := by
        have : w.heap[H]? = _ := h
        rw [Array.getElem?_eq_getElem hj'] at this
        exact Option.some.inj this
      rw [hg]
      simp only
      congr 1
      refine Array.ext (by simp) fun k hk hk' => ?_
      rw [Array.getElem_setIfInBounds]
      split
      · rename_i e
        subst e
        rw [Array.getElem?_eq_getElem hk'] at hi
        exact (Option.some.inj hi).symm
      · rfl
    · rfl
  show ({ w with heap := _ } : World) = w
  exact congrArg (fun x => ({ w with heap := x } : World)) e
theorem RowAt.other {w : World} {H : Nat} {cs : Array Value} {T : TypeId} (h : RowAt w H cs T) {a : Addr} (ha : H ≠ a.block) (v : Value) : RowAt (w.setCell a v) H cs T := by
  unfold RowAt
  rw [Below.heap_setCell _ _ _ _ ha]
  exact h
theorem RowAt.range {w : World} {H : Nat} {cs : List Value} {T : TypeId} (h : RowAt w H cs.toArray T) : w.rangeAt H 0 cs := fun j v hj => by
  rw [Nat.zero_add]
  exact h.cell (by simpa using hj)

theorem RowAt.below {w w' : World} {H : Nat} {cs : Array Value} {T : TypeId} (h : RowAt w H cs T) (hb : Below w.heap.size w w') : RowAt w' H cs T := (hb.block H h.lt).trans h
theorem RowAt.drew {w : World} {H : Nat} {cs : Array Value} {T : TypeId} (h : RowAt w H cs T) : RowAt w.drew H cs T := h
end Go.Proofs.Ytfoncaamhleckaa
