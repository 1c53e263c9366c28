/-
  Turn, RecOpen, NmLaid: several texts in one (bundle.py).
-/
import Derived.Test.YtpfgepgjpnekdaaDoorNmO15
import Derived.Test.YtpfgepgjpnekdaaDoorNmO09
import Derived.Test.YtpfgepgjpnekdaaDoorNmO05
import Derived.Test.YtpfgepgjpnekdaaDoorNmO03
import Derived.Test.YtpfgepgjpnekdaaDoorNmO32
import Derived.LaidLaws
import Derived.Lib.LaidTab
import Derived.Lib.LaidU8
import Derived.ChangeBears2
namespace Go.Proofs.YtpfgepgjpnekdaaDoor
open Go.RowKit
set_option linter.unusedVariables false

/-- A range over a function that counts: its counter is the first block behind wr; else nothing of wr turns. -/
structure CtR (wr : World) (k : Nat) (G : Nat → Prop) (W : World) : Prop where
  below : Below wr.heap.size wr W
  cnt : RowAt W wr.heap.size #[.int .i64 k] 3
  g0 : G wr.heap.size
  glow : ∀ j, G j → wr.heap.size ≤ j
theorem CtR.start (wr : World) : CtR wr 0 (· = wr.heap.size) (wr.alloc (.cells #[.int .i64 0] 3)) := ⟨below_alloc _ _, RowAt.new _ _ _, rfl, fun j h => by omega⟩
theorem CtR.abide {wr : World} {k B : Nat} (hB : wr.heap.size ≤ B) : Abide B (CtR wr k) := fun G A C h hb =>
  ⟨h.below.trans (hb.below (fun j e => by have := e.1; omega) h.below.size), (hb.same _ h.cnt.lt (fun e => e.2 h.g0)).trans h.cnt, h.g0, h.glow⟩
theorem CtR.up {wr : World} {k : Nat} {G : Nat → Prop} {W W' : World} (h : CtR wr k G W) (hb : Below W.heap.size W W') : CtR wr k G W' := ⟨below_up h.below hb, h.cnt.below hb, h.g0, h.glow⟩
theorem CtR.alloc {wr : World} {k : Nat} {G : Nat → Prop} {W : World} (h : CtR wr k G W) (o : Obj) : CtR wr k (newG G W (W.alloc o)) (W.alloc o) :=
  ⟨below_up h.below (below_alloc _ _), h.cnt.alloc o, newG_old h.g0, (by
    rintro q (e | e)
    · exact h.glow q e
    · have := h.below.size; omega)⟩
theorem CtR.step {wr : World} {k : Nat} {G : Nat → Prop} {W : World} (h : CtR wr k G W) :
    But G W (W.drew.setCell ⟨wr.heap.size, 0, none⟩ (.int .i64 ((k : Int) + 1))) ∧ CtR wr (k + 1) (newG G W (W.drew.setCell ⟨wr.heap.size, 0, none⟩ (.int .i64 ((k : Int) + 1)))) (W.drew.setCell ⟨wr.heap.size, 0, none⟩ (.int .i64 ((k : Int) + 1))) := by
  have hb : But G W (W.drew.setCell ⟨wr.heap.size, 0, none⟩ (.int .i64 ((k : Int) + 1))) := (But.drew W).trans (But.setCell _ _ _ (.inl h.g0))
  refine ⟨hb, h.below.trans (hb.below h.glow h.below.size), h.cnt.drew.set 0 (.int .i64 ((k : Int) + 1)), newG_old h.g0, ?_⟩
  rintro q (e | e)
  · exact h.glow q e
  · have := h.below.size; omega
/-- .. where the round has not drawn. -/
theorem CtR.stepQ {wr : World} {k : Nat} {G : Nat → Prop} {W : World} (h : CtR wr k G W) :
    But G W (W.setCell ⟨wr.heap.size, 0, none⟩ (.int .i64 ((k : Int) + 1))) ∧ CtR wr (k + 1) (newG G W (W.setCell ⟨wr.heap.size, 0, none⟩ (.int .i64 ((k : Int) + 1)))) (W.setCell ⟨wr.heap.size, 0, none⟩ (.int .i64 ((k : Int) + 1))) := by
  have hb : But G W (W.setCell ⟨wr.heap.size, 0, none⟩ (.int .i64 ((k : Int) + 1))) := But.setCell _ _ _ (.inl h.g0)
  refine ⟨hb, h.below.trans (hb.below h.glow h.below.size), h.cnt.set 0 (.int .i64 ((k : Int) + 1)), newG_old h.g0, ?_⟩
  rintro q (e | e)
  · exact h.glow q e
  · have := h.below.size; omega

/-- What holds at the head of the loop of turns: its variable lies in block T; Ds: the marks. -/
structure TuI (wr : World) (T : Nat) (tn : Int) (Ds : List Nat) (W : World) : Prop where
  below : Below wr.heap.size wr W
  turn : RowAt W T #[.int .i64 tn] 3
  low : wr.heap.size ≤ T
  marks : ∀ D ∈ Ds, W.heap[D]? = some (.deferred (some [])) ∧ wr.heap.size ≤ D
  nodup : Ds.Nodup
theorem TuI.start (wr : World) : TuI wr wr.heap.size 0 [] (wr.alloc (.cells #[.int .i64 0] 3)) := ⟨below_alloc _ _, RowAt.new _ _ _, Nat.le_refl _, (fun D hD => by cases hD), List.nodup_nil⟩
theorem TuI.up {wr : World} {T : Nat} {tn : Int} {Ds : List Nat} {W W' : World} (h : TuI wr T tn Ds W) (hb : Below W.heap.size W W') : TuI wr T tn Ds W' :=
  ⟨below_up h.below hb, h.turn.below hb, h.low, fun D hd => ⟨(hb.block D (Array.getElem?_eq_some_iff.1 (h.marks D hd).1).1).trans (h.marks D hd).1, (h.marks D hd).2⟩, h.nodup⟩
theorem TuI.lt {wr : World} {T : Nat} {tn : Int} {Ds : List Nat} {W : World} (h : TuI wr T tn Ds W) : ∀ D ∈ Ds, D < W.heap.size := fun D hd => (Array.getElem?_eq_some_iff.1 (h.marks D hd).1).1
/-- A turn's end: one more mark, the variable anew. -/
theorem TuI.next {wr : World} {T : Nat} {tn : Int} {Ds : List Nat} {W W3 : World} (h : TuI wr T tn Ds W) (hb : Below W.heap.size W W3) {D : Nat} (hD : W3.heap[D]? = some (.deferred (some []))) (hl : W.heap.size ≤ D) (v : Int) :
    TuI wr W3.heap.size v (D :: Ds) (W3.alloc (.cells #[.int .i64 v] 3)) :=
  have h3 := h.up hb
  have hn : D ∉ Ds := fun e => by have := h.lt D e; omega
  have hb4 := below_alloc W3 (.cells #[.int .i64 v] 3)
  ⟨below_up h3.below hb4, RowAt.new _ _ _, h3.below.size, fun D' hD' => by
    rcases List.mem_cons.1 hD' with rfl | hD'
    · exact ⟨(hb4.block D' (Array.getElem?_eq_some_iff.1 hD).1).trans hD, by have := h.below.size; omega⟩
    · exact ⟨(hb4.block D' (Array.getElem?_eq_some_iff.1 (h3.marks D' hD').1).1).trans (h3.marks D' hD').1, (h.marks D' hD').2⟩, List.nodup_cons.2 ⟨hn, h.nodup⟩⟩
end Go.Proofs.YtpfgepgjpnekdaaDoor

namespace Go.Proofs.YtpfgepgjpnekdaaDoor
open Go.RowKit

/-- Cells that are, place by place, those of some record, are those of a list of records. -/
theorem recs_of {α : Type} {cells : α → List Value} {good : α → Prop} {sz : Nat} (hsz : ∀ x, (cells x).length = sz) : ∀ (n : Nat) (vs : List Value), vs.length = n * sz →
    (∀ i, i < n → ∃ x, good x ∧ ∀ j, j < sz → vs[i * sz + j]? = (cells x)[j]?) → ∃ l : List α, vs = l.flatMap cells ∧ ∀ x ∈ l, good x
  | 0, vs, hl, _ => ⟨[], by simpa using hl, fun x hx => by cases hx⟩
  | n + 1, vs, hl, h => by
    obtain ⟨x, hx, hj⟩ := h 0 (by omega)
    have hln : sz ≤ vs.length := by rw [hl, Nat.add_mul]; omega
    obtain ⟨l, hl1, hl2⟩ := recs_of (good := good) hsz n (vs.drop sz) (by rw [List.length_drop, hl, Nat.add_mul]; omega) (fun i hi => by
      obtain ⟨y, hy, hk⟩ := h (i + 1) (by omega)
      refine ⟨y, hy, fun j hj => ?_⟩
      rw [← hk j hj, List.getElem?_drop, Nat.add_mul]
      congr 1; omega)
    refine ⟨x :: l, ?_, fun y hy => ?_⟩
    · have ht : vs.take sz = cells x := by
        refine List.ext_getElem? fun j => ?_
        rcases Nat.lt_or_ge j sz with h1 | h1
        · have := hj j h1
          rw [Nat.zero_mul, Nat.zero_add] at this
          rw [List.getElem?_take, if_pos h1, this]
        · rw [List.getElem?_take, if_neg (by omega), List.getElem?_eq_none (by rw [hsz]; omega)]
      rw [List.flatMap_cons, ← hl1, ← ht, List.take_append_drop]
    · rcases List.mem_cons.1 hy with rfl | hy
      · exact hx
      · exact hl2 y hy
end Go.Proofs.YtpfgepgjpnekdaaDoor

namespace Go.Proofs.YtpfgepgjpnekdaaDoor
open Go.RowKit
set_option linter.unusedVariables false
/-- The cells that a flat datum of integers stands for. -/
def cellsD : DataW Unit → Array Value
  | .agg l => (l.map fun | .lit (.int k z) => Value.int k z | _ => .int .i64 0).toArray
  | _ => #[]
theorem errVar {W : World} {n nm : String} {g : Nat} {d : DataW Unit} (hr : Lib.VarReads Tryd.prog W n (.iface nm d)) (hg : Tryd.prog.globalNamed n = some g) (hty : (Tryd.prog.globals[g]?).map (·.type) = some 121) :
    ∃ v, W.cell? ⟨g, 0, none⟩ = some v ∧ (v = .nilIface ∨ ∃ te pe, v = .iface te pe) := by
  obtain ⟨g', t, cs, fuel, p, h1, h2, h3, h4⟩ := hr
  obtain rfl := Option.some.inj (hg.symm.trans h1)
  obtain rfl := Option.some.inj (hty.symm.trans h2)
  obtain ⟨f1, u, v, hcs, _, _⟩ := iface_of_trod Tryd.underlying121 h4
  refine ⟨.iface u v, ?_, .inr ⟨u, v, rfl⟩⟩
  rw [World.var?_cell hg h3 0]
  obtain ⟨l⟩ := cs
  simp only at hcs
  subst hcs
  rfl
theorem powVar {W : World} {d : DataW Unit} (hd : d = Lib.tabData .u64 Lib.pow10Tab) (hr : Lib.VarReads Tryd.prog W "internal/strconv.uint64pow10" d) : Lib.TabIs Tryd.prog W "internal/strconv.uint64pow10" .u64 Lib.pow10Tab := by
  subst hd
  obtain ⟨g', t, cs, fuel, p, h1, h2, h3, h4⟩ := hr
  obtain rfl := Option.some.inj ((show Tryd.prog.globalNamed "internal/strconv.uint64pow10" = some 2 by kernel_rfl).symm.trans h1)
  obtain rfl := Option.some.inj ((show (Tryd.prog.globals[2]?).map (·.type) = some 160 by kernel_rfl).symm.trans h2)
  unfold Lib.TabIs
  rw [h3, ← Lib.cells_of_tab Tryd.underlying160 Tryd.underlying29 (by kernel_rfl) (by kernel_rfl) h4]
theorem nmT_of {W : World} {d0 d1 d2 : DataW Unit} {n1 n2 : String} (hd : d0 = Lib.tabData .u64 Lib.pow10Tab) (h0 : Lib.VarReads Tryd.prog W "internal/strconv.uint64pow10" d0) (h1 : Lib.VarReads Tryd.prog W "strconv.ErrRange" (.iface n1 d1)) (h2 : Lib.VarReads Tryd.prog W "strconv.ErrSyntax" (.iface n2 d2)) : NmT W :=
  ⟨powVar hd h0, errVar h2 (by kernel_rfl) (by kernel_rfl), errVar h1 (by kernel_rfl) (by kernel_rfl)⟩
end Go.Proofs.YtpfgepgjpnekdaaDoor
