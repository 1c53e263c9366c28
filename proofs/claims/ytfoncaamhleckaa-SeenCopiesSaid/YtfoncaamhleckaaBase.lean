/-
  The base of all walks: worlds above a world; a region that draws its order, walked once where each operation gives one value in every world above.
-/
import Derived.Test.YtfoncaamhleckaaProg
import Derived.WalkKit
import Derived.WalkLawsBesides
import Derived.WalkSpells
import Derived.Outline
import Derived.BigQuiet
import Derived.Deep.QuietTactic
import Derived.Lib.Hide
import Derived.IntWalk
import Derived.Deep.LoopGhost
import Derived.Deep.DeepMust
import Derived.Deep.DeepFit
import Derived.Shelf.Abstract
import Derived.ScopeJumps
import Derived.Deep.RegionHeld3
namespace Go.Proofs.Ytfoncaamhleckaa
open Go.RowKit

/-- The worlds above w: what lay in w lies there as it was. -/
structure Abv (w : World) where
  val : World
  prop : Below w.heap.size w val

instance Abv.inhabited (w : World) : Nonempty (Abv w) := ⟨⟨w, Below.refl _ _⟩⟩
theorem Abv.of {w w' : World} (h : Below w.heap.size w w') : ∃ t : Abv w, w' = t.val := ⟨⟨w', h⟩, rfl⟩

/-- What a call returns, and that it leaves a world above. -/
def Ret (v : Value) (w : World) (e : Ending) (w' : World) : Prop := e = .returned v ∧ Below w.heap.size w w'
theorem Ret.same {v : Value} {w w' : World} {e : Ending} (h : e = .returned v ∧ w = w') : Ret v w e w' := ⟨h.1, by rw [h.2]; exact Below.refl _ _⟩

theorem below_up {w a b : World} (h : Below w.heap.size w a) (k : Below a.heap.size a b) : Below w.heap.size w b := h.trans (k.mono h.size)

theorem Abv.call {P : Program} {f : FuncId} {args : Array Value} {w : World} {v : Value} {t : Abv w} (h : Calls P f args t.val (Ret v t.val)) :
    Calls P f args t.val fun e w'' => e = .returned v ∧ ∃ t' : Abv w, w'' = t'.val :=
  h.mono fun _ _ ⟨he, hb⟩ => ⟨he, Abv.of (below_up t.prop hb)⟩

theorem Abv.same {P : Program} {f : FuncId} {args : Array Value} {w : World} {v : Value} {t : Abv w} (h : Calls P f args t.val fun e w' => e = .returned v ∧ t.val = w') :
    Calls P f args t.val fun e w'' => e = .returned v ∧ ∃ t' : Abv w, w'' = t'.val :=
  h.mono fun _ _ ⟨he, hb⟩ => ⟨he, t, hb.symm⟩

theorem Abv.cell {w : World} (t : Abv w) (b o : Nat) {v : Value} (h : w.cell? ⟨b, o, none⟩ = some v) : t.val.cell? ⟨b, o, none⟩ = some v := by
  have hb : b < w.heap.size := World.block_lt_of_cell? w ⟨b, o, none⟩ h
  rw [t.prop.cell (p := ⟨b, o, none⟩) hb, h]

theorem Calls.cast {P : Program} {f : FuncId} {a a' : Array Value} {w : World} {R : Ending → World → Prop} (h : a' = a) (hc : Calls P f a w R) : Calls P f a' w R := h ▸ hc
/-- What is there is as it was behind a new block. -/
theorem cell_past (w : World) (a : Addr) (o : Obj) (h : (w.cell? a).isSome = true) : (w.alloc o).cell? a = w.cell? a := World.cell?_alloc_some w a o h
theorem frozen_past (w : World) (a : Addr) (o : Obj) (h : (w.cell? a).isSome = true) : (w.alloc o).frozen? a = w.frozen? a := by
  obtain ⟨u, hu⟩ := Option.isSome_iff_exists.1 h
  exact World.frozen?_alloc_past _ _ _ (World.block_lt_of_cell? w a hu)
attribute [go_sem] cell_past frozen_past
theorem cell_new (w : World) (v : Value) (T : TypeId) : (w.alloc (.cells #[v] T)).cell? ⟨w.heap.size, 0, none⟩ = some v := by rw [World.cell?_alloc_at _ _ _ _ rfl]; rfl
theorem frozen_new (w : World) (v : Value) (T : TypeId) : (w.alloc (.cells #[v] T)).frozen? ⟨w.heap.size, 0, none⟩ = false := World.frozen?_alloc_at _ _ _ _ rfl
theorem cell_up {w w1 : World} (hB : Below w.heap.size w w1) {b o : Nat} {v : Value} (h : w.cell? ⟨b, o, none⟩ = some v) : w1.cell? ⟨b, o, none⟩ = some v := by
  rw [hB.cell (p := ⟨b, o, none⟩) (World.block_lt_of_cell? w ⟨b, o, none⟩ h), h]
theorem frozen_up {w w1 : World} (hB : Below w.heap.size w w1) {b o : Nat} {v : Value} (h : w.cell? ⟨b, o, none⟩ = some v) (k : w.frozen? ⟨b, o, none⟩ = false) : w1.frozen? ⟨b, o, none⟩ = false := by
  rw [hB.frozen (p := ⟨b, o, none⟩) (World.block_lt_of_cell? w ⟨b, o, none⟩ h), k]
theorem below_alloc (w : World) (o : Obj) : Below w.heap.size w (w.alloc o) := (Below.refl _ _).alloc (Nat.le_refl _) o
theorem below_new {w w1 : World} {o : Obj} (hB : Below (w.alloc o).heap.size (w.alloc o) w1) : Below w.heap.size w w1 := below_up (below_alloc w o) hB
theorem bcell {W w1 : World} (hb : Below W.heap.size W w1) : (∀ b o, b < W.heap.size → w1.cell? ⟨b, o, none⟩ = W.cell? ⟨b, o, none⟩) ∧ (∀ b o, b < W.heap.size → w1.frozen? ⟨b, o, none⟩ = W.frozen? ⟨b, o, none⟩) :=
  ⟨fun b o h => hb.cell (p := ⟨b, o, none⟩) h, fun b o h => hb.frozen (p := ⟨b, o, none⟩) h⟩

/-- A scope out of which the run jumps forward to one label. -/
theorem wp_scope_fwd {P : Program} {Q : Exit → Act → World → Prop} {a : Act} {w : World} {c rest : Code} (l : Nat) (hf : findLabel c l = some rest)
    (first : c.wp P (Exit.jump l (fun a w => rest.wp P (Exit.jump l (fun _ _ => False) Q) a w) Q) a w) : (Code.scope c).wp P Q a w :=
  wp_scope_jumps l _ (fun _ _ => 0) hf first fun a w h => Code.wp_mono (fun e a' w' he => by
    cases e <;> first | exact he | exact he.2.elim) h
theorem jump_fwd {P : Program} {Q Q' : Exit → Act → World → Prop} {a : Act} {w : World} {l : Nat} {rest : Code} (h : rest.wp P Q' a w) : Exit.jump l (fun a w => rest.wp P Q' a w) Q (.goto l) a w := ⟨rfl, h⟩
theorem jump_ret {Q : Exit → Act → World → Prop} {J : Act → World → Prop} {a : Act} {w : World} {l : Nat} : Exit.jump l J Q .ret a w = Q .ret a w := rfl

theorem wp_region_abv {P : Program} {id : Nat} {Q : Exit → Act → World → Prop} {a : Act} {w : World} {l : List Oper} (hm : P.follows .mixedOrders = true) (hB : Region.lexB .any l.toArray = true)
    (h : wpQuiet P l.toArray (fun w' => ∃ t : Abv w, w' = t.val) (fun a' => ∀ w', (∃ t : Abv w, w' = t.val) → Q .normal a' w') l a) : (Code.region id l.toArray true).wp P Q a w :=
  wp_region_quiet (C := fun w' => ∃ t : Abv w, w' = t.val) hm hB (Abv.of (Below.refl _ w).drew) (by simpa using h)
end Go.Proofs.Ytfoncaamhleckaa
