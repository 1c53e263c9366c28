/-
  Base, Slice, Open, Bytes: several texts in one (bundle.py).
-/
import Derived.Test.YtpkonagjnfphkaaGreatDoorProg
import Derived.WalkKit
import Derived.WalkLawsBesides
import Derived.WalkSpells
import Derived.Outline
import Derived.BigQuiet
import Derived.Deep.QuietTactic
import Derived.Lib.Hide
import Derived.IntWalk
import Derived.Deep.LoopGhost
import Derived.Deep.DeepMust
import Derived.Deep.DeepFit
import Derived.Shelf.Abstract
import Derived.ScopeJumps
import Derived.Deep.RegionHeld3
import Derived.Maps.AppendAt
import Derived.OneCell
import Derived.ProofKit
import Derived.OpenShut
import Derived.ChangeOld
import Derived.Below
import Derived.Carry
import Derived.Deep.Slices
import Derived.Laws.BytesArg
import Derived.Laws.IdiomStrings
set_option linter.unusedSimpArgs false
set_option linter.unusedVariables false
namespace Go.Proofs.YtpkonagjnfphkaaGreatDoor
open Go.RowKit
structure Abv (w : World) where
  val : World
  prop : Below w.heap.size w val
instance Abv.inhabited (w : World) : Nonempty (Abv w) := ⟨⟨w, Below.refl _ _⟩⟩
theorem Abv.of {w w' : World} (h : Below w.heap.size w w') : ∃ t : Abv w, w' = t.val := ⟨⟨w', h⟩, rfl⟩
def Ret (v : Value) (w : World) (e : Ending) (w' : World) : Prop := e = .returned v ∧ Below w.heap.size w w'
theorem Ret.same {v : Value} {w w' : World} {e : Ending} (h : e = .returned v ∧ w = w') : Ret v w e w' := ⟨h.1, by rw [h.2]; exact Below.refl _ _⟩
theorem below_up {w a b : World} (h : Below w.heap.size w a) (k : Below a.heap.size a b) : Below w.heap.size w b := h.trans (k.mono h.size)
theorem Abv.call {P : Program} {f : FuncId} {args : Array Value} {w : World} {v : Value} {t : Abv w} (h : Calls P f args t.val (Ret v t.val)) :
    Calls P f args t.val fun e w'' => e = .returned v ∧ ∃ t' : Abv w, w'' = t'.val :=
  h.mono fun _ _ ⟨he, hb⟩ => ⟨he, Abv.of (below_up t.prop hb)⟩
theorem Abv.same {P : Program} {f : FuncId} {args : Array Value} {w : World} {v : Value} {t : Abv w} (h : Calls P f args t.val fun e w' => e = .returned v ∧ t.val = w') :
    Calls P f args t.val fun e w'' => e = .returned v ∧ ∃ t' : Abv w, w'' = t'.val :=
  h.mono fun _ _ ⟨he, hb⟩ => ⟨he, t, hb.symm⟩
theorem Abv.cell {w : World} (t : Abv w) (b o : Nat) {v : Value} (h : w.cell? ⟨b, o, none⟩ = some v) : t.val.cell? ⟨b, o, none⟩ = some v := by
  have hb : b < w.heap.size := World.block_lt_of_cell? w ⟨b, o, none⟩ h; rw [t.prop.cell (p := ⟨b, o, none⟩) hb, h]
theorem Calls.cast {P : Program} {f : FuncId} {a a' : Array Value} {w : World} {R : Ending → World → Prop} (h : a' = a) (hc : Calls P f a w R) : Calls P f a' w R := h ▸ hc
theorem cell_past (w : World) (a : Addr) (o : Obj) (h : (w.cell? a).isSome = true) : (w.alloc o).cell? a = w.cell? a := World.cell?_alloc_some w a o h
theorem frozen_past (w : World) (a : Addr) (o : Obj) (h : (w.cell? a).isSome = true) : (w.alloc o).frozen? a = w.frozen? a := by
  obtain ⟨u, hu⟩ := Option.isSome_iff_exists.1 h; exact World.frozen?_alloc_past _ _ _ (World.block_lt_of_cell? w a hu)
attribute [go_sem] cell_past frozen_past
theorem cell_new (w : World) (v : Value) (T : TypeId) : (w.alloc (.cells #[v] T)).cell? ⟨w.heap.size, 0, none⟩ = some v := by rw [World.cell?_alloc_at _ _ _ _ rfl]; rfl
theorem frozen_new (w : World) (v : Value) (T : TypeId) : (w.alloc (.cells #[v] T)).frozen? ⟨w.heap.size, 0, none⟩ = false := World.frozen?_alloc_at _ _ _ _ rfl
theorem cell_up {w w1 : World} (hB : Below w.heap.size w w1) {b o : Nat} {v : Value} (h : w.cell? ⟨b, o, none⟩ = some v) : w1.cell? ⟨b, o, none⟩ = some v := by
  rw [hB.cell (p := ⟨b, o, none⟩) (World.block_lt_of_cell? w ⟨b, o, none⟩ h), h]
theorem frozen_up {w w1 : World} (hB : Below w.heap.size w w1) {b o : Nat} {v : Value} (h : w.cell? ⟨b, o, none⟩ = some v) (k : w.frozen? ⟨b, o, none⟩ = false) : w1.frozen? ⟨b, o, none⟩ = false := by
  rw [hB.frozen (p := ⟨b, o, none⟩) (World.block_lt_of_cell? w ⟨b, o, none⟩ h), k]
theorem below_alloc (w : World) (o : Obj) : Below w.heap.size w (w.alloc o) := (Below.refl _ _).alloc (Nat.le_refl _) o
theorem below_new {w w1 : World} {o : Obj} (hB : Below (w.alloc o).heap.size (w.alloc o) w1) : Below w.heap.size w w1 := below_up (below_alloc w o) hB
theorem wp_scope_fwd {P : Program} {Q : Exit → Act → World → Prop} {a : Act} {w : World} {c rest : Code} (l : Nat) (hf : findLabel c l = some rest)
    (first : c.wp P (Exit.jump l (fun a w => rest.wp P (Exit.jump l (fun _ _ => False) Q) a w) Q) a w) : (Code.scope c).wp P Q a w :=
  wp_scope_jumps l _ (fun _ _ => 0) hf first fun a w h => Code.wp_mono (fun e a' w' he => by
    cases e <;> first | exact he | exact he.2.elim) h
theorem jump_fwd {P : Program} {Q Q' : Exit → Act → World → Prop} {a : Act} {w : World} {l : Nat} {rest : Code} (h : rest.wp P Q' a w) : Exit.jump l (fun a w => rest.wp P Q' a w) Q (.goto l) a w := ⟨rfl, h⟩
theorem jump_ret {Q : Exit → Act → World → Prop} {J : Act → World → Prop} {a : Act} {w : World} {l : Nat} : Exit.jump l J Q .ret a w = Q .ret a w := rfl
theorem wp_region_abv {P : Program} {id : Nat} {Q : Exit → Act → World → Prop} {a : Act} {w : World} {l : List Oper} (hm : P.follows .mixedOrders = true) (hB : Region.lexB .any l.toArray = true)
    (h : wpQuiet P l.toArray (fun w' => ∃ t : Abv w, w' = t.val) (fun a' => ∀ w', (∃ t : Abv w, w' = t.val) → Q .normal a' w') l a) : (Code.region id l.toArray true).wp P Q a w :=
  wp_region_quiet (C := fun w' => ∃ t : Abv w, w' = t.val) hm hB (Abv.of (Below.refl _ w).drew) (by simpa using h)
theorem zs : (∀ {α : Type} {xs : List α} {i : Nat}, xs.toArray[i]? = xs[i]?) ∧ (∀ {α : Type} {a : α} {l : List α}, (a :: l)[0]? = some a) ∧ (∀ {α : Type} {a : α} {l : List α} {i : Nat}, (a :: l)[i + 1]? = l[i]?) :=
  ⟨List.getElem?_toArray .., List.getElem?_cons_zero, List.getElem?_cons_succ⟩
theorem zq : (∀ (a : Act) (d : Tmp) (v : Value), a.put (some d) v = { a with tmps := a.tmps.setIfInBounds d v }) ∧ (∀ (a : Act) (v : Value), a.put none v = a) ∧ (∀ {α : Type} {xs : List α} {i : Nat} (h : i < xs.toArray.size), xs.toArray[i] = xs[i]'(by simpa using h)) ∧
    (∀ {α : Type} {a : α} {l : List α} (h : 0 < (a :: l).length), (a :: l)[0] = a) ∧ (∀ {α : Type} {a : α} {l : List α} {i : Nat} (h : i + 1 < (a :: l).length), (a :: l)[i + 1] = l[i]'(Nat.lt_of_succ_lt_succ h)) ∧
    (∀ {α : Type} {l : List α} {i : Nat} {a : α}, l.toArray.setIfInBounds i a = (l.set i a).toArray) ∧ (∀ {α : Type} {a b : α} {l : List α}, (a :: l).set 0 b = b :: l) ∧ (∀ {α : Type} {a b : α} {l : List α} {i : Nat}, (a :: l).set (i + 1) b = a :: l.set i b) :=
  ⟨fun _ _ _ => rfl, fun _ _ => rfl, fun h => List.getElem_toArray h, fun _ => rfl, fun _ => rfl, List.setIfInBounds_toArray .., rfl, rfl⟩
@[go_sem] theorem run_len_any {P : Program} {w : World} {t ty : TypeId} {a : Option Addr} {n c : Nat} (h : P.underlying t = some (.slice (P.elem t))) :
    (Builtin.len_ #[t] ty #[.slice a n c]).run P w = .ok (.int .i64 n) w := by
  simp [Builtin.len_, run_underlying h, goInt]
def Sl (w : World) (sz : Nat) (v : Value) (n : Nat) (cs : List Value) : Prop :=
  cs.length = n * sz ∧ ((∃ a c, v = .slice a 0 c ∧ n = 0) ∨
    ∃ b off cap, v = .slice (some ⟨b, off, none⟩) n cap ∧ n ≤ cap ∧ cap ≤ maxLen ∧ ∀ j u, cs[j]? = some u → w.cell? ⟨b, off + j, none⟩ = some u)
theorem Sl.nil (w : World) (sz : Nat) : Sl w sz (.slice none 0 0) 0 [] := ⟨by simp, .inl ⟨_, _, rfl, rfl⟩⟩
theorem Sl.up {w w' : World} {sz : Nat} {v : Value} {n : Nat} {cs : List Value} (h : Sl w sz v n cs) (hb : Below w.heap.size w w') : Sl w' sz v n cs := by
  obtain ⟨hl, h | ⟨b, off, cap, hv, hn, hm, hc⟩⟩ := h
  · exact ⟨hl, .inl h⟩
  · refine ⟨hl, .inr ⟨b, off, cap, hv, hn, hm, fun j u hj => ?_⟩⟩
    have := hc j u hj; rw [hb.cell (p := ⟨b, off + j, none⟩) (World.block_lt_of_cell? w ⟨b, off + j, none⟩ this)]; exact this
theorem Sl.len {w : World} {sz : Nat} {v : Value} {n : Nat} {cs : List Value} (h : Sl w sz v n cs) : ∃ a c, v = .slice a n c := by
  obtain ⟨_, ⟨a, c, rfl, rfl⟩ | ⟨b, off, cap, rfl, _⟩⟩ := h
  · exact ⟨a, c, rfl⟩
  · exact ⟨_, cap, rfl⟩
theorem Sl.cellAt {w : World} {sz : Nat} {a : Option Addr} {n c : Nat} {cs : List Value} (h : Sl w sz (.slice a n c) n cs) {k : Nat} (hn : 0 < n) (hk : k < n * sz) :
    ∃ b off, a = some ⟨b, off, none⟩ ∧ w.cell? ⟨b, off + k, none⟩ = cs[k]? := by
  obtain ⟨hl, ⟨a', c', h1, h2⟩ | ⟨b, off, cap, h1, hn, hm, hc⟩⟩ := h
  · omega
  · simp only [Value.slice.injEq] at h1
    refine ⟨b, off, h1.1, ?_⟩; rw [hc k cs[k] (by rw [List.getElem?_eq_getElem]), List.getElem?_eq_getElem]
    
theorem Sl.cells_at {w : World} {sz : Nat} {a : Option Addr} {n c : Nat} {cs : List Value} (h : Sl w sz (.slice a n c) n cs) {k : Nat} (hk : k < n) :
    ∃ b off, a = some ⟨b, off, none⟩ ∧ ∀ j, j < sz → w.cell? ⟨b, off + k * sz + j, none⟩ = cs[k * sz + j]? := by
  obtain ⟨hl, ⟨a', c', h1, h2⟩ | ⟨b, off, cap, h1, hn, hm, hc⟩⟩ := h
  · omega
  · simp only [Value.slice.injEq] at h1
    refine ⟨b, off, h1.1, fun j hj => ?_⟩
    have hlt : k * sz + j < cs.length := by
      rw [hl]
      calc k * sz + j < k * sz + sz := by omega
        _ = (k + 1) * sz := by rw [Nat.add_mul, Nat.one_mul]
        _ ≤ n * sz := Nat.mul_le_mul_right _ hk
    rw [Nat.add_assoc, hc _ cs[k * sz + j] (by rw [List.getElem?_eq_getElem]), List.getElem?_eq_getElem hlt]
theorem Sl.of_own {w : World} {base : Nat} {e : TypeId} {sz : Nat} {v : Value} {n : Nat} {xs : List Value} (h : w.ownsRow base e sz v n xs) : Sl w sz v n xs := by
  obtain ⟨hl, ⟨rfl, rfl⟩ | ⟨g, cap, cur, rfl, hg, hc, hnc, hcm, hs, ht⟩⟩ := id h
  · exact ⟨hl, .inl ⟨_, _, rfl, rfl⟩⟩
  · refine ⟨hl, .inr ⟨g, 0, cap, rfl, hnc, hcm, fun j u hj => ?_⟩⟩
    have := World.ownsRow.cells h (g := g) rfl j u hj
    simpa [Addr.add_lit] using this
theorem own_some {w : World} {base : Nat} {e : TypeId} {sz : Nat} {a : Option Addr} {n c : Nat} {xs : List Value} (h : w.ownsRow base e sz (.slice a n c) n xs) (hn : 0 < n) :
    ∃ g, a = some ⟨g, 0, none⟩ ∧ base ≤ g ∧ g < w.heap.size := by
  rcases id h.2 with ⟨h1, h2⟩ | ⟨g, cap, cur, h1, hg, hc, _⟩
  · omega
  · simp only [Value.slice.injEq] at h1
    exact ⟨g, h1.1, hg, lt_of_block hc⟩
structure SlT (P : Program) (t e : TypeId) (sz bytes : Nat) : Prop where
  und : P.underlying t = some (.slice e)
  inf : ∃ i z, P.info? e = some i ∧ i.zero = some z ∧ i.size = sz ∧ i.bytes = bytes ∧ z.cells.size = sz ∧ 0 < sz
theorem SlT.mk' {P : Program} {t e : TypeId} {z : Value} {sz bytes : Nat} (h : P.underlying t = some (.slice e))
    (k : (P.info? e).map (fun i => (i.zero, i.size, i.bytes)) = some (some z, sz, bytes)) (hz : z.cells.size = sz) (hs : 0 < sz) : SlT P t e sz bytes := by
  obtain ⟨i, hi, h1, h2, h3⟩ := info_parts k; exact ⟨h, i, z, hi, h1, h2, h3, hz, hs⟩
theorem run_append_src {P : Program} {t e : TypeId} {sz bytes : Nat} (T : SlT P t e sz bytes) (ty : TypeId) (w : World) (base : Nat) (v : Value) (n : Nat) (xs : List Value)
    (hown : w.ownsRow base e sz v n xs) (x : Value) (m : Nat) (news : List Value) (hx : Sl w sz x m news) (h1 : ∀ u ∈ news, u.oneCell' = true)
    (h63 : n + m ≤ maxLen) (hbytes : (n + m) * bytes ≤ 140737488355328) (hbase : base ≤ w.heap.size) :
    ∃ v' w', (Builtin.append_ #[t, t] ty #[v, x]).run P w = .ok v' w' ∧ w'.ownsRow base e sz v' (n + m) (xs ++ news) ∧ w.grownBy w' v.ownBlock ∧ (v' = .slice none 0 0 ↔ v = .slice none 0 0 ∧ m = 0) := by
  obtain ⟨i, z, hi, hz, hsize, hby, hzs, hsz⟩ := T.inf; obtain ⟨hl, ⟨a, c, rfl, rfl⟩ | ⟨b, off, cap, rfl, hn, hm, hc⟩⟩ := hx
  · have hnil : news = [] := List.eq_nil_of_length_eq_zero (by simpa using hl)
    subst hnil
    cases a with
    | none =>
      refine ⟨v, w, ?_, by simpa using hown, ⟨rfl, rfl, rfl, Nat.le_refl _, fun _ _ _ => rfl⟩, by simp⟩; rcases hown.2 with ⟨rfl, rfl⟩ | ⟨g, cap, cur, rfl, _, _, hnc, _⟩
      · simp [Builtin.append_, run_underlying T.und, sizeOf, typeInfo, hi, Builtin.lenOf, Builtin.firstCells]
      · simp [Builtin.append_, run_underlying T.und, sizeOf, typeInfo, hi, Builtin.lenOf, Builtin.firstCells, hnc, storeCells]
    | some a => exact run_append_own w base t ty e i z sz bytes T.und hi hz hsize hby hzs hsz v n xs hown a 0 c [] (by simp) (by simp) (by simp) h63 hbytes hbase
  · exact run_append_own w base t ty e i z sz bytes T.und hi hz hsize hby hzs hsz v n xs hown ⟨b, off, none⟩ m cap news hl (fun j u hj => by rw [Addr.add_lit]; exact hc j u hj) h1 h63 hbytes hbase
theorem wpList_app {P : Program} {w : World} {ops : Array Oper} {rest : List Oper} {o : Oper} {a : Act} {Q : Exit → Act → World → Prop} (hgd : o.guard = none) (s x : Operand) (t : TypeId)
    (ho : o.op = .call { callee := .builtin .append, args := #[s, x], argTypes := #[t, t] })
    {e : TypeId} {sz bytes : Nat} (T : SlT P t e sz bytes) (base : Nat) {v : Value} {n : Nat} {xs : List Value} (hs : a.eval s = v) (hown : w.ownsRow base e sz v n xs)
    {xv : Value} {m : Nat} {news : List Value} (hx : a.eval x = xv) (hsl : Sl w sz xv m news) (h1 : ∀ u ∈ news, u.oneCell' = true)
    (h63 : n + m ≤ maxLen) (hbytes : (n + m) * bytes ≤ 140737488355328) (hbase : base ≤ w.heap.size)
    (h : ∀ v' w', w'.ownsRow base e sz v' (n + m) (xs ++ news) → w.grownBy w' v.ownBlock → (v' = .slice none 0 0 ↔ v = .slice none 0 0 ∧ m = 0) → wpList P ops Q rest (a.put o.dst v') w') : wpList P ops Q (o :: rest) a w :=
  wpList_plain hgd fun _ hK => by
    obtain ⟨v', w', hr, h2, h3, h4⟩ := run_append_src T o.type w base v n xs hown xv m news hsl h1 h63 hbytes hbase; unfold Oper.wp execOp; simp only [ho, resolve, invoke, builtin, Sem.run_bind, Sem.run_pure, Result.andThen_ok, List.map_toArray, List.map_cons, List.map_nil, hs, hx, hr]; exact hK _ _ (h v' w' h2 h3 h4)
theorem grown_below {w0 w w' : World} {row : Option Nat} (h : Below w0.heap.size w0 w) (hg : w.grownBy w' row) (hr : ∀ k, row = some k → w0.heap.size ≤ k) : Below w0.heap.size w0 w' :=
  h.grown hg h.size hr
theorem retI {k : IntKind} {a b : Int} (h : a = b) : Ending.returned (.int k a) = .returned (.int k b) := by rw [h]
theorem retB {a b : Bool} (h : a = b) : Ending.returned (.bool a) = .returned (.bool b) := by rw [h]
def idx {α : Type} (p : α → Bool) (l : List α) : Int := match l.findIdx? p with | some i => i | none => -1
theorem idx_some {α : Type} {p : α → Bool} {l : List α} {k : Nat} (hk : k < l.length) (h : ∀ j, j < k → ∀ hj : j < l.length, p l[j] = false) (hp : p l[k] = true) : idx p l = k := by
  have : l.findIdx? p = some k := by
    rw [List.findIdx?_eq_some_iff_getElem]; exact ⟨hk, hp, fun j hj => by simp [h j hj (by omega)]⟩
  simp [idx, this]
theorem idx_none {α : Type} {p : α → Bool} {l : List α} (h : ∀ j, ∀ hj : j < l.length, p l[j] = false) : idx p l = -1 := by
  have : l.findIdx? p = none := by
    rw [List.findIdx?_eq_none_iff]; intro x hx; obtain ⟨j, hj, rfl⟩ := List.getElem_of_mem hx; exact h j hj
  simp [idx, this]
theorem idx_any {α : Type} (p : α → Bool) (l : List α) : decide (0 ≤ idx p l) = l.any p := by
  unfold idx
  cases h : l.findIdx? p with
  | none =>
    rw [List.findIdx?_eq_none_iff] at h
    have : l.any p = false := by rw [List.any_eq_false]; intro x hx; simp [h x hx]
    rw [this]; rfl
  | some i =>
    have : l.any p = true := by
      rw [List.findIdx?_eq_some_iff_getElem] at h; obtain ⟨hi, hp, _⟩ := h; exact List.any_eq_true.2 ⟨l[i], List.getElem_mem hi, hp⟩
    rw [this]; simp
theorem one_int (k : IntKind) (l : List Int) : ∀ u ∈ l.map (Value.int k), u.oneCell' = true := by
  intro u hu; obtain ⟨x, _, rfl⟩ := List.mem_map.1 hu; rfl
def glue : Nat → List (Nat × List TypeId) → Option (List TypeId)
  | _, [] => some []
  | off, x :: r => if x.1 = off then (glue (off + x.2.length) r).map (x.2 ++ ·) else none
def leaves (P : Program) : Nat → TypeId → Option (List TypeId)
  | 0, _ => none
  | n + 1, t =>
    match P.underlying t with
    | some (.struct fs) => ((fs.toList.mapM fun f => (leaves P n f.type).bind fun l => if l.length = P.cellsOf f.type then some (f.offset, l) else none).bind (glue 0)).bind fun l => if l.length = P.cellsOf t then some l else none
    | some (.array k e) => (leaves P n e).bind fun l => if l.length = P.cellsOf e ∧ k * l.length = P.cellsOf t then some ((List.replicate k l).flatten) else none
    | some _ => some [t]
    | none => none
section
variable {H : Type} {enc : TypeId × Value → H} {P : Program} {w : World} {base : Nat} {spare : Nat → Bool} {held : Bool}
def Leaf (enc : TypeId × Value → H) (P : Program) (w : World) (base : Nat) (spare : Nat → Bool) (held : Bool) (T : TypeId) (c : Value) : Prop := ∃ m y, DataW.trod enc P w base spare held m T [c] = some y
theorem glue_leaf {cs : List Value} : ∀ (fs : List Field) (n off : Nat) (xs : List (Nat × List TypeId)) (ls : List TypeId),
    (∀ f ∈ fs, ∀ l, leaves P n f.type = some l → l.length = P.cellsOf f.type → ∀ (i : Nat) (T : TypeId), l[i]? = some T → ∃ c, cs[f.offset + i]? = some c ∧ Leaf enc P w base spare held T c) →
    (fs.mapM fun f => (leaves P n f.type).bind fun l => if l.length = P.cellsOf f.type then some (f.offset, l) else none) = some xs → glue off xs = some ls →
    ∀ (i : Nat) (T : TypeId), ls[i]? = some T → ∃ c, cs[off + i]? = some c ∧ Leaf enc P w base spare held T c
  | [], n, off, xs, ls, _, hm, hg, i, T, hi => by
    simp only [List.mapM_nil, pure, Option.some.injEq] at hm; subst hm; simp only [glue, Option.some.injEq] at hg; subst hg; simp at hi
  | f :: fs, n, off, xs, ls, hf, hm, hg, i, T, hi => by
    simp only [List.mapM_cons, bind, Option.bind_eq_some_iff, pure, Option.some.injEq] at hm; obtain ⟨x, ⟨l, hl, hx⟩, rest, hr, rfl⟩ := hm; split at hx
    · rename_i hlen
      simp only [Option.some.injEq] at hx; subst hx; simp only [glue] at hg; split at hg
      · rename_i hoff
        simp only [Option.map_eq_some_iff] at hg; obtain ⟨ls', hg', rfl⟩ := hg; rcases Nat.lt_or_ge i l.length with h | h
        · rw [List.getElem?_append_left h] at hi
          rw [← hoff]; exact hf f (by simp) l hl hlen i T hi
        · rw [List.getElem?_append_right h] at hi
          have := glue_leaf fs n (off + l.length) rest ls' (fun g hg => hf g (by simp [hg])) hr hg' (i - l.length) T hi; rw [show off + l.length + (i - l.length) = off + i by omega] at this; exact this
      · cases hg
    · cases hx
theorem flat_get {α : Type} (l : List α) : ∀ (k i : Nat), (List.replicate k l).flatten[i]? = if i < k * l.length then l[i % l.length]? else none
  | 0, i => by simp
  | k + 1, i => by
    rw [List.replicate_succ, List.flatten_cons]; rcases Nat.lt_or_ge i l.length with h | h
    · rw [List.getElem?_append_left h, Nat.mod_eq_of_lt h, if_pos (by rw [Nat.add_mul]; omega)]
    · rw [List.getElem?_append_right h, flat_get l k]
      have : (i - l.length) % l.length = i % l.length := by rw [Nat.mod_eq_sub_mod h]
      rw [this, Nat.add_mul, Nat.one_mul]; by_cases h2 : i < k * l.length + l.length
      · rw [if_pos (by omega), if_pos h2]
      · rw [if_neg (by omega), if_neg h2]
theorem mapM_get {α β : Type} {f : α → Option β} : ∀ {l : List α} {ys : List β}, l.mapM f = some ys → ∀ x ∈ l, ∃ y, f x = some y
  | [], _, _, x, hx => by cases hx
  | a :: l, ys, h, x, hx => by
    simp only [List.mapM_cons, bind, Option.bind_eq_some_iff] at h; obtain ⟨y, hy, rest, hr, _⟩ := h; rcases List.mem_cons.1 hx with rfl | hx
    · exact ⟨y, hy⟩
    · exact mapM_get hr x hx
theorem trod_leaves : ∀ (n fuel : Nat) (t : TypeId) (cs : List Value) (x : DataW H × List MemPlace) (ls : List TypeId), DataW.trod enc P w base spare held fuel t cs = some x → leaves P n t = some ls →
    cs.length = ls.length ∧ ∀ (i : Nat) (T : TypeId), ls[i]? = some T → ∃ c, cs[i]? = some c ∧ Leaf enc P w base spare held T c
  | 0, _, _, _, _, _, _, hl => by simp [leaves] at hl
  | n + 1, 0, _, _, _, _, h, _ => by simp [DataW.trod] at h
  | n + 1, fuel + 1, t, cs, x, ls, h, hl => by
    have h0 := h; simp only [leaves] at hl; split at hl
    · rename_i fs ht
      simp only [Option.bind_eq_some_iff] at hl; obtain ⟨ls', ⟨xs, hm, hg⟩, hif⟩ := hl; split at hif
      · rename_i hlen
        simp only [Option.some.injEq] at hif; subst hif; unfold DataW.trod at h; rw [ht] at h; simp only at h; split at h
        · rename_i hcs
          simp only [Option.map_eq_some_iff] at h; obtain ⟨ys, hys, _⟩ := h; refine ⟨by rw [hcs, hlen], fun i T hi => ?_⟩; have := glue_leaf (enc := enc) (w := w) (base := base) (spare := spare) (held := held) (cs := cs) fs.toList n 0 xs ls' (fun f hf l hl hlf j T hj => ?_) hm hg i T hi
          · simpa using this
          obtain ⟨y, hy⟩ := mapM_get hys f hf; obtain ⟨h1, h2⟩ := trod_leaves n fuel f.type _ y l hy hl; obtain ⟨c, hc, hL⟩ := h2 j T hj; refine ⟨c, ?_, hL⟩; rw [List.getElem?_take] at hc; split at hc
          · rwa [List.getElem?_drop] at hc
          · cases hc
        · cases h
      · cases hif
    · rename_i k e ht
      simp only [Option.bind_eq_some_iff] at hl; obtain ⟨l, hle, hif⟩ := hl; split at hif
      · rename_i hlen
        simp only [Option.some.injEq] at hif; subst hif; obtain ⟨ys, m, _, _, hcs, hn, hall⟩ := DataW.trod_array ht h
        have hflen : (List.replicate k l).flatten.length = k * l.length := by simp
        refine ⟨by rw [hcs, hflen, hlen.2], fun i T hi => ?_⟩; rw [flat_get] at hi; split at hi
        · rename_i hlt
          have hl0 : 0 < l.length := by rcases Nat.eq_zero_or_pos l.length with h | h; · rw [h] at hlt; omega
                                        · exact h
          have hdiv : i / l.length < k := Nat.div_lt_of_lt_mul (by rw [Nat.mul_comm]; exact hlt); have hy := hall (i / l.length) hdiv; rw [List.getElem?_eq_getElem (by omega)] at hy; obtain ⟨h1, h2⟩ := trod_leaves n m e _ _ l hy hle; obtain ⟨c, hc, hL⟩ := h2 (i % l.length) T hi; refine ⟨c, ?_, hL⟩; rw [List.getElem?_take] at hc; split at hc
          · rw [List.getElem?_drop, ← hlen.1] at hc
            have : i / l.length * l.length + i % l.length = i := by rw [Nat.mul_comm]; exact Nat.div_add_mod i l.length
            rwa [this] at hc
          · cases hc
        · cases hi
      · cases hif
    · rename_i d hns hna ht
      simp only [Option.some.injEq] at hl; subst hl
      have hone : ∃ c, cs = [c] := by
        unfold DataW.trod at h; rw [ht] at h
        split at h <;> simp_all
      obtain ⟨c, rfl⟩ := hone; refine ⟨rfl, fun i T hi => ?_⟩
      cases i with
      | zero =>
        simp at hi; subst hi; exact ⟨c, rfl, fuel + 1, x, h0⟩
      | succ i => simp at hi
    · cases hl
theorem Leaf.int {T : TypeId} {k : IntKind} {c : Value} (ht : P.underlying T = some (.int k)) (h : Leaf enc P w base spare held T c) : ∃ n, c = .int k n ∧ (Lit.int k n).wf = true := by
  obtain ⟨m, y, h⟩ := h; obtain ⟨n, h1, _, h3⟩ := DataW.trod_int ht h; exact ⟨n, by simpa using h1, h3⟩
theorem Leaf.bool {T : TypeId} {c : Value} (ht : P.underlying T = some .bool) (h : Leaf enc P w base spare held T c) : ∃ n, c = .bool n := by
  obtain ⟨m, y, h⟩ := h; obtain ⟨n, h1, _⟩ := DataW.trod_bool ht h; exact ⟨n, by simpa using h1⟩
theorem Leaf.string {T : TypeId} {c : Value} (ht : P.underlying T = some .string) (h : Leaf enc P w base spare held T c) : ∃ s : ByteArray, c = .string s ∧ s.size ≤ maxLen := by
  obtain ⟨m, y, h⟩ := h; obtain ⟨n, h1, _, h3⟩ := DataW.trod_string ht h; exact ⟨n, by simpa using h1, h3⟩
theorem flatMap_get {α : Type} {f : Nat → List α} {sz : Nat} : ∀ (n : Nat), (∀ i, i < n → (f i).length = sz) → ((List.range n).flatMap f).length = n * sz ∧ ∀ i j, i < n → j < sz → ((List.range n).flatMap f)[i * sz + j]? = (f i)[j]?
  | 0, _ => ⟨by simp, fun i j hi _ => by omega⟩
  | n + 1, h => by
    obtain ⟨h1, h2⟩ := flatMap_get n (fun i hi => h i (by omega)); rw [List.range_succ, List.flatMap_append]
    have hl : (List.flatMap f [n]) = f n := by simp
    rw [hl]; refine ⟨by rw [List.length_append, h1, h n (by omega), Nat.add_mul, Nat.one_mul], fun i j hi hj => ?_⟩; rcases Nat.lt_or_ge i n with hin | hin
    · have : i * sz + j < n * sz := by
        calc i * sz + j < i * sz + sz := by omega
          _ = (i + 1) * sz := by rw [Nat.add_mul, Nat.one_mul]
          _ ≤ n * sz := Nat.mul_le_mul_right _ hin
      rw [List.getElem?_append_left (by rw [h1]; exact this)]; exact h2 i j hin hj
    · obtain rfl : i = n := by omega
      rw [List.getElem?_append_right (by rw [h1]; omega), h1]
      congr 1
      omega
theorem open_flat {t e : TypeId} {fuel sz : Nat} {ls : List TypeId} {cs : List Value} {x : DataW H × List MemPlace} (ht : P.underlying t = some (.slice e)) (hls : leaves P 12 e = some ls) (hsz : ls.length = sz) (hc : P.cellsOf e = sz) (h0 : 0 < sz)
    (h : DataW.trod enc P w base spare held fuel t cs = some x) :
    ∃ a len cap vs, cs = [.slice a len cap] ∧ Sl w sz (.slice a len cap) len vs ∧ (∀ i, i < len → ∀ (j : Nat) (T : TypeId), ls[j]? = some T → ∃ c, vs[i * sz + j]? = some c ∧ Leaf enc P w base spare held T c) ∧ ((x.1 = .nil ∧ len = 0) ∨ ∃ es sp, x.1 = .slice es sp ∧ es.length = len) := by
  rcases Go.Deep.open_slice ht h with ⟨rfl, rfl⟩ | ⟨a, len, cap, m, n, D, Pl, rfl, hb, hl, hm, hmm, rfl, hall⟩
  · exact ⟨none, 0, 0, [], rfl, Sl.nil _ _, fun i hi => by omega, .inl ⟨rfl, rfl⟩⟩
  · have hlm : len ≤ m := by rw [hmm]; split <;> omega
    obtain ⟨f, hf⟩ := Go.Deep.choose_lt (n := len) (p := fun i cs' => w.cells? base (a.add (i * P.cellsOf e)) (P.cellsOf e) = some cs' ∧ DataW.trod enc P w base spare held n e cs' = some (D i, Pl i)) (fun i hi => hall i (by omega))
    have hfl : ∀ i, i < len → (f i).length = sz := fun i hi => by
      obtain ⟨h1, _⟩ := trod_leaves 12 n e _ _ ls (hf i hi).2 hls; rw [h1, hsz]
    obtain ⟨g1, g2⟩ := flatMap_get len hfl; refine ⟨some a, len, cap, (List.range len).flatMap f, rfl, ⟨g1, ?_⟩, fun i hi j T hj => ?_, .inr ⟨_, _, rfl, by simp⟩⟩
    · by_cases hz : len = 0
      · exact .inl ⟨_, _, by rw [hz], hz⟩
      · right
        have hcell : ∀ i j, i < len → j < sz → w.cell? (a.add (i * sz) |>.add j) = (f i)[j]? := fun i j hi hj => by
          have h1 := World.cells?_some (hf i hi).1; rw [hc] at h1; exact h1.2.2 j hj
        have hspot : a.spot = none := by
          have h1 := hcell 0 0 (by omega) h0
          have hlt0 : 0 < (f 0).length := by rw [hfl 0 (by omega)]; exact h0
          have h2 : (f 0)[0]? = some (f 0)[0] := List.getElem?_eq_getElem hlt0; rw [h2] at h1; have := World.cell?_spot h1
          simpa [Addr.add] using this
        obtain ⟨b, off, spot⟩ := a; simp only at hspot; subst hspot; refine ⟨b, off, cap, rfl, hl, hm, fun j u hj => ?_⟩
        have hjl : j < len * sz := by rw [← g1]; exact (List.getElem?_eq_some_iff.1 hj).1
        have hd : j / sz < len := Nat.div_lt_of_lt_mul (by rw [Nat.mul_comm]; exact hjl); have hmod : j % sz < sz := Nat.mod_lt _ h0
        have e : j / sz * sz + j % sz = j := by rw [Nat.mul_comm]; exact Nat.div_add_mod j sz
        have h1 := hcell (j / sz) (j % sz) hd hmod; rw [← g2 _ _ hd hmod, e, hj] at h1; rw [Go.Deep.add_add, e, Addr.add_lit] at h1; exact h1
    · obtain ⟨_, h2⟩ := trod_leaves 12 n e _ _ ls (hf i hi).2 hls
      obtain ⟨c, hc', hL⟩ := h2 j T hj; refine ⟨c, ?_, hL⟩; rw [g2 i j hi (by rw [← hsz]; exact (List.getElem?_eq_some_iff.1 hj).1)]; exact hc'
end
def by8 (l : List UInt8) : List Value := l.map fun x => .int .u8 (x.toNat : Int)
theorem by8_len (l : List UInt8) : (by8 l).length = l.length := by simp [by8]
theorem by8_get (l : List UInt8) (k : Nat) (h : k < l.length) : (by8 l)[k]? = some (.int .u8 (l[k].toNat : Int)) := by simp [by8, h]
theorem by8_app (a b : List UInt8) : by8 (a ++ b) = by8 a ++ by8 b := by simp [by8]
theorem by8_drop (a : List UInt8) (k : Nat) : by8 (a.drop k) = (by8 a).drop k := by simp [by8]
theorem by8_take (a : List UInt8) (k : Nat) : by8 (a.take k) = (by8 a).take k := by simp [by8]
theorem one_by8 (l : List UInt8) : ∀ u ∈ by8 l, u.oneCell' = true := by
  intro u hu; obtain ⟨x, _, rfl⟩ := List.mem_map.1 hu; rfl
theorem Sl.n_len {w : World} {v : Value} {n : Nat} {l : List UInt8} (h : Sl w 1 v n (by8 l)) : l.length = n := by have := h.1; rw [by8_len] at this; omega
theorem run_str {P : Program} {w : World} {src dst e : TypeId} {v : Value} {n : Nat} {l : List UInt8} (hs : P.underlying src = some (.slice e)) (he : P.underlying e = some (.int .u8)) (hd : P.underlying dst = some .string)
    (h : Sl w 1 v n (by8 l)) : (convert src dst v).run P w = .ok (.string ⟨l.toArray⟩) w := by
  have hn := h.n_len; obtain ⟨hl, ⟨a, c, rfl, rfl⟩ | ⟨b, off, cap, rfl, hn', hm, hc⟩⟩ := h
  · have : l = [] := List.eq_nil_of_length_eq_zero hn
    subst this
    cases a with
    | none => exact run_convert_bytes_nil w src e hs he 0 c dst hd
    | some a => exact run_convert_bytes_back w src dst e a c [] hs he hd (fun j hj => by simp at hj)
  · subst hn
    exact run_convert_bytes_back w src dst e ⟨b, off, none⟩ cap l hs he hd (fun j hj => by rw [Addr.add_lit]; exact hc j _ (by rw [by8_get l j hj]))
theorem Sl.cut {w : World} {sz n c : Nat} {a : Option Addr} {cs : List Value} (h : Sl w sz (.slice a n c) n cs) {lo hi mx : Nat} (h1 : lo ≤ hi) (h2 : hi ≤ n) (h3 : hi ≤ mx) (h4 : mx ≤ c) :
    Sl w sz (sliced a lo hi mx sz) (hi - lo) ((cs.drop (lo * sz)).take ((hi - lo) * sz)) := by
  obtain ⟨hl, ⟨a', c', e, rfl⟩ | ⟨b, off, cap, e, hn', hm, hc⟩⟩ := h
  · obtain rfl : hi = 0 := by omega
    obtain rfl : lo = 0 := by omega
    have : cs = [] := List.eq_nil_of_length_eq_zero (by omega); subst this; exact ⟨by simp, .inl ⟨_, _, by unfold sliced; rfl, rfl⟩⟩
  · simp only [Value.slice.injEq] at e
    obtain ⟨rfl, _, rfl⟩ := e
    have hlen : ((cs.drop (lo * sz)).take ((hi - lo) * sz)).length = (hi - lo) * sz := by
      rw [List.length_take, List.length_drop, hl]
      have e1 : (hi - lo) * sz + lo * sz = hi * sz := by rw [← Nat.add_mul]; congr 1; omega
      have e2 : hi * sz ≤ n * sz := Nat.mul_le_mul_right _ h2; omega
    refine ⟨hlen, ?_⟩; by_cases hz : hi = lo
    · exact .inl ⟨_, _, by unfold sliced; rw [hz, Nat.sub_self], by omega⟩
    · have hne : ¬ mx = lo := by omega
      refine .inr ⟨b, off + lo * sz, mx - lo, ?_, by omega, by omega, fun j u hj => ?_⟩
      · unfold sliced; rw [if_neg hne]; simp [Addr.add_lit]
      · have hj' : j < (hi - lo) * sz := by rw [← hlen]; exact (List.getElem?_eq_some_iff.1 hj).1
        rw [List.getElem?_take, if_pos hj', List.getElem?_drop] at hj; have := hc _ _ hj; rw [Nat.add_assoc]; exact this
theorem run_cut_lh {P : Program} {t e : TypeId} {sz bytes : Nat} (T : SlT P t e sz bytes) (a : Option Addr) (n c lo hi : Nat) (kl kh : IntKind) (h1 : lo ≤ hi) (h3 : hi ≤ c) (w : World) :
    (Instr.slice t (.slice a n c) (some (.int kl (lo : Int))) (some (.int kh (hi : Int))) none).run P w = .ok (sliced a lo hi c sz) w := by
  obtain ⟨i, z, hi', _, hs, _⟩ := T.inf
  have he : P.elem t = e := by unfold Program.elem; rw [T.und]
  rw [run_slice_lh w t a n c (by rw [he]; exact T.und) kl kh lo hi (by omega) (by omega) (by omega), he]; simp [sizeOf, typeInfo, hi', hs, Result.andThen]
theorem run_cut_h {P : Program} {t e : TypeId} {sz bytes : Nat} (T : SlT P t e sz bytes) (a : Option Addr) (n c hi : Nat) (kh : IntKind) (h3 : hi ≤ c) (w : World) :
    (Instr.slice t (.slice a n c) none (some (.int kh (hi : Int))) none).run P w = .ok (sliced a 0 hi c sz) w := by
  obtain ⟨i, z, hi', _, hs, _⟩ := T.inf
  have he : P.elem t = e := by unfold Program.elem; rw [T.und]
  rw [run_slice_h w t a n c (by rw [he]; exact T.und) kh hi (by omega) (by omega), he]; simp [sizeOf, typeInfo, hi', hs, Result.andThen]
theorem run_cut_l {P : Program} {t e : TypeId} {sz bytes : Nat} (T : SlT P t e sz bytes) (a : Option Addr) (n c lo : Nat) (kl : IntKind) (h1 : lo ≤ n) (w : World) :
    (Instr.slice t (.slice a n c) (some (.int kl (lo : Int))) none none).run P w = .ok (sliced a lo n c sz) w := by
  obtain ⟨i, z, hi', _, hs, _⟩ := T.inf
  have he : P.elem t = e := by unfold Program.elem; rw [T.und]
  rw [run_slice_l w t a n c (by rw [he]; exact T.und) kl lo (by omega) (by omega), he]; simp [sizeOf, typeInfo, hi', hs, Result.andThen]
theorem Sl.n_le {w : World} {sz n c : Nat} {a : Option Addr} {cs : List Value} (h : Sl w sz (.slice a n c) n cs) : n ≤ c ∨ n = 0 := by
  obtain ⟨_, ⟨a', c', e, rfl⟩ | ⟨b, off, cap, e, hn', _⟩⟩ := h
  · exact .inr rfl
  · simp only [Value.slice.injEq] at e
    exact .inl (by omega)
theorem cut_h {P : Program} {t e : TypeId} {sz bytes : Nat} (T : SlT P t e sz bytes) {w : World} {a : Option Addr} {n c : Nat} {cs : List Value} (h : Sl w sz (.slice a n c) n cs) (hi : Nat) (h1 : hi ≤ n) :
    ∃ a', (∀ (kh : IntKind) (w' : World), (Instr.slice t (.slice a n c) none (some (.int kh (hi : Int))) none).run P w' = .ok (.slice a' hi c) w') ∧ Sl w sz (.slice a' hi c) hi (cs.take (hi * sz)) := by
  have hc : hi ≤ c := by have := h.n_le; omega
  have := h.cut (lo := 0) (hi := hi) (mx := c) (Nat.zero_le _) h1 hc (Nat.le_refl _); simp only [Nat.zero_mul, List.drop_zero, Nat.sub_zero] at this; exact ⟨_, fun kh w' => run_cut_h T a n c hi kh hc w', this⟩
theorem cut_l {P : Program} {t e : TypeId} {sz bytes : Nat} (T : SlT P t e sz bytes) {w : World} {a : Option Addr} {n c : Nat} {cs : List Value} (h : Sl w sz (.slice a n c) n cs) (lo : Nat) (h1 : lo ≤ n) :
    ∃ a', (∀ (kl : IntKind) (w' : World), (Instr.slice t (.slice a n c) (some (.int kl (lo : Int))) none none).run P w' = .ok (.slice a' (n - lo) (c - lo)) w') ∧ Sl w sz (.slice a' (n - lo) (c - lo)) (n - lo) (cs.drop (lo * sz)) := by
  have hc : n ≤ c := by
    rcases h.n_le with h | h
    · exact h
    · omega
  have := h.cut (lo := lo) (hi := n) (mx := c) h1 (Nat.le_refl _) hc (Nat.le_refl _); rw [List.take_of_length_le (by rw [List.length_drop, h.1, Nat.sub_mul]; exact Nat.le_refl _)] at this; exact ⟨_, fun kl w' => run_cut_l T a n c lo kl h1 w', this⟩
theorem cut_lh {P : Program} {t e : TypeId} {sz bytes : Nat} (T : SlT P t e sz bytes) {w : World} {a : Option Addr} {n c : Nat} {cs : List Value} (h : Sl w sz (.slice a n c) n cs) (lo hi : Nat) (h0 : lo ≤ hi) (h1 : hi ≤ n) :
    ∃ a', (∀ (kl kh : IntKind) (w' : World), (Instr.slice t (.slice a n c) (some (.int kl (lo : Int))) (some (.int kh (hi : Int))) none).run P w' = .ok (.slice a' (hi - lo) (c - lo)) w') ∧ Sl w sz (.slice a' (hi - lo) (c - lo)) (hi - lo) ((cs.drop (lo * sz)).take ((hi - lo) * sz)) := by
  have hc : hi ≤ c := by have := h.n_le; omega
  exact ⟨_, fun kl kh w' => run_cut_lh T a n c lo hi kl kh h0 hc w', h.cut h0 h1 hc (Nat.le_refl _)⟩
theorem own_up {w w' : World} {base : Nat} {e : TypeId} {sz : Nat} {v : Value} {n : Nat} {xs : List Value} (h : w.ownsRow base e sz v n xs) (hb : Below w.heap.size w w') : w'.ownsRow base e sz v n xs := by
  refine ⟨h.1, ?_⟩; rcases h.2 with h | ⟨g, cap, cur, h1, h2, h3, h4⟩
  · exact .inl h
  · exact .inr ⟨g, cap, cur, h1, h2, by rw [hb.block g (lt_of_block h3)]; exact h3, h4⟩
end Go.Proofs.YtpkonagjnfphkaaGreatDoor
