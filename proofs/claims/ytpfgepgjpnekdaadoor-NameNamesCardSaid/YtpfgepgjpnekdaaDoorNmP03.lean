/-
  Pi, Rec, Row: several texts in one (bundle.py).
-/
import Derived.Test.YtpfgepgjpnekdaaDoorNmP01
import Derived.Test.YtpfgepgjpnekdaaDoorNmP02
import Derived.Deep.MidRow
namespace Go.Proofs.YtpfgepgjpnekdaaDoor
open Go.RowKit

section
variable {P : Program} {md : Region.Mode} {ops : Array Oper} {Q : Exit → Act → World → Prop}

theorem held_sub {S S2 : World → Prop} (hs : ∀ w, S2 w → S w) : ∀ (fuel : Nat) (listed : Array Bool) (a : Act) (w : World), wpAnyH P md ops Q S2 fuel listed a w → wpAnyH P md ops Q S fuel listed a w
  | 0, _, _, _, h => h
  | fuel + 1, _, _, _, h => ⟨h.1, fun i hi => wpOp_mono (fun a' w' h' => ⟨hs _ h'.1, held_sub hs fuel _ a' w' h'.2⟩) (h.2 i hi)⟩

def piB (md : Region.Mode) (ops : Array Oper) : List (Nat × Bool) → Array Bool → Bool
  | [], listed => (Region.ready md ops listed).isEmpty
  | (i, false) :: r, listed => (Region.ready md ops listed).contains i && Region.free md ops listed i && piB md ops r (listed.setIfInBounds i true)
  | (i, true) :: r, listed => decide (Region.ready md ops listed = [i]) && piB md ops r (listed.setIfInBounds i true)

def wpPi (P : Program) (ops : Array Oper) (Q : Exit → Act → World → Prop) : List (Nat × Bool) → Act → World → Prop
  | [], a, w => Q .normal a w
  | (i, false) :: r, a, w => ∃ o v, ops[i]? = some o ∧ YieldsIf P ops (Below w.heap.size w) o v a ∧ wpPi P ops Q r (a.put o.dst v) w
  | (i, true) :: r, a, w => ∃ o, ops[i]? = some o ∧ Region.wanted o (yielded ops a.tmps) = true ∧ o.wp P a w (fun a' w' => Below w.heap.size w w' ∧ wpPi P ops Q r a' w') Q

theorem held_of_pi (hs : Region.noSelect ops = true) (hQ : ∀ c (a : Act) d v w, Q (.panic c) (a.put d v) w → Q (.panic c) a w) : ∀ (π : List (Nat × Bool)) (listed : Array Bool) (a : Act) (w : World),
    piB md ops π listed = true → wpPi P ops Q π a w → wpAnyH P md ops Q (Below w.heap.size w) π.length listed a w
  | [], _, _, _, hB, h => ⟨by simpa [piB] using hB, h⟩
  | (i, false) :: r, listed, a, w, hB, h => by
    obtain ⟨o, v, hi, hy, h⟩ := h
    simp only [piB, Bool.and_eq_true] at hB
    exact wpAnyH_take hi hs hB.1.2 hB.1.1 (fun c a w hq => hQ c a o.dst v w hq) hy (Below.refl _ _) (held_of_pi hs hQ r _ _ _ hB.2 h)
  | (i, true) :: r, listed, a, w, hB, h => by
    obtain ⟨o, hi, hw, h⟩ := h
    simp only [piB, Bool.and_eq_true, decide_eq_true_eq] at hB
    refine ⟨fun h0 => (by rw [hB.1] at h0; cases h0), fun j hj => ?_⟩
    rw [hB.1] at hj
    obtain rfl : j = i := by simpa using hj
    unfold wpOp
    simp only [hi, hw, if_true]
    exact .inl (Oper.wp_mono (fun a' w' h' => ⟨h'.1, held_sub (fun _ hx => below_up h'.1 hx) _ _ _ _ (held_of_pi hs hQ r _ _ _ hB.2 h'.2)⟩) h)

theorem wp_region_pi {id : Nat} {a : Act} {w : World} (π : List (Nat × Bool)) (hm : P.follows .mixedOrders = true) (hs : Region.noSelect ops = true) (hB : piB .any ops π (Array.replicate ops.size false) = true) (hl : π.length = ops.size)
    (hQ : ∀ c (a : Act) d v w, Q (.panic c) (a.put d v) w → Q (.panic c) a w) (h : ∀ Wd, Below w.heap.size w Wd → wpPi P ops Q π a Wd) : (Code.region id ops true).wp P Q a w :=
  wp_region_held (S := Below w.drew.heap.size w.drew) hm (by have := held_of_pi hs hQ π _ _ _ hB (h w.drew (Below.refl _ _).drew); rw [hl] at this; exact this)

theorem pi_q {i : Nat} {o : Oper} {v : Value} {r : List (Nat × Bool)} {a : Act} {w : World} (hi : ops[i]? = some o) (hw : Region.wanted o (yielded ops a.tmps) = true) (hy : ∀ w', Below w.heap.size w w' → (execOp a.eval o).run P w' = .ok (.value v) w')
    (h : wpPi P ops Q r (a.put o.dst v) w) : wpPi P ops Q ((i, false) :: r) a w := ⟨o, v, hi, .inl ⟨hw, hy⟩, h⟩
theorem pi_no {i : Nat} {o : Oper} {r : List (Nat × Bool)} {a : Act} {w : World} (hi : ops[i]? = some o) (hw : Region.wanted o (yielded ops a.tmps) = false)
    (h : wpPi P ops Q r (a.put o.dst undef) w) : wpPi P ops Q ((i, false) :: r) a w := ⟨o, undef, hi, .inr ⟨hw, rfl⟩, h⟩
theorem pi_c {i : Nat} {o : Oper} {r : List (Nat × Bool)} {a : Act} {w : World} (hi : ops[i]? = some o) (hw : Region.wanted o (yielded ops a.tmps) = true)
    (h : ∀ K : Act → World → Prop, Shut (∀ a' w', Below w.heap.size w w' → wpPi P ops Q r a' w' → K a' w') → o.wp P a w K Q) : wpPi P ops Q ((i, true) :: r) a w :=
  ⟨o, hi, hw, h _ (fun _ _ h1 h2 => ⟨h1, h2⟩)⟩
theorem pi_nil {a : Act} {w : World} (h : Q .normal a w) : wpPi P ops Q [] a w := h
end
end Go.Proofs.YtpfgepgjpnekdaaDoor

namespace Go.Proofs.YtpfgepgjpnekdaaDoor
open Go.RowKit

section
variable {α : Type} {cells : α → List Value} {sz : Nat}

theorem rec_len (hsz : ∀ x, (cells x).length = sz) : ∀ (l : List α), (l.flatMap cells).length = l.length * sz
  | [] => by simp
  | x :: l => by rw [List.flatMap_cons, List.length_append, hsz, rec_len hsz l, List.length_cons, Nat.succ_mul, Nat.add_comm]
theorem rec_get (hsz : ∀ x, (cells x).length = sz) : ∀ (l : List α) (k : Nat) (hk : k < l.length) (j : Nat), j < sz → (l.flatMap cells)[k * sz + j]? = (cells l[k])[j]?
  | x :: l, 0, _, j, hj => by
    rw [List.flatMap_cons, Nat.zero_mul, Nat.zero_add, List.getElem?_append_left (by rw [hsz]; exact hj)]
    rfl
  | x :: l, k + 1, hk, j, hj => by
    have := rec_get hsz l k (by simpa using hk) j hj
    rw [List.flatMap_cons, List.getElem?_append_right (by rw [hsz, Nat.succ_mul]; omega), hsz, show (k + 1) * sz + j - sz = k * sz + j by rw [Nat.succ_mul]; omega]
    exact this

theorem Sl.recs {w : World} {v : Value} {n : Nat} {l : List α} (hsz : ∀ x, (cells x).length = sz) (h0 : 0 < sz) (hv : Sl w sz v n (l.flatMap cells)) : l.length = n := by
  have := hv.1
  rw [rec_len hsz] at this
  exact Nat.eq_of_mul_eq_mul_right h0 this
theorem Sl.rec_at {w : World} {a : Option Addr} {c n : Nat} {l : List α} (hsz : ∀ x, (cells x).length = sz) (hv : Sl w sz (.slice a n c) n (l.flatMap cells)) {k : Nat} (hk : k < n) (hk' : k < l.length) :
    ∃ b off, a = some ⟨b, off, none⟩ ∧ w.rangeAt b (off + k * sz) (cells l[k]) := by
  obtain ⟨b, off, rfl, hc⟩ := hv.cells_at hk
  refine ⟨b, off, rfl, fun j u hj => ?_⟩
  have hjs : j < sz := by have := (List.getElem?_eq_some_iff.1 hj).1; rwa [hsz] at this
  rw [hc j hjs, rec_get hsz l k hk' j hjs]
  exact hj
end

theorem Sl.n_max {w : World} {sz : Nat} {v : Value} {n : Nat} {cs : List Value} (h : Sl w sz v n cs) : n ≤ 9223372036854775807 := by
  obtain ⟨_, ⟨_, _, _, h⟩ | ⟨_, _, cap, _, hn, hm, _⟩⟩ := h
  · omega
  · simp only [maxLen] at hm; omega
theorem rangeAt_new (w : World) (cs : List Value) (T : TypeId) (f : Nat × Nat) : (w.alloc (.cells cs.toArray T f)).rangeAt w.heap.size 0 cs := fun j v hj => by
  have : (w.alloc (.cells cs.toArray T f)).heap[w.heap.size]? = some (.cells cs.toArray T f) := heap_alloc_new w _
  simp only [World.cell?, this, Nat.zero_add]
  simpa using hj
theorem rangeAt_up {w w' : World} {b o : Nat} {cs : List Value} (hb : Below w.heap.size w w') (h : w.rangeAt b o cs) : w'.rangeAt b o cs := fun j v hj => cell_up hb (h j v hj)
theorem rangeAt_sub {w : World} {b o : Nat} {cs ds : List Value} (h : w.rangeAt b o cs) (i o' : Nat) (ho : o' = o + i) (hd : ∀ j, j < ds.length → ds[j]? = cs[i + j]?) : w.rangeAt b o' ds := fun j v hj => by
  have hl := (List.getElem?_eq_some_iff.1 hj).1
  rw [hd j hl] at hj
  have := h (i + j) v hj
  rw [ho, Nat.add_assoc]
  exact this
/-- A record that is read whole, in a drawn region. -/
theorem pi_load {P : Program} {ops : Array Oper} {Q : Exit → Act → World → Prop} {i : Nat} {o : Oper} {r : List (Nat × Bool)} {a : Act} {w : World} (hi : ops[i]? = some o) (hw : Region.wanted o (yielded ops a.tmps) = true)
    (ty : TypeId) (x : Operand) (ho : o.op = .load ty x) (b off : Nat) (hx : a.eval x = .pointer (some ⟨b, off, none⟩)) (cs : List Value) (d : TypeDesc) (hr : w.rangeAt b off cs)
    (hu : P.underlying ty = some d) (hd : d.isRow = true) (hn : (P.info? ty).map (·.size) = some cs.length) (h : wpPi P ops Q r (a.put o.dst (.agg cs.toArray)) w) : wpPi P ops Q ((i, false) :: r) a w :=
  ⟨o, _, hi, yieldsIf_load_mid hw ty x ho b off hx cs d (fun _ hb => rangeAt_up hb hr) hu hd hn, h⟩
theorem rec_take {α : Type} {cells : α → List Value} {sz : Nat} (hsz : ∀ x, (cells x).length = sz) : ∀ (l : List α) (k : Nat), (l.flatMap cells).take (k * sz) = (l.take k).flatMap cells
  | [], k => by simp
  | x :: l, 0 => by simp
  | x :: l, k + 1 => by
    rw [List.flatMap_cons, List.take_succ_cons, List.flatMap_cons, List.take_append, hsz, List.take_of_length_le (by rw [hsz, Nat.succ_mul]; omega), show (k + 1) * sz - sz = k * sz by rw [Nat.succ_mul]; omega, rec_take hsz l k]

theorem cut_hm {P : Program} {t e : TypeId} {sz bytes : Nat} (T : SlT P t e sz bytes) {w : World} {a : Option Addr} {n c : Nat} {cs : List Value} (h : Sl w sz (.slice a n c) n cs) (hi : Nat) (h1 : hi ≤ n) :
    ∃ a', (∀ (kh km : IntKind) (w' : World), (Instr.slice t (.slice a n c) none (some (.int kh (hi : Int))) (some (.int km (hi : Int)))).run P w' = .ok (.slice a' hi hi) w') ∧ Sl w sz (.slice a' hi hi) hi (cs.take (hi * sz)) := by
  have hc : hi ≤ c := by have := h.n_le; omega
  have := h.cut (lo := 0) (hi := hi) (mx := hi) (Nat.zero_le _) h1 (Nat.le_refl _) hc
  simp only [Nat.zero_mul, List.drop_zero, Nat.sub_zero] at this
  refine ⟨_, fun kh km w' => ?_, this⟩
  obtain ⟨i, z, hi', _, hs, _⟩ := T.inf
  have he : P.elem t = e := by unfold Program.elem; rw [T.und]
  rw [run_slice_hm w' t a n c (by rw [he]; exact T.und) kh km hi hi (by omega) (by omega) (by omega), he]
  simp [sizeOf, typeInfo, hi', hs, Result.andThen, sliced]
end Go.Proofs.YtpfgepgjpnekdaaDoor

namespace Go.Proofs.YtpfgepgjpnekdaaDoor
open Go.RowKit
/-- A row of one's own lies in block H. -/
def RowAt (w : World) (H : Nat) (cs : Array Value) (T : TypeId) : Prop := w.heap[H]? = some (.cells cs T (0, 0))
theorem RowAt.lt {w : World} {H : Nat} {cs : Array Value} {T : TypeId} (h : RowAt w H cs T) : H < w.heap.size := (Array.getElem?_eq_some_iff.1 h).1
theorem RowAt.cell {w : World} {H : Nat} {cs : Array Value} {T : TypeId} (h : RowAt w H cs T) {i : Nat} {v : Value} (hi : cs[i]? = some v) : w.cell? ⟨H, i, none⟩ = some v := by
  simp [World.cell?, show w.heap[H]? = _ from h, hi]
theorem RowAt.fz {w : World} {H : Nat} {cs : Array Value} {T : TypeId} (h : RowAt w H cs T) (i : Nat) : w.frozen? ⟨H, i, none⟩ = false := by
  simp [World.frozen?, show w.heap[H]? = _ from h]
theorem RowAt.set {w : World} {H : Nat} {cs : Array Value} {T : TypeId} (h : RowAt w H cs T) (i : Nat) (v : Value) : RowAt (w.setCell ⟨H, i, none⟩ v) H (cs.setIfInBounds i v) T := by
  simp only [RowAt, World.setCell, Array.getElem?_modify]
  simp [show w.heap[H]? = _ from h]
theorem RowAt.alloc {w : World} {H : Nat} {cs : Array Value} {T : TypeId} (h : RowAt w H cs T) (o : Obj) : RowAt (w.alloc o) H cs T := by
  have := h.lt
  have e : (w.alloc o).heap = w.heap.push o := rfl
  unfold RowAt
  rw [e, Array.getElem?_push_lt this]
  exact (Array.getElem?_eq_getElem this).symm.trans h
theorem RowAt.new (w : World) (cs : Array Value) (T : TypeId) : RowAt (w.alloc (.cells cs T)) w.heap.size cs T := heap_alloc_new w _
theorem RowAt.same {w : World} {H : Nat} {cs : Array Value} {T : TypeId} (h : RowAt w H cs T) {i : Nat} {v : Value} (hi : cs[i]? = some v) : w.setCell ⟨H, i, none⟩ v = w := by
  have e : (w.heap.modify H fun o => match o with | .cells c t f => .cells (c.setIfInBounds i v) t f | o => o) = w.heap := by
    refine Array.ext (by simp) fun j hj hj' => ?_
    rw [Array.getElem_modify]
    split
    · rename_i e
      subst e
      have hg : w.heap[H] = .cells cs T (0, 0) := by
        have : w.heap[H]? = _ := h
        rw [Array.getElem?_eq_getElem hj'] at this
        exact Option.some.inj this
      rw [hg]
      simp only
      congr 1
      refine Array.ext (by simp) fun k hk hk' => ?_
      rw [Array.getElem_setIfInBounds]
      split
      · rename_i e
        subst e
        rw [Array.getElem?_eq_getElem hk'] at hi
        exact (Option.some.inj hi).symm
      · rfl
    · rfl
  show ({ w with heap := _ } : World) = w
  exact congrArg (fun x => ({ w with heap := x } : World)) e
theorem RowAt.other {w : World} {H : Nat} {cs : Array Value} {T : TypeId} (h : RowAt w H cs T) {a : Addr} (ha : H ≠ a.block) (v : Value) : RowAt (w.setCell a v) H cs T := by
  unfold RowAt
  rw [Below.heap_setCell _ _ _ _ ha]
  exact h
theorem RowAt.range {w : World} {H : Nat} {cs : List Value} {T : TypeId} (h : RowAt w H cs.toArray T) : w.rangeAt H 0 cs := fun j v hj => by
  rw [Nat.zero_add]
  exact h.cell (by simpa using hj)

theorem RowAt.below {w w' : World} {H : Nat} {cs : Array Value} {T : TypeId} (h : RowAt w H cs T) (hb : Below w.heap.size w w') : RowAt w' H cs T := (hb.block H h.lt).trans h
theorem RowAt.drew {w : World} {H : Nat} {cs : Array Value} {T : TypeId} (h : RowAt w H cs T) : RowAt w.drew H cs T := h
end Go.Proofs.YtpfgepgjpnekdaaDoor
