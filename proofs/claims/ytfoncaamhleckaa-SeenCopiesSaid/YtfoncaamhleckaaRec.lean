/-
  Slices of records: what each place holds; a record that is read whole.
-/
import Derived.Test.YtfoncaamhleckaaSlice
import Derived.Test.YtfoncaamhleckaaOpen
import Derived.Test.YtfoncaamhleckaaBytes
import Derived.Test.YtfoncaamhleckaaPi
import Derived.Deep.MidRow
namespace Go.Proofs.Ytfoncaamhleckaa
open Go.RowKit

section
variable {α : Type} {cells : α → List Value} {sz : Nat}

theorem rec_len (hsz : ∀ x, (cells x).length = sz) : ∀ (l : List α), (l.flatMap cells).length = l.length * sz
  | [] => by simp
  | x :: l => by rw [List.flatMap_cons, List.length_append, hsz, rec_len hsz l, List.length_cons, Nat.succ_mul, Nat.add_comm]
theorem rec_get (hsz : ∀ x, (cells x).length = sz) : ∀ (l : List α) (k : Nat) (hk : k < l.length) (j : Nat), j < sz → (l.flatMap cells)[k * sz + j]? = (cells l[k])[j]?
  | x :: l, 0, _, j, hj => by
    rw [List.flatMap_cons, Nat.zero_mul, Nat.zero_add, List.getElem?_append_left (by rw [hsz]; exact hj)]
    rfl
  | x :: l, k + 1, hk, j, hj => by
    have := rec_get hsz l k (by simpa using hk) j hj
    rw [List.flatMap_cons, List.getElem?_append_right (by rw [hsz, Nat.succ_mul]; omega), hsz, show (k + 1) * sz + j - sz = k * sz + j by rw [Nat.succ_mul]; omega]
    exact this

theorem Sl.recs {w : World} {v : Value} {n : Nat} {l : List α} (hsz : ∀ x, (cells x).length = sz) (h0 : 0 < sz) (hv : Sl w sz v n (l.flatMap cells)) : l.length = n := by
  have := hv.1
  rw [rec_len hsz] at this
  exact Nat.eq_of_mul_eq_mul_right h0 this
theorem Sl.rec_at {w : World} {a : Option Addr} {c n : Nat} {l : List α} (hsz : ∀ x, (cells x).length = sz) (hv : Sl w sz (.slice a n c) n (l.flatMap cells)) {k : Nat} (hk : k < n) (hk' : k < l.length) :
    ∃ b off, a = some ⟨b, off, none⟩ ∧ w.rangeAt b (off + k * sz) (cells l[k]) := by
  obtain ⟨b, off, rfl, hc⟩ := hv.cells_at hk
  refine ⟨b, off, rfl, fun j u hj => ?_⟩
  have hjs : j < sz := by have := (List.getElem?_eq_some_iff.1 hj).1; rwa [hsz] at this
  rw [hc j hjs, rec_get hsz l k hk' j hjs]
  exact hj
end

theorem Sl.n_max {w : World} {sz : Nat} {v : Value} {n : Nat} {cs : List Value} (h : Sl w sz v n cs) : n ≤ 9223372036854775807 := by
  obtain ⟨_, ⟨_, _, _, h⟩ | ⟨_, _, cap, _, hn, hm, _⟩⟩ := h
  · omega
  · simp only [maxLen] at hm; omega
theorem rangeAt_new (w : World) (cs : List Value) (T : TypeId) (f : Nat × Nat) : (w.alloc (.cells cs.toArray T f)).rangeAt w.heap.size 0 cs := fun j v hj => by
  have : (w.alloc (.cells cs.toArray T f)).heap[w.heap.size]? = some (.cells cs.toArray T f) := heap_alloc_new w _
  simp only [World.cell?, this, Nat.zero_add]
  simpa using hj
theorem rangeAt_up {w w' : World} {b o : Nat} {cs : List Value} (hb : Below w.heap.size w w') (h : w.rangeAt b o cs) : w'.rangeAt b o cs := fun j v hj => cell_up hb (h j v hj)
theorem rangeAt_sub {w : World} {b o : Nat} {cs ds : List Value} (h : w.rangeAt b o cs) (i o' : Nat) (ho : o' = o + i) (hd : ∀ j, j < ds.length → ds[j]? = cs[i + j]?) : w.rangeAt b o' ds := fun j v hj => by
  have hl := (List.getElem?_eq_some_iff.1 hj).1
  rw [hd j hl] at hj
  have := h (i + j) v hj
  rw [ho, Nat.add_assoc]
  exact this
/-- A record that is read whole, in a drawn region. -/
theorem pi_load {P : Program} {ops : Array Oper} {Q : Exit → Act → World → Prop} {i : Nat} {o : Oper} {r : List (Nat × Bool)} {a : Act} {w : World} (hi : ops[i]? = some o) (hw : Region.wanted o (yielded ops a.tmps) = true)
    (ty : TypeId) (x : Operand) (ho : o.op = .load ty x) (b off : Nat) (hx : a.eval x = .pointer (some ⟨b, off, none⟩)) (cs : List Value) (d : TypeDesc) (hr : w.rangeAt b off cs)
    (hu : P.underlying ty = some d) (hd : d.isRow = true) (hn : (P.info? ty).map (·.size) = some cs.length) (h : wpPi P ops Q r (a.put o.dst (.agg cs.toArray)) w) : wpPi P ops Q ((i, false) :: r) a w :=
  ⟨o, _, hi, yieldsIf_load_mid hw ty x ho b off hx cs d (fun _ hb => rangeAt_up hb hr) hu hd hn, h⟩
theorem rec_take {α : Type} {cells : α → List Value} {sz : Nat} (hsz : ∀ x, (cells x).length = sz) : ∀ (l : List α) (k : Nat), (l.flatMap cells).take (k * sz) = (l.take k).flatMap cells
  | [], k => by simp
  | x :: l, 0 => by simp
  | x :: l, k + 1 => by
    rw [List.flatMap_cons, List.take_succ_cons, List.flatMap_cons, List.take_append, hsz, List.take_of_length_le (by rw [hsz, Nat.succ_mul]; omega), show (k + 1) * sz - sz = k * sz by rw [Nat.succ_mul]; omega, rec_take hsz l k]

theorem cut_hm {P : Program} {t e : TypeId} {sz bytes : Nat} (T : SlT P t e sz bytes) {w : World} {a : Option Addr} {n c : Nat} {cs : List Value} (h : Sl w sz (.slice a n c) n cs) (hi : Nat) (h1 : hi ≤ n) :
    ∃ a', (∀ (kh km : IntKind) (w' : World), (Instr.slice t (.slice a n c) none (some (.int kh (hi : Int))) (some (.int km (hi : Int)))).run P w' = .ok (.slice a' hi hi) w') ∧ Sl w sz (.slice a' hi hi) hi (cs.take (hi * sz)) := by
  have hc : hi ≤ c := by have := h.n_le; omega
  have := h.cut (lo := 0) (hi := hi) (mx := hi) (Nat.zero_le _) h1 (Nat.le_refl _) hc
  simp only [Nat.zero_mul, List.drop_zero, Nat.sub_zero] at this
  refine ⟨_, fun kh km w' => ?_, this⟩
  obtain ⟨i, z, hi', _, hs, _⟩ := T.inf
  have he : P.elem t = e := by unfold Program.elem; rw [T.und]
  rw [run_slice_hm w' t a n c (by rw [he]; exact T.und) kh km hi hi (by omega) (by omega) (by omega), he]
  simp [sizeOf, typeInfo, hi', hs, Result.andThen, sliced]
end Go.Proofs.Ytfoncaamhleckaa
