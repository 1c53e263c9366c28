/-
  An argument opened: the cells of a struct, of an array, nested or not, one by one, each with its own reading; a slice of such.
-/
import Derived.Test.YtfoncaamhleckaaSlice
import Derived.ProofKit
import Derived.OpenShut
import Derived.ChangeOld
import Derived.Below
import Derived.Carry
import Derived.Deep.Slices
namespace Go.Proofs.Ytfoncaamhleckaa
open Go.RowKit

def glue : Nat → List (Nat × List TypeId) → Option (List TypeId)
  | _, [] => some []
  | off, x :: r => if x.1 = off then (glue (off + x.2.length) r).map (x.2 ++ ·) else none

/-- The types of the cells of a value of type t, from the first to the last. -/
def leaves (P : Program) : Nat → TypeId → Option (List TypeId)
  | 0, _ => none
  | n + 1, t =>
    match P.underlying t with
    | some (.struct fs) => ((fs.toList.mapM fun f => (leaves P n f.type).bind fun l => if l.length = P.cellsOf f.type then some (f.offset, l) else none).bind (glue 0)).bind fun l => if l.length = P.cellsOf t then some l else none
    | some (.array k e) => (leaves P n e).bind fun l => if l.length = P.cellsOf e ∧ k * l.length = P.cellsOf t then some ((List.replicate k l).flatten) else none
    | some _ => some [t]
    | none => none

section
variable {H : Type} {enc : TypeId × Value → H} {P : Program} {w : World} {base : Nat} {spare : Nat → Bool} {held : Bool}

/-- The cell c reads at type T. -/
def Leaf (enc : TypeId × Value → H) (P : Program) (w : World) (base : Nat) (spare : Nat → Bool) (held : Bool) (T : TypeId) (c : Value) : Prop := ∃ m y, DataW.trod enc P w base spare held m T [c] = some y

theorem glue_leaf {cs : List Value} : ∀ (fs : List Field) (n off : Nat) (xs : List (Nat × List TypeId)) (ls : List TypeId),
    (∀ f ∈ fs, ∀ l, leaves P n f.type = some l → l.length = P.cellsOf f.type → ∀ (i : Nat) (T : TypeId), l[i]? = some T → ∃ c, cs[f.offset + i]? = some c ∧ Leaf enc P w base spare held T c) →
    (fs.mapM fun f => (leaves P n f.type).bind fun l => if l.length = P.cellsOf f.type then some (f.offset, l) else none) = some xs → glue off xs = some ls →
    ∀ (i : Nat) (T : TypeId), ls[i]? = some T → ∃ c, cs[off + i]? = some c ∧ Leaf enc P w base spare held T c
  | [], n, off, xs, ls, _, hm, hg, i, T, hi => by
    simp only [List.mapM_nil, pure, Option.some.injEq] at hm
    subst hm
    simp only [glue, Option.some.injEq] at hg
    subst hg
    simp at hi
  | f :: fs, n, off, xs, ls, hf, hm, hg, i, T, hi => by
    simp only [List.mapM_cons, bind, Option.bind_eq_some_iff, pure, Option.some.injEq] at hm
    obtain ⟨x, ⟨l, hl, hx⟩, rest, hr, rfl⟩ := hm
    split at hx
    · rename_i hlen
      simp only [Option.some.injEq] at hx
      subst hx
      simp only [glue] at hg
      split at hg
      · rename_i hoff
        simp only [Option.map_eq_some_iff] at hg
        obtain ⟨ls', hg', rfl⟩ := hg
        rcases Nat.lt_or_ge i l.length with h | h
        · rw [List.getElem?_append_left h] at hi
          rw [← hoff]
          exact hf f (by simp) l hl hlen i T hi
        · rw [List.getElem?_append_right h] at hi
          have := glue_leaf fs n (off + l.length) rest ls' (fun g hg => hf g (by simp [hg])) hr hg' (i - l.length) T hi
          rw [show off + l.length + (i - l.length) = off + i by omega] at this
          exact this
      · cases hg
    · cases hx

theorem flat_get {α : Type} (l : List α) : ∀ (k i : Nat), (List.replicate k l).flatten[i]? = if i < k * l.length then l[i % l.length]? else none
  | 0, i => by simp
  | k + 1, i => by
    rw [List.replicate_succ, List.flatten_cons]
    rcases Nat.lt_or_ge i l.length with h | h
    · rw [List.getElem?_append_left h, Nat.mod_eq_of_lt h, if_pos (by rw [Nat.add_mul]; omega)]
    · rw [List.getElem?_append_right h, flat_get l k]
      have : (i - l.length) % l.length = i % l.length := by rw [Nat.mod_eq_sub_mod h]
      rw [this, Nat.add_mul, Nat.one_mul]
      by_cases h2 : i < k * l.length + l.length
      · rw [if_pos (by omega), if_pos h2]
      · rw [if_neg (by omega), if_neg h2]

theorem mapM_get {α β : Type} {f : α → Option β} : ∀ {l : List α} {ys : List β}, l.mapM f = some ys → ∀ x ∈ l, ∃ y, f x = some y
  | [], _, _, x, hx => by cases hx
  | a :: l, ys, h, x, hx => by
    simp only [List.mapM_cons, bind, Option.bind_eq_some_iff] at h
    obtain ⟨y, hy, rest, hr, _⟩ := h
    rcases List.mem_cons.1 hx with rfl | hx
    · exact ⟨y, hy⟩
    · exact mapM_get hr x hx

/-- EVERY CELL READS AT ITS OWN TYPE. -/
theorem trod_leaves : ∀ (n fuel : Nat) (t : TypeId) (cs : List Value) (x : DataW H × List MemPlace) (ls : List TypeId), DataW.trod enc P w base spare held fuel t cs = some x → leaves P n t = some ls →
    cs.length = ls.length ∧ ∀ (i : Nat) (T : TypeId), ls[i]? = some T → ∃ c, cs[i]? = some c ∧ Leaf enc P w base spare held T c
  | 0, _, _, _, _, _, _, hl => by simp [leaves] at hl
  | n + 1, 0, _, _, _, _, h, _ => by simp [DataW.trod] at h
  | n + 1, fuel + 1, t, cs, x, ls, h, hl => by
    have h0 := h
    simp only [leaves] at hl
    split at hl
    · rename_i fs ht
      simp only [Option.bind_eq_some_iff] at hl
      obtain ⟨ls', ⟨xs, hm, hg⟩, hif⟩ := hl
      split at hif
      · rename_i hlen
        simp only [Option.some.injEq] at hif
        subst hif
        unfold DataW.trod at h
        rw [ht] at h
        simp only at h
        split at h
        · rename_i hcs
          simp only [Option.map_eq_some_iff] at h
          obtain ⟨ys, hys, _⟩ := h
          refine ⟨by rw [hcs, hlen], fun i T hi => ?_⟩
          have := glue_leaf (enc := enc) (w := w) (base := base) (spare := spare) (held := held) (cs := cs) fs.toList n 0 xs ls' (fun f hf l hl hlf j T hj => ?_) hm hg i T hi
          · simpa using this
          obtain ⟨y, hy⟩ := mapM_get hys f hf
          obtain ⟨h1, h2⟩ := trod_leaves n fuel f.type _ y l hy hl
          obtain ⟨c, hc, hL⟩ := h2 j T hj
          refine ⟨c, ?_, hL⟩
          rw [List.getElem?_take] at hc
          split at hc
          · rwa [List.getElem?_drop] at hc
          · cases hc
        · cases h
      · cases hif
    · rename_i k e ht
      simp only [Option.bind_eq_some_iff] at hl
      obtain ⟨l, hle, hif⟩ := hl
      split at hif
      · rename_i hlen
        simp only [Option.some.injEq] at hif
        subst hif
        obtain ⟨ys, m, _, _, hcs, hn, hall⟩ := DataW.trod_array ht h
        have hflen : (List.replicate k l).flatten.length = k * l.length := by simp
        refine ⟨by rw [hcs, hflen, hlen.2], fun i T hi => ?_⟩
        rw [flat_get] at hi
        split at hi
        · rename_i hlt
          have hl0 : 0 < l.length := by rcases Nat.eq_zero_or_pos l.length with h | h; · rw [h] at hlt; omega
                                        · exact h
          have hdiv : i / l.length < k := Nat.div_lt_of_lt_mul (by rw [Nat.mul_comm]; exact hlt)
          have hy := hall (i / l.length) hdiv
          rw [List.getElem?_eq_getElem (by omega)] at hy
          obtain ⟨h1, h2⟩ := trod_leaves n m e _ _ l hy hle
          obtain ⟨c, hc, hL⟩ := h2 (i % l.length) T hi
          refine ⟨c, ?_, hL⟩
          rw [List.getElem?_take] at hc
          split at hc
          · rw [List.getElem?_drop, ← hlen.1] at hc
            have : i / l.length * l.length + i % l.length = i := by rw [Nat.mul_comm]; exact Nat.div_add_mod i l.length
            rwa [this] at hc
          · cases hc
        · cases hi
      · cases hif
    · rename_i d hns hna ht
      simp only [Option.some.injEq] at hl
      subst hl
      have hone : ∃ c, cs = [c] := by
        unfold DataW.trod at h
        rw [ht] at h
        split at h <;> simp_all
      obtain ⟨c, rfl⟩ := hone
      refine ⟨rfl, fun i T hi => ?_⟩
      cases i with
      | zero =>
        simp at hi
        subst hi
        exact ⟨c, rfl, fuel + 1, x, h0⟩
      | succ i => simp at hi
    · cases hl

theorem Leaf.int {T : TypeId} {k : IntKind} {c : Value} (ht : P.underlying T = some (.int k)) (h : Leaf enc P w base spare held T c) : ∃ n, c = .int k n ∧ (Lit.int k n).wf = true := by
  obtain ⟨m, y, h⟩ := h
  obtain ⟨n, h1, _, h3⟩ := DataW.trod_int ht h
  exact ⟨n, by simpa using h1, h3⟩
theorem Leaf.bool {T : TypeId} {c : Value} (ht : P.underlying T = some .bool) (h : Leaf enc P w base spare held T c) : ∃ n, c = .bool n := by
  obtain ⟨m, y, h⟩ := h
  obtain ⟨n, h1, _⟩ := DataW.trod_bool ht h
  exact ⟨n, by simpa using h1⟩
theorem Leaf.string {T : TypeId} {c : Value} (ht : P.underlying T = some .string) (h : Leaf enc P w base spare held T c) : ∃ s : ByteArray, c = .string s ∧ s.size ≤ maxLen := by
  obtain ⟨m, y, h⟩ := h
  obtain ⟨n, h1, _, h3⟩ := DataW.trod_string ht h
  exact ⟨n, by simpa using h1, h3⟩

theorem flatMap_get {α : Type} {f : Nat → List α} {sz : Nat} : ∀ (n : Nat), (∀ i, i < n → (f i).length = sz) → ((List.range n).flatMap f).length = n * sz ∧ ∀ i j, i < n → j < sz → ((List.range n).flatMap f)[i * sz + j]? = (f i)[j]?
  | 0, _ => ⟨by simp, fun i j hi _ => by omega⟩
  | n + 1, h => by
    obtain ⟨h1, h2⟩ := flatMap_get n (fun i hi => h i (by omega))
    rw [List.range_succ, List.flatMap_append]
    have hl : (List.flatMap f [n]) = f n := by simp
    rw [hl]
    refine ⟨by rw [List.length_append, h1, h n (by omega), Nat.add_mul, Nat.one_mul], fun i j hi hj => ?_⟩
    rcases Nat.lt_or_ge i n with hin | hin
    · have : i * sz + j < n * sz := by
        calc i * sz + j < i * sz + sz := by omega
          _ = (i + 1) * sz := by rw [Nat.add_mul, Nat.one_mul]
          _ ≤ n * sz := Nat.mul_le_mul_right _ hin
      rw [List.getElem?_append_left (by rw [h1]; exact this)]
      exact h2 i j hin hj
    · obtain rfl : i = n := by omega
      rw [List.getElem?_append_right (by rw [h1]; omega), h1]
      congr 1
      omega

/-- A SLICE OF FLAT ELEMENTS, OPENED: it reads; each cell of each element at its own type. -/
theorem open_flat {t e : TypeId} {fuel sz : Nat} {ls : List TypeId} {cs : List Value} {x : DataW H × List MemPlace} (ht : P.underlying t = some (.slice e)) (hls : leaves P 12 e = some ls) (hsz : ls.length = sz) (hc : P.cellsOf e = sz) (h0 : 0 < sz)
    (h : DataW.trod enc P w base spare held fuel t cs = some x) :
    ∃ a len cap vs, cs = [.slice a len cap] ∧ Sl w sz (.slice a len cap) len vs ∧ (∀ i, i < len → ∀ (j : Nat) (T : TypeId), ls[j]? = some T → ∃ c, vs[i * sz + j]? = some c ∧ Leaf enc P w base spare held T c) ∧ ((x.1 = .nil ∧ len = 0) ∨ ∃ es sp, x.1 = .slice es sp ∧ es.length = len) := by
  rcases Go.Deep.open_slice ht h with ⟨rfl, rfl⟩ | ⟨a, len, cap, m, n, D, Pl, rfl, hb, hl, hm, hmm, rfl, hall⟩
  · exact ⟨none, 0, 0, [], rfl, Sl.nil _ _, fun i hi => by omega, .inl ⟨rfl, rfl⟩⟩
  · have hlm : len ≤ m := by rw [hmm]; split <;> omega
    obtain ⟨f, hf⟩ := Go.Deep.choose_lt (n := len) (p := fun i cs' => w.cells? base (a.add (i * P.cellsOf e)) (P.cellsOf e) = some cs' ∧ DataW.trod enc P w base spare held n e cs' = some (D i, Pl i)) (fun i hi => hall i (by omega))
    have hfl : ∀ i, i < len → (f i).length = sz := fun i hi => by
      obtain ⟨h1, _⟩ := trod_leaves 12 n e _ _ ls (hf i hi).2 hls
      rw [h1, hsz]
    obtain ⟨g1, g2⟩ := flatMap_get len hfl
    refine ⟨some a, len, cap, (List.range len).flatMap f, rfl, ⟨g1, ?_⟩, fun i hi j T hj => ?_, .inr ⟨_, _, rfl, by simp⟩⟩
    · by_cases hz : len = 0
      · exact .inl ⟨_, _, by rw [hz], hz⟩
      · right
        have hcell : ∀ i j, i < len → j < sz → w.cell? (a.add (i * sz) |>.add j) = (f i)[j]? := fun i j hi hj => by
          have h1 := World.cells?_some (hf i hi).1
          rw [hc] at h1
          exact h1.2.2 j hj
        have hspot : a.spot = none := by
          have h1 := hcell 0 0 (by omega) h0
          have hlt0 : 0 < (f 0).length := by rw [hfl 0 (by omega)]; exact h0
          have h2 : (f 0)[0]? = some (f 0)[0] := List.getElem?_eq_getElem hlt0
          rw [h2] at h1
          have := World.cell?_spot h1
          simpa [Addr.add] using this
        obtain ⟨b, off, spot⟩ := a
        simp only at hspot
        subst hspot
        refine ⟨b, off, cap, rfl, hl, hm, fun j u hj => ?_⟩
        have hjl : j < len * sz := by rw [← g1]; exact (List.getElem?_eq_some_iff.1 hj).1
        have hd : j / sz < len := Nat.div_lt_of_lt_mul (by rw [Nat.mul_comm]; exact hjl)
        have hmod : j % sz < sz := Nat.mod_lt _ h0
        have e : j / sz * sz + j % sz = j := by rw [Nat.mul_comm]; exact Nat.div_add_mod j sz
        have h1 := hcell (j / sz) (j % sz) hd hmod
        rw [← g2 _ _ hd hmod, e, hj] at h1
        rw [Go.Deep.add_add, e, Addr.add_lit] at h1
        exact h1
    · obtain ⟨_, h2⟩ := trod_leaves 12 n e _ _ ls (hf i hi).2 hls
      obtain ⟨c, hc', hL⟩ := h2 j T hj
      refine ⟨c, ?_, hL⟩
      rw [g2 i j hi (by rw [← hsz]; exact (List.getElem?_eq_some_iff.1 hj).1)]
      exact hc'
end
end Go.Proofs.Ytfoncaamhleckaa
