/-
  Slices read and owned: what a slice reads in a world, kept above; append's law over a source that reads.
-/
import Derived.Test.YtfoncaamhleckaaBase
import Derived.Maps.AppendAt
import Derived.OneCell
namespace Go.Proofs.Ytfoncaamhleckaa
open Go.RowKit

/-- len of a slice, wherever it leads. -/
@[go_sem] theorem run_len_any {P : Program} {w : World} {t ty : TypeId} {a : Option Addr} {n c : Nat} (h : P.underlying t = some (.slice (P.elem t))) :
    (Builtin.len_ #[t] ty #[.slice a n c]).run P w = .ok (.int .i64 n) w := by
  simp [Builtin.len_, run_underlying h, goInt]

/-- The slice v has n elements of sz cells each, and its cells read cs. -/
def Sl (w : World) (sz : Nat) (v : Value) (n : Nat) (cs : List Value) : Prop :=
  cs.length = n * sz ∧ ((∃ a c, v = .slice a 0 c ∧ n = 0) ∨
    ∃ b off cap, v = .slice (some ⟨b, off, none⟩) n cap ∧ n ≤ cap ∧ cap ≤ maxLen ∧ ∀ j u, cs[j]? = some u → w.cell? ⟨b, off + j, none⟩ = some u)

theorem Sl.nil (w : World) (sz : Nat) : Sl w sz (.slice none 0 0) 0 [] := ⟨by simp, .inl ⟨_, _, rfl, rfl⟩⟩

theorem Sl.up {w w' : World} {sz : Nat} {v : Value} {n : Nat} {cs : List Value} (h : Sl w sz v n cs) (hb : Below w.heap.size w w') : Sl w' sz v n cs := by
  obtain ⟨hl, h | ⟨b, off, cap, hv, hn, hm, hc⟩⟩ := h
  · exact ⟨hl, .inl h⟩
  · refine ⟨hl, .inr ⟨b, off, cap, hv, hn, hm, fun j u hj => ?_⟩⟩
    have := hc j u hj
    rw [hb.cell (p := ⟨b, off + j, none⟩) (World.block_lt_of_cell? w ⟨b, off + j, none⟩ this)]
    exact this

theorem Sl.len {w : World} {sz : Nat} {v : Value} {n : Nat} {cs : List Value} (h : Sl w sz v n cs) : ∃ a c, v = .slice a n c := by
  obtain ⟨_, ⟨a, c, rfl, rfl⟩ | ⟨b, off, cap, rfl, _⟩⟩ := h
  · exact ⟨a, c, rfl⟩
  · exact ⟨_, cap, rfl⟩

theorem Sl.cellAt {w : World} {sz : Nat} {a : Option Addr} {n c : Nat} {cs : List Value} (h : Sl w sz (.slice a n c) n cs) {k : Nat} (hn : 0 < n) (hk : k < n * sz) :
    ∃ b off, a = some ⟨b, off, none⟩ ∧ w.cell? ⟨b, off + k, none⟩ = cs[k]? := by
  obtain ⟨hl, ⟨a', c', h1, h2⟩ | ⟨b, off, cap, h1, hn, hm, hc⟩⟩ := h
  · omega
  · simp only [Value.slice.injEq] at h1
    refine ⟨b, off, h1.1, ?_⟩
    rw [hc k cs[k] (by rw [List.getElem?_eq_getElem]), List.getElem?_eq_getElem]
    
/-- All cells of element k, in the walk's own spelling: the first at off + k * sz, the others behind it. -/
theorem Sl.cells_at {w : World} {sz : Nat} {a : Option Addr} {n c : Nat} {cs : List Value} (h : Sl w sz (.slice a n c) n cs) {k : Nat} (hk : k < n) :
    ∃ b off, a = some ⟨b, off, none⟩ ∧ ∀ j, j < sz → w.cell? ⟨b, off + k * sz + j, none⟩ = cs[k * sz + j]? := by
  obtain ⟨hl, ⟨a', c', h1, h2⟩ | ⟨b, off, cap, h1, hn, hm, hc⟩⟩ := h
  · omega
  · simp only [Value.slice.injEq] at h1
    refine ⟨b, off, h1.1, fun j hj => ?_⟩
    have hlt : k * sz + j < cs.length := by
      rw [hl]
      calc k * sz + j < k * sz + sz := by omega
        _ = (k + 1) * sz := by rw [Nat.add_mul, Nat.one_mul]
        _ ≤ n * sz := Nat.mul_le_mul_right _ hk
    rw [Nat.add_assoc, hc _ cs[k * sz + j] (by rw [List.getElem?_eq_getElem]), List.getElem?_eq_getElem hlt]

theorem Sl.of_own {w : World} {base : Nat} {e : TypeId} {sz : Nat} {v : Value} {n : Nat} {xs : List Value} (h : w.ownsRow base e sz v n xs) : Sl w sz v n xs := by
  obtain ⟨hl, ⟨rfl, rfl⟩ | ⟨g, cap, cur, rfl, hg, hc, hnc, hcm, hs, ht⟩⟩ := id h
  · exact ⟨hl, .inl ⟨_, _, rfl, rfl⟩⟩
  · refine ⟨hl, .inr ⟨g, 0, cap, rfl, hnc, hcm, fun j u hj => ?_⟩⟩
    have := World.ownsRow.cells h (g := g) rfl j u hj
    simpa [Addr.add_lit] using this

theorem own_some {w : World} {base : Nat} {e : TypeId} {sz : Nat} {a : Option Addr} {n c : Nat} {xs : List Value} (h : w.ownsRow base e sz (.slice a n c) n xs) (hn : 0 < n) :
    ∃ g, a = some ⟨g, 0, none⟩ ∧ base ≤ g ∧ g < w.heap.size := by
  rcases id h.2 with ⟨h1, h2⟩ | ⟨g, cap, cur, h1, hg, hc, _⟩
  · omega
  · simp only [Value.slice.injEq] at h1
    exact ⟨g, h1.1, hg, lt_of_block hc⟩

/-- What the append law asks of a slice's type: t is a slice of e; an element has sz cells and by bytes. -/
structure SlT (P : Program) (t e : TypeId) (sz bytes : Nat) : Prop where
  und : P.underlying t = some (.slice e)
  inf : ∃ i z, P.info? e = some i ∧ i.zero = some z ∧ i.size = sz ∧ i.bytes = bytes ∧ z.cells.size = sz ∧ 0 < sz

theorem SlT.mk' {P : Program} {t e : TypeId} {z : Value} {sz bytes : Nat} (h : P.underlying t = some (.slice e))
    (k : (P.info? e).map (fun i => (i.zero, i.size, i.bytes)) = some (some z, sz, bytes)) (hz : z.cells.size = sz) (hs : 0 < sz) : SlT P t e sz bytes := by
  obtain ⟨i, hi, h1, h2, h3⟩ := info_parts k
  exact ⟨h, i, z, hi, h1, h2, h3, hz, hs⟩

theorem run_append_src {P : Program} {t e : TypeId} {sz bytes : Nat} (T : SlT P t e sz bytes) (ty : TypeId) (w : World) (base : Nat) (v : Value) (n : Nat) (xs : List Value)
    (hown : w.ownsRow base e sz v n xs) (x : Value) (m : Nat) (news : List Value) (hx : Sl w sz x m news) (h1 : ∀ u ∈ news, u.oneCell' = true)
    (h63 : n + m ≤ maxLen) (hbytes : (n + m) * bytes ≤ 140737488355328) (hbase : base ≤ w.heap.size) :
    ∃ v' w', (Builtin.append_ #[t, t] ty #[v, x]).run P w = .ok v' w' ∧ w'.ownsRow base e sz v' (n + m) (xs ++ news) ∧ w.grownBy w' v.ownBlock ∧ (v' = .slice none 0 0 ↔ v = .slice none 0 0 ∧ m = 0) := by
  obtain ⟨i, z, hi, hz, hsize, hby, hzs, hsz⟩ := T.inf
  obtain ⟨hl, ⟨a, c, rfl, rfl⟩ | ⟨b, off, cap, rfl, hn, hm, hc⟩⟩ := hx
  · have hnil : news = [] := List.eq_nil_of_length_eq_zero (by simpa using hl)
    subst hnil
    cases a with
    | none =>
      refine ⟨v, w, ?_, by simpa using hown, ⟨rfl, rfl, rfl, Nat.le_refl _, fun _ _ _ => rfl⟩, by simp⟩
      rcases hown.2 with ⟨rfl, rfl⟩ | ⟨g, cap, cur, rfl, _, _, hnc, _⟩
      · simp [Builtin.append_, run_underlying T.und, sizeOf, typeInfo, hi, Builtin.lenOf, Builtin.firstCells]
      · simp [Builtin.append_, run_underlying T.und, sizeOf, typeInfo, hi, Builtin.lenOf, Builtin.firstCells, hnc, storeCells]
    | some a => exact run_append_own w base t ty e i z sz bytes T.und hi hz hsize hby hzs hsz v n xs hown a 0 c [] (by simp) (by simp) (by simp) h63 hbytes hbase
  · exact run_append_own w base t ty e i z sz bytes T.und hi hz hsize hby hzs hsz v n xs hown ⟨b, off, none⟩ m cap news hl (fun j u hj => by rw [Addr.add_lit]; exact hc j u hj) h1 h63 hbytes hbase

theorem wpList_app {P : Program} {w : World} {ops : Array Oper} {rest : List Oper} {o : Oper} {a : Act} {Q : Exit → Act → World → Prop} (hgd : o.guard = none) (s x : Operand) (t : TypeId)
    (ho : o.op = .call { callee := .builtin .append, args := #[s, x], argTypes := #[t, t] })
    {e : TypeId} {sz bytes : Nat} (T : SlT P t e sz bytes) (base : Nat) {v : Value} {n : Nat} {xs : List Value} (hs : a.eval s = v) (hown : w.ownsRow base e sz v n xs)
    {xv : Value} {m : Nat} {news : List Value} (hx : a.eval x = xv) (hsl : Sl w sz xv m news) (h1 : ∀ u ∈ news, u.oneCell' = true)
    (h63 : n + m ≤ maxLen) (hbytes : (n + m) * bytes ≤ 140737488355328) (hbase : base ≤ w.heap.size)
    (h : ∀ v' w', w'.ownsRow base e sz v' (n + m) (xs ++ news) → w.grownBy w' v.ownBlock → (v' = .slice none 0 0 ↔ v = .slice none 0 0 ∧ m = 0) → wpList P ops Q rest (a.put o.dst v') w') : wpList P ops Q (o :: rest) a w :=
  wpList_plain hgd fun _ hK => by
    obtain ⟨v', w', hr, h2, h3, h4⟩ := run_append_src T o.type w base v n xs hown xv m news hsl h1 h63 hbytes hbase
    unfold Oper.wp execOp
    simp only [ho, resolve, invoke, builtin, Sem.run_bind, Sem.run_pure, Result.andThen_ok, List.map_toArray, List.map_cons, List.map_nil, hs, hx, hr]
    exact hK _ _ (h v' w' h2 h3 h4)

theorem grown_below {w0 w w' : World} {row : Option Nat} (h : Below w0.heap.size w0 w) (hg : w.grownBy w' row) (hr : ∀ k, row = some k → w0.heap.size ≤ k) : Below w0.heap.size w0 w' :=
  h.grown hg h.size hr

theorem retI {k : IntKind} {a b : Int} (h : a = b) : Ending.returned (.int k a) = .returned (.int k b) := by rw [h]
theorem retB {a b : Bool} (h : a = b) : Ending.returned (.bool a) = .returned (.bool b) := by rw [h]

/-- The place of the first that is such; below 0: none is. -/
def idx {α : Type} (p : α → Bool) (l : List α) : Int := match l.findIdx? p with | some i => i | none => -1
theorem idx_some {α : Type} {p : α → Bool} {l : List α} {k : Nat} (hk : k < l.length) (h : ∀ j, j < k → ∀ hj : j < l.length, p l[j] = false) (hp : p l[k] = true) : idx p l = k := by
  have : l.findIdx? p = some k := by
    rw [List.findIdx?_eq_some_iff_getElem]
    exact ⟨hk, hp, fun j hj => by simp [h j hj (by omega)]⟩
  simp [idx, this]
theorem idx_none {α : Type} {p : α → Bool} {l : List α} (h : ∀ j, ∀ hj : j < l.length, p l[j] = false) : idx p l = -1 := by
  have : l.findIdx? p = none := by
    rw [List.findIdx?_eq_none_iff]
    intro x hx
    obtain ⟨j, hj, rfl⟩ := List.getElem_of_mem hx
    exact h j hj
  simp [idx, this]
theorem idx_any {α : Type} (p : α → Bool) (l : List α) : decide (0 ≤ idx p l) = l.any p := by
  unfold idx
  cases h : l.findIdx? p with
  | none =>
    rw [List.findIdx?_eq_none_iff] at h
    have : l.any p = false := by rw [List.any_eq_false]; intro x hx; simp [h x hx]
    rw [this]; rfl
  | some i =>
    have : l.any p = true := by
      rw [List.findIdx?_eq_some_iff_getElem] at h
      obtain ⟨hi, hp, _⟩ := h
      exact List.any_eq_true.2 ⟨l[i], List.getElem_mem hi, hp⟩
    rw [this]; simp

theorem one_int (k : IntKind) (l : List Int) : ∀ u ∈ l.map (Value.int k), u.oneCell' = true := by
  intro u hu
  obtain ⟨x, _, rfl⟩ := List.mem_map.1 hu
  rfl
end Go.Proofs.Ytfoncaamhleckaa
