/-
  Bytes in memory: their cells, the string of them, pieces of a slice.
-/
import Derived.Test.YtfoncaamhleckaaSlice
import Derived.Laws.BytesArg
import Derived.Laws.IdiomStrings
namespace Go.Proofs.Ytfoncaamhleckaa
open Go.RowKit
set_option linter.unusedSimpArgs false
set_option linter.unusedVariables false

/-- The cells of bytes. -/
def by8 (l : List UInt8) : List Value := l.map fun x => .int .u8 (x.toNat : Int)
theorem by8_len (l : List UInt8) : (by8 l).length = l.length := by simp [by8]
theorem by8_get (l : List UInt8) (k : Nat) (h : k < l.length) : (by8 l)[k]? = some (.int .u8 (l[k].toNat : Int)) := by simp [by8, h]
theorem by8_app (a b : List UInt8) : by8 (a ++ b) = by8 a ++ by8 b := by simp [by8]
theorem by8_drop (a : List UInt8) (k : Nat) : by8 (a.drop k) = (by8 a).drop k := by simp [by8]
theorem by8_take (a : List UInt8) (k : Nat) : by8 (a.take k) = (by8 a).take k := by simp [by8]
theorem one_by8 (l : List UInt8) : ∀ u ∈ by8 l, u.oneCell' = true := by
  intro u hu
  obtain ⟨x, _, rfl⟩ := List.mem_map.1 hu
  rfl
theorem by8_inj {a b : List UInt8} (h : by8 a = by8 b) : a = b := by
  unfold by8 at h
  refine (List.map_inj_right ?_).1 h
  intro x y hxy
  simp only [Value.int.injEq, true_and] at hxy
  exact UInt8.toNat_inj.1 (by omega)

theorem Sl.n_len {w : World} {v : Value} {n : Nat} {l : List UInt8} (h : Sl w 1 v n (by8 l)) : l.length = n := by have := h.1; rw [by8_len] at this; omega

/-- 'string(b)'. -/
theorem run_str {P : Program} {w : World} {src dst e : TypeId} {v : Value} {n : Nat} {l : List UInt8} (hs : P.underlying src = some (.slice e)) (he : P.underlying e = some (.int .u8)) (hd : P.underlying dst = some .string)
    (h : Sl w 1 v n (by8 l)) : (convert src dst v).run P w = .ok (.string ⟨l.toArray⟩) w := by
  have hn := h.n_len
  obtain ⟨hl, ⟨a, c, rfl, rfl⟩ | ⟨b, off, cap, rfl, hn', hm, hc⟩⟩ := h
  · have : l = [] := List.eq_nil_of_length_eq_zero hn
    subst this
    cases a with
    | none => exact run_convert_bytes_nil w src e hs he 0 c dst hd
    | some a => exact run_convert_bytes_back w src dst e a c [] hs he hd (fun j hj => by simp at hj)
  · subst hn
    exact run_convert_bytes_back w src dst e ⟨b, off, none⟩ cap l hs he hd (fun j hj => by rw [Addr.add_lit]; exact hc j _ (by rw [by8_get l j hj]))

/-- A piece of a slice: 'x[lo:hi:mx]', and its kin by the walk's own laws: what it is and reads. -/
theorem Sl.cut {w : World} {sz n c : Nat} {a : Option Addr} {cs : List Value} (h : Sl w sz (.slice a n c) n cs) {lo hi mx : Nat} (h1 : lo ≤ hi) (h2 : hi ≤ n) (h3 : hi ≤ mx) (h4 : mx ≤ c) :
    Sl w sz (sliced a lo hi mx sz) (hi - lo) ((cs.drop (lo * sz)).take ((hi - lo) * sz)) := by
  obtain ⟨hl, ⟨a', c', e, rfl⟩ | ⟨b, off, cap, e, hn', hm, hc⟩⟩ := h
  · obtain rfl : hi = 0 := by omega
    obtain rfl : lo = 0 := by omega
    have : cs = [] := List.eq_nil_of_length_eq_zero (by omega)
    subst this
    exact ⟨by simp, .inl ⟨_, _, by unfold sliced; rfl, rfl⟩⟩
  · simp only [Value.slice.injEq] at e
    obtain ⟨rfl, _, rfl⟩ := e
    have hlen : ((cs.drop (lo * sz)).take ((hi - lo) * sz)).length = (hi - lo) * sz := by
      rw [List.length_take, List.length_drop, hl]
      have e1 : (hi - lo) * sz + lo * sz = hi * sz := by rw [← Nat.add_mul]; congr 1; omega
      have e2 : hi * sz ≤ n * sz := Nat.mul_le_mul_right _ h2
      omega
    refine ⟨hlen, ?_⟩
    by_cases hz : hi = lo
    · exact .inl ⟨_, _, by unfold sliced; rw [hz, Nat.sub_self], by omega⟩
    · have hne : ¬ mx = lo := by omega
      refine .inr ⟨b, off + lo * sz, mx - lo, ?_, by omega, by omega, fun j u hj => ?_⟩
      · unfold sliced; rw [if_neg hne]; simp [Addr.add_lit]
      · have hj' : j < (hi - lo) * sz := by rw [← hlen]; exact (List.getElem?_eq_some_iff.1 hj).1
        rw [List.getElem?_take, if_pos hj', List.getElem?_drop] at hj
        have := hc _ _ hj
        rw [Nat.add_assoc]
        exact this

/-- What slicing gives, by the walk's laws. -/
theorem run_cut_lhm {P : Program} {t e : TypeId} {sz bytes : Nat} (T : SlT P t e sz bytes) (a : Option Addr) (n c lo hi mx : Nat) (kl kh km : IntKind) (h1 : lo ≤ hi) (h2 : hi ≤ mx) (h3 : mx ≤ c) (w : World) :
    (Instr.slice t (.slice a n c) (some (.int kl (lo : Int))) (some (.int kh (hi : Int))) (some (.int km (mx : Int)))).run P w = .ok (sliced a lo hi mx sz) w := by
  obtain ⟨i, z, hi', _, hs, _⟩ := T.inf
  have he : P.elem t = e := by unfold Program.elem; rw [T.und]
  rw [run_slice_lhm w t a n c (by rw [he]; exact T.und) kl kh km lo hi mx (by omega) (by omega) (by omega) (by omega), he]
  simp [sizeOf, typeInfo, hi', hs, Result.andThen]
theorem run_cut_lh {P : Program} {t e : TypeId} {sz bytes : Nat} (T : SlT P t e sz bytes) (a : Option Addr) (n c lo hi : Nat) (kl kh : IntKind) (h1 : lo ≤ hi) (h3 : hi ≤ c) (w : World) :
    (Instr.slice t (.slice a n c) (some (.int kl (lo : Int))) (some (.int kh (hi : Int))) none).run P w = .ok (sliced a lo hi c sz) w := by
  obtain ⟨i, z, hi', _, hs, _⟩ := T.inf
  have he : P.elem t = e := by unfold Program.elem; rw [T.und]
  rw [run_slice_lh w t a n c (by rw [he]; exact T.und) kl kh lo hi (by omega) (by omega) (by omega), he]
  simp [sizeOf, typeInfo, hi', hs, Result.andThen]
theorem run_cut_h {P : Program} {t e : TypeId} {sz bytes : Nat} (T : SlT P t e sz bytes) (a : Option Addr) (n c hi : Nat) (kh : IntKind) (h3 : hi ≤ c) (w : World) :
    (Instr.slice t (.slice a n c) none (some (.int kh (hi : Int))) none).run P w = .ok (sliced a 0 hi c sz) w := by
  obtain ⟨i, z, hi', _, hs, _⟩ := T.inf
  have he : P.elem t = e := by unfold Program.elem; rw [T.und]
  rw [run_slice_h w t a n c (by rw [he]; exact T.und) kh hi (by omega) (by omega), he]
  simp [sizeOf, typeInfo, hi', hs, Result.andThen]
theorem run_cut_l {P : Program} {t e : TypeId} {sz bytes : Nat} (T : SlT P t e sz bytes) (a : Option Addr) (n c lo : Nat) (kl : IntKind) (h1 : lo ≤ n) (w : World) :
    (Instr.slice t (.slice a n c) (some (.int kl (lo : Int))) none none).run P w = .ok (sliced a lo n c sz) w := by
  obtain ⟨i, z, hi', _, hs, _⟩ := T.inf
  have he : P.elem t = e := by unfold Program.elem; rw [T.und]
  rw [run_slice_l w t a n c (by rw [he]; exact T.und) kl lo (by omega) (by omega), he]
  simp [sizeOf, typeInfo, hi', hs, Result.andThen]

/-- The value of a piece, as a slice of its own letters. -/
theorem sliced_is (a : Option Addr) (lo hi mx sz : Nat) : ∃ a' , sliced a lo hi mx sz = .slice a' (hi - lo) (mx - lo) := ⟨_, rfl⟩

theorem Sl.n_le {w : World} {sz n c : Nat} {a : Option Addr} {cs : List Value} (h : Sl w sz (.slice a n c) n cs) : n ≤ c ∨ n = 0 := by
  obtain ⟨_, ⟨a', c', e, rfl⟩ | ⟨b, off, cap, e, hn', _⟩⟩ := h
  · exact .inr rfl
  · simp only [Value.slice.injEq] at e
    exact .inl (by omega)
/-- The four ways of slicing, by letters: what it gives, in whatever world, and what that reads. -/
theorem cut_h {P : Program} {t e : TypeId} {sz bytes : Nat} (T : SlT P t e sz bytes) {w : World} {a : Option Addr} {n c : Nat} {cs : List Value} (h : Sl w sz (.slice a n c) n cs) (hi : Nat) (h1 : hi ≤ n) :
    ∃ a', (∀ (kh : IntKind) (w' : World), (Instr.slice t (.slice a n c) none (some (.int kh (hi : Int))) none).run P w' = .ok (.slice a' hi c) w') ∧ Sl w sz (.slice a' hi c) hi (cs.take (hi * sz)) := by
  have hc : hi ≤ c := by have := h.n_le; omega
  have := h.cut (lo := 0) (hi := hi) (mx := c) (Nat.zero_le _) h1 hc (Nat.le_refl _)
  simp only [Nat.zero_mul, List.drop_zero, Nat.sub_zero] at this
  exact ⟨_, fun kh w' => run_cut_h T a n c hi kh hc w', this⟩
theorem cut_l {P : Program} {t e : TypeId} {sz bytes : Nat} (T : SlT P t e sz bytes) {w : World} {a : Option Addr} {n c : Nat} {cs : List Value} (h : Sl w sz (.slice a n c) n cs) (lo : Nat) (h1 : lo ≤ n) :
    ∃ a', (∀ (kl : IntKind) (w' : World), (Instr.slice t (.slice a n c) (some (.int kl (lo : Int))) none none).run P w' = .ok (.slice a' (n - lo) (c - lo)) w') ∧ Sl w sz (.slice a' (n - lo) (c - lo)) (n - lo) (cs.drop (lo * sz)) := by
  have hc : n ≤ c := by
    rcases h.n_le with h | h
    · exact h
    · omega
  have := h.cut (lo := lo) (hi := n) (mx := c) h1 (Nat.le_refl _) hc (Nat.le_refl _)
  rw [List.take_of_length_le (by rw [List.length_drop, h.1, Nat.sub_mul]; exact Nat.le_refl _)] at this
  exact ⟨_, fun kl w' => run_cut_l T a n c lo kl h1 w', this⟩
theorem cut_lh {P : Program} {t e : TypeId} {sz bytes : Nat} (T : SlT P t e sz bytes) {w : World} {a : Option Addr} {n c : Nat} {cs : List Value} (h : Sl w sz (.slice a n c) n cs) (lo hi : Nat) (h0 : lo ≤ hi) (h1 : hi ≤ n) :
    ∃ a', (∀ (kl kh : IntKind) (w' : World), (Instr.slice t (.slice a n c) (some (.int kl (lo : Int))) (some (.int kh (hi : Int))) none).run P w' = .ok (.slice a' (hi - lo) (c - lo)) w') ∧ Sl w sz (.slice a' (hi - lo) (c - lo)) (hi - lo) ((cs.drop (lo * sz)).take ((hi - lo) * sz)) := by
  have hc : hi ≤ c := by have := h.n_le; omega
  exact ⟨_, fun kl kh w' => run_cut_lh T a n c lo hi kl kh h0 hc w', h.cut h0 h1 hc (Nat.le_refl _)⟩
theorem cut_lhm {P : Program} {t e : TypeId} {sz bytes : Nat} (T : SlT P t e sz bytes) {w : World} {a : Option Addr} {n c : Nat} {cs : List Value} (h : Sl w sz (.slice a n c) n cs) (lo hi : Nat) (h0 : lo ≤ hi) (h1 : hi ≤ n) :
    ∃ a', (∀ (kl kh km : IntKind) (w' : World), (Instr.slice t (.slice a n c) (some (.int kl (lo : Int))) (some (.int kh (hi : Int))) (some (.int km (hi : Int)))).run P w' = .ok (.slice a' (hi - lo) (hi - lo)) w') ∧
      Sl w sz (.slice a' (hi - lo) (hi - lo)) (hi - lo) ((cs.drop (lo * sz)).take ((hi - lo) * sz)) ∧ (a' = a ∨ ∃ b off, a = some ⟨b, off, none⟩ ∧ a' = some ⟨b, off + lo * sz, none⟩) := by
  have hc : hi ≤ c := by have := h.n_le; omega
  refine ⟨if hi = lo then a else a.map (fun x : Addr => x.add (lo * sz)), fun kl kh km w' => run_cut_lhm T a n c lo hi hi kl kh km h0 (Nat.le_refl _) hc w', h.cut h0 h1 (Nat.le_refl _) hc, ?_⟩
  by_cases hz : hi = lo
  · exact .inl (by rw [if_pos hz])
  · right
    obtain ⟨_, ⟨a', c', e, rfl⟩ | ⟨b, off, cap, e, hn', _⟩⟩ := h
    · omega
    · simp only [Value.slice.injEq] at e
      obtain ⟨rfl, _, rfl⟩ := e
      exact ⟨b, off, rfl, by rw [if_neg hz]; simp [Addr.add_lit]⟩

theorem own_shape {w : World} {base : Nat} {e : TypeId} {sz : Nat} {v : Value} {n : Nat} {xs : List Value} (h : w.ownsRow base e sz v n xs) (hn : 0 < n) :
    ∃ g cap, v = .slice (some ⟨g, 0, none⟩) n cap ∧ base ≤ g ∧ g < w.heap.size ∧ n ≤ cap ∧ cap ≤ maxLen := by
  rcases h.2 with ⟨h1, h2⟩ | ⟨g, cap, cur, h1, hg, hc, h3, h4, _⟩
  · omega
  · exact ⟨g, cap, h1, hg, lt_of_block hc, h3, h4⟩
theorem sliced0 (g n cap sz : Nat) : sliced (some ⟨g, 0, none⟩) 0 n cap sz = .slice (some ⟨g, 0, none⟩) n cap := by
  unfold sliced
  simp [Addr.add]

theorem own_up {w w' : World} {base : Nat} {e : TypeId} {sz : Nat} {v : Value} {n : Nat} {xs : List Value} (h : w.ownsRow base e sz v n xs) (hb : Below w.heap.size w w') : w'.ownsRow base e sz v n xs := by
  refine ⟨h.1, ?_⟩
  rcases h.2 with h | ⟨g, cap, cur, h1, h2, h3, h4⟩
  · exact .inl h
  · exact .inr ⟨g, cap, cur, h1, h2, by rw [hb.block g (lt_of_block h3)]; exact h3, h4⟩
end Go.Proofs.Ytfoncaamhleckaa
