/-
  Bytes, Pi, Rec, Row, NmFmt, CbA, NmA, NmBd: several texts in one (bundle.py).
-/
import Derived.Test.YtpkonagjnfphkaaGreatDoorPmT01
import Derived.Laws.BytesArg
import Derived.Laws.IdiomStrings
import Derived.Deep.MidRow
import Derived.Lib.ItoaMem
import Derived.Lib.AppendIntMem
import Derived.BigCall
import Derived.BigGuard
import Derived.WalkLawsBesides
import Derived.Defers
import Derived.Recover
import Derived.Lib.Hide
namespace Go.Proofs.YtpkonagjnfphkaaGreatDoor
open Go.RowKit
set_option linter.unusedSimpArgs false
set_option linter.unusedVariables false

/-- The cells of bytes. -/
def by8 (l : List UInt8) : List Value := l.map fun x => .int .u8 (x.toNat : Int)
theorem by8_len (l : List UInt8) : (by8 l).length = l.length := by simp [by8]
theorem by8_get (l : List UInt8) (k : Nat) (h : k < l.length) : (by8 l)[k]? = some (.int .u8 (l[k].toNat : Int)) := by simp [by8, h]
theorem by8_app (a b : List UInt8) : by8 (a ++ b) = by8 a ++ by8 b := by simp [by8]
theorem by8_drop (a : List UInt8) (k : Nat) : by8 (a.drop k) = (by8 a).drop k := by simp [by8]
theorem by8_take (a : List UInt8) (k : Nat) : by8 (a.take k) = (by8 a).take k := by simp [by8]
theorem one_by8 (l : List UInt8) : ∀ u ∈ by8 l, u.oneCell' = true := by
  intro u hu
  obtain ⟨x, _, rfl⟩ := List.mem_map.1 hu
  rfl
theorem by8_inj {a b : List UInt8} (h : by8 a = by8 b) : a = b := by
  unfold by8 at h
  refine (List.map_inj_right ?_).1 h
  intro x y hxy
  simp only [Value.int.injEq, true_and] at hxy
  exact UInt8.toNat_inj.1 (by omega)

theorem Sl.n_len {w : World} {v : Value} {n : Nat} {l : List UInt8} (h : Sl w 1 v n (by8 l)) : l.length = n := by have := h.1; rw [by8_len] at this; omega

/-- 'string(b)'. -/
theorem run_str {P : Program} {w : World} {src dst e : TypeId} {v : Value} {n : Nat} {l : List UInt8} (hs : P.underlying src = some (.slice e)) (he : P.underlying e = some (.int .u8)) (hd : P.underlying dst = some .string)
    (h : Sl w 1 v n (by8 l)) : (convert src dst v).run P w = .ok (.string ⟨l.toArray⟩) w := by
  have hn := h.n_len
  obtain ⟨hl, ⟨a, c, rfl, rfl⟩ | ⟨b, off, cap, rfl, hn', hm, hc⟩⟩ := h
  · have : l = [] := List.eq_nil_of_length_eq_zero hn
    subst this
    cases a with
    | none => exact run_convert_bytes_nil w src e hs he 0 c dst hd
    | some a => exact run_convert_bytes_back w src dst e a c [] hs he hd (fun j hj => by simp at hj)
  · subst hn
    exact run_convert_bytes_back w src dst e ⟨b, off, none⟩ cap l hs he hd (fun j hj => by rw [Addr.add_lit]; exact hc j _ (by rw [by8_get l j hj]))

/-- A piece of a slice: 'x[lo:hi:mx]', and its kin by the walk's own laws: what it is and reads. -/
theorem Sl.cut {w : World} {sz n c : Nat} {a : Option Addr} {cs : List Value} (h : Sl w sz (.slice a n c) n cs) {lo hi mx : Nat} (h1 : lo ≤ hi) (h2 : hi ≤ n) (h3 : hi ≤ mx) (h4 : mx ≤ c) :
    Sl w sz (sliced a lo hi mx sz) (hi - lo) ((cs.drop (lo * sz)).take ((hi - lo) * sz)) := by
  obtain ⟨hl, ⟨a', c', e, rfl⟩ | ⟨b, off, cap, e, hn', hm, hc⟩⟩ := h
  · obtain rfl : hi = 0 := by omega
    obtain rfl : lo = 0 := by omega
    have : cs = [] := List.eq_nil_of_length_eq_zero (by omega)
    subst this
    exact ⟨by simp, .inl ⟨_, _, by unfold sliced; rfl, rfl⟩⟩
  · simp only [Value.slice.injEq] at e
    obtain ⟨rfl, _, rfl⟩ := e
    have hlen : ((cs.drop (lo * sz)).take ((hi - lo) * sz)).length = (hi - lo) * sz := by
      rw [List.length_take, List.length_drop, hl]
      have e1 : (hi - lo) * sz + lo * sz = hi * sz := by rw [← Nat.add_mul]; congr 1; omega
      have e2 : hi * sz ≤ n * sz := Nat.mul_le_mul_right _ h2
      omega
    refine ⟨hlen, ?_⟩
    by_cases hz : hi = lo
    · exact .inl ⟨_, _, by unfold sliced; rw [hz, Nat.sub_self], by omega⟩
    · have hne : ¬ mx = lo := by omega
      refine .inr ⟨b, off + lo * sz, mx - lo, ?_, by omega, by omega, fun j u hj => ?_⟩
      · unfold sliced; rw [if_neg hne]; simp [Addr.add_lit]
      · have hj' : j < (hi - lo) * sz := by rw [← hlen]; exact (List.getElem?_eq_some_iff.1 hj).1
        rw [List.getElem?_take, if_pos hj', List.getElem?_drop] at hj
        have := hc _ _ hj
        rw [Nat.add_assoc]
        exact this

/-- What slicing gives, by the walk's laws. -/
theorem run_cut_lhm {P : Program} {t e : TypeId} {sz bytes : Nat} (T : SlT P t e sz bytes) (a : Option Addr) (n c lo hi mx : Nat) (kl kh km : IntKind) (h1 : lo ≤ hi) (h2 : hi ≤ mx) (h3 : mx ≤ c) (w : World) :
    (Instr.slice t (.slice a n c) (some (.int kl (lo : Int))) (some (.int kh (hi : Int))) (some (.int km (mx : Int)))).run P w = .ok (sliced a lo hi mx sz) w := by
  obtain ⟨i, z, hi', _, hs, _⟩ := T.inf
  have he : P.elem t = e := by unfold Program.elem; rw [T.und]
  rw [run_slice_lhm w t a n c (by rw [he]; exact T.und) kl kh km lo hi mx (by omega) (by omega) (by omega) (by omega), he]
  simp [sizeOf, typeInfo, hi', hs, Result.andThen]
theorem run_cut_lh {P : Program} {t e : TypeId} {sz bytes : Nat} (T : SlT P t e sz bytes) (a : Option Addr) (n c lo hi : Nat) (kl kh : IntKind) (h1 : lo ≤ hi) (h3 : hi ≤ c) (w : World) :
    (Instr.slice t (.slice a n c) (some (.int kl (lo : Int))) (some (.int kh (hi : Int))) none).run P w = .ok (sliced a lo hi c sz) w := by
  obtain ⟨i, z, hi', _, hs, _⟩ := T.inf
  have he : P.elem t = e := by unfold Program.elem; rw [T.und]
  rw [run_slice_lh w t a n c (by rw [he]; exact T.und) kl kh lo hi (by omega) (by omega) (by omega), he]
  simp [sizeOf, typeInfo, hi', hs, Result.andThen]
theorem run_cut_h {P : Program} {t e : TypeId} {sz bytes : Nat} (T : SlT P t e sz bytes) (a : Option Addr) (n c hi : Nat) (kh : IntKind) (h3 : hi ≤ c) (w : World) :
    (Instr.slice t (.slice a n c) none (some (.int kh (hi : Int))) none).run P w = .ok (sliced a 0 hi c sz) w := by
  obtain ⟨i, z, hi', _, hs, _⟩ := T.inf
  have he : P.elem t = e := by unfold Program.elem; rw [T.und]
  rw [run_slice_h w t a n c (by rw [he]; exact T.und) kh hi (by omega) (by omega), he]
  simp [sizeOf, typeInfo, hi', hs, Result.andThen]
theorem run_cut_l {P : Program} {t e : TypeId} {sz bytes : Nat} (T : SlT P t e sz bytes) (a : Option Addr) (n c lo : Nat) (kl : IntKind) (h1 : lo ≤ n) (w : World) :
    (Instr.slice t (.slice a n c) (some (.int kl (lo : Int))) none none).run P w = .ok (sliced a lo n c sz) w := by
  obtain ⟨i, z, hi', _, hs, _⟩ := T.inf
  have he : P.elem t = e := by unfold Program.elem; rw [T.und]
  rw [run_slice_l w t a n c (by rw [he]; exact T.und) kl lo (by omega) (by omega), he]
  simp [sizeOf, typeInfo, hi', hs, Result.andThen]

/-- The value of a piece, as a slice of its own letters. -/
theorem sliced_is (a : Option Addr) (lo hi mx sz : Nat) : ∃ a' , sliced a lo hi mx sz = .slice a' (hi - lo) (mx - lo) := ⟨_, rfl⟩

theorem Sl.n_le {w : World} {sz n c : Nat} {a : Option Addr} {cs : List Value} (h : Sl w sz (.slice a n c) n cs) : n ≤ c ∨ n = 0 := by
  obtain ⟨_, ⟨a', c', e, rfl⟩ | ⟨b, off, cap, e, hn', _⟩⟩ := h
  · exact .inr rfl
  · simp only [Value.slice.injEq] at e
    exact .inl (by omega)
/-- The four ways of slicing, by letters: what it gives, in whatever world, and what that reads. -/
theorem cut_h {P : Program} {t e : TypeId} {sz bytes : Nat} (T : SlT P t e sz bytes) {w : World} {a : Option Addr} {n c : Nat} {cs : List Value} (h : Sl w sz (.slice a n c) n cs) (hi : Nat) (h1 : hi ≤ n) :
    ∃ a', (∀ (kh : IntKind) (w' : World), (Instr.slice t (.slice a n c) none (some (.int kh (hi : Int))) none).run P w' = .ok (.slice a' hi c) w') ∧ Sl w sz (.slice a' hi c) hi (cs.take (hi * sz)) := by
  have hc : hi ≤ c := by have := h.n_le; omega
  have := h.cut (lo := 0) (hi := hi) (mx := c) (Nat.zero_le _) h1 hc (Nat.le_refl _)
  simp only [Nat.zero_mul, List.drop_zero, Nat.sub_zero] at this
  exact ⟨_, fun kh w' => run_cut_h T a n c hi kh hc w', this⟩
theorem cut_l {P : Program} {t e : TypeId} {sz bytes : Nat} (T : SlT P t e sz bytes) {w : World} {a : Option Addr} {n c : Nat} {cs : List Value} (h : Sl w sz (.slice a n c) n cs) (lo : Nat) (h1 : lo ≤ n) :
    ∃ a', (∀ (kl : IntKind) (w' : World), (Instr.slice t (.slice a n c) (some (.int kl (lo : Int))) none none).run P w' = .ok (.slice a' (n - lo) (c - lo)) w') ∧ Sl w sz (.slice a' (n - lo) (c - lo)) (n - lo) (cs.drop (lo * sz)) := by
  have hc : n ≤ c := by
    rcases h.n_le with h | h
    · exact h
    · omega
  have := h.cut (lo := lo) (hi := n) (mx := c) h1 (Nat.le_refl _) hc (Nat.le_refl _)
  rw [List.take_of_length_le (by rw [List.length_drop, h.1, Nat.sub_mul]; exact Nat.le_refl _)] at this
  exact ⟨_, fun kl w' => run_cut_l T a n c lo kl h1 w', this⟩
theorem cut_lh {P : Program} {t e : TypeId} {sz bytes : Nat} (T : SlT P t e sz bytes) {w : World} {a : Option Addr} {n c : Nat} {cs : List Value} (h : Sl w sz (.slice a n c) n cs) (lo hi : Nat) (h0 : lo ≤ hi) (h1 : hi ≤ n) :
    ∃ a', (∀ (kl kh : IntKind) (w' : World), (Instr.slice t (.slice a n c) (some (.int kl (lo : Int))) (some (.int kh (hi : Int))) none).run P w' = .ok (.slice a' (hi - lo) (c - lo)) w') ∧ Sl w sz (.slice a' (hi - lo) (c - lo)) (hi - lo) ((cs.drop (lo * sz)).take ((hi - lo) * sz)) := by
  have hc : hi ≤ c := by have := h.n_le; omega
  exact ⟨_, fun kl kh w' => run_cut_lh T a n c lo hi kl kh h0 hc w', h.cut h0 h1 hc (Nat.le_refl _)⟩
theorem cut_lhm {P : Program} {t e : TypeId} {sz bytes : Nat} (T : SlT P t e sz bytes) {w : World} {a : Option Addr} {n c : Nat} {cs : List Value} (h : Sl w sz (.slice a n c) n cs) (lo hi : Nat) (h0 : lo ≤ hi) (h1 : hi ≤ n) :
    ∃ a', (∀ (kl kh km : IntKind) (w' : World), (Instr.slice t (.slice a n c) (some (.int kl (lo : Int))) (some (.int kh (hi : Int))) (some (.int km (hi : Int)))).run P w' = .ok (.slice a' (hi - lo) (hi - lo)) w') ∧
      Sl w sz (.slice a' (hi - lo) (hi - lo)) (hi - lo) ((cs.drop (lo * sz)).take ((hi - lo) * sz)) ∧ (a' = a ∨ ∃ b off, a = some ⟨b, off, none⟩ ∧ a' = some ⟨b, off + lo * sz, none⟩) := by
  have hc : hi ≤ c := by have := h.n_le; omega
  refine ⟨if hi = lo then a else a.map (fun x : Addr => x.add (lo * sz)), fun kl kh km w' => run_cut_lhm T a n c lo hi hi kl kh km h0 (Nat.le_refl _) hc w', h.cut h0 h1 (Nat.le_refl _) hc, ?_⟩
  by_cases hz : hi = lo
  · exact .inl (by rw [if_pos hz])
  · right
    obtain ⟨_, ⟨a', c', e, rfl⟩ | ⟨b, off, cap, e, hn', _⟩⟩ := h
    · omega
    · simp only [Value.slice.injEq] at e
      obtain ⟨rfl, _, rfl⟩ := e
      exact ⟨b, off, rfl, by rw [if_neg hz]; simp [Addr.add_lit]⟩

theorem own_shape {w : World} {base : Nat} {e : TypeId} {sz : Nat} {v : Value} {n : Nat} {xs : List Value} (h : w.ownsRow base e sz v n xs) (hn : 0 < n) :
    ∃ g cap, v = .slice (some ⟨g, 0, none⟩) n cap ∧ base ≤ g ∧ g < w.heap.size ∧ n ≤ cap ∧ cap ≤ maxLen := by
  rcases h.2 with ⟨h1, h2⟩ | ⟨g, cap, cur, h1, hg, hc, h3, h4, _⟩
  · omega
  · exact ⟨g, cap, h1, hg, lt_of_block hc, h3, h4⟩
theorem sliced0 (g n cap sz : Nat) : sliced (some ⟨g, 0, none⟩) 0 n cap sz = .slice (some ⟨g, 0, none⟩) n cap := by
  unfold sliced
  simp [Addr.add]

theorem own_up {w w' : World} {base : Nat} {e : TypeId} {sz : Nat} {v : Value} {n : Nat} {xs : List Value} (h : w.ownsRow base e sz v n xs) (hb : Below w.heap.size w w') : w'.ownsRow base e sz v n xs := by
  refine ⟨h.1, ?_⟩
  rcases h.2 with h | ⟨g, cap, cur, h1, h2, h3, h4⟩
  · exact .inl h
  · exact .inr ⟨g, cap, cur, h1, h2, by rw [hb.block g (lt_of_block h3)]; exact h3, h4⟩
end Go.Proofs.YtpkonagjnfphkaaGreatDoor

namespace Go.Proofs.YtpkonagjnfphkaaGreatDoor
open Go.RowKit

section
variable {P : Program} {md : Region.Mode} {ops : Array Oper} {Q : Exit → Act → World → Prop}

theorem held_sub {S S2 : World → Prop} (hs : ∀ w, S2 w → S w) : ∀ (fuel : Nat) (listed : Array Bool) (a : Act) (w : World), wpAnyH P md ops Q S2 fuel listed a w → wpAnyH P md ops Q S fuel listed a w
  | 0, _, _, _, h => h
  | fuel + 1, _, _, _, h => ⟨h.1, fun i hi => wpOp_mono (fun a' w' h' => ⟨hs _ h'.1, held_sub hs fuel _ a' w' h'.2⟩) (h.2 i hi)⟩

def piB (md : Region.Mode) (ops : Array Oper) : List (Nat × Bool) → Array Bool → Bool
  | [], listed => (Region.ready md ops listed).isEmpty
  | (i, false) :: r, listed => (Region.ready md ops listed).contains i && Region.free md ops listed i && piB md ops r (listed.setIfInBounds i true)
  | (i, true) :: r, listed => decide (Region.ready md ops listed = [i]) && piB md ops r (listed.setIfInBounds i true)

def wpPi (P : Program) (ops : Array Oper) (Q : Exit → Act → World → Prop) : List (Nat × Bool) → Act → World → Prop
  | [], a, w => Q .normal a w
  | (i, false) :: r, a, w => ∃ o v, ops[i]? = some o ∧ YieldsIf P ops (Below w.heap.size w) o v a ∧ wpPi P ops Q r (a.put o.dst v) w
  | (i, true) :: r, a, w => ∃ o, ops[i]? = some o ∧ Region.wanted o (yielded ops a.tmps) = true ∧ o.wp P a w (fun a' w' => Below w.heap.size w w' ∧ wpPi P ops Q r a' w') Q

theorem held_of_pi (hs : Region.noSelect ops = true) (hQ : ∀ c (a : Act) d v w, Q (.panic c) (a.put d v) w → Q (.panic c) a w) : ∀ (π : List (Nat × Bool)) (listed : Array Bool) (a : Act) (w : World),
    piB md ops π listed = true → wpPi P ops Q π a w → wpAnyH P md ops Q (Below w.heap.size w) π.length listed a w
  | [], _, _, _, hB, h => ⟨by simpa [piB] using hB, h⟩
  | (i, false) :: r, listed, a, w, hB, h => by
    obtain ⟨o, v, hi, hy, h⟩ := h
    simp only [piB, Bool.and_eq_true] at hB
    exact wpAnyH_take hi hs hB.1.2 hB.1.1 (fun c a w hq => hQ c a o.dst v w hq) hy (Below.refl _ _) (held_of_pi hs hQ r _ _ _ hB.2 h)
  | (i, true) :: r, listed, a, w, hB, h => by
    obtain ⟨o, hi, hw, h⟩ := h
    simp only [piB, Bool.and_eq_true, decide_eq_true_eq] at hB
    refine ⟨fun h0 => (by rw [hB.1] at h0; cases h0), fun j hj => ?_⟩
    rw [hB.1] at hj
    obtain rfl : j = i := by simpa using hj
    unfold wpOp
    simp only [hi, hw, if_true]
    exact .inl (Oper.wp_mono (fun a' w' h' => ⟨h'.1, held_sub (fun _ hx => below_up h'.1 hx) _ _ _ _ (held_of_pi hs hQ r _ _ _ hB.2 h'.2)⟩) h)

theorem wp_region_pi {id : Nat} {a : Act} {w : World} (π : List (Nat × Bool)) (hm : P.follows .mixedOrders = true) (hs : Region.noSelect ops = true) (hB : piB .any ops π (Array.replicate ops.size false) = true) (hl : π.length = ops.size)
    (hQ : ∀ c (a : Act) d v w, Q (.panic c) (a.put d v) w → Q (.panic c) a w) (h : ∀ Wd, Below w.heap.size w Wd → wpPi P ops Q π a Wd) : (Code.region id ops true).wp P Q a w :=
  wp_region_held (S := Below w.drew.heap.size w.drew) hm (by have := held_of_pi hs hQ π _ _ _ hB (h w.drew (Below.refl _ _).drew); rw [hl] at this; exact this)

theorem pi_q {i : Nat} {o : Oper} {v : Value} {r : List (Nat × Bool)} {a : Act} {w : World} (hi : ops[i]? = some o) (hw : Region.wanted o (yielded ops a.tmps) = true) (hy : ∀ w', Below w.heap.size w w' → (execOp a.eval o).run P w' = .ok (.value v) w')
    (h : wpPi P ops Q r (a.put o.dst v) w) : wpPi P ops Q ((i, false) :: r) a w := ⟨o, v, hi, .inl ⟨hw, hy⟩, h⟩
theorem pi_no {i : Nat} {o : Oper} {r : List (Nat × Bool)} {a : Act} {w : World} (hi : ops[i]? = some o) (hw : Region.wanted o (yielded ops a.tmps) = false)
    (h : wpPi P ops Q r (a.put o.dst undef) w) : wpPi P ops Q ((i, false) :: r) a w := ⟨o, undef, hi, .inr ⟨hw, rfl⟩, h⟩
theorem pi_c {i : Nat} {o : Oper} {r : List (Nat × Bool)} {a : Act} {w : World} (hi : ops[i]? = some o) (hw : Region.wanted o (yielded ops a.tmps) = true)
    (h : ∀ K : Act → World → Prop, Shut (∀ a' w', Below w.heap.size w w' → wpPi P ops Q r a' w' → K a' w') → o.wp P a w K Q) : wpPi P ops Q ((i, true) :: r) a w :=
  ⟨o, hi, hw, h _ (fun _ _ h1 h2 => ⟨h1, h2⟩)⟩
theorem pi_nil {a : Act} {w : World} (h : Q .normal a w) : wpPi P ops Q [] a w := h
end
end Go.Proofs.YtpkonagjnfphkaaGreatDoor

namespace Go.Proofs.YtpkonagjnfphkaaGreatDoor
open Go.RowKit

section
variable {α : Type} {cells : α → List Value} {sz : Nat}

theorem rec_len (hsz : ∀ x, (cells x).length = sz) : ∀ (l : List α), (l.flatMap cells).length = l.length * sz
  | [] => by simp
  | x :: l => by rw [List.flatMap_cons, List.length_append, hsz, rec_len hsz l, List.length_cons, Nat.succ_mul, Nat.add_comm]
theorem rec_get (hsz : ∀ x, (cells x).length = sz) : ∀ (l : List α) (k : Nat) (hk : k < l.length) (j : Nat), j < sz → (l.flatMap cells)[k * sz + j]? = (cells l[k])[j]?
  | x :: l, 0, _, j, hj => by
    rw [List.flatMap_cons, Nat.zero_mul, Nat.zero_add, List.getElem?_append_left (by rw [hsz]; exact hj)]
    rfl
  | x :: l, k + 1, hk, j, hj => by
    have := rec_get hsz l k (by simpa using hk) j hj
    rw [List.flatMap_cons, List.getElem?_append_right (by rw [hsz, Nat.succ_mul]; omega), hsz, show (k + 1) * sz + j - sz = k * sz + j by rw [Nat.succ_mul]; omega]
    exact this

theorem Sl.recs {w : World} {v : Value} {n : Nat} {l : List α} (hsz : ∀ x, (cells x).length = sz) (h0 : 0 < sz) (hv : Sl w sz v n (l.flatMap cells)) : l.length = n := by
  have := hv.1
  rw [rec_len hsz] at this
  exact Nat.eq_of_mul_eq_mul_right h0 this
theorem Sl.rec_at {w : World} {a : Option Addr} {c n : Nat} {l : List α} (hsz : ∀ x, (cells x).length = sz) (hv : Sl w sz (.slice a n c) n (l.flatMap cells)) {k : Nat} (hk : k < n) (hk' : k < l.length) :
    ∃ b off, a = some ⟨b, off, none⟩ ∧ w.rangeAt b (off + k * sz) (cells l[k]) := by
  obtain ⟨b, off, rfl, hc⟩ := hv.cells_at hk
  refine ⟨b, off, rfl, fun j u hj => ?_⟩
  have hjs : j < sz := by have := (List.getElem?_eq_some_iff.1 hj).1; rwa [hsz] at this
  rw [hc j hjs, rec_get hsz l k hk' j hjs]
  exact hj
end

theorem Sl.n_max {w : World} {sz : Nat} {v : Value} {n : Nat} {cs : List Value} (h : Sl w sz v n cs) : n ≤ 9223372036854775807 := by
  obtain ⟨_, ⟨_, _, _, h⟩ | ⟨_, _, cap, _, hn, hm, _⟩⟩ := h
  · omega
  · simp only [maxLen] at hm; omega
theorem rangeAt_new (w : World) (cs : List Value) (T : TypeId) (f : Nat × Nat) : (w.alloc (.cells cs.toArray T f)).rangeAt w.heap.size 0 cs := fun j v hj => by
  have : (w.alloc (.cells cs.toArray T f)).heap[w.heap.size]? = some (.cells cs.toArray T f) := heap_alloc_new w _
  simp only [World.cell?, this, Nat.zero_add]
  simpa using hj
theorem rangeAt_up {w w' : World} {b o : Nat} {cs : List Value} (hb : Below w.heap.size w w') (h : w.rangeAt b o cs) : w'.rangeAt b o cs := fun j v hj => cell_up hb (h j v hj)
theorem rangeAt_sub {w : World} {b o : Nat} {cs ds : List Value} (h : w.rangeAt b o cs) (i o' : Nat) (ho : o' = o + i) (hd : ∀ j, j < ds.length → ds[j]? = cs[i + j]?) : w.rangeAt b o' ds := fun j v hj => by
  have hl := (List.getElem?_eq_some_iff.1 hj).1
  rw [hd j hl] at hj
  have := h (i + j) v hj
  rw [ho, Nat.add_assoc]
  exact this
/-- A record that is read whole, in a drawn region. -/
theorem pi_load {P : Program} {ops : Array Oper} {Q : Exit → Act → World → Prop} {i : Nat} {o : Oper} {r : List (Nat × Bool)} {a : Act} {w : World} (hi : ops[i]? = some o) (hw : Region.wanted o (yielded ops a.tmps) = true)
    (ty : TypeId) (x : Operand) (ho : o.op = .load ty x) (b off : Nat) (hx : a.eval x = .pointer (some ⟨b, off, none⟩)) (cs : List Value) (d : TypeDesc) (hr : w.rangeAt b off cs)
    (hu : P.underlying ty = some d) (hd : d.isRow = true) (hn : (P.info? ty).map (·.size) = some cs.length) (h : wpPi P ops Q r (a.put o.dst (.agg cs.toArray)) w) : wpPi P ops Q ((i, false) :: r) a w :=
  ⟨o, _, hi, yieldsIf_load_mid hw ty x ho b off hx cs d (fun _ hb => rangeAt_up hb hr) hu hd hn, h⟩
theorem rec_take {α : Type} {cells : α → List Value} {sz : Nat} (hsz : ∀ x, (cells x).length = sz) : ∀ (l : List α) (k : Nat), (l.flatMap cells).take (k * sz) = (l.take k).flatMap cells
  | [], k => by simp
  | x :: l, 0 => by simp
  | x :: l, k + 1 => by
    rw [List.flatMap_cons, List.take_succ_cons, List.flatMap_cons, List.take_append, hsz, List.take_of_length_le (by rw [hsz, Nat.succ_mul]; omega), show (k + 1) * sz - sz = k * sz by rw [Nat.succ_mul]; omega, rec_take hsz l k]

theorem cut_hm {P : Program} {t e : TypeId} {sz bytes : Nat} (T : SlT P t e sz bytes) {w : World} {a : Option Addr} {n c : Nat} {cs : List Value} (h : Sl w sz (.slice a n c) n cs) (hi : Nat) (h1 : hi ≤ n) :
    ∃ a', (∀ (kh km : IntKind) (w' : World), (Instr.slice t (.slice a n c) none (some (.int kh (hi : Int))) (some (.int km (hi : Int)))).run P w' = .ok (.slice a' hi hi) w') ∧ Sl w sz (.slice a' hi hi) hi (cs.take (hi * sz)) := by
  have hc : hi ≤ c := by have := h.n_le; omega
  have := h.cut (lo := 0) (hi := hi) (mx := hi) (Nat.zero_le _) h1 (Nat.le_refl _) hc
  simp only [Nat.zero_mul, List.drop_zero, Nat.sub_zero] at this
  refine ⟨_, fun kh km w' => ?_, this⟩
  obtain ⟨i, z, hi', _, hs, _⟩ := T.inf
  have he : P.elem t = e := by unfold Program.elem; rw [T.und]
  rw [run_slice_hm w' t a n c (by rw [he]; exact T.und) kh km hi hi (by omega) (by omega) (by omega), he]
  simp [sizeOf, typeInfo, hi', hs, Result.andThen, sliced]
end Go.Proofs.YtpkonagjnfphkaaGreatDoor

namespace Go.Proofs.YtpkonagjnfphkaaGreatDoor
open Go.RowKit
/-- A row of one's own lies in block H. -/
def RowAt (w : World) (H : Nat) (cs : Array Value) (T : TypeId) : Prop := w.heap[H]? = some (.cells cs T (0, 0))
theorem RowAt.lt {w : World} {H : Nat} {cs : Array Value} {T : TypeId} (h : RowAt w H cs T) : H < w.heap.size := (Array.getElem?_eq_some_iff.1 h).1
theorem RowAt.cell {w : World} {H : Nat} {cs : Array Value} {T : TypeId} (h : RowAt w H cs T) {i : Nat} {v : Value} (hi : cs[i]? = some v) : w.cell? ⟨H, i, none⟩ = some v := by
  simp [World.cell?, show w.heap[H]? = _ from h, hi]
theorem RowAt.fz {w : World} {H : Nat} {cs : Array Value} {T : TypeId} (h : RowAt w H cs T) (i : Nat) : w.frozen? ⟨H, i, none⟩ = false := by
  simp [World.frozen?, show w.heap[H]? = _ from h]
theorem RowAt.set {w : World} {H : Nat} {cs : Array Value} {T : TypeId} (h : RowAt w H cs T) (i : Nat) (v : Value) : RowAt (w.setCell ⟨H, i, none⟩ v) H (cs.setIfInBounds i v) T := by
  simp only [RowAt, World.setCell, Array.getElem?_modify]
  simp [show w.heap[H]? = _ from h]
theorem RowAt.alloc {w : World} {H : Nat} {cs : Array Value} {T : TypeId} (h : RowAt w H cs T) (o : Obj) : RowAt (w.alloc o) H cs T := by
  have := h.lt
  have e : (w.alloc o).heap = w.heap.push o := rfl
  unfold RowAt
  rw [e, Array.getElem?_push_lt this]
  exact (Array.getElem?_eq_getElem this).symm.trans h
theorem RowAt.new (w : World) (cs : Array Value) (T : TypeId) : RowAt (w.alloc (.cells cs T)) w.heap.size cs T := heap_alloc_new w _
theorem RowAt.same {w : World} {H : Nat} {cs : Array Value} {T : TypeId} (h : RowAt w H cs T) {i : Nat} {v : Value} (hi : cs[i]? = some v) : w.setCell ⟨H, i, none⟩ v = w := by
  have e : (w.heap.modify H fun o => match o with | .cells c t f => .cells (c.setIfInBounds i v) t f | o => o) = w.heap := by
    refine Array.ext (by simp) fun j hj hj' => ?_
    rw [Array.getElem_modify]
    split
    · rename_i e
      subst e
      have hg : w.heap[H] = .cells cs T (0, 0) := by
        have : w.heap[H]? = _ := h
        rw [Array.getElem?_eq_getElem hj'] at this
        exact Option.some.inj this
      rw [hg]
      simp only
      congr 1
      refine Array.ext (by simp) fun k hk hk' => ?_
      rw [Array.getElem_setIfInBounds]
      split
      · rename_i e
        subst e
        rw [Array.getElem?_eq_getElem hk'] at hi
        exact (Option.some.inj hi).symm
      · rfl
    · rfl
  show ({ w with heap := _ } : World) = w
  exact congrArg (fun x => ({ w with heap := x } : World)) e
theorem RowAt.other {w : World} {H : Nat} {cs : Array Value} {T : TypeId} (h : RowAt w H cs T) {a : Addr} (ha : H ≠ a.block) (v : Value) : RowAt (w.setCell a v) H cs T := by
  unfold RowAt
  rw [Below.heap_setCell _ _ _ _ ha]
  exact h
theorem RowAt.range {w : World} {H : Nat} {cs : List Value} {T : TypeId} (h : RowAt w H cs.toArray T) : w.rangeAt H 0 cs := fun j v hj => by
  rw [Nat.zero_add]
  exact h.cell (by simpa using hj)

theorem RowAt.below {w w' : World} {H : Nat} {cs : Array Value} {T : TypeId} (h : RowAt w H cs T) (hb : Below w.heap.size w w') : RowAt w' H cs T := (hb.block H h.lt).trans h
theorem RowAt.drew {w : World} {H : Nat} {cs : Array Value} {T : TypeId} (h : RowAt w H cs T) : RowAt w.drew H cs T := h
end Go.Proofs.YtpkonagjnfphkaaGreatDoor

namespace Go.Proofs.YtpkonagjnfphkaaGreatDoor
open Go.RowKit Go.Sort Go.Lib
set_option linter.unusedSimpArgs false
set_option linter.unusedVariables false

abbrev strV (l : List UInt8) : Value := .string ⟨l.toArray⟩
theorem tab_up {P : Program} {w w' : World} {name : String} {k : IntKind} {zs : List Int} (h : Lib.TabIs P w name k zs) (hb : Below w.heap.size w w') : Lib.TabIs P w' name k zs := by
  unfold Lib.TabIs World.var? at *
  cases hg : P.globalNamed name with
  | none => simp [hg] at h
  | some g =>
    simp only [hg, Option.bind_some] at h ⊢
    cases hw : w.heap[g]? with
    | none => rw [hw] at h; cases h
    | some o =>
      rw [hb.block _ (Array.getElem?_eq_some_iff.1 hw).1]
      exact h
theorem fin_pos0 (w : World) (o : Obj) (dk : Array UInt8) (k : Nat) : ∃ os, (putRow (fun (b : UInt8) => Value.int .u8 (b.toNat : Int)) (w.alloc o) w.heap.size 0 dk).drewN k = grow (w.drewN k) os := by
  rw [alloc_eq_grow]
  obtain ⟨os', _, e⟩ := putRow_grow_new (fun (b : UInt8) => Value.int .u8 (b.toNat : Int)) w #[o] w.heap.size 0 dk (Nat.le_refl _)
  exact ⟨os', by rw [e]; rfl⟩
end Go.Proofs.YtpkonagjnfphkaaGreatDoor

namespace Go.Proofs.YtpkonagjnfphkaaGreatDoor
open Go.RowKit
set_option linter.unusedSimpArgs false
set_option linter.unusedVariables false

/-- What must gives up with. -/
abbrev gup (e : Int) : List PanicEntry := [{ v := .iface 33 (.int .i64 e), recovered := false }]
abbrev gupR (e : Int) : List PanicEntry := [{ v := .iface 33 (.int .i64 e), recovered := true }]
theorem must_yes (e : Int) (w : World) : Calls Tryz.prog 125 #[.bool true, .int .i64 e] w fun en w' => en = .returned (.tuple #[]) ∧ w = w' := by
  go_enter Tryz.func125, Tryz.ntmps125
  go_wp2
  go_end0
  exact ⟨rfl, rfl⟩
theorem must_no (e : Int) (w : World) : Calls Tryz.prog 125 #[.bool false, .int .i64 e] w fun en w' => en = .panicked (gup e) ∧ w = w' := by
  go_enter Tryz.func125, Tryz.ntmps125
  go_wp2
  exact ⟨rfl, rfl, rfl⟩
theorem caught_idle (p : Addr) (g : FuncId) (caps : Array Value) (w : World) :
    CallsD Tryz.prog 123 #[.pointer (some p), .func (.func g) #[] caps] .returning w fun e u' w' => e = .returned (.tuple #[]) ∧ u' = .returning ∧ w' = w := by
  refine callsD_of_wpS Tryz.func123 rfl fun c₀ cs hu => ?_
  apply wpS_seq
  apply wpS_region
  simp [wpOpsS, go_sem, recoverD, hu, Tryz.ntmps123, Exit.thenS, Array.replicate_succ]
  refine wpS_of_wp ?_
  go_wp2
  cases c₀
  simp_all [bodyPostS, results, Tryz.results123, Exit.thenS]
set_option maxRecDepth 100000 in
/-- What is given up with is noted, and what was under way is cleared. -/
theorem caught_gup (p : Nat) (e e0 : Int) (g : FuncId) (caps : Array Value) (hg : Enters Tryz.prog g) (w : World) (hc : w.cell? ⟨p, 0, none⟩ = some (.int .i64 e0)) (hz : w.frozen? ⟨p, 0, none⟩ = false) {R : World → Prop}
    (hcl : Calls Tryz.prog g caps (w.setCell ⟨p, 0, none⟩ (.int .i64 e)) fun en w' => en = .returned (.tuple #[]) ∧ R w') :
    CallsD Tryz.prog 123 #[.pointer (some ⟨p, 0, none⟩), .func (.func g) #[] caps] (.panicking (gup e)) w fun en u' w' => en = .returned (.tuple #[]) ∧ u' = .panicking (gupR e) ∧ R w' := by
  refine callsD_of_wpS Tryz.func123 rfl fun c₀ cs hu => ?_
  have HC := Lib.hid hcl
  clear hcl
  have hta : ∀ (e : Int) (w : World), (Instr.typeAssert (.iface 33 (.int .i64 e)) 20 33 false).run Tryz.prog w = .ok (.int .i64 e) w := fun _ _ => by kernel_rfl
  apply wpS_seq
  apply wpS_region
  simp [wpOpsS, go_sem, recoverD, hu, Tryz.ntmps123, Exit.thenS, Array.replicate_succ]
  refine wpS_of_wp ?_
  unfold Enters at hg
  go_wp2_with (refine HC.out.mono ?_; rintro en w1 ⟨rfl, hr⟩)
  cases c₀
  simp_all [bodyPostS, results, Tryz.results123, Exit.thenS]
end Go.Proofs.YtpkonagjnfphkaaGreatDoor

namespace Go.Proofs.YtpkonagjnfphkaaGreatDoor
open Go.RowKit
set_option linter.unusedSimpArgs false
set_option linter.unusedVariables false

end Go.Proofs.YtpkonagjnfphkaaGreatDoor

namespace Go.Proofs.YtpkonagjnfphkaaGreatDoor
open Go.RowKit
set_option linter.unusedSimpArgs false
set_option linter.unusedVariables false

namespace Dig
theorem uintM_eq : ∀ (l : List UInt8) (a : Nat), Lib.parseUintM (2 ^ 64 - 1) a l = Lib.parseUint10 a l
  | [], a => rfl
  | c :: l, a => by
    rw [Lib.parseUintM, Lib.parseUint10, uintM_eq l]
    have e : (2 ^ 64 - 1 < a * 10 + (c.toNat - 48)) = (18446744073709551616 ≤ a * 10 + (c.toNat - 48)) := propext (by omega)
    simp only [e]
theorem uintB_eq (l : List UInt8) : Lib.parseUintB 64 l = Lib.parseMag l := by
  unfold Lib.parseUintB Lib.parseMag
  rw [uintM_eq]
theorem toNum_none {l : List UInt8} {bound : Nat} (hb : bound < 10000000000000000000) (h : ∀ n, ¬ (Lib.parseMag l = .ok n ∧ n ≤ bound ∧ Lib.decDigits n = l)) : toNum l bound = none := by
  cases hn : toNum l bound with
  | none => rfl
  | some n => exact absurd ((bounded_iff l bound n (by omega)).2 ((toNum_iff l bound n hb).1 hn)) (h n)
theorem toNum_some {l : List UInt8} {bound n : Nat} (hb : bound < 10000000000000000000) (h1 : Lib.parseMag l = .ok n) (h2 : n ≤ bound) (h3 : Lib.decDigits n = l) : toNum l bound = some n :=
  (toNum_iff l bound n hb).2 ((bounded_iff l bound n (by omega)).1 ⟨h1, h2, h3⟩)
theorem toNum_le {l : List UInt8} {bound n : Nat} (h : toNum l bound = some n) : n ≤ bound := by
  unfold toNum at h
  split at h
  · cases h
  · split at h
    · cases h
    · cases h; omega
end Dig
/-- What ParseUint tells of what is no number. -/
def NoNum (w : World) (en : Ending) (w' : World) : Prop := Below w.heap.size w w' ∧ ∃ (n : Int) (t : TypeId) (p : Addr), en = .returned (.tuple #[.int .u64 n, .iface t (.pointer (some p))])
/-- What bounded tells. -/
def Bdd (l : List UInt8) (bound : Nat) (w : World) (en : Ending) (w' : World) : Prop := Below w.heap.size w w' ∧ match Dig.toNum l bound with
  | some n => en = .returned (.int .u64 n)
  | none => en = .panicked (gup 130)
theorem Bdd.no {l : List UInt8} {bound : Nat} (hb : bound < 10000000000000000000) (h : ∀ n, ¬ (Lib.parseMag l = .ok n ∧ n ≤ bound ∧ Lib.decDigits n = l)) {w w' : World} (hw : Below w.heap.size w w') : Bdd l bound w (.panicked (gup 130)) w' :=
  ⟨hw, by rw [Dig.toNum_none hb h]⟩
end Go.Proofs.YtpkonagjnfphkaaGreatDoor
