/-
  The contract of Split, octet's and the reference's.
-/
import Derived.Test.YtinohligpncpiaaOctetF
namespace Go.Proofs.Ytinohligpncpiaa
open Go.RowKit
set_option linter.unusedSimpArgs false
set_option linter.unusedVariables false

/-! ### The plain law: pieces of bytes -/
namespace Oct
/-- Where piece k begins. -/
def fr (at_ : List Int) (k : Nat) : Int := if k = 0 then 0 else at_.getD (k - 1) 0
def okAt (l : List UInt8) (at_ : List Int) (k : Nat) : Bool := decide (fr at_ k ≤ at_.getD k 0) && decide (at_.getD k 0 ≤ l.length)
def piece (l : List UInt8) (at_ : List Int) (k : Nat) : List UInt8 := (l.drop (fr at_ k).toNat).take ((at_.getD k 0).toNat - (fr at_ k).toNat)
def pieces (l : List UInt8) (at_ : List Int) (k : Nat) : List (List UInt8) := (List.range k).map (piece l at_)
def okAll (l : List UInt8) (at_ : List Int) : Bool := (List.range at_.length).all (okAt l at_)
def splitL (l : List UInt8) (at_ : List Int) : List (List UInt8) := if okAll l at_ then pieces l at_ at_.length ++ [l.drop (fr at_ at_.length).toNat] else []
def splitE (l : List UInt8) (at_ : List Int) : Int := if okAll l at_ then 0 else 4
theorem fr_succ (at_ : List Int) (k : Nat) : fr at_ (k + 1) = at_.getD k 0 := by simp [fr]
theorem pieces_succ (l : List UInt8) (at_ : List Int) (k : Nat) : pieces l at_ (k + 1) = pieces l at_ k ++ [piece l at_ k] := by simp [pieces, List.range_succ]
theorem pieces_len (l : List UInt8) (at_ : List Int) (k : Nat) : (pieces l at_ k).length = k := by simp [pieces]
theorem okAll_yes {l : List UInt8} {at_ : List Int} (h : ∀ j, j < at_.length → okAt l at_ j = true) : okAll l at_ = true := by simp only [okAll, List.all_eq_true, List.mem_range]; exact h
theorem okAll_no {l : List UInt8} {at_ : List Int} {k : Nat} (hk : k < at_.length) (h : okAt l at_ k = false) : okAll l at_ = false := by
  cases e : okAll l at_ with
  | false => rfl
  | true =>
    simp only [okAll, List.all_eq_true, List.mem_range] at e
    rw [e k hk] at h
    cases h
theorem fr_b {l : List UInt8} {at_ : List Int} {k : Nat} (h : ∀ j, j < k → okAt l at_ j = true) : 0 ≤ fr at_ k ∧ fr at_ k ≤ l.length := by
  induction k with
  | zero => simp [fr]
  | succ k ih =>
    have h1 := ih (fun j hj => h j (by omega))
    have h2 := h k (by omega)
    simp only [okAt, Bool.and_eq_true, decide_eq_true_eq] at h2
    rw [fr_succ]
    omega
theorem piece_len (l : List UInt8) (at_ : List Int) (k : Nat) (h0 : 0 ≤ fr at_ k) (h : okAt l at_ k = true) : (piece l at_ k).length = (at_.getD k 0).toNat - (fr at_ k).toNat := by
  simp only [okAt, Bool.and_eq_true, decide_eq_true_eq] at h
  simp only [piece, List.length_take, List.length_drop]
  omega
end Oct

theorem slT_bb : SlT Try.prog 22 23 1 24 := SlT.mk' Try.underlying22 (z := .slice none 0 0) (by kernel_rfl) rfl (by decide)

/-- A piece of a row of one's own: where it lies. -/
def InRow (own : Value) (N : Nat) (u : Value) (m : Nat) : Prop :=
  ∃ a', u = .slice a' m m ∧ (m = 0 ∨ ∃ g lo cap, own = .slice (some ⟨g, 0, none⟩) N cap ∧ a' = some ⟨g, lo, none⟩ ∧ lo + m ≤ N)

/-- What Split leaves: the pieces' row; the row that they are pieces of. -/
structure Split (base : Nat) (w' : World) (own v : Value) (n N : Nat) (vs : List Value) (l : List UInt8) (ls : List (List UInt8)) : Prop where
  own_ : w'.ownsRow base 5 1 own N (by8 l)
  row : ∃ base2, base ≤ base2 ∧ (∀ k, own.ownBlock = some k → k < base2) ∧ w'.ownsRow base2 23 1 v n vs
  len : vs.length = ls.length
  each : ∀ (i : Nat) (u : Value) (l' : List UInt8), vs[i]? = some u → ls[i]? = some l' → Sl w' 1 u l'.length (by8 l') ∧ InRow own N u l'.length

theorem Split.slB {base : Nat} {w' : World} {own v : Value} {n N : Nat} {vs : List Value} {l : List UInt8} {ls : List (List UInt8)} (h : Split base w' own v n N vs l ls) : SlB w' v n vs ls := by
  obtain ⟨b2, _, _, h2⟩ := h.row
  exact ⟨Sl.of_own h2, h.len, fun i u l' h1 h2 => (h.each i u l' h1 h2).1⟩

theorem getD_getElem {l : List Int} {k : Nat} (h : k < l.length) : l.getD k 0 = l[k] := by simp [List.getD, h]

/-- The pieces' row grows by one. -/
theorem each_snoc {w w' : World} {own : Value} {N : Nat} {vs : List Value} {ls : List (List UInt8)} {u : Value} {p : List UInt8} (hl : vs.length = ls.length)
    (h : ∀ (i : Nat) (u : Value) (l' : List UInt8), vs[i]? = some u → ls[i]? = some l' → Sl w 1 u l'.length (by8 l') ∧ InRow own N u l'.length)
    (hu : Sl w 1 u p.length (by8 p)) (hr : InRow own N u p.length) (hk : ∀ (u : Value) (m : Nat) (cs : List Value), Sl w 1 u m cs → InRow own N u m → Sl w' 1 u m cs) :
    ∀ (i : Nat) (u' : Value) (l' : List UInt8), (vs ++ [u])[i]? = some u' → (ls ++ [p])[i]? = some l' → Sl w' 1 u' l'.length (by8 l') ∧ InRow own N u' l'.length := by
  intro i u' l' h1 h2
  rcases Nat.lt_or_ge i vs.length with hi | hi
  · rw [List.getElem?_append_left hi] at h1
    rw [List.getElem?_append_left (by omega)] at h2
    obtain ⟨h3, h4⟩ := h i u' l' h1 h2
    exact ⟨hk _ _ _ h3 h4, h4⟩
  · rw [List.getElem?_append_right hi] at h1
    rw [List.getElem?_append_right (by omega)] at h2
    have e : i - vs.length = 0 := by
      rcases Nat.eq_zero_or_pos (i - vs.length) with h | h
      · exact h
      · rw [List.getElem?_eq_none (by simp; omega)] at h1; cases h1
    rw [e] at h1
    rw [← hl, e] at h2
    simp at h1 h2
    subst h1 h2
    exact ⟨hk _ _ _ hu hr, hr⟩

/-- What lies below base2 stays where a world below base2 is kept. -/
theorem Sl.below {w w' : World} {B sz : Nat} {u : Value} {m : Nat} {cs : List Value} (h : Sl w sz u m cs) (hB : Below B w w') (hb : m = 0 ∨ ∀ k, u.ownBlock = some k → k < B) : Sl w' sz u m cs := by
  obtain ⟨hl, ⟨a, c, rfl, rfl⟩ | ⟨b, off, cap, rfl, hn, hm, hc⟩⟩ := h
  · exact ⟨hl, .inl ⟨a, c, rfl, rfl⟩⟩
  · rcases hb with rfl | hb
    · exact ⟨hl, .inl ⟨_, _, rfl, rfl⟩⟩
    · refine ⟨hl, .inr ⟨b, off, cap, rfl, hn, hm, fun j u hj => ?_⟩⟩
      rw [hB.cell (p := ⟨b, off + j, none⟩) (hb b rfl)]
      exact hc j u hj
theorem InRow.lt {own u : Value} {N m B : Nat} (h : InRow own N u m) (hb : ∀ k, own.ownBlock = some k → k < B) : m = 0 ∨ ∀ k, u.ownBlock = some k → k < B := by
  obtain ⟨a', rfl, h | ⟨g, lo, cap, rfl, rfl, _⟩⟩ := h
  · exact .inl h
  · exact .inr fun k hk => hb k hk

/-- A piece cut out of the row. -/
theorem inRow_cut {w : World} {base : Nat} {e : TypeId} {a a' : Option Addr} {N c lo m : Nat} {xs : List Value} (ho : w.ownsRow base e 1 (.slice a N c) N xs) (h : a' = a ∨ ∃ b off, a = some ⟨b, off, none⟩ ∧ a' = some ⟨b, off + lo * 1, none⟩) (hm : lo + m ≤ N) :
    InRow (.slice a N c) N (.slice a' m m) m := by
  refine ⟨a', rfl, ?_⟩
  by_cases h0 : m = 0
  · exact .inl h0
  · right
    obtain ⟨g, rfl, _⟩ := own_some ho (by omega)
    rcases h with rfl | ⟨b, off, e, rfl⟩
    · exact ⟨g, 0, c, rfl, rfl, by omega⟩
    · simp only [Option.some.injEq, Addr.mk.injEq, and_true] at e
      obtain ⟨rfl, rfl⟩ := e
      exact ⟨g, lo, c, rfl, by simp, hm⟩

/-- What Split answers. -/
def SplitPost (l : List UInt8) (at_ : List Int) (w : World) (e : Ending) (w' : World) : Prop :=
  Below w.heap.size w w' ∧
  ((Oct.okAll l at_ = true ∧ ∃ v vs own, e = .returned (.tuple #[v, .int .i64 0]) ∧ Split w.heap.size w' own v (at_.length + 1) l.length vs l (Oct.splitL l at_)) ∨
   (Oct.okAll l at_ = false ∧ e = .returned (.tuple #[.slice none 0 0, .int .i64 4])))

namespace Oct
theorem splitL_yes {l : List UInt8} {at_ : List Int} (h : okAll l at_ = true) : splitL l at_ = pieces l at_ at_.length ++ [l.drop (fr at_ at_.length).toNat] := by unfold splitL; rw [h]; rfl
theorem okAt_yes {l : List UInt8} {at_ : List Int} {k : Nat} (h1 : fr at_ k ≤ at_.getD k 0) (h2 : at_.getD k 0 ≤ l.length) : okAt l at_ k = true := by unfold okAt; rw [decide_eq_true h1, decide_eq_true h2]; rfl
theorem okAt_no {l : List UInt8} {at_ : List Int} {k : Nat} (h : at_.getD k 0 < fr at_ k ∨ (l.length : Int) < at_.getD k 0) : okAt l at_ k = false := by
  unfold okAt
  rcases h with h | h
  · rw [decide_eq_false (by omega)]; rfl
  · rw [decide_eq_false (p := at_.getD k 0 ≤ _) (by omega), Bool.and_false]
end Oct

set_option maxHeartbeats 2000000 in
/-- octet.Split. -/
theorem split_c (l : List UInt8) (at_ : List Int) (v u : Value) (n m : Nat) (w : World) (hv : Sl w 1 v n (by8 l)) (hu : Sl w 1 u m (at_.map (.int .i64))) (hn : n ≤ 140737488355328) (hm : m * 24 + 24 ≤ 140737488355328) :
    Calls Try.prog 25 #[v, u] w (SplitPost l at_ w) := by
  have hln := hv.n_len
  have Hln := Lib.hid hln; clear hln
  have ham : at_.length = m := by have := hu.1; simpa using this
  have Ham := Lib.hid ham; clear ham
  obtain ⟨a2, c2, rfl⟩ := hu.len
  go_enter Try.func25, Try.ntmps25
  go_wp2_with (go_at_call 33; refine (cloneB_c l v n _ hv hn).mono ?_; rintro e w1 ⟨v1, rfl, hown, hb⟩; obtain ⟨a1, c1, rfl⟩ := (Sl.of_own hown).len)
  have hob : ∀ k, (Value.slice a1 n c1).ownBlock = some k → k < w1.heap.size := fun k hk => (hown.lt k hk).2
  go_loopw [4, 7, 14] (fun o f i wr => ∃ (k lo : Nat) (vs : List Value), k ≤ m ∧ i = .int .i64 k ∧ f = .int .i64 lo ∧ (lo : Int) = Oct.fr at_ k ∧ (∀ j, j < k → Oct.okAt l at_ j = true) ∧ Below w1.heap.size w1 wr ∧
      wr.ownsRow w1.heap.size 23 1 o k vs ∧ (∀ (i : Nat) (u : Value) (l' : List UInt8), vs[i]? = some u → (Oct.pieces l at_ k)[i]? = some l' → Sl wr 1 u l'.length (by8 l') ∧ InRow (.slice a1 n c1) n u l'.length)) (fun _ _ i _ => m - (intOf i).toNat)
  case atStart => exact ⟨0, 0, [], Nat.zero_le _, rfl, rfl, by simp [Oct.fr], by intro j hj; omega, Below.refl _ _, World.ownsRow_nil _ _ _ _, by intro i u l' h; simp at h⟩
  case round =>
    obtain ⟨k, lo, vs, hk, rfl, rfl, hlo, hok, hB, ho, heach⟩ := hrel
    have hvl : vs.length = k := by have := ho.1; omega
    have Hvl := Lib.hid hvl
    have hfb := Oct.fr_b hok
    rw [Hln.out, ← hlo] at hfb
    have hlon : lo ≤ n := by omega
    have Hlo := Lib.hid hlo
    have Hok := Lib.hid hok
    have Heach := Lib.hid heach
    clear hlo hok heach hvl hfb
    have hown' : wr.ownsRow w.heap.size 5 1 (.slice a1 n c1) n (by8 l) := by
      refine ⟨hown.1, ?_⟩
      rcases hown.2 with h | ⟨g, cap, cur, h1, h2, h3, h4⟩
      · exact .inl h
      · exact .inr ⟨g, cap, cur, h1, h2, by rw [hB.block g (lt_of_block h3)]; exact h3, h4⟩
    by_cases hlt : k < m
    · have hlt' : k < at_.length := by rw [Ham.out]; exact hlt
      obtain ⟨b, off, rfl, hc⟩ := (hu.up (below_up hb (hB))).cellAt (k := k) (by omega) (by omega)
      have Hg := Lib.hid (getD_getElem hlt')
      replace hc : wr.cell? ⟨b, off + k, none⟩ = some (.int .i64 at_[k]) := by simpa [hlt'] using hc
      by_cases hbad : at_[k] < (lo : Int) ∨ (n : Int) < at_[k]
      · have Hno := Lib.hid (Oct.okAt_no (l := l) (at_ := at_) (k := k) (by rw [Hg.out, ← Hlo.out, Hln.out]; exact hbad))
        generalize hT : at_[k] = T at *
        clear hT
        have fin : ∀ (wx : World), Below w.heap.size w wx → SplitPost l at_ w (.returned (.tuple #[.slice none 0 0, .int .i64 4])) wx := fun wx hwx => ⟨hwx, .inr ⟨Oct.okAll_no hlt' Hno.out, rfl⟩⟩
        by_cases h1 : T < (lo : Int)
        · clear hbad
          go_wp2
          go_ret2
          exact fin _ (below_up hb hB)
        · have h2 : (n : Int) < T := by omega
          clear hbad
          go_wp2
          go_ret2
          exact fin _ (below_up hb hB)
      · obtain ⟨hi, hhi⟩ : ∃ hi : Nat, at_[k] = (hi : Int) := ⟨at_[k].toNat, by omega⟩
        have Hhi := Lib.hid hhi
        rw [hhi] at hc hbad
        clear hhi
        have h1 : lo ≤ hi := by omega
        have h2 : hi ≤ n := by omega
        have h3 : ¬ (hi : Int) < (lo : Int) := by omega
        have h4 : ¬ (n : Int) < (hi : Int) := by omega
        obtain ⟨a', hsl, hs, ha'⟩ := cut_lhm slT_u8 (Sl.of_own hown') lo hi h1 h2
        have hrow := inRow_cut hown' ha' (show lo + (hi - lo) ≤ n by omega)
        rw [Nat.mul_one, Nat.mul_one, ← by8_drop, ← by8_take] at hs
        have Hp := Lib.hid (show Oct.piece l at_ k = (l.drop lo).take (hi - lo) by unfold Oct.piece; rw [Hg.out, ← Hlo.out, Hhi.out]; rfl)
        have Hpl := Lib.hid (show (Oct.piece l at_ k).length = hi - lo by rw [Hp.out, List.length_take, List.length_drop, Hln.out]; omega)
        clear ha' hbad
        go_wp2_with (at_builtin; refine wpList_app rfl _ _ 22 rfl slT_bb w1.heap.size rfl (ho.alloc _) rfl (sl1 _ _ rfl (.slice a' (hi - lo) (hi - lo)) _) (by intro u hu; simp at hu; subst hu; rfl) (by simp only [maxLen]; omega) (by omega) (by have := hB.size; simp; omega) ?_; intro o' w3 ho' hg' _)
        have hB3 : Below w1.heap.size w1 w3 := grown_below (hB.alloc hB.size _) hg' (fun q hq => (ho.lt q hq).1)
        go_roundw
        case rel =>
          refine ⟨k + 1, hi, vs ++ [.slice a' (hi - lo) (hi - lo)], by omega, by go_num, rfl, by rw [Oct.fr_succ, Hg.out, Hhi.out], fun j hj => ?_, hB3, ho', ?_⟩
          · rcases Nat.lt_or_ge j k with h | h
            · exact Hok.out j h
            · obtain rfl : j = k := by omega
              exact Oct.okAt_yes (by rw [Hg.out, Hhi.out, ← Hlo.out]; omega) (by rw [Hg.out, Hhi.out, Hln.out]; omega)
          · rw [Oct.pieces_succ]
            refine each_snoc (w := wr) (by rw [Hvl.out, Oct.pieces_len]) Heach.out (by rw [Hpl.out, Hp.out]; exact hs) (by rw [Hpl.out]; exact hrow) (fun u m cs h1 h2 => ?_)
            have hlt := h2.lt hob
            refine Sl.below h1 (?_ : Below w1.heap.size wr w3) hlt
            exact ((Below.refl _ _).alloc (by have := hB.size; omega) _).grown hg' (by have := hB.size; simp; omega) (fun q hq => (ho.lt q hq).1)
        case measure => simp [intOf]; omega
    · obtain rfl : k = m := by omega
      obtain ⟨a', hsl, hs, ha'⟩ := cut_lhm slT_u8 (Sl.of_own hown') lo n hlon (Nat.le_refl _)
      have hrow := inRow_cut hown' ha' (show lo + (n - lo) ≤ n by omega)
      rw [Nat.mul_one, Nat.mul_one, ← by8_drop, List.take_of_length_le (by rw [by8_len, List.length_drop, Hln.out]; exact Nat.le_refl _)] at hs
      have Hpl := Lib.hid (show (l.drop lo).length = n - lo by rw [List.length_drop, Hln.out])
      have Hall := Lib.hid (Oct.okAll_yes (l := l) (at_ := at_) (fun j hj => Hok.out j (by rw [← Ham.out]; exact hj)))
      have Hdl := Lib.hid (show (Oct.fr at_ at_.length).toNat = lo by rw [Ham.out, ← Hlo.out]; rfl)
      clear ha'
      go_wp2_with (at_builtin; refine wpList_app rfl _ _ 22 rfl slT_bb w1.heap.size rfl (ho.alloc _) rfl (sl1 _ _ rfl (.slice a' (n - lo) (n - lo)) _) (by intro u hu; simp at hu; subst hu; rfl) (by simp only [maxLen]; omega) (by omega) (by have := hB.size; simp; omega) ?_; intro o' w3 ho' hg' _)
      have hB3 : Below w1.heap.size w1 w3 := grown_below (hB.alloc hB.size _) hg' (fun q hq => (ho.lt q hq).1)
      have hB4 : Below w1.heap.size wr w3 := ((Below.refl _ _).alloc (by have := hB.size; omega) _).grown hg' (by have := hB.size; simp; omega) (fun q hq => (ho.lt q hq).1)
      go_ret2
      refine ⟨below_up hb hB3, .inl ⟨Hall.out, o', vs ++ [.slice a' (n - lo) (n - lo)], .slice a1 n c1, rfl, ?_⟩⟩
      rw [Oct.splitL_yes Hall.out, Hdl.out, Hln.out, Ham.out]
      refine ⟨?_, ⟨w1.heap.size, hb.size, hob, ho'⟩, by rw [List.length_append, List.length_append, Hvl.out, Oct.pieces_len]; rfl, ?_⟩
      · refine ⟨hown.1, ?_⟩
        rcases hown.2 with h | ⟨g, cap, cur, h1, h2, h3, h4⟩
        · exact .inl h
        · exact .inr ⟨g, cap, cur, h1, h2, by rw [hB3.block g (lt_of_block h3)]; exact h3, h4⟩
      · exact each_snoc (w := wr) (by rw [Hvl.out, Oct.pieces_len]) Heach.out (by rw [Hpl.out]; exact hs) (by rw [Hpl.out]; exact hrow) (fun u m cs h1 h2 => Sl.below h1 hB4 (h2.lt hob))
end Go.Proofs.Ytinohligpncpiaa
