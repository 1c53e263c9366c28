/-
  CbW, OctetG: several texts in one (bundle.py).
-/
import Derived.Test.YtjenohodgpmchaaDoorCbK11
import Derived.Test.YtjenohodgpmchaaDoorCbK05
import Derived.Test.YtjenohodgpmchaaDoorCbK10
import Derived.Test.YtjenohodgpmchaaDoorCbK14
import Derived.Test.YtjenohodgpmchaaDoorCbK15
import Derived.Test.YtjenohodgpmchaaDoorCbK16
namespace Go.Proofs.YtjenohodgpmchaaDoor
open Go.RowKit Go.Maps Cb
set_option linter.unusedSimpArgs false
set_option linter.unusedVariables false
section
variable {P : Program}
theorem cb_ins {ops : Array Oper} {rest : List Oper} {o : Oper} {a : Act} {w w' : World} {Q : Exit → Act → World → Prop} (hgd : o.guard = none) (t : TypeId) (m x y : Operand) (ho : o.op = .insert t m x y) {mv xv yv : Value} (hm : a.eval m = mv) (hx : a.eval x = xv) (hy : a.eval y = yv)
    (hr : (Instr.mapUpdate t mv xv yv).run P w = .ok () w') (h : wpList P ops Q rest (a.put o.dst undef) w') : wpList P ops Q (o :: rest) a w :=
  wpList_plain hgd fun K hK => by
    unfold Oper.wp execOp
    simp only [ho, hm, hx, hy, Sem.run_bind, Sem.run_pure, Result.andThen_ok, hr]
    exact hK _ _ h
end
abbrev wEnts : List (Value × Value) := [(.int .i64 1, .func (.func 62) #[] #[]), (.int .i64 2, .func (.func 63) #[] #[]), (.int .i64 3, .func (.func 65) #[] #[]), (.int .i64 4, .func (.func 66) #[] #[]), (.int .i64 5, .func (.func 68) #[] #[]), (.int .i64 6, .func (.func 69) #[] #[])]
abbrev WMap (w : World) (M : Nat) : Prop := MapAt Tryd.prog 24 w M wEnts
set_option maxRecDepth 100000 in
theorem writes_c (w : World) : Calls Tryd.prog 49 #[] w fun en w' => en = .returned (.map (some w.heap.size)) ∧ WMap w' w.heap.size ∧ Below w.heap.size w w' := by
  have hmk := run_makeMap (P := Tryd.prog) 85 w
  have K : Keyed Tryd.prog 24 := int_keyed Tryd.underlying24
  have hB := below_alloc w (.map #[] 0)
  have hm0 := MapAt.new (P := Tryd.prog) (k := 24) w
  obtain ⟨w1, hr1, hm1, hb1⟩ := hm0.put_new K Tryd.underlying85 (v := .func (.func 62) #[] #[]) (keyOf_int_mk (a := 1) Tryd.underlying24 (by decide)) (fun p hp e => by simp at hp; try rcases hp with rfl <;> simp at e)
  obtain ⟨w2, hr2, hm2, hb2⟩ := hm1.put_new K Tryd.underlying85 (v := .func (.func 63) #[] #[]) (keyOf_int_mk (a := 2) Tryd.underlying24 (by decide)) (fun p hp e => by simp at hp; try rcases hp with rfl <;> simp at e)
  obtain ⟨w3, hr3, hm3, hb3⟩ := hm2.put_new K Tryd.underlying85 (v := .func (.func 65) #[] #[]) (keyOf_int_mk (a := 3) Tryd.underlying24 (by decide)) (fun p hp e => by simp at hp; try rcases hp with rfl | rfl <;> simp at e)
  obtain ⟨w4, hr4, hm4, hb4⟩ := hm3.put_new K Tryd.underlying85 (v := .func (.func 66) #[] #[]) (keyOf_int_mk (a := 4) Tryd.underlying24 (by decide)) (fun p hp e => by simp at hp; try rcases hp with rfl | rfl | rfl <;> simp at e)
  obtain ⟨w5, hr5, hm5, hb5⟩ := hm4.put_new K Tryd.underlying85 (v := .func (.func 68) #[] #[]) (keyOf_int_mk (a := 5) Tryd.underlying24 (by decide)) (fun p hp e => by simp at hp; try rcases hp with rfl | rfl | rfl | rfl <;> simp at e)
  obtain ⟨w6, hr6, hm6, hb6⟩ := hm5.put_new K Tryd.underlying85 (v := .func (.func 69) #[] #[]) (keyOf_int_mk (a := 6) Tryd.underlying24 (by decide)) (fun p hp e => by simp at hp; try rcases hp with rfl | rfl | rfl | rfl | rfl <;> simp at e)
  have hB2 := hB.trans (((((((hb1.trans hb2).trans hb3).trans hb4).trans hb5).trans hb6)).below (fun q e => by omega) hB.size)
  go_enter Tryd.func49, Tryd.ntmps49
  go_wp2_with (first
    | (refine cb_ins rfl 85 (.tmp 1) (.const (.int .i64 1)) (.func 62) rfl rfl rfl rfl hr1 ?_)
    | (refine cb_ins rfl 85 (.tmp 1) (.const (.int .i64 2)) (.func 63) rfl rfl rfl rfl hr2 ?_)
    | (refine cb_ins rfl 85 (.tmp 1) (.const (.int .i64 3)) (.func 65) rfl rfl rfl rfl hr3 ?_)
    | (refine cb_ins rfl 85 (.tmp 1) (.const (.int .i64 4)) (.func 66) rfl rfl rfl rfl hr4 ?_)
    | (refine cb_ins rfl 85 (.tmp 1) (.const (.int .i64 5)) (.func 68) rfl rfl rfl rfl hr5 ?_)
    | (refine cb_ins rfl 85 (.tmp 1) (.const (.int .i64 6)) (.func 69) rfl rfl rfl rfl hr6 ?_))
  go_ret
  exact ⟨rfl, hm6, hB2⟩
end Go.Proofs.YtjenohodgpmchaaDoor

namespace Go.Proofs.YtjenohodgpmchaaDoor
open Go.RowKit
set_option linter.unusedSimpArgs false
set_option linter.unusedVariables false

/-! ### The plain law: pieces of bytes -/
namespace Oct
/-- Where piece k begins. -/
def fr (at_ : List Int) (k : Nat) : Int := if k = 0 then 0 else at_.getD (k - 1) 0
def okAt (l : List UInt8) (at_ : List Int) (k : Nat) : Bool := decide (fr at_ k ≤ at_.getD k 0) && decide (at_.getD k 0 ≤ l.length)
def piece (l : List UInt8) (at_ : List Int) (k : Nat) : List UInt8 := (l.drop (fr at_ k).toNat).take ((at_.getD k 0).toNat - (fr at_ k).toNat)
def pieces (l : List UInt8) (at_ : List Int) (k : Nat) : List (List UInt8) := (List.range k).map (piece l at_)
def okAll (l : List UInt8) (at_ : List Int) : Bool := (List.range at_.length).all (okAt l at_)
def splitL (l : List UInt8) (at_ : List Int) : List (List UInt8) := if okAll l at_ then pieces l at_ at_.length ++ [l.drop (fr at_ at_.length).toNat] else []
def splitE (l : List UInt8) (at_ : List Int) : Int := if okAll l at_ then 0 else 4
theorem fr_succ (at_ : List Int) (k : Nat) : fr at_ (k + 1) = at_.getD k 0 := by simp [fr]
theorem pieces_succ (l : List UInt8) (at_ : List Int) (k : Nat) : pieces l at_ (k + 1) = pieces l at_ k ++ [piece l at_ k] := by simp [pieces, List.range_succ]
theorem pieces_len (l : List UInt8) (at_ : List Int) (k : Nat) : (pieces l at_ k).length = k := by simp [pieces]
theorem okAll_yes {l : List UInt8} {at_ : List Int} (h : ∀ j, j < at_.length → okAt l at_ j = true) : okAll l at_ = true := by simp only [okAll, List.all_eq_true, List.mem_range]; exact h
theorem okAll_no {l : List UInt8} {at_ : List Int} {k : Nat} (hk : k < at_.length) (h : okAt l at_ k = false) : okAll l at_ = false := by
  cases e : okAll l at_ with
  | false => rfl
  | true =>
    simp only [okAll, List.all_eq_true, List.mem_range] at e
    rw [e k hk] at h
    cases h
theorem fr_b {l : List UInt8} {at_ : List Int} {k : Nat} (h : ∀ j, j < k → okAt l at_ j = true) : 0 ≤ fr at_ k ∧ fr at_ k ≤ l.length := by
  induction k with
  | zero => simp [fr]
  | succ k ih =>
    have h1 := ih (fun j hj => h j (by omega))
    have h2 := h k (by omega)
    simp only [okAt, Bool.and_eq_true, decide_eq_true_eq] at h2
    rw [fr_succ]
    omega
theorem piece_len (l : List UInt8) (at_ : List Int) (k : Nat) (h0 : 0 ≤ fr at_ k) (h : okAt l at_ k = true) : (piece l at_ k).length = (at_.getD k 0).toNat - (fr at_ k).toNat := by
  simp only [okAt, Bool.and_eq_true, decide_eq_true_eq] at h
  simp only [piece, List.length_take, List.length_drop]
  omega
end Oct

theorem slT_bb : SlT Tryd.prog 106 22 1 24 := SlT.mk' Tryd.underlying106 (z := .slice none 0 0) (by kernel_rfl) rfl (by decide)

/-- A piece of a row of one's own: where it lies. -/
def InRow (own : Value) (N : Nat) (u : Value) (m : Nat) : Prop :=
  ∃ a', u = .slice a' m m ∧ (m = 0 ∨ ∃ g lo cap, own = .slice (some ⟨g, 0, none⟩) N cap ∧ a' = some ⟨g, lo, none⟩ ∧ lo + m ≤ N)

/-- What Split leaves: the pieces' row; the row that they are pieces of. -/
structure Split (base : Nat) (w' : World) (own v : Value) (n N : Nat) (vs : List Value) (l : List UInt8) (ls : List (List UInt8)) : Prop where
  own_ : w'.ownsRow base 5 1 own N (by8 l)
  row : ∃ base2, base ≤ base2 ∧ (∀ k, own.ownBlock = some k → k < base2) ∧ w'.ownsRow base2 22 1 v n vs
  len : vs.length = ls.length
  each : ∀ (i : Nat) (u : Value) (l' : List UInt8), vs[i]? = some u → ls[i]? = some l' → Sl w' 1 u l'.length (by8 l') ∧ InRow own N u l'.length

theorem Split.slB {base : Nat} {w' : World} {own v : Value} {n N : Nat} {vs : List Value} {l : List UInt8} {ls : List (List UInt8)} (h : Split base w' own v n N vs l ls) : SlB w' v n vs ls := by
  obtain ⟨b2, _, _, h2⟩ := h.row
  exact ⟨Sl.of_own h2, h.len, fun i u l' h1 h2 => (h.each i u l' h1 h2).1⟩

theorem getD_getElem {l : List Int} {k : Nat} (h : k < l.length) : l.getD k 0 = l[k] := by simp [List.getD, h]

/-- The pieces' row grows by one. -/
theorem each_snoc {w w' : World} {own : Value} {N : Nat} {vs : List Value} {ls : List (List UInt8)} {u : Value} {p : List UInt8} (hl : vs.length = ls.length)
    (h : ∀ (i : Nat) (u : Value) (l' : List UInt8), vs[i]? = some u → ls[i]? = some l' → Sl w 1 u l'.length (by8 l') ∧ InRow own N u l'.length)
    (hu : Sl w 1 u p.length (by8 p)) (hr : InRow own N u p.length) (hk : ∀ (u : Value) (m : Nat) (cs : List Value), Sl w 1 u m cs → InRow own N u m → Sl w' 1 u m cs) :
    ∀ (i : Nat) (u' : Value) (l' : List UInt8), (vs ++ [u])[i]? = some u' → (ls ++ [p])[i]? = some l' → Sl w' 1 u' l'.length (by8 l') ∧ InRow own N u' l'.length := by
  intro i u' l' h1 h2
  rcases Nat.lt_or_ge i vs.length with hi | hi
  · rw [List.getElem?_append_left hi] at h1
    rw [List.getElem?_append_left (by omega)] at h2
    obtain ⟨h3, h4⟩ := h i u' l' h1 h2
    exact ⟨hk _ _ _ h3 h4, h4⟩
  · rw [List.getElem?_append_right hi] at h1
    rw [List.getElem?_append_right (by omega)] at h2
    have e : i - vs.length = 0 := by
      rcases Nat.eq_zero_or_pos (i - vs.length) with h | h
      · exact h
      · rw [List.getElem?_eq_none (by simp; omega)] at h1; cases h1
    rw [e] at h1
    rw [← hl, e] at h2
    simp at h1 h2
    subst h1 h2
    exact ⟨hk _ _ _ hu hr, hr⟩

/-- What lies below base2 stays where a world below base2 is kept. -/
theorem Sl.below {w w' : World} {B sz : Nat} {u : Value} {m : Nat} {cs : List Value} (h : Sl w sz u m cs) (hB : Below B w w') (hb : m = 0 ∨ ∀ k, u.ownBlock = some k → k < B) : Sl w' sz u m cs := by
  obtain ⟨hl, ⟨a, c, rfl, rfl⟩ | ⟨b, off, cap, rfl, hn, hm, hc⟩⟩ := h
  · exact ⟨hl, .inl ⟨a, c, rfl, rfl⟩⟩
  · rcases hb with rfl | hb
    · exact ⟨hl, .inl ⟨_, _, rfl, rfl⟩⟩
    · refine ⟨hl, .inr ⟨b, off, cap, rfl, hn, hm, fun j u hj => ?_⟩⟩
      rw [hB.cell (p := ⟨b, off + j, none⟩) (hb b rfl)]
      exact hc j u hj
theorem InRow.lt {own u : Value} {N m B : Nat} (h : InRow own N u m) (hb : ∀ k, own.ownBlock = some k → k < B) : m = 0 ∨ ∀ k, u.ownBlock = some k → k < B := by
  obtain ⟨a', rfl, h | ⟨g, lo, cap, rfl, rfl, _⟩⟩ := h
  · exact .inl h
  · exact .inr fun k hk => hb k hk

/-- A piece cut out of the row. -/
theorem inRow_cut {w : World} {base : Nat} {e : TypeId} {a a' : Option Addr} {N c lo m : Nat} {xs : List Value} (ho : w.ownsRow base e 1 (.slice a N c) N xs) (h : a' = a ∨ ∃ b off, a = some ⟨b, off, none⟩ ∧ a' = some ⟨b, off + lo * 1, none⟩) (hm : lo + m ≤ N) :
    InRow (.slice a N c) N (.slice a' m m) m := by
  refine ⟨a', rfl, ?_⟩
  by_cases h0 : m = 0
  · exact .inl h0
  · right
    obtain ⟨g, rfl, _⟩ := own_some ho (by omega)
    rcases h with rfl | ⟨b, off, e, rfl⟩
    · exact ⟨g, 0, c, rfl, rfl, by omega⟩
    · simp only [Option.some.injEq, Addr.mk.injEq, and_true] at e
      obtain ⟨rfl, rfl⟩ := e
      exact ⟨g, lo, c, rfl, by simp, hm⟩

/-- What Split answers. -/
def SplitPost (l : List UInt8) (at_ : List Int) (w : World) (e : Ending) (w' : World) : Prop :=
  Below w.heap.size w w' ∧
  ((Oct.okAll l at_ = true ∧ ∃ v vs own, e = .returned (.tuple #[v, .int .i64 0]) ∧ Split w.heap.size w' own v (at_.length + 1) l.length vs l (Oct.splitL l at_)) ∨
   (Oct.okAll l at_ = false ∧ e = .returned (.tuple #[.slice none 0 0, .int .i64 4])))

namespace Oct
theorem splitL_yes {l : List UInt8} {at_ : List Int} (h : okAll l at_ = true) : splitL l at_ = pieces l at_ at_.length ++ [l.drop (fr at_ at_.length).toNat] := by unfold splitL; rw [h]; rfl
theorem okAt_yes {l : List UInt8} {at_ : List Int} {k : Nat} (h1 : fr at_ k ≤ at_.getD k 0) (h2 : at_.getD k 0 ≤ l.length) : okAt l at_ k = true := by unfold okAt; rw [decide_eq_true h1, decide_eq_true h2]; rfl
theorem okAt_no {l : List UInt8} {at_ : List Int} {k : Nat} (h : at_.getD k 0 < fr at_ k ∨ (l.length : Int) < at_.getD k 0) : okAt l at_ k = false := by
  unfold okAt
  rcases h with h | h
  · rw [decide_eq_false (by omega)]; rfl
  · rw [decide_eq_false (p := at_.getD k 0 ≤ _) (by omega), Bool.and_false]
end Oct

end Go.Proofs.YtjenohodgpmchaaDoor
