/-
  PtM, StabA, PtApp: several texts in one (bundle.py).
-/
import Derived.Test.YtpfgepgjpnekdaaDoorNmO16
import Derived.Test.YtpfgepgjpnekdaaDoorNmO01
import Derived.Test.YtpfgepgjpnekdaaDoorNmO04
import Derived.Test.YtpfgepgjpnekdaaDoorNmO15
namespace Go.Proofs.YtpfgepgjpnekdaaDoor
open Go.RowKit

def onlyN (Q : Exit → Act → World → Prop) : Exit → Act → World → Prop := fun e a w => e = .normal ∧ Q .normal a w
theorem onlyN_panic {Q : Exit → Act → World → Prop} : ∀ c (a : Act) d v w, onlyN Q (.panic c) (a.put d v) w → onlyN Q (.panic c) a w := fun _ _ _ _ _ h => by cases h.1
theorem wp_onlyN {P : Program} {c : Code} {Q : Exit → Act → World → Prop} {a : Act} {w : World} (h : c.wp P (onlyN Q) a w) : c.wp P Q a w :=
  Code.wp_mono (fun e a' w' he => by obtain ⟨rfl, h⟩ := he; exact h) h
theorem pt_doneN {P : Program} {ops : Array Oper} {Q : Exit → Act → World → Prop} {O : Nat → Prop} {a : Act} {w : World} (h : Q .normal a w) : wpPt P O ops (onlyN Q) .done a w := ⟨rfl, h⟩
theorem pi_nilN {P : Program} {ops : Array Oper} {Q : Exit → Act → World → Prop} {a : Act} {w : World} (h : Q .normal a w) : wpPi P ops (onlyN Q) [] a w := ⟨rfl, h⟩
/-- A guarded operation that is wanted and gives a value. -/
theorem wpList_valG {P : Program} {ops : Array Oper} {rest : List Oper} {o : Oper} {a : Act} {w : World} {Q : Exit → Act → World → Prop} (hw : Region.wanted o (yielded ops a.tmps) = true) {v : Value} (hv : (execOp a.eval o).run P w = .ok (.value v) w)
    (h : wpList P ops Q rest (a.put o.dst v) w) : wpList P ops Q (o :: rest) a w := by
  unfold wpList
  rw [if_pos hw]
  refine .inl ?_
  unfold Oper.wp
  rw [hv]
  exact h
/-- .. a record read whole. -/
theorem wpList_loadG {P : Program} {ops : Array Oper} {rest : List Oper} {o : Oper} {a : Act} {w : World} {Q : Exit → Act → World → Prop} (hw : Region.wanted o (yielded ops a.tmps) = true) (ty : TypeId) (x : Operand) (ho : o.op = .load ty x)
    (b off : Nat) (hx : a.eval x = .pointer (some ⟨b, off, none⟩)) (cs : List Value) (d : TypeDesc) (hr : w.rangeAt b off cs) (hu : P.underlying ty = some d) (hd : d.isRow = true) (hn : (P.info? ty).map (·.size) = some cs.length)
    (h : wpList P ops Q rest (a.put o.dst (.agg cs.toArray)) w) : wpList P ops Q (o :: rest) a w :=
  wpList_valG hw (by
    unfold execOp
    simp only [ho, hx, Instr.loadAt, Instr.sureAddr, Sem.run_bind, Sem.run_pure, Result.andThen_ok, run_loadVar_mid w b off ty cs d hr hu hd hn]) h
end Go.Proofs.YtpfgepgjpnekdaaDoor

namespace Go.Proofs.YtpfgepgjpnekdaaDoor
namespace Srt
variable {α : Type} {lt : α → α → Bool}

/-- An order; what is not apart is the same. -/
structure TO (lt : α → α → Bool) : Prop where
  asym : ∀ x y, lt x y = true → lt y x = false
  trans : ∀ x y z, lt y x = false → lt z y = false → lt z x = false
  anti : ∀ x y, lt x y = false → lt y x = false → x = y
def Sorted (lt : α → α → Bool) (L : List α) : Prop := L.Pairwise fun x y => lt y x = false
theorem TO.refl (h : TO lt) (x : α) : lt x x = false := by
  cases hx : lt x x with
  | false => rfl
  | true => exact (hx.symm.trans (h.asym x x hx))
theorem Sorted.nil : Sorted lt [] := List.Pairwise.nil
theorem Sorted.one (x : α) : Sorted lt [x] := List.pairwise_singleton _ _
theorem Sorted.left {A B : List α} (h : Sorted lt (A ++ B)) : Sorted lt A := (List.pairwise_append.1 h).1
theorem Sorted.right {A B : List α} (h : Sorted lt (A ++ B)) : Sorted lt B := (List.pairwise_append.1 h).2.1
theorem Sorted.cross {A B : List α} (h : Sorted lt (A ++ B)) : ∀ x ∈ A, ∀ y ∈ B, lt y x = false := (List.pairwise_append.1 h).2.2
theorem Sorted.app {A B : List α} (hA : Sorted lt A) (hB : Sorted lt B) (h : ∀ x ∈ A, ∀ y ∈ B, lt y x = false) : Sorted lt (A ++ B) := List.pairwise_append.2 ⟨hA, hB, h⟩
theorem last_some {A : List α} (h : A ≠ []) : ∃ y, A.getLast? = some y := by
  cases hl : A.getLast? with
  | none => exact absurd (List.getLast?_eq_none_iff.1 hl) h
  | some y => exact ⟨y, rfl⟩
theorem last_split {A : List α} {y : α} (h : A.getLast? = some y) : A = A.dropLast ++ [y] := by
  obtain ⟨B, rfl⟩ := List.getLast?_eq_some_iff.1 h
  simp
/-- All are at most the last one. -/
theorem Sorted.last (h : TO lt) {A : List α} (hA : Sorted lt A) {x y : α} (hx : x ∈ A) (hy : A.getLast? = some y) : lt y x = false := by
  obtain ⟨A', rfl⟩ : ∃ A', A = A' ++ [y] := by
    have hne : A ≠ [] := fun e => by rw [e] at hx; cases hx
    exact ⟨A.dropLast, last_split hy⟩
  rcases List.mem_append.1 hx with hx | hx
  · exact hA.cross x hx y (by simp)
  · rw [List.mem_singleton] at hx; rw [hx]; exact h.refl y
/-- The first one is at most all. -/
theorem Sorted.first (h : TO lt) {A : List α} (hA : Sorted lt A) {x y : α} (hx : x ∈ A) (hy : A.head? = some y) : lt x y = false := by
  cases A with
  | nil => cases hx
  | cons a r =>
    simp only [List.head?_cons, Option.some.injEq] at hy
    subst hy
    rcases List.mem_cons.1 hx with rfl | hx
    · exact h.refl _
    · exact (List.pairwise_cons.1 hA).1 x hx
/-- One is laid between. -/
theorem ins_sorted (h : TO lt) {A B : List α} {x : α} (hAB : Sorted lt (A ++ B)) (h1 : ∀ y, A.getLast? = some y → lt x y = false) (h2 : ∀ y, B.head? = some y → lt y x = false) : Sorted lt (A ++ x :: B) := by
  refine Sorted.app hAB.left (List.pairwise_cons.2 ⟨fun z hz => ?_, hAB.right⟩) fun z hz y hy => ?_
  · cases hB : B with
    | nil => rw [hB] at hz; cases hz
    | cons b r =>
      have := Sorted.first h hAB.right hz (y := b) (by rw [hB]; rfl)
      exact h.trans _ _ _ (h2 b (by rw [hB]; rfl)) this
  · have hl : A ≠ [] := fun e => by rw [e] at hz; cases hz
    obtain ⟨l, hlast⟩ := last_some hl
    have hzx : lt x z = false := h.trans _ _ _ (Sorted.last h hAB.left hz hlast) (h1 _ hlast)
    rcases List.mem_cons.1 hy with rfl | hy
    · exact hzx
    · exact hAB.cross z hz y hy
/-- What the halves of a merge keep. -/
theorem halves (h : TO lt) {U1 U2 V1 V2 : List α} (hU : Sorted lt (U1 ++ U2)) (hV : Sorted lt (V1 ++ V2)) (c1 : ∀ x y, U1.getLast? = some x → V2.head? = some y → lt y x = false) (c2 : ∀ x y, V1.getLast? = some x → U2.head? = some y → lt y x = false) :
    ∀ x ∈ U1 ++ V1, ∀ y ∈ U2 ++ V2, lt y x = false := by
  have key : ∀ {A B : List α}, Sorted lt A → Sorted lt B → (∀ x y, A.getLast? = some x → B.head? = some y → lt y x = false) → ∀ x ∈ A, ∀ y ∈ B, lt y x = false := by
    intro A B hA hB hc x hx y hy
    have ha : A ≠ [] := fun e => by rw [e] at hx; cases hx
    obtain ⟨l, hlast⟩ := last_some ha
    cases hB' : B with
    | nil => rw [hB'] at hy; cases hy
    | cons b r =>
      have hb : B.head? = some b := by rw [hB']; rfl
      exact h.trans _ _ _ (Sorted.last h hA hx hlast) (h.trans _ _ _ (hc _ _ hlast hb) (Sorted.first h hB hy hb))
  intro x hx y hy
  rcases List.mem_append.1 hx with hx | hx <;> rcases List.mem_append.1 hy with hy | hy
  · exact hU.cross x hx y hy
  · exact key hU.left hV.right c1 x hx y hy
  · exact key hV.left hU.right c2 x hx y hy
  · exact hV.cross x hx y hy
theorem join {A B A' B' : List α} (hc : ∀ x ∈ A, ∀ y ∈ B, lt y x = false) (pA : A'.Perm A) (pB : B'.Perm B) (sA : Sorted lt A') (sB : Sorted lt B') : Sorted lt (A' ++ B') :=
  Sorted.app sA sB fun x hx y hy => hc x (pA.mem_iff.1 hx) y (pB.mem_iff.1 hy)
theorem unique (h : TO lt) : ∀ {L M : List α}, Sorted lt L → Sorted lt M → L.Perm M → L = M
  | [], M, _, _, hp => (List.nil_perm.1 hp).symm
  | x :: L, M, hL, hM, hp => by
    cases M with
    | nil => exact absurd (List.perm_nil.1 hp) (by simp)
    | cons y M =>
      have hxy : x = y := by
        have hx : x ∈ y :: M := hp.mem_iff.1 List.mem_cons_self
        have hy : y ∈ x :: L := hp.mem_iff.2 List.mem_cons_self
        rcases List.mem_cons.1 hx with e | hx
        · exact e
        · rcases List.mem_cons.1 hy with e | hy
          · exact e.symm
          · exact h.anti _ _ ((List.pairwise_cons.1 hM).1 x hx) ((List.pairwise_cons.1 hL).1 y hy)
      subst hxy
      rw [unique h (List.pairwise_cons.1 hL).2 (List.pairwise_cons.1 hM).2 ((List.perm_cons x).1 hp)]
/-- Blocks of so many are sorted. -/
def Blocks (lt : α → α → Bool) (s : Nat) (L : List α) : Prop := ∀ k, Sorted lt ((L.drop (k * s)).take s)
theorem Blocks.all {s : Nat} {L : List α} (h : Blocks lt s L) (hs : L.length ≤ s) : Sorted lt L := by
  have := h 0
  rwa [Nat.zero_mul, List.drop_zero, List.take_of_length_le hs] at this
end Srt
end Go.Proofs.YtpfgepgjpnekdaaDoor

namespace Go.Proofs.YtpfgepgjpnekdaaDoor
open Go.RowKit
set_option linter.unusedSimpArgs false
set_option linter.unusedVariables false

section
variable {P : Program} {ops : Array Oper} {Q : Exit → Act → World → Prop} {O : Nat → Prop}
theorem pt_app2 {i : Nat} {o : Oper} {R : Act → World → Prop} {a : Act} {w : World} (hi : ops[i]? = some o) (hw : Region.wanted o (yielded ops a.tmps) = true) (s x : Operand) (t : TypeId)
    (ho : o.op = .call { callee := .builtin .append, args := #[s, x], argTypes := #[t, t] })
    {e : TypeId} {sz bytes : Nat} (T : SlT P t e sz bytes) (base : Nat) {v : Value} {n : Nat} {xs : List Value} (hs : a.eval s = v) (hown : w.ownsRow base e sz v n xs)
    {xv : Value} {m : Nat} {news : List Value} (hx : a.eval x = xv) (hsl : Sl w sz xv m news) (h1 : ∀ u ∈ news, u.oneCell' = true)
    (h63 : n + m ≤ maxLen) (hbytes : (n + m) * bytes ≤ 140737488355328) (hbase : base ≤ w.heap.size) (hO : ∀ k, base ≤ k → O k)
    (h : ∀ v' w', w'.ownsRow base e sz v' (n + m) (xs ++ news) → But (fun k => v.ownBlock = some k) w w' → R (a.put o.dst v') w') : ptStep P O ops Q i R a w :=
  ⟨o, hi, hw, by
    obtain ⟨v', w', hr, h2, h3, h4, h5⟩ := run_app_at T o.type w base v n xs hown xv m news hsl h1 h63 hbytes hbase
    have hb : But (fun k => v.ownBlock = some k) w w' := But.grown h3 (fun r hr => .inl hr)
    unfold Oper.wp execOp
    simp only [ho, resolve, invoke, builtin, Sem.run_bind, Sem.run_pure, Result.andThen_ok, List.map_toArray, List.map_cons, List.map_nil, hs, hx, hr]
    exact ⟨hb.mono fun j _ e => hO j (own_of_some hown e).1, h v' w' h2 hb⟩⟩
end

section
variable {α : Type} {cells : α → List Value} {sz : Nat}
theorem blk_of (k j t : Nat) (hk : 0 < k) : (j * k ≤ t ∧ t < j * k + k) ↔ t / k = j := by
  constructor
  · rintro ⟨h1, h2⟩
    exact Nat.div_eq_of_lt_le h1 (by rw [Nat.add_mul, Nat.one_mul]; exact h2)
  · rintro rfl
    have a := Nat.div_mul_le_self t k
    have b := Nat.lt_mul_div_succ t hk
    rw [Nat.mul_add, Nat.mul_one, Nat.mul_comm] at b
    exact ⟨a, b⟩
theorem set_recG (hsz : ∀ x, (cells x).length = sz) (h0 : 0 < sz) {M : List α} {cur : Array Value} {i : Nat} (x : α) (hi : i < M.length) (hc : M.length * sz ≤ cur.size) (h : cur.toList.take (M.length * sz) = M.flatMap cells) :
    (setAllA cur (i * sz) (cells x)).toList.take (M.length * sz) = (M.set i x).flatMap cells := by
  have hil : i * sz + (cells x).length ≤ cur.size := by
    rw [hsz]
    have := Nat.mul_le_mul_right sz (show i + 1 ≤ M.length from hi)
    rw [Nat.add_mul, Nat.one_mul] at this; omega
  refine List.ext_getElem? fun q => ?_
  by_cases hq : q < M.length * sz
  · have hj : q / sz < M.length := (Nat.div_lt_iff_lt_mul h0).2 hq
    have hqe : q / sz * sz + q % sz = q := by rw [Nat.mul_comm]; exact Nat.div_add_mod q sz
    have hr : q % sz < sz := Nat.mod_lt _ h0
    have hold : cur[q]? = (cells M[q / sz])[q % sz]? := by
      have h1 : (cur.toList.take (M.length * sz))[q]? = cur[q]? := by rw [List.getElem?_take_of_lt hq, Array.getElem?_toList]
      rw [← h1, h]
      have := rec_get hsz M (q / sz) hj (q % sz) hr
      rwa [hqe] at this
    rw [List.getElem?_take_of_lt hq, Array.getElem?_toList, setAllA_get _ _ _ _ hil, hsz]
    have hrhs := rec_get hsz (M.set i x) (q / sz) (by simpa using hj) (q % sz) hr
    rw [hqe] at hrhs
    rw [hrhs]
    by_cases hji : q / sz = i
    · rw [if_pos ((blk_of sz i q h0).2 hji)]
      have : (M.set i x)[q / sz]'(by simpa using hj) = x := by simp [hji]
      rw [this, show q - i * sz = q % sz by rw [← hji]; omega]
    · rw [if_neg (fun e => hji ((blk_of sz i q h0).1 e)), hold]
      have : (M.set i x)[q / sz]'(by simpa using hj) = M[q / sz] := by rw [List.getElem_set_ne (fun e => hji e.symm)]
      rw [this]
  · rw [List.getElem?_eq_none (by rw [List.length_take]; omega), List.getElem?_eq_none (by rw [rec_len hsz, List.length_set]; omega)]
theorem sl_of_rowG (hsz : ∀ x, (cells x).length = sz) {w : World} {T : TypeId} {g cap n : Nat} {cur : Array Value} {M : List α} (h : RowAt w g cur T) (hn : M.length = n) (hcap : n ≤ cap) (hmx : cap ≤ maxLen) (ht : cur.toList.take (n * sz) = M.flatMap cells) :
    Sl w sz (.slice (some ⟨g, 0, none⟩) n cap) n (M.flatMap cells) := by
  refine ⟨by rw [rec_len hsz, hn], .inr ⟨g, 0, cap, rfl, hcap, hmx, fun j u hj => ?_⟩⟩
  have hlt : j < n * sz := by
    have := (List.getElem?_eq_some_iff.1 hj).1
    rwa [rec_len hsz, hn] at this
  rw [← ht, List.getElem?_take_of_lt hlt, Array.getElem?_toList] at hj
  rw [Nat.zero_add]
  exact h.cell hj
/-- What owns a row: its block. -/
theorem own_row {w : World} {base : Nat} {T : TypeId} {v : Value} {n : Nat} {xs : List Value} (h : w.ownsRow base T sz v n xs) (hn : 0 < n) :
    ∃ g cap cur, v = .slice (some ⟨g, 0, none⟩) n cap ∧ base ≤ g ∧ RowAt w g cur T ∧ n ≤ cap ∧ cap ≤ maxLen ∧ cur.size = cap * sz ∧ cur.toList.take (n * sz) = xs := by
  rcases h.2 with ⟨_, h0⟩ | ⟨g, cap, cur, h1, h2, h3, h4, h5, h6, h7⟩
  · omega
  · exact ⟨g, cap, cur, h1, h2, h3, h4, h5, h6, h7⟩
end
end Go.Proofs.YtpfgepgjpnekdaaDoor
