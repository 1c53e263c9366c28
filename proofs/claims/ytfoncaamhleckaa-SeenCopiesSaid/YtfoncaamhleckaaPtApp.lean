/-
  An append within a drawn region.
-/
import Derived.Test.YtfoncaamhleckaaFork
import Derived.Test.YtfoncaamhleckaaBytes
import Derived.Test.YtfoncaamhleckaaStore
namespace Go.Proofs.Ytfoncaamhleckaa
open Go.RowKit
set_option linter.unusedSimpArgs false
set_option linter.unusedVariables false

section
variable {P : Program} {ops : Array Oper} {Q : Exit → Act → World → Prop} {O : Nat → Prop}
theorem pt_app2 {i : Nat} {o : Oper} {R : Act → World → Prop} {a : Act} {w : World} (hi : ops[i]? = some o) (hw : Region.wanted o (yielded ops a.tmps) = true) (s x : Operand) (t : TypeId)
    (ho : o.op = .call { callee := .builtin .append, args := #[s, x], argTypes := #[t, t] })
    {e : TypeId} {sz bytes : Nat} (T : SlT P t e sz bytes) (base : Nat) {v : Value} {n : Nat} {xs : List Value} (hs : a.eval s = v) (hown : w.ownsRow base e sz v n xs)
    {xv : Value} {m : Nat} {news : List Value} (hx : a.eval x = xv) (hsl : Sl w sz xv m news) (h1 : ∀ u ∈ news, u.oneCell' = true)
    (h63 : n + m ≤ maxLen) (hbytes : (n + m) * bytes ≤ 140737488355328) (hbase : base ≤ w.heap.size) (hO : ∀ k, base ≤ k → O k)
    (h : ∀ v' w', w'.ownsRow base e sz v' (n + m) (xs ++ news) → But (fun k => v.ownBlock = some k) w w' → R (a.put o.dst v') w') : ptStep P O ops Q i R a w :=
  ⟨o, hi, hw, by
    obtain ⟨v', w', hr, h2, h3, h4, h5⟩ := run_app_at T o.type w base v n xs hown xv m news hsl h1 h63 hbytes hbase
    have hb : But (fun k => v.ownBlock = some k) w w' := But.grown h3 (fun r hr => .inl hr)
    unfold Oper.wp execOp
    simp only [ho, resolve, invoke, builtin, Sem.run_bind, Sem.run_pure, Result.andThen_ok, List.map_toArray, List.map_cons, List.map_nil, hs, hx, hr]
    exact ⟨hb.mono fun j _ e => hO j (own_of_some hown e).1, h v' w' h2 hb⟩⟩
end

section
variable {α : Type} {cells : α → List Value} {sz : Nat}
theorem blk_of (k j t : Nat) (hk : 0 < k) : (j * k ≤ t ∧ t < j * k + k) ↔ t / k = j := by
  constructor
  · rintro ⟨h1, h2⟩
    exact Nat.div_eq_of_lt_le h1 (by rw [Nat.add_mul, Nat.one_mul]; exact h2)
  · rintro rfl
    have a := Nat.div_mul_le_self t k
    have b := Nat.lt_mul_div_succ t hk
    rw [Nat.mul_add, Nat.mul_one, Nat.mul_comm] at b
    exact ⟨a, b⟩
theorem set_recG (hsz : ∀ x, (cells x).length = sz) (h0 : 0 < sz) {M : List α} {cur : Array Value} {i : Nat} (x : α) (hi : i < M.length) (hc : M.length * sz ≤ cur.size) (h : cur.toList.take (M.length * sz) = M.flatMap cells) :
    (setAllA cur (i * sz) (cells x)).toList.take (M.length * sz) = (M.set i x).flatMap cells := by
  have hil : i * sz + (cells x).length ≤ cur.size := by
    rw [hsz]
    have := Nat.mul_le_mul_right sz (show i + 1 ≤ M.length from hi)
    rw [Nat.add_mul, Nat.one_mul] at this; omega
  refine List.ext_getElem? fun q => ?_
  by_cases hq : q < M.length * sz
  · have hj : q / sz < M.length := (Nat.div_lt_iff_lt_mul h0).2 hq
    have hqe : q / sz * sz + q % sz = q := by rw [Nat.mul_comm]; exact Nat.div_add_mod q sz
    have hr : q % sz < sz := Nat.mod_lt _ h0
    have hold : cur[q]? = (cells M[q / sz])[q % sz]? := by
      have h1 : (cur.toList.take (M.length * sz))[q]? = cur[q]? := by rw [List.getElem?_take_of_lt hq, Array.getElem?_toList]
      rw [← h1, h]
      have := rec_get hsz M (q / sz) hj (q % sz) hr
      rwa [hqe] at this
    rw [List.getElem?_take_of_lt hq, Array.getElem?_toList, setAllA_get _ _ _ _ hil, hsz]
    have hrhs := rec_get hsz (M.set i x) (q / sz) (by simpa using hj) (q % sz) hr
    rw [hqe] at hrhs
    rw [hrhs]
    by_cases hji : q / sz = i
    · rw [if_pos ((blk_of sz i q h0).2 hji)]
      have : (M.set i x)[q / sz]'(by simpa using hj) = x := by simp [hji]
      rw [this, show q - i * sz = q % sz by rw [← hji]; omega]
    · rw [if_neg (fun e => hji ((blk_of sz i q h0).1 e)), hold]
      have : (M.set i x)[q / sz]'(by simpa using hj) = M[q / sz] := by rw [List.getElem_set_ne (fun e => hji e.symm)]
      rw [this]
  · rw [List.getElem?_eq_none (by rw [List.length_take]; omega), List.getElem?_eq_none (by rw [rec_len hsz, List.length_set]; omega)]
theorem sl_of_rowG (hsz : ∀ x, (cells x).length = sz) {w : World} {T : TypeId} {g cap n : Nat} {cur : Array Value} {M : List α} (h : RowAt w g cur T) (hn : M.length = n) (hcap : n ≤ cap) (hmx : cap ≤ maxLen) (ht : cur.toList.take (n * sz) = M.flatMap cells) :
    Sl w sz (.slice (some ⟨g, 0, none⟩) n cap) n (M.flatMap cells) := by
  refine ⟨by rw [rec_len hsz, hn], .inr ⟨g, 0, cap, rfl, hcap, hmx, fun j u hj => ?_⟩⟩
  have hlt : j < n * sz := by
    have := (List.getElem?_eq_some_iff.1 hj).1
    rwa [rec_len hsz, hn] at this
  rw [← ht, List.getElem?_take_of_lt hlt, Array.getElem?_toList] at hj
  rw [Nat.zero_add]
  exact h.cell hj
/-- What owns a row: its block. -/
theorem own_row {w : World} {base : Nat} {T : TypeId} {v : Value} {n : Nat} {xs : List Value} (h : w.ownsRow base T sz v n xs) (hn : 0 < n) :
    ∃ g cap cur, v = .slice (some ⟨g, 0, none⟩) n cap ∧ base ≤ g ∧ RowAt w g cur T ∧ n ≤ cap ∧ cap ≤ maxLen ∧ cur.size = cap * sz ∧ cur.toList.take (n * sz) = xs := by
  rcases h.2 with ⟨_, h0⟩ | ⟨g, cap, cur, h1, h2, h3, h4, h5, h6, h7⟩
  · omega
  · exact ⟨g, cap, cur, h1, h2, h3, h4, h5, h6, h7⟩
end
end Go.Proofs.Ytfoncaamhleckaa
