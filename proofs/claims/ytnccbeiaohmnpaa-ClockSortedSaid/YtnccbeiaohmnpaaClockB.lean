/-
  Contracts of clock's functions over lists of numbers.
-/
import Derived.Test.YtnccbeiaohmnpaaClockA
import Derived.Test.YtnccbeiaohmnpaaSlice
namespace Go.Proofs.Ytnccbeiaohmnpaa
open Go.RowKit

theorem slT_u64 : SlT Try.prog 52 22 1 8 := SlT.mk' Try.underlying52 (z := .int .u64 0) (by kernel_rfl) rfl (by decide)

/-- slices.Clone of numbers. -/
theorem cloneU_c (l : List Int) (v : Value) (n : Nat) (w : World) (hv : Sl w 1 v n (l.map (.int .u64))) (hn : n * 8 ≤ 140737488351232) :
    Calls Try.prog 47 #[v] w fun e w' => ∃ v', e = .returned v' ∧ w'.ownsRow w.heap.size 22 1 v' n (l.map (.int .u64)) ∧ Below w.heap.size w w' := by
  obtain ⟨a, c, rfl⟩ := hv.len
  have he := fun (w : World) (a : Option Addr) (n c : Nat) => Lib.run_eql_slice_nil (P := Try.prog) w 52 22 a n c 0 0 Try.underlying52
  cases a with
  | none =>
    have h0 : n = 0 ∧ l = [] := by
      obtain ⟨hl, ⟨a, c, h1, rfl⟩ | ⟨b, off, cap, h1, _⟩⟩ := hv
      · exact ⟨rfl, by simpa using hl⟩
      · simp at h1
    obtain ⟨rfl, rfl⟩ := h0
    go_enter Try.func47, Try.ntmps47
    go_wp2
    go_ret
    exact ⟨_, rfl, World.ownsRow_nil _ _ _ _, Below.refl _ _⟩
  | some a =>
    go_enter Try.func47, Try.ntmps47
    go_wp2_with (at_builtin; refine wpList_app rfl _ _ 52 rfl slT_u64 w.heap.size rfl (World.ownsRow_lit w #[] 0 (Nat.le_refl _) (by decide) rfl) rfl (hv.up ((Below.refl _ _).alloc (Nat.le_refl _) _)) (one_int _ _) (by simp [maxLen]; omega) (by omega) (by simp) ?_; intro v' w1 hown hgrow _)
    go_ret
    exact ⟨v', rfl, by simpa using hown, grown_below ((Below.refl _ _).alloc (Nat.le_refl _) _) hgrow (fun k hk => by have : w.heap.size = k := Option.some.inj hk; omega)⟩

namespace Clk
def topTo (l : List Int) (k : Nat) : List Int := (l.take k).map topF ++ l.drop k
theorem topTo_zero (l : List Int) : topTo l 0 = l := by simp [topTo]
theorem topTo_all (l : List Int) (k : Nat) (h : l.length ≤ k) : topTo l k = l.map topF := by simp [topTo, List.take_of_length_le h, List.drop_eq_nil_of_le h]
theorem topTo_len (l : List Int) (k : Nat) : (topTo l k).length = l.length := by simp [topTo]; omega
theorem topTo_get (l : List Int) (k : Nat) (h : k < l.length) : (topTo l k)[k]? = l[k]? := by
  simp [topTo, List.getElem?_append, List.length_take, Nat.min_eq_left (Nat.le_of_lt h)]
theorem topTo_set (l : List Int) (k : Nat) (h : k < l.length) : (topTo l k).set k (topF l[k]) = topTo l (k + 1) := by
  apply List.ext_getElem?
  intro j
  simp only [topTo, List.getElem?_set, List.getElem?_append, List.length_map, List.length_take, List.getElem?_map, List.getElem?_take, List.getElem?_drop, List.length_append, List.length_drop]
  rcases Nat.lt_trichotomy j k with hj | rfl | hj
  · rw [if_neg (by omega), if_pos (by omega), if_pos (by omega), if_pos (by omega), if_pos (by omega)]
  · rw [if_pos rfl, if_pos (by omega), if_pos (by omega), if_pos (by omega), List.getElem?_eq_getElem h]; rfl
  · rw [if_neg (by omega), if_neg (by omega), if_neg (by omega)]; congr 1; omega
end Clk

/-- clock.times. -/
theorem times_c (l : List Int) (v : Value) (n : Nat) (w : World) (hv : Sl w 1 v n (l.map (.int .u64))) (hn : n * 8 ≤ 140737488351232) :
    Calls Try.prog 31 #[v] w fun e w' => ∃ v', e = .returned v' ∧ w'.ownsRow w.heap.size 22 1 v' n ((l.map Clk.topF).map (.int .u64)) ∧ Below w.heap.size w w' := by
  have hln : l.length = n := by have := hv.1; simpa using this
  have Hln := Lib.hid hln; clear hln
  go_enter Try.func31, Try.ntmps31
  go_wp2_with (go_at_call 47; refine (cloneU_c l v n _ hv hn).mono ?_; rintro e w1 ⟨v1, rfl, hown, hb⟩; obtain ⟨a1, c1, rfl⟩ := (Sl.of_own hown).len)
  go_loopw [10] (fun i wr => ∃ k : Nat, k ≤ n ∧ i = .int .i64 k ∧ wr.ownsRow w.heap.size 22 1 (.slice a1 n c1) n ((Clk.topTo l k).map (.int .u64)) ∧ Below w.heap.size w wr) (fun i _ => n - (intOf i).toNat)
  case atStart => exact ⟨0, Nat.zero_le _, rfl, by rw [Clk.topTo_zero]; exact hown, hb⟩
  case round =>
    obtain ⟨k, hk, rfl, ho, hB⟩ := hrel
    have hm : n ≤ 9223372036854775807 := by omega
    by_cases hlt : k < n
    · obtain ⟨g, rfl, hg0, hg1⟩ := own_some ho (by omega)
      have hlt' : k < l.length := by rw [Hln.out]; exact hlt
      have hc : wr.cell? ⟨g, k, none⟩ = some (.int .u64 l[k]) := by
        rw [ho.cellAt k (by omega)]; simp [Clk.topTo_get l k hlt', hlt']
      have hf := ho.frozenAt k
      have hst := ho.stored k (.int .u64 (Clk.topF l[k]))
      have Hst := Lib.hid hst; clear hst ho hown
      go_wp2_with (go_at_call 30; refine (top_c _ _).mono ?_; rintro e w1 ⟨rfl, rfl⟩)
      go_roundw
      case rel => exact ⟨k + 1, by omega, by go_num, by rw [← Clk.topTo_set l k hlt', List.map_set]; exact Hst.out.1, hB.setCell hg0 _⟩
      case measure => simp [intOf]; omega
    · obtain rfl : k = n := by omega
      go_wp2
      go_ret
      exact ⟨_, rfl, by rw [← Clk.topTo_all l k (by rw [Hln.out]; exact Nat.le_refl _)]; exact ho, hB⟩

namespace Clk
/-- The place of the first that is such; below 0: none is. -/
def idx {α : Type} (p : α → Bool) (l : List α) : Int := match l.findIdx? p with | some i => i | none => -1
theorem idx_some {α : Type} {p : α → Bool} {l : List α} {k : Nat} (hk : k < l.length) (h : ∀ j, j < k → ∀ hj : j < l.length, p l[j] = false) (hp : p l[k] = true) : idx p l = k := by
  have : l.findIdx? p = some k := by
    rw [List.findIdx?_eq_some_iff_getElem]
    exact ⟨hk, hp, fun j hj => by simp [h j hj (by omega)]⟩
  simp [idx, this]
theorem idx_none {α : Type} {p : α → Bool} {l : List α} (h : ∀ j, ∀ hj : j < l.length, p l[j] = false) : idx p l = -1 := by
  have : l.findIdx? p = none := by
    rw [List.findIdx?_eq_none_iff]
    intro x hx
    obtain ⟨j, hj, rfl⟩ := List.getElem_of_mem hx
    exact h j hj
  simp [idx, this]
theorem idx_any {α : Type} (p : α → Bool) (l : List α) : decide (0 ≤ idx p l) = l.any p := by
  unfold idx
  cases h : l.findIdx? p with
  | none =>
    rw [List.findIdx?_eq_none_iff] at h
    have : l.any p = false := by rw [List.any_eq_false]; intro x hx; simp [h x hx]
    rw [this]; rfl
  | some i =>
    have : l.any p = true := by
      rw [List.findIdx?_eq_some_iff_getElem] at h
      obtain ⟨hi, hp, _⟩ := h
      exact List.any_eq_true.2 ⟨l[i], List.getElem_mem hi, hp⟩
    rw [this]; simp
end Clk

/-- slices.IndexFunc of numbers. -/
theorem indexU_c (l : List Int) (v : Value) (n : Nat) (w : World) (hv : Sl w 1 v n (l.map (.int .u64))) (hn : n * 8 ≤ 140737488351232) (f : FuncId) (hf : Enters Try.prog f) (caps : Array Value) (p : Int → Bool)
    (hp : ∀ x ∈ l, ∀ w1, Below w.heap.size w w1 → Calls Try.prog f (#[.int .u64 x] ++ caps) w1 (Ret (.bool (p x)) w1)) :
    Calls Try.prog 54 #[v, .func (.func f) #[] caps] w (Ret (.int .i64 (Clk.idx p l)) w) := by
  have hln : l.length = n := by have := hv.1; simpa using this
  obtain ⟨a1, c1, rfl⟩ := hv.len
  have Hln := Lib.hid hln; clear hln
  go_enter Try.func54, Try.ntmps54
  go_wp2
  go_loopw [8] (fun i wr => ∃ k : Nat, k ≤ n ∧ i = .int .i64 k ∧ (∀ j, j < k → ∀ hj : j < l.length, p l[j] = false) ∧ Below w.heap.size w wr) (fun i _ => n - (intOf i).toNat)
  case atStart => exact ⟨0, Nat.zero_le _, rfl, by intro j hj; omega, Below.refl _ _⟩
  case round =>
    obtain ⟨k, hk, rfl, hno, hB⟩ := hrel
    have hm : n ≤ 9223372036854775807 := by omega
    have Hno := Lib.hid hno; clear hno
    by_cases hlt : k < n
    · have hlt' : k < l.length := by rw [Hln.out]; exact hlt
      obtain ⟨b, off, rfl, hc⟩ := (hv.up hB).cellAt (k := k) (by omega) (by omega)
      have hc1 : wr.cell? ⟨b, off + k, none⟩ = some (.int .u64 l[k]) := by
        simpa [hlt'] using hc
      have hcall := hp l[k] (List.getElem_mem hlt') wr hB
      unfold Enters at hf
      by_cases hpk : p l[k] = true
      · rw [hpk] at hcall
        have Hpk := Lib.hid hpk; clear hpk
        go_wp2_with (refine hcall.mono ?_; rintro e w1 ⟨rfl, hb⟩)
        go_ret
        exact ⟨retI (Clk.idx_some hlt' Hno.out Hpk.out).symm, hB.trans (hb.mono hB.size)⟩
      · have hpk : p l[k] = false := by simpa using hpk
        rw [hpk] at hcall
        have Hpk := Lib.hid hpk; clear hpk
        go_wp2_with (refine hcall.mono ?_; rintro e w1 ⟨rfl, hb⟩)
        go_roundw
        case rel =>
          refine ⟨k + 1, by omega, by go_num, fun j hj hj' => ?_, hB.trans (hb.mono hB.size)⟩
          rcases Nat.lt_or_ge j k with h | h
          · exact Hno.out j h hj'
          · obtain rfl : j = k := by omega
            exact Hpk.out
        case measure => simp [intOf]; omega
    · obtain rfl : k = n := by omega
      go_wp2
      go_ret
      exact ⟨retI (Clk.idx_none fun j hj => Hno.out j (by rw [← Hln.out]; exact hj) hj).symm, hB⟩
end Go.Proofs.Ytnccbeiaohmnpaa
