/-
  Contracts: slices.Contains and ContainsFunc at trace's types; says, rises, once.
-/
import Derived.Test.YthlgoclidgfejaaTraceA
import Derived.Test.YthlgoclidgfejaaRec
namespace Go.Proofs.Ythlgoclidgfejaa
open Go.RowKit Trc
set_option linter.unusedSimpArgs false
set_option linter.unusedVariables false

/-- slices.Index of numbers. -/
theorem indexK_c (l : List Int) (v : Value) (n : Nat) (x : Int) (w : World) (hv : Sl w 1 v n (l.map (.int .i64))) (hn : n ≤ 9223372036854775807) :
    Calls Try.prog 59 #[v, .int .i64 x] w fun e w' => e = .returned (.int .i64 (idx (fun y => x == y) l)) ∧ w = w' := by
  have hln : l.length = n := by have := hv.1; simpa using this
  obtain ⟨a1, c1, rfl⟩ := hv.len
  have Hln := Lib.hid hln; clear hln
  go_enter Try.func59, Try.ntmps59
  go_wp2
  go_loop [8] (fun i => ∃ k : Nat, k ≤ n ∧ i = .int .i64 k ∧ (∀ j, j < k → ∀ hj : j < l.length, (x == l[j]) = false)) (fun i => n - (intOf i).toNat)
  case atStart => exact ⟨0, Nat.zero_le _, rfl, by intro j hj; omega⟩
  case round =>
    obtain ⟨k, hk, rfl, hno⟩ := hrel
    have Hno := Lib.hid hno; clear hno
    by_cases hlt : k < n
    · have hlt' : k < l.length := by rw [Hln.out]; exact hlt
      obtain ⟨b, off, rfl, hc⟩ := hv.cellAt (k := k) (by omega) (by omega)
      have hc1 : w.cell? ⟨b, off + k, none⟩ = some (.int .i64 l[k]) := by
        simpa [hlt'] using hc
      clear hc
      cases hpk : (x == l[k]) with
      | true =>
        go_wp2
        go_ret
        exact ⟨retI (idx_some (p := fun y => x == y) hlt' Hno.out hpk).symm, rfl⟩
      | false =>
        go_wp2
        go_round
        case rel =>
          refine ⟨k + 1, by omega, by go_num, fun j hj hj' => ?_⟩
          rcases Nat.lt_or_ge j k with h | h
          · exact Hno.out j h hj'
          · obtain rfl : j = k := by omega
            exact hpk
        case measure => simp [intOf]; omega
    · obtain rfl : k = n := by omega
      go_wp2
      go_ret
      exact ⟨retI (idx_none (p := fun y => x == y) fun j hj => Hno.out j (by rw [← Hln.out]; exact hj) hj).symm, rfl⟩

theorem containsK_c (l : List Int) (v : Value) (n : Nat) (x : Int) (w : World) (hv : Sl w 1 v n (l.map (.int .i64))) (hn : n ≤ 9223372036854775807) :
    Calls Try.prog 49 #[v, .int .i64 x] w fun e w' => e = .returned (.bool (l.any fun y => x == y)) ∧ w = w' := by
  go_enter Try.func49, Try.ntmps49
  go_wp2_with (go_at_call 59; refine (indexK_c l v n x _ hv hn).mono ?_; rintro e w1 ⟨rfl, rfl⟩)
  go_ret
  exact ⟨retB (idx_any _ l), rfl⟩


set_option maxRecDepth 100000 in
/-- slices.IndexFunc of packsaddle/api.Event. -/
theorem indexE_c (l : List Ev) (v : Value) (n : Nat) (w : World) (hv : Sl w 16 v n (l.flatMap evC)) (hn : n ≤ 9223372036854775807) (f : FuncId) (hf : Enters Try.prog f) (caps : Array Value) (p : Ev → Bool)
    (hp : ∀ x ∈ l, ∀ w1, Below w.heap.size w w1 → Calls Try.prog f (#[evV x] ++ caps) w1 (Ret (.bool (p x)) w1)) :
    Calls Try.prog 50 #[v, .func (.func f) #[] caps] w (Ret (.int .i64 (idx p l)) w) := by
  have Hln := Lib.hid (Sl.recs (cells := evC) (sz := 16) (fun _ => rfl) (by decide) hv)
  obtain ⟨a1, c1, rfl⟩ := hv.len
  go_enter Try.func50, Try.ntmps50
  go_wp2
  go_loopw [8] (fun i wr => ∃ k : Nat, k ≤ n ∧ i = .int .i64 k ∧ (∀ j, j < k → ∀ hj : j < l.length, p l[j] = false) ∧ Below w.heap.size w wr) (fun i _ => n - (intOf i).toNat)
  case atStart => exact ⟨0, Nat.zero_le _, rfl, by intro j hj; omega, Below.refl _ _⟩
  case round =>
    obtain ⟨k, hk, rfl, hno, hB⟩ := hrel
    have Hno := Lib.hid hno; clear hno
    by_cases hlt : k < n
    · have hlt' : k < l.length := by rw [Hln.out]; exact hlt
      obtain ⟨b, off, rfl, hr⟩ := (hv.up hB).rec_at (cells := evC) (sz := 16) (fun _ => rfl) hlt hlt'
      have hcall := hp l[k] (List.getElem_mem hlt') wr hB
      have Hidx := Lib.hid (fun h : p l[k] = true => idx_some hlt' Hno.out h)
      have Hstep := Lib.hid (fun (h : p l[k] = false) j (hj : j < k + 1) (hj' : j < l.length) => (show p l[j] = false from by
        rcases Nat.lt_or_ge j k with h' | h'
        · exact Hno.out j h' hj'
        · obtain rfl : j = k := by omega
          exact h))
      unfold Enters at hf
      generalize l[k] = x at *
      cases hpk : p x with
      | true =>
        rw [hpk] at hcall
        have Hpk := Lib.hid hpk; clear hpk
        go_wp2_with (first
          | (refine wpList_load_mid rfl 48 (.tmp 14) rfl b (off + k * 16) rfl (evC x) _ hr Try.underlying48 rfl (by kernel_rfl) ?_)
          | (refine hcall.mono ?_; rintro e w1 ⟨rfl, hb⟩))
        go_ret
        exact ⟨retI (Hidx.out Hpk.out).symm, hB.trans (hb.mono hB.size)⟩
      | false =>
        rw [hpk] at hcall
        have Hpk := Lib.hid hpk; clear hpk
        go_wp2_with (first
          | (refine wpList_load_mid rfl 48 (.tmp 14) rfl b (off + k * 16) rfl (evC x) _ hr Try.underlying48 rfl (by kernel_rfl) ?_)
          | (refine hcall.mono ?_; rintro e w1 ⟨rfl, hb⟩))
        go_roundw
        case rel => exact ⟨k + 1, by omega, by go_num, Hstep.out Hpk.out, hB.trans (hb.mono hB.size)⟩
        case measure => simp [intOf]; omega
    · obtain rfl : k = n := by omega
      go_wp2
      go_ret
      exact ⟨retI (idx_none fun j hj => Hno.out j (by rw [← Hln.out]; exact hj) hj).symm, hB⟩

theorem containsE_c (l : List Ev) (v : Value) (n : Nat) (w : World) (hv : Sl w 16 v n (l.flatMap evC)) (hn : n ≤ 9223372036854775807) (f : FuncId) (hf : Enters Try.prog f) (caps : Array Value) (p : Ev → Bool)
    (hp : ∀ x ∈ l, ∀ w1, Below w.heap.size w w1 → Calls Try.prog f (#[evV x] ++ caps) w1 (Ret (.bool (p x)) w1)) :
    Calls Try.prog 36 #[v, .func (.func f) #[] caps] w (Ret (.bool (l.any p)) w) := by
  go_enter Try.func36, Try.ntmps36
  go_wp2_with (go_at_call 50; refine (indexE_c l v n _ hv hn f hf caps p hp).mono ?_; rintro e w1 ⟨rfl, hb⟩)
  go_ret
  exact ⟨retB (idx_any p l), hb⟩

theorem slK (w : World) (k : Nat) (hk : k = w.heap.size) (T : TypeId) : Sl (w.alloc (.cells #[.int .i64 3, .int .i64 15, .int .i64 16] T)) 1 (.slice (some ⟨k, 0, none⟩) 3 3) 3 ([3, 15, 16].map (.int .i64)) := by
  subst hk
  refine ⟨by simp, .inr ⟨w.heap.size, 0, 3, rfl, by decide, by decide, fun j u hj => ?_⟩⟩
  have : (w.alloc (.cells #[.int .i64 3, .int .i64 15, .int .i64 16] T)).heap[w.heap.size]? = some (.cells #[.int .i64 3, .int .i64 15, .int .i64 16] T) := heap_alloc_new w _
  simp only [World.cell?, this, Nat.zero_add]
  simpa using hj

theorem saysT_c (e : Ev) (w : World) : Calls Try.prog 35 #[evV e] w (Ret (.bool (saysB e)) w) := by
  have hs : ([3, 15, 16].any fun y => e.kind == y) = saysB e := by simp [saysB, Bool.or_assoc]
  go_enter Try.func35, Try.ntmps35
  go_wp2_with (go_at_call 49; refine (containsK_c [3, 15, 16] _ 3 e.kind _ (slK _ _ (by simp) _) (by decide)).mono ?_; rw [hs]; rintro e w1 ⟨rfl, rfl⟩)
  go_ret
  exact ⟨rfl, (below_alloc _ _).alloc (by simp) _⟩
end Go.Proofs.Ythlgoclidgfejaa
