/-
  Contracts of Counts and of the reference's.
-/
import Derived.Test.YthlgoclidgfejaaTraceE
import Derived.Test.YthlgoclidgfejaaRow
namespace Go.Proofs.Ythlgoclidgfejaa
open Go.RowKit Trc
set_option linter.unusedSimpArgs false
set_option linter.unusedVariables false

namespace Trc
def cnt (l : List Ev) (i : Int) : Nat := l.countP fun e => e.got == i
theorem cnt_snoc (l : List Ev) (e : Ev) (i : Int) : cnt (l ++ [e]) i = cnt l i + if e.got = i then 1 else 0 := by
  unfold cnt
  rw [List.countP_append]
  by_cases h : e.got = i <;> simp [h]
theorem cnt_le (l : List Ev) (i : Int) : cnt l i ≤ l.length := List.countP_le_length
end Trc
abbrev cntA (l : List Ev) : Array Value := #[.int .i64 (cnt l 0), .int .i64 (cnt l 1), .int .i64 (cnt l 2), .int .i64 (cnt l 3), .int .i64 (cnt l 4), .int .i64 (cnt l 5), .int .i64 (cnt l 6)]

theorem got7 {g : Int} (h : gotB g = true) : g = 0 ∨ g = 1 ∨ g = 2 ∨ g = 3 ∨ g = 4 ∨ g = 5 ∨ g = 6 := by simp [gotB] at h; omega
theorem cntA_get (l : List Ev) {g : Int} (h : gotB g = true) : (cntA l)[g.toNat]? = some (.int .i64 (cnt l g)) := by
  rcases got7 h with rfl | rfl | rfl | rfl | rfl | rfl | rfl <;> rfl
theorem cntA_set (l : List Ev) (x : Ev) (h : gotB x.got = true) : cntA (l ++ [x]) = (cntA l).setIfInBounds x.got.toNat (.int .i64 ((cnt l x.got : Nat) + 1 : Int)) := by
  simp only [cntA, cnt_snoc]
  rcases got7 h with h | h | h | h | h | h | h <;> simp [h]
theorem cntA_not (l : List Ev) (x : Ev) (h : gotB x.got = false) : cntA (l ++ [x]) = cntA l := by
  have : ∀ i : Int, 0 ≤ i → i ≤ 6 → ¬ x.got = i := fun i h1 h2 e => by simp [gotB] at h; omega
  simp only [cntA, cnt_snoc]
  simp [this]

set_option maxHeartbeats 1000000 in
set_option maxRecDepth 100000 in
theorem countsT_c (l : List Ev) (v : Value) (n : Nat) (w : World) (hv : Sl w 16 v n (l.flatMap evC)) (hn : n ≤ 4096) :
    Calls Try.prog 10 #[v] w (Ret (.agg (cntA l)) w) := by
  have hln := Sl.recs (cells := evC) (sz := 16) (fun _ => rfl) (by decide) hv
  obtain ⟨a, c, rfl⟩ := hv.len
  have Hln := Lib.hid hln
  clear hln
  go_enter Try.func10, Try.ntmps10
  go_wp2
  go_loopw [7] (fun i wr => ∃ k : Nat, k ≤ n ∧ i = .int .i64 k ∧ RowAt wr w.heap.size (cntA (l.take k)) 30 ∧ Below w.heap.size w wr) (fun i _ => n - (intOf i).toNat)
  case atStart => exact ⟨0, Nat.zero_le _, rfl, RowAt.new w (cntA []) _, below_alloc _ _⟩
  case round =>
    obtain ⟨k, hk, rfl, hrow, hB⟩ := hrel
    by_cases hlt : k < n
    · have hlt' : k < l.length := by rw [Hln.out]; exact hlt
      obtain ⟨b, off, rfl, hr⟩ := (hv.up hB).rec_at (cells := evC) (sz := 16) (fun _ => rfl) hlt hlt'
      have hkn : (k : Int) < (n : Int) := by omega
      have Hs := Lib.hid (List.take_succ_eq_append_getElem hlt')
      generalize l[k] = x at *
      cases hg : gotB x.got with
      | false =>
        have hn' := cntA_not (l.take k) x hg
        rw [← Hs.out] at hn'
        have Hn := Lib.hid hn'
        clear hn'
        go_wp2_with (first
          | (refine wpList_load_mid rfl 48 (.tmp 9) rfl b (off + k * 16) rfl (evC x) _ hr Try.underlying48 rfl (by kernel_rfl) ?_)
          | (go_at_call 24; refine (gotT_c _ _).mono ?_; rw [hg]; rintro e w1 ⟨rfl, rfl⟩))
        go_roundw
        case rel => exact ⟨k + 1, by omega, by go_num, by rw [Hn.out]; exact hrow.alloc _, hB.alloc hB.size _⟩
        case measure => simp [intOf]; omega
      | true =>
        have hs' := cntA_set (l.take k) x hg
        rw [← Hs.out] at hs'
        have hcl := hrow.cell (cntA_get (l.take k) hg)
        have hfz := hrow.fz x.got.toNat
        have hle := cnt_le (l.take k) x.got
        rw [List.length_take] at hle
        have h7 := got7 hg
        have h70 : 0 ≤ x.got := by omega
        have h77 : x.got < 7 := by omega
        generalize cnt (l.take k) x.got = d at *
        have Hs' := Lib.hid hs'
        have H7 := Lib.hid h7
        clear hs' h7
        go_wp2_with (first
          | (refine wpList_load_mid rfl 48 (.tmp 9) rfl b (off + k * 16) rfl (evC x) _ hr Try.underlying48 rfl (by kernel_rfl) ?_)
          | (go_at_call 24; refine (gotT_c _ _).mono ?_; rw [hg]; rintro e w1 ⟨rfl, rfl⟩))
        go_roundw
        case rel => exact ⟨k + 1, by omega, by go_num, by rw [Hs'.out]; exact (hrow.alloc _).set _ _, (hB.alloc hB.size _).setCell (Nat.le_refl _) _⟩
        case measure => simp [intOf]; omega
    · obtain rfl : k = n := by omega
      have hall : l.take k = l := List.take_of_length_le (by rw [Hln.out]; exact Nat.le_refl _)
      rw [hall] at hrow
      have c0 : wr.cell? ⟨w.heap.size, 0, none⟩ = some (.int .i64 (cnt l 0)) := hrow.cell rfl
      have s0 : wr.setCell ⟨w.heap.size, 0, none⟩ (.int .i64 (cnt l 0)) = wr := hrow.same rfl
      have f0 := hrow.fz 0
      have c1 : wr.cell? ⟨w.heap.size, 1, none⟩ = some (.int .i64 (cnt l 1)) := hrow.cell rfl
      have s1 : wr.setCell ⟨w.heap.size, 1, none⟩ (.int .i64 (cnt l 1)) = wr := hrow.same rfl
      have f1 := hrow.fz 1
      have c2 : wr.cell? ⟨w.heap.size, 2, none⟩ = some (.int .i64 (cnt l 2)) := hrow.cell rfl
      have s2 : wr.setCell ⟨w.heap.size, 2, none⟩ (.int .i64 (cnt l 2)) = wr := hrow.same rfl
      have f2 := hrow.fz 2
      have c3 : wr.cell? ⟨w.heap.size, 3, none⟩ = some (.int .i64 (cnt l 3)) := hrow.cell rfl
      have s3 : wr.setCell ⟨w.heap.size, 3, none⟩ (.int .i64 (cnt l 3)) = wr := hrow.same rfl
      have f3 := hrow.fz 3
      have c4 : wr.cell? ⟨w.heap.size, 4, none⟩ = some (.int .i64 (cnt l 4)) := hrow.cell rfl
      have s4 : wr.setCell ⟨w.heap.size, 4, none⟩ (.int .i64 (cnt l 4)) = wr := hrow.same rfl
      have f4 := hrow.fz 4
      have c5 : wr.cell? ⟨w.heap.size, 5, none⟩ = some (.int .i64 (cnt l 5)) := hrow.cell rfl
      have s5 : wr.setCell ⟨w.heap.size, 5, none⟩ (.int .i64 (cnt l 5)) = wr := hrow.same rfl
      have f5 := hrow.fz 5
      have c6 : wr.cell? ⟨w.heap.size, 6, none⟩ = some (.int .i64 (cnt l 6)) := hrow.cell rfl
      have s6 : wr.setCell ⟨w.heap.size, 6, none⟩ (.int .i64 (cnt l 6)) = wr := hrow.same rfl
      have f6 := hrow.fz 6
      clear hrow
      go_wp2
      exact bodyPost_ret (v := .agg (cntA l)) (by simp [results, Try.results10, go_sem, c0, c1, c2, c3, c4, c5, c6]) rfl ⟨rfl, hB⟩

set_option maxHeartbeats 1000000 in
set_option maxRecDepth 100000 in
theorem countsR_c (l : List Ev) (v : Value) (n : Nat) (w : World) (hv : Sl w 16 v n (l.flatMap evC)) (hn : n ≤ 4096) :
    Calls Try.prog 11 #[v] w (Ret (.agg (cntA l)) w) := by
  have hln := Sl.recs (cells := evC) (sz := 16) (fun _ => rfl) (by decide) hv
  obtain ⟨a, c, rfl⟩ := hv.len
  have Hln := Lib.hid hln
  clear hln
  go_enter Try.func11, Try.ntmps11
  go_wp2
  go_loopw [4, 5] (fun i _ wr => ∃ k : Nat, k ≤ n ∧ i = .int .i64 k ∧ RowAt wr w.heap.size (cntA []) 30 ∧ RowAt wr (w.heap.size + 1) (cntA (l.take k)) 30 ∧ Below w.heap.size w wr) (fun i _ _ => n - (intOf i).toNat)
  case atStart => exact ⟨0, Nat.zero_le _, rfl, (RowAt.new w (cntA []) _).alloc _, by have := RowAt.new (w.alloc (.cells (cntA []) 30)) (cntA []) 30; rw [show (w.alloc (.cells (cntA []) 30)).heap.size = w.heap.size + 1 by simp] at this; exact this, (below_alloc _ _).alloc (by simp) _⟩
  case round =>
    obtain ⟨k, hk, rfl, hrow0, hrow, hB⟩ := hrel
    by_cases hlt : k < n
    · have hlt' : k < l.length := by rw [Hln.out]; exact hlt
      obtain ⟨b, off, rfl, hr⟩ := (hv.up hB).rec_at (cells := evC) (sz := 16) (fun _ => rfl) hlt hlt'
      have hkn : (k : Int) < (n : Int) := by omega
      have Hs := Lib.hid (List.take_succ_eq_append_getElem hlt')
      have h9 := hr 9 _ rfl
      generalize l[k] = x at *
      clear hr
      cases hg : gotB x.got with
      | false =>
        have hn' := cntA_not (l.take k) x hg
        rw [← Hs.out] at hn'
        have Hn := Lib.hid hn'
        have hgd : x.got < 0 ∨ (¬ x.got < 0 ∧ 6 < x.got) := by simp [gotB] at hg; omega
        clear hn' hg
        rcases hgd with h | ⟨h, h'⟩
        · have h0 : ¬ 0 ≤ x.got := by omega
          go_wp2
          go_roundw
          case rel => exact ⟨k + 1, by omega, by go_num, hrow0, by rw [Hn.out]; exact hrow, hB⟩
          case measure => simp [intOf]; omega
        · have h0 : 0 ≤ x.got := by omega
          have h6 : ¬ x.got ≤ 6 := by omega
          go_wp2
          go_roundw
          case rel => exact ⟨k + 1, by omega, by go_num, hrow0, by rw [Hn.out]; exact hrow, hB⟩
          case measure => simp [intOf]; omega
      | true =>
        have hs' := cntA_set (l.take k) x hg
        rw [← Hs.out] at hs'
        have hcl := hrow.cell (cntA_get (l.take k) hg)
        have hfz := hrow.fz x.got.toNat
        have hle := cnt_le (l.take k) x.got
        rw [List.length_take] at hle
        have h7 := got7 hg
        have h70 : 0 ≤ x.got := by omega
        have h76 : x.got ≤ 6 := by omega
        have h77 : x.got < 7 := by omega
        generalize cnt (l.take k) x.got = d at *
        have Hs' := Lib.hid hs'
        have H7 := Lib.hid h7
        clear hs' h7 hg
        go_wp2
        go_roundw
        case rel => exact ⟨k + 1, by omega, by go_num, hrow0.other (by simp) _, by rw [Hs'.out]; exact hrow.set _ _, hB.setCell (by simp) _⟩
        case measure => simp [intOf]; omega
    · obtain rfl : k = n := by omega
      have hall : l.take k = l := List.take_of_length_le (by rw [Hln.out]; exact Nat.le_refl _)
      rw [hall] at hrow
      have c0 : wr.cell? ⟨w.heap.size + 1, 0, none⟩ = some (.int .i64 (cnt l 0)) := hrow.cell rfl
      have z0 : wr.cell? ⟨w.heap.size, 0, none⟩ = some (.int .i64 0) := hrow0.cell rfl
      have f0 := hrow0.fz 0
      have c1 : wr.cell? ⟨w.heap.size + 1, 1, none⟩ = some (.int .i64 (cnt l 1)) := hrow.cell rfl
      have z1 : wr.cell? ⟨w.heap.size, 1, none⟩ = some (.int .i64 0) := hrow0.cell rfl
      have f1 := hrow0.fz 1
      have c2 : wr.cell? ⟨w.heap.size + 1, 2, none⟩ = some (.int .i64 (cnt l 2)) := hrow.cell rfl
      have z2 : wr.cell? ⟨w.heap.size, 2, none⟩ = some (.int .i64 0) := hrow0.cell rfl
      have f2 := hrow0.fz 2
      have c3 : wr.cell? ⟨w.heap.size + 1, 3, none⟩ = some (.int .i64 (cnt l 3)) := hrow.cell rfl
      have z3 : wr.cell? ⟨w.heap.size, 3, none⟩ = some (.int .i64 0) := hrow0.cell rfl
      have f3 := hrow0.fz 3
      have c4 : wr.cell? ⟨w.heap.size + 1, 4, none⟩ = some (.int .i64 (cnt l 4)) := hrow.cell rfl
      have z4 : wr.cell? ⟨w.heap.size, 4, none⟩ = some (.int .i64 0) := hrow0.cell rfl
      have f4 := hrow0.fz 4
      have c5 : wr.cell? ⟨w.heap.size + 1, 5, none⟩ = some (.int .i64 (cnt l 5)) := hrow.cell rfl
      have z5 : wr.cell? ⟨w.heap.size, 5, none⟩ = some (.int .i64 0) := hrow0.cell rfl
      have f5 := hrow0.fz 5
      have c6 : wr.cell? ⟨w.heap.size + 1, 6, none⟩ = some (.int .i64 (cnt l 6)) := hrow.cell rfl
      have z6 : wr.cell? ⟨w.heap.size, 6, none⟩ = some (.int .i64 0) := hrow0.cell rfl
      have f6 := hrow0.fz 6
      have HR := Lib.hid ((((((((hrow0.set 0 (.int .i64 (cnt l 0))).set 1 (.int .i64 (cnt l 1))).set 2 (.int .i64 (cnt l 2))).set 3 (.int .i64 (cnt l 3))).set 4 (.int .i64 (cnt l 4))).set 5 (.int .i64 (cnt l 5))).set 6 (.int .i64 (cnt l 6))))
      have hz : (((((((cntA []).setIfInBounds 0 (.int .i64 (cnt l 0))).setIfInBounds 1 (.int .i64 (cnt l 1))).setIfInBounds 2 (.int .i64 (cnt l 2))).setIfInBounds 3 (.int .i64 (cnt l 3))).setIfInBounds 4 (.int .i64 (cnt l 4))).setIfInBounds 5 (.int .i64 (cnt l 5))).setIfInBounds 6 (.int .i64 (cnt l 6)) = cntA l := by
        simp only [cntA, List.setIfInBounds_toArray, List.set_cons_zero, List.set_cons_succ]
      rw [hz] at HR
      clear hz
      clear hrow hrow0
      go_wp2
      have R := HR.out
      have d0 := R.cell (i := 0) (v := .int .i64 (cnt l 0)) rfl
      have d1 := R.cell (i := 1) (v := .int .i64 (cnt l 1)) rfl
      have d2 := R.cell (i := 2) (v := .int .i64 (cnt l 2)) rfl
      have d3 := R.cell (i := 3) (v := .int .i64 (cnt l 3)) rfl
      have d4 := R.cell (i := 4) (v := .int .i64 (cnt l 4)) rfl
      have d5 := R.cell (i := 5) (v := .int .i64 (cnt l 5)) rfl
      have d6 := R.cell (i := 6) (v := .int .i64 (cnt l 6)) rfl
      exact bodyPost_ret (v := .agg (cntA l)) (by simp [results, Try.results11, go_sem, d0, d1, d2, d3, d4, d5, d6]) rfl ⟨rfl, (((((((hB.setCell (Nat.le_refl _) _).setCell (Nat.le_refl _) _).setCell (Nat.le_refl _) _).setCell (Nat.le_refl _) _).setCell (Nat.le_refl _) _).setCell (Nat.le_refl _) _).setCell (Nat.le_refl _) _)⟩
end Go.Proofs.Ythlgoclidgfejaa
