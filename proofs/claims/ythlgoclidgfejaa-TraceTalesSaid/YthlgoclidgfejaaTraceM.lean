/-
  The contracts of tales and Of.
-/
import Derived.Test.YthlgoclidgfejaaTraceL
import Derived.Test.YthlgoclidgfejaaStore
import Derived.Carry
namespace Go.Proofs.Ythlgoclidgfejaa
open Go.RowKit Go.Maps Trc
set_option linter.unusedSimpArgs false
set_option linter.unusedVariables false

def TalesPost (w : World) (l : List Ev) (en : Ending) (w' : World) : Prop :=
  ∃ C M T, en = .returned (.map (some M)) ∧ TS w' C M w.heap.size l l T ∧ T.map (·.1) = nmsOf l ∧ Below w.heap.size w w'

set_option maxHeartbeats 1000000 in
set_option maxRecDepth 100000 in
theorem tales_c (l : List Ev) (v : Value) (n : Nat) (w : World) (hv : Sl w 16 v n (l.flatMap evC)) (hn : n ≤ 4096) (hwf : ∀ e ∈ l, e.name.wf) :
    Calls Try.prog 27 #[v] w (TalesPost w l) := by
  have hln := Sl.recs (cells := evC) (sz := 16) (fun _ => rfl) (by decide) hv
  obtain ⟨a, c, rfl⟩ := hv.len
  have Hln := Lib.hid hln
  clear hln
  have hmk := run_makeMap (P := Try.prog) 71 w
  unfold TalesPost
  go_enter Try.func27, Try.ntmps27
  go_wp2
  go_loopw [11] (fun i wr => ∃ (k : Nat) (T : List (Nm × Nat)), k ≤ n ∧ i = .int .i64 k ∧ TS wr (w.heap.size + 1) w.heap.size w.heap.size (l.take k) (l.take k) T ∧ T.map (·.1) = nmsOf (l.take k) ∧ Below w.heap.size w wr) (fun i _ => n - (intOf i).toNat)
  case atStart =>
    refine ⟨0, [], Nat.zero_le _, rfl, ⟨?_, ?_, by omega, fun p hp => (by cases hp), fun p hp => (by cases hp), List.nodup_nil, ⟨Nat.le_refl _, by omega⟩⟩, rfl, ?_⟩
    · exact (MapAt.new w).heap (heap_alloc_old _ _ (MapAt.new (P := Try.prog) (k := 39) w).lt)
    · simp [go_sem]
    · exact (below_alloc w _).alloc (by simp) _
  case round =>
    obtain ⟨k, T, hk, rfl, hT, hN, hB⟩ := hrel
    by_cases hlt : k < n
    · have hlt' : k < l.length := by rw [Hln.out]; exact hlt
      obtain ⟨b, off, rfl, hr⟩ := (hv.up hB).rec_at (cells := evC) (sz := 16) (fun _ => rfl) hlt hlt'
      have hkn : (k : Int) < (n : Int) := by omega
      have Hs := Lib.hid (List.take_succ_eq_append_getElem hlt')
      have hwx := hwf _ (List.getElem_mem hlt')
      have htl : (l.take k).length ≤ 4096 := by rw [List.length_take]; omega
      generalize l[k] = x at *
      have hTa := hT.below (below_alloc wr (.cells (evA x) 48))
      have hBa := hB.alloc hB.size (.cells (evA x) 48)
      have Ea := RowAt.new wr (evA x) 48
      have hsz := hB.size
      go_wp2_with (first
        | (refine wpList_load_mid rfl 48 (.tmp 13) rfl b (off + k * 16) rfl (evC x) _ hr Try.underlying48 rfl (by kernel_rfl) ?_)
        | (refine wpList_load_mid rfl 48 (.tmp 6) rfl wr.heap.size 0 rfl (evC x) _ Ea.range Try.underlying48 rfl (by kernel_rfl) ?_)
        | (go_at_call 38; refine (put_c x _ _ _ _ (l.take k) T hTa hN hwx htl (by simp; omega)).mono ?_; rintro e w1 ⟨⟨v1, rfl⟩, hb1, T1, hT1, hN1, hsub⟩))
      go_roundw
      case rel =>
        rw [← Hs.out] at hT1 hN1
        refine ⟨k + 1, T1, by omega, by go_num, hT1, hN1, ?_⟩
        exact hBa.trans (hb1.below (B := w.heap.size) (fun j hj => by
          rcases hj with rfl | ⟨p, hp, rfl⟩
          · exact Nat.le_refl _
          · exact (hTa.apart p hp).2.2) (by simp; omega))
      case measure => simp [intOf]; omega
    · obtain rfl : k = n := by omega
      have hall : l.take k = l := List.take_of_length_le (by rw [Hln.out]; exact Nat.le_refl _)
      rw [hall] at hT hN
      have hC := hT.var
      go_wp2
      go_ret
      exact ⟨_, _, T, rfl, hT, hN, hB⟩
end Go.Proofs.Ythlgoclidgfejaa
