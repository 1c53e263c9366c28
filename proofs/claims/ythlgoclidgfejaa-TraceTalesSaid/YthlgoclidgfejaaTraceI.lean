/-
  Contracts: a tale is begun; an event is added to it.
-/
import Derived.Test.YthlgoclidgfejaaTraceH
namespace Go.Proofs.Ythlgoclidgfejaa
open Go.RowKit Go.Maps Trc
set_option linter.unusedSimpArgs false
set_option linter.unusedVariables false

namespace Trc
def sentN (es : List Ev) : Nat := es.countP saysB
def cameN (es : List Ev) : Nat := es.countP fun e => e.kind == 11
def lastA (es : List Ev) : Int := match es.getLast? with | none => 0 | some e => e.at_
def doneA (es : List Ev) : Int := match es.find? (fun e => e.got == 3) with | none => 4611686018427387903 | some e => e.at_
theorem sentN_snoc (es : List Ev) (e : Ev) : sentN (es ++ [e]) = sentN es + if saysB e then 1 else 0 := by
  unfold sentN; rw [List.countP_append]; by_cases h : saysB e = true <;> simp [h]
theorem cameN_snoc (es : List Ev) (e : Ev) : cameN (es ++ [e]) = cameN es + if e.kind = 11 then 1 else 0 := by
  unfold cameN; rw [List.countP_append]; by_cases h : e.kind = 11 <;> simp [h]
theorem lastA_snoc (es : List Ev) (e : Ev) : lastA (es ++ [e]) = e.at_ := by simp [lastA]
theorem doneA_snoc (es : List Ev) (e : Ev) : doneA (es ++ [e]) = if e.got = 3 ∧ cnt es 3 = 0 then e.at_ else doneA es := by
  unfold doneA
  rw [List.find?_append]
  cases hf : es.find? (fun e => e.got == 3) with
  | some y =>
    have hy := List.find?_some hf
    have hm := List.mem_of_find?_eq_some hf
    have : cnt es 3 ≠ 0 := by
      unfold cnt
      have := List.countP_pos_iff (p := fun e : Ev => e.got == 3).2 ⟨y, hm, hy⟩
      omega
    simp [this]
  | none =>
    have hn := List.find?_eq_none.1 hf
    have : cnt es 3 = 0 := by
      unfold cnt
      exact List.countP_eq_zero.2 hn
    by_cases h : e.got = 3 <;> simp [h, this]
end Trc
abbrev tlC (n : Nm) (f : Int) (es : List Ev) : List Value := [.int .u32 n.node, .int .u32 n.service, .int .u64 n.time, .int .u32 n.seq, .int .i64 (sentN es), .int .i64 (cameN es),
  .int .i64 (cnt es 0), .int .i64 (cnt es 1), .int .i64 (cnt es 2), .int .i64 (cnt es 3), .int .i64 (cnt es 4), .int .i64 (cnt es 5), .int .i64 (cnt es 6), .int .u64 f, .int .u64 (lastA es), .int .u64 (doneA es)]

set_option maxRecDepth 100000 in
theorem begun_c (e : Ev) (w : World) : Calls Try.prog 39 #[evV e] w fun en w' => ∃ B, en = .returned (.pointer (some ⟨B, 0, none⟩)) ∧ w.heap.size ≤ B ∧ RowAt w' B (tlC e.name e.at_ []).toArray 74 ∧ Below w.heap.size w w' := by
  go_enter Try.func39, Try.ntmps39
  go_wp2
  go_ret
  refine ⟨_, rfl, ?_, ?_, (below_alloc _ _).alloc (by simp) _⟩
  · omega
  · have := RowAt.new (w.alloc (.cells (evA e) 48)) (tlC e.name e.at_ []).toArray 74
    rw [show (w.alloc (.cells (evA e) 48)).heap.size = w.heap.size + 1 by simp] at this
    exact this
end Go.Proofs.Ythlgoclidgfejaa
