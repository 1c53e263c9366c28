/-
  Contracts of the small functions of trace and of its reference: says, got, alone.
-/
import Derived.Test.YthlgoclidgfejaaSlice
namespace Go.Proofs.Ythlgoclidgfejaa
open Go.RowKit
set_option linter.unusedSimpArgs false
set_option linter.unusedVariables false

namespace Trc
@[ext] structure Nm where
  node : Int
  service : Int
  time : Int
  seq : Int
deriving DecidableEq
structure Ev where
  kind : Int
  at_ : Int
  node : Int
  to : Int
  n : Int
  name : Nm
  got : Int
  gname : Nm
  why : Int
  errno : Int
deriving DecidableEq
def saysB (e : Ev) : Bool := e.kind == 3 || e.kind == 15 || e.kind == 16
def gotB (k : Int) : Bool := decide (0 ≤ k) && decide (k ≤ 6)
def aloneB (e : Ev) : Bool := gotB e.got && (decide (e.name = e.gname) && (if e.got = 5 then decide (1 ≤ e.why) && decide (e.why ≤ 5) else decide (e.why = 0)))
end Trc
open Trc
abbrev nmV (x : Nm) : Value := .agg #[.int .u32 x.node, .int .u32 x.service, .int .u64 x.time, .int .u32 x.seq]
abbrev evC (e : Ev) : List Value := [.int .i64 e.kind, .int .u64 e.at_, .int .u32 e.node, .int .u32 e.to, .int .u64 e.n, .int .u32 e.name.node, .int .u32 e.name.service, .int .u64 e.name.time, .int .u32 e.name.seq,
  .int .i64 e.got, .int .u32 e.gname.node, .int .u32 e.gname.service, .int .u64 e.gname.time, .int .u32 e.gname.seq, .int .i64 e.why, .int .i64 e.errno]
abbrev evA (e : Ev) : Array Value := (evC e).toArray
abbrev evV (e : Ev) : Value := .agg (evA e)

theorem gotT_c (k : Int) (w : World) : Calls Try.prog 24 #[.int .i64 k] w fun e w' => e = .returned (.bool (gotB k)) ∧ w = w' := by
  go_enter Try.func24, Try.ntmps24
  go_wp2
  all_goals
    go_ret
    exact ⟨retB (by unfold gotB; simp; try omega), rfl⟩

theorem saysR_c (e : Ev) (w : World) : Calls Try.prog 23 #[evV e] w (Ret (.bool (saysB e)) w) := by
  go_enter Try.func23, Try.ntmps23
  go_wp2
  all_goals
    go_ret
    exact ⟨retB (by unfold saysB; first | rfl | (simp; try omega)), below_alloc _ _⟩

theorem aloneR_c (e : Ev) (w : World) : Calls Try.prog 22 #[evV e] w (Ret (.bool (aloneB e)) w) := by
  go_enter Try.func22, Try.ntmps22
  go_wp2
  all_goals
    go_ret
    refine ⟨retB ?_, below_alloc _ _⟩
    rw [Bool.eq_iff_iff]
    simp only [aloneB, gotB, Bool.and_eq_true, decide_eq_true_eq, beq_iff_eq, Nm.ext_iff, Bool.false_eq_true, false_iff, true_iff] at *
    repeat' split
    all_goals simp_all
    all_goals try omega

theorem aloneT_c (e : Ev) (v : Value) (w : World) : Calls Try.prog 19 #[evV e, v] w (Ret (.bool (aloneB e)) w) := by
  go_enter Try.func19, Try.ntmps19
  go_wp2_with (go_at_call 24; refine (gotT_c _ _).mono ?_; rintro e w1 ⟨rfl, rfl⟩)
  all_goals
    go_ret
    refine ⟨retB ?_, below_alloc _ _⟩
    rw [Bool.eq_iff_iff]
    simp only [aloneB, gotB, Bool.and_eq_true, decide_eq_true_eq, beq_iff_eq, Nm.ext_iff, Bool.false_eq_true, false_iff, true_iff] at *
    repeat' split
    all_goals simp_all
    all_goals try omega
    all_goals
      rw [show (e.got == 5) = false by simpa using ‹¬e.got = 5›]
      simp
      omega
end Go.Proofs.Ythlgoclidgfejaa
