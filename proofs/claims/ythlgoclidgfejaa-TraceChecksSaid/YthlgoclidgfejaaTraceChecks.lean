/-
  TraceChecks: true, whatever the events are. No condition.
-/
import Derived.Test.YthlgoclidgfejaaTraceP
import Derived.Test.YthlgoclidgfejaaTraceF
import Derived.Test.YthlgoclidgfejaaTraceO
namespace Go.Proofs.Ythlgoclidgfejaa
open Go.RowKit Go.Maps Trc
set_option linter.unusedSimpArgs false
set_option linter.unusedVariables false

set_option maxHeartbeats 4000000 in
set_option maxRecDepth 100000 in
theorem traceChecks_c (l : List Ev) (v : Value) (n : Nat) (w : World) (hv : Sl w 16 v n (l.flatMap evC)) (hw : ∀ e ∈ l, 0 ≤ e.name.node) :
    Calls Try.prog 3 #[v] w (Ret (.bool true) w) := by
  obtain ⟨a, c, rfl⟩ := hv.len
  by_cases hbig : 60 < n
  · have hb : (60 : Int) < (n : Int) := by omega
    have hnb : ¬ ((n : Int) ≤ 60) := by omega
    go_enter Try.func3, Try.ntmps3
    go_wp2_with (go_at_call 6; refine (works_c _).mono ?_; rintro en w1 ⟨rfl, hb1⟩)
    go_ret
    exact ⟨rfl, hb1⟩
  · have hb : ¬ ((60 : Int) < (n : Int)) := by omega
    have hle : (n : Int) ≤ 60 := by omega
    have heq := fun w => eq7_same w (cnt l 0) (cnt l 1) (cnt l 2) (cnt l 3) (cnt l 4) (cnt l 5) (cnt l 6)
    go_enter Try.func3, Try.ntmps3
    go_wp2_with (first
      | (go_at_call 7; refine (checkT_c l _ n _ hv (by omega)).mono ?_; rintro en w1 ⟨rfl, hb1⟩; have hv1 := hv.up hb1)
      | (go_at_call 8; refine (checkR_c l _ n _ hv1 (by omega) hw).mono ?_; rintro en w2 ⟨rfl, hb2⟩; have hv2 := hv1.up hb2)
      | (go_at_call 9; refine (num_cs _ _).mono ?_; rintro en w3 ⟨rfl, rfl⟩)
      | (go_at_call 10; refine (countsT_c l _ n _ hv2 (by omega)).mono ?_; rintro en w4 ⟨rfl, hb4⟩; have hv4 := hv2.up hb4)
      | (go_at_call 11; refine (countsR_c l _ n _ hv4 (by omega)).mono ?_; rintro en w5 ⟨rfl, hb5⟩)
      | (go_at_call 6; refine (works_c _).mono ?_; rintro en w6 ⟨rfl, hb6⟩))
    go_ret
    exact ⟨rfl, below_up (below_up (below_up (below_up hb1 hb2) hb4) hb5) hb6⟩

theorem traceChecks_law {H : Type} {enc : TypeId × Value → H} {base : Nat} {spare : Nat → Bool} {held : Bool} {v : Value} {n : Nat} {vs : List Value} (w : World) (hs : Sl w 16 v n vs)
    (hl : ∀ i, i < n → ∀ (j : Nat) (T : TypeId), evLs[j]? = some T → ∃ c, vs[i * 16 + j]? = some c ∧ Leaf enc Try.prog w base spare held T c) :
    Calls Try.prog 3 #[v] w (Ret (.bool true) w) := by
  obtain ⟨l, rfl, hwf⟩ := open_evs hs hl
  exact traceChecks_c l v n w hs (fun e he => node_nonneg (hwf e he).1)
end Go.Proofs.Ythlgoclidgfejaa
