/-
  Contracts over bytes: Clone, Equal, Begins, Grow, Concat, Join; the law's lent and kept.
-/
import Derived.Test.YtinohligpncpiaaOctetD
import Derived.Lib.AppendZeros
namespace Go.Proofs.Ytinohligpncpiaa
open Go.RowKit
set_option linter.unusedSimpArgs false
set_option linter.unusedVariables false

/-- slices.Clone of bytes. -/
theorem cloneB_c (l : List UInt8) (v : Value) (n : Nat) (w : World) (hv : Sl w 1 v n (by8 l)) (hn : n ≤ 140737488355328) :
    Calls Try.prog 33 #[v] w fun e w' => ∃ v', e = .returned v' ∧ w'.ownsRow w.heap.size 5 1 v' n (by8 l) ∧ Below w.heap.size w w' := by
  obtain ⟨a, c, rfl⟩ := hv.len
  have he := fun (w : World) (a : Option Addr) (n c : Nat) => Lib.run_eql_slice_nil (P := Try.prog) w 23 5 a n c 0 0 Try.underlying23
  cases a with
  | none =>
    have h0 : n = 0 ∧ l = [] := by
      obtain ⟨hl, ⟨a, c, h1, rfl⟩ | ⟨b, off, cap, h1, _⟩⟩ := hv
      · exact ⟨rfl, by rw [by8_len] at hl; exact List.eq_nil_of_length_eq_zero (by omega)⟩
      · simp at h1
    obtain ⟨rfl, rfl⟩ := h0
    go_enter Try.func33, Try.ntmps33
    go_wp2
    go_ret
    exact ⟨_, rfl, World.ownsRow_nil _ _ _ _, Below.refl _ _⟩
  | some a =>
    go_enter Try.func33, Try.ntmps33
    go_wp2_with (at_builtin; refine wpList_app rfl _ _ 23 rfl slT_u8 w.heap.size rfl (World.ownsRow_lit w #[] 0 (Nat.le_refl _) (by decide) rfl) rfl (hv.up (below_alloc _ _)) (one_by8 _) (by simp [maxLen]; omega) (by omega) (by simp) ?_; intro v' w1 hown hgrow _)
    go_ret
    exact ⟨v', rfl, by simpa using hown, grown_below (below_alloc _ _) hgrow (fun k hk => by have : w.heap.size = k := Option.some.inj hk; omega)⟩

namespace Oct
def beginsB (l m : List UInt8) : Bool := decide (m.length ≤ l.length) && decide (l.take m.length = m)
end Oct

/-- Bytes in memory of the law's own, with 77 behind. -/
def Lent (w : World) (base : Nat) (v : Value) (n : Nat) (l : List UInt8) : Prop :=
  ∃ g cap, v = .slice (some ⟨g, 0, none⟩) n cap ∧ base ≤ g ∧ w.ownsRow base 5 1 (.slice (some ⟨g, 0, none⟩) (n + 1) cap) (n + 1) (by8 (l ++ [77]))

theorem Lent.sl1 {w : World} {base : Nat} {v : Value} {n : Nat} {l : List UInt8} (h : Lent w base v n l) : ∃ g cap, v = .slice (some ⟨g, 0, none⟩) n cap ∧ Sl w 1 (.slice (some ⟨g, 0, none⟩) (n + 1) cap) (n + 1) (by8 (l ++ [77])) := by
  obtain ⟨g, cap, rfl, _, h⟩ := h
  exact ⟨g, cap, rfl, Sl.of_own h⟩
theorem Lent.sl {w : World} {base : Nat} {v : Value} {n : Nat} {l : List UInt8} (h : Lent w base v n l) : Sl w 1 v n (by8 l) := by
  obtain ⟨g, cap, hv, hs⟩ := h.sl1
  clear h
  subst hv
  obtain ⟨hl, ⟨a', c', e, h0⟩ | ⟨b, off, cap', e, hn', hm, hc⟩⟩ := hs
  · omega
  · simp only [Value.slice.injEq, Option.some.injEq, Addr.mk.injEq] at e
    obtain ⟨⟨rfl, rfl, _⟩, _, rfl⟩ := e
    have hn : l.length = n := by simp [by8_len] at hl; exact hl
    refine ⟨by rw [by8_len]; omega, .inr ⟨g, 0, cap, rfl, by omega, hm, fun j u hj => hc j u ?_⟩⟩
    rw [by8_app, List.getElem?_append_left (List.getElem?_eq_some_iff.1 hj).1]
    exact hj

/-- slices.Grow of nothing. -/
theorem growB_c (n : Nat) (w : World) (hn : n ≤ 140737488355328) :
    Calls Try.prog 41 #[.slice none 0 0, .int .i64 n] w fun e w' => ∃ v', e = .returned v' ∧ w'.ownsRow w.heap.size 5 1 v' 0 [] ∧ Below w.heap.size w w' := by
  by_cases h0 : n = 0
  · subst h0
    go_enter Try.func41, Try.ntmps41
    go_wp2
    go_ret
    exact ⟨_, rfl, World.ownsRow_nil _ _ _ _, Below.refl _ _⟩
  · have hp : (0 : Int) < n := by omega
    obtain ⟨i, hi, hz, hsz, hby⟩ := info_parts (show (Try.prog.info? 5).map (fun i => (i.zero, i.size, i.bytes)) = some (some (.int .u8 0), 1, 1) by kernel_rfl)
    have hge := grownCap_ge w n 0 5
    have hle := grownCap_le_maxLen w n 0 5 (by simp only [maxLen]; omega)
    have hsl0 : ∀ (w' : World), (Instr.slice 23 (.slice none 0 0) none (some (.int .i64 0)) none).run Try.prog w' = .ok (.slice none 0 0) w' := fun w' => run_cut_h slT_u8 none 0 0 0 .i64 (Nat.le_refl _) w'
    go_enter Try.func41, Try.ntmps41
    go_wp2_with (at_builtin; refine Lib.wpList_append_run _ rfl (.tmp 20) (.tmp 21) _ _ rfl _ _ rfl rfl _ _ (Lib.run_append_nil_zeros _ 23 3 _ 5 i (.int .u8 0) .i64 .i64 Try.underlying23 Try.underlying3 hi hz n (by omega) (by rw [hsz]; decide) (by omega) (by rw [hby]; omega)) ?_)
    go_ret
    generalize grownCap w n 0 5 = cap at *
    refine ⟨_, rfl, ⟨rfl, .inr ⟨w.heap.size, cap, _, rfl, Nat.le_refl _, heap_alloc_new w _, Nat.zero_le _, hle, ?_, rfl⟩⟩, (below_alloc _ _).drew⟩
    rw [Array.size_append, size_zeroCells, size_zeroCells]
    simp [Value.cells]
    omega
end Go.Proofs.Ytinohligpncpiaa
