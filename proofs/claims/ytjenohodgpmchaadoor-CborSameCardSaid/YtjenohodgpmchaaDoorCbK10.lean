/-
  OctetF, CbA: several texts in one (bundle.py).
-/
import Derived.Test.YtjenohodgpmchaaDoorCbK09
import Derived.Test.YtjenohodgpmchaaDoorCbK03
import Derived.Test.YtjenohodgpmchaaDoorCbK02
import Derived.WalkLawsBesides
import Derived.Defers
import Derived.Recover
import Derived.Lib.Hide
namespace Go.Proofs.YtjenohodgpmchaaDoor
open Go.RowKit
set_option linter.unusedSimpArgs false
set_option linter.unusedVariables false

/-- The slice v has slices of bytes as its elements; they read ls. -/
structure SlB (w : World) (v : Value) (n : Nat) (vs : List Value) (ls : List (List UInt8)) : Prop where
  out : Sl w 1 v n vs
  len : vs.length = ls.length
  each : ∀ (i : Nat) (u : Value) (l : List UInt8), vs[i]? = some u → ls[i]? = some l → Sl w 1 u l.length (by8 l)

theorem SlB.up {w w' : World} {v : Value} {n : Nat} {vs : List Value} {ls : List (List UInt8)} (h : SlB w v n vs ls) (hb : Below w.heap.size w w') : SlB w' v n vs ls :=
  ⟨h.out.up hb, h.len, fun i u l h1 h2 => (h.each i u l h1 h2).up hb⟩
theorem SlB.n_len {w : World} {v : Value} {n : Nat} {vs : List Value} {ls : List (List UInt8)} (h : SlB w v n vs ls) : ls.length = n := by have := h.out.1; have := h.len; omega

/-- Element k: its cell, what it reads. -/
theorem SlB.at_ {w : World} {a : Option Addr} {n c : Nat} {vs : List Value} {ls : List (List UInt8)} (h : SlB w (.slice a n c) n vs ls) {k : Nat} (hk : k < n) (hk' : k < ls.length) :
    ∃ b off a' c', a = some ⟨b, off, none⟩ ∧ w.cell? ⟨b, off + k, none⟩ = some (.slice a' ls[k].length c') ∧ Sl w 1 (.slice a' ls[k].length c') ls[k].length (by8 ls[k]) := by
  have hl := h.len
  have hv : k < vs.length := by omega
  obtain ⟨b, off, ha, hc⟩ := h.out.cellAt (k := k) (by omega) (by omega)
  have hs := h.each k vs[k] ls[k] (List.getElem?_eq_getElem hv) (List.getElem?_eq_getElem hk')
  obtain ⟨a', c', e⟩ := hs.len
  rw [List.getElem?_eq_getElem hv, e] at hc
  rw [e] at hs
  exact ⟨b, off, a', c', ha, hc, hs⟩

namespace Oct
theorem flat_take (ls : List (List UInt8)) (k : Nat) (h : k < ls.length) : (ls.take (k + 1)).flatten = (ls.take k).flatten ++ ls[k] := by
  rw [List.take_succ_eq_append_getElem h, List.flatten_append]; simp
theorem flat_le (ls : List (List UInt8)) (k : Nat) : (ls.take k).flatten.length ≤ ls.flatten.length := by
  have : ls.flatten = (ls.take k).flatten ++ (ls.drop k).flatten := by rw [← List.flatten_append, List.take_append_drop]
  rw [this, List.length_append]; omega
end Oct

set_option maxHeartbeats 1000000 in
/-- slices.Concat of bytes. -/
theorem concatB_c (ls : List (List UInt8)) (vs : List Value) (v : Value) (n : Nat) (w : World) (hv : SlB w v n vs ls) (hn : n ≤ 140737488355328) (ht : ls.flatten.length ≤ 140737488355328) :
    Calls Tryd.prog 78 #[v] w fun e w' => ∃ v', e = .returned v' ∧ w'.ownsRow w.heap.size 5 1 v' ls.flatten.length (by8 ls.flatten) ∧ Below w.heap.size w w' := by
  have hln := hv.n_len
  have Hln := Lib.hid hln; clear hln
  obtain ⟨a, c, rfl⟩ := hv.out.len
  go_enter Tryd.func78, Tryd.ntmps78
  go_wp2
  go_loop [3, 11] (fun s i => ∃ k : Nat, k ≤ n ∧ i = .int .i64 k ∧ s = .int .i64 ((ls.take k).flatten.length : Nat)) (fun _ i => n - (intOf i).toNat)
  case atStart => exact ⟨0, Nat.zero_le _, rfl, rfl⟩
  case round =>
    obtain ⟨k, hk, rfl, rfl⟩ := hrel
    by_cases hlt : k < n
    · have hlt' : k < ls.length := by rw [Hln.out]; exact hlt
      obtain ⟨b, off, a', c', rfl, hc, hs⟩ := hv.at_ hlt hlt'
      have hle := Oct.flat_le ls (k + 1)
      have hf := Oct.flat_take ls k hlt'
      rw [hf, List.length_append] at hle
      have Hf := Lib.hid (show (ls.take (k + 1)).flatten.length = (ls.take k).flatten.length + ls[k].length by rw [hf, List.length_append])
      clear hf
      generalize hX : (ls.take k).flatten.length = X at *
      generalize hY : ls[k].length = Y at *
      clear hX hY
      go_wp2
      go_round
      case rel => exact ⟨k + 1, by omega, by go_num, by rw [Hf.out]; go_num⟩
      case measure => simp [intOf]; omega
    · obtain rfl : k = n := by omega
      have hall : ls.take k = ls := List.take_of_length_le (by rw [Hln.out]; exact Nat.le_refl _)
      have Hall := Lib.hid hall
      rw [hall]
      clear hall
      generalize hX : ls.flatten.length = X at *
      have HX := Lib.hid hX; clear hX
      go_wp2_with (go_at_call 84; refine (growB_c X _ ht).mono ?_; rintro e w1 ⟨v1, rfl, hown, hb⟩)
      go_loopw [6, 27] (fun o i wr => ∃ j : Nat, j ≤ k ∧ i = .int .i64 j ∧ wr.ownsRow w.heap.size 5 1 o (ls.take j).flatten.length (by8 (ls.take j).flatten) ∧ Below w.heap.size w wr) (fun _ i _ => k - (intOf i).toNat)
      case atStart => exact ⟨0, Nat.zero_le _, rfl, hown, hb⟩
      case round =>
        obtain ⟨j, hj, rfl, ho, hB⟩ := hrel
        by_cases hlt2 : j < k
        · have hlt' : j < ls.length := by rw [Hln.out]; exact hlt2
          obtain ⟨b, off, a', c', rfl, hc, hs⟩ := (hv.up hB).at_ hlt2 hlt'
          have hle := Oct.flat_le ls (j + 1)
          have hf := Oct.flat_take ls j hlt'
          rw [hf, List.length_append, HX.out] at hle
          have Hf := Lib.hid hf
          clear hf
          go_wp2_with (at_builtin; refine wpList_app rfl _ _ 22 rfl slT_u8 w.heap.size rfl ho rfl hs (one_by8 _) (by simp only [maxLen]; omega) (by omega) hB.size ?_; intro v' w2 hown2 hgrow _)
          go_roundw
          case rel => exact ⟨j + 1, by omega, by go_num, by rw [Hf.out, by8_app, List.length_append]; exact hown2, grown_below hB hgrow (fun q hq => (ho.lt q hq).1)⟩
          case measure => simp [intOf]; omega
        · obtain rfl : j = k := by omega
          rw [Hall.out] at ho
          go_wp2
          go_ret
          exact ⟨_, rfl, by rw [← HX.out]; exact ho, hB⟩

theorem join_c (ls : List (List UInt8)) (vs : List Value) (v : Value) (n : Nat) (w : World) (hv : SlB w v n vs ls) (hn : n ≤ 140737488355328) (ht : ls.flatten.length ≤ 140737488355328) :
    Calls Tryd.prog 64 #[v] w fun e w' => ∃ v', e = .returned v' ∧ w'.ownsRow w.heap.size 5 1 v' ls.flatten.length (by8 ls.flatten) ∧ Below w.heap.size w w' := by
  go_enter Tryd.func64, Tryd.ntmps64
  go_wp2_with (go_at_call 78; refine (concatB_c ls vs v n _ hv hn ht).mono ?_; rintro e w1 ⟨v1, rfl, hown, hb⟩)
  go_ret
  exact ⟨_, rfl, hown, hb⟩

end Go.Proofs.YtjenohodgpmchaaDoor

namespace Go.Proofs.YtjenohodgpmchaaDoor
open Go.RowKit
set_option linter.unusedSimpArgs false
set_option linter.unusedVariables false

/-- What must gives up with. -/
abbrev gup (e : Int) : List PanicEntry := [{ v := .iface 29 (.int .i64 e), recovered := false }]
abbrev gupR (e : Int) : List PanicEntry := [{ v := .iface 29 (.int .i64 e), recovered := true }]
theorem must_yes (e : Int) (w : World) : Calls Tryd.prog 31 #[.bool true, .int .i64 e] w fun en w' => en = .returned (.tuple #[]) ∧ w = w' := by
  go_enter Tryd.func31, Tryd.ntmps31
  go_wp2
  go_end0
  exact ⟨rfl, rfl⟩
theorem must_no (e : Int) (w : World) : Calls Tryd.prog 31 #[.bool false, .int .i64 e] w fun en w' => en = .panicked (gup e) ∧ w = w' := by
  go_enter Tryd.func31, Tryd.ntmps31
  go_wp2
  exact ⟨rfl, rfl, rfl⟩
theorem caught_idle (p : Addr) (g : FuncId) (caps : Array Value) (w : World) :
    CallsD Tryd.prog 29 #[.pointer (some p), .func (.func g) #[] caps] .returning w fun e u' w' => e = .returned (.tuple #[]) ∧ u' = .returning ∧ w' = w := by
  refine callsD_of_wpS Tryd.func29 rfl fun c₀ cs hu => ?_
  apply wpS_seq
  apply wpS_region
  simp [wpOpsS, go_sem, recoverD, hu, Tryd.ntmps29, Exit.thenS, Array.replicate_succ]
  refine wpS_of_wp ?_
  go_wp2
  cases c₀
  simp_all [bodyPostS, results, Tryd.results29, Exit.thenS]
set_option maxRecDepth 100000 in
/-- What is given up with is noted, and what was under way is cleared. -/
theorem caught_gup (p : Nat) (e e0 : Int) (g : FuncId) (caps : Array Value) (hg : Enters Tryd.prog g) (w : World) (hc : w.cell? ⟨p, 0, none⟩ = some (.int .i64 e0)) (hz : w.frozen? ⟨p, 0, none⟩ = false) {R : World → Prop}
    (hcl : Calls Tryd.prog g caps (w.setCell ⟨p, 0, none⟩ (.int .i64 e)) fun en w' => en = .returned (.tuple #[]) ∧ R w') :
    CallsD Tryd.prog 29 #[.pointer (some ⟨p, 0, none⟩), .func (.func g) #[] caps] (.panicking (gup e)) w fun en u' w' => en = .returned (.tuple #[]) ∧ u' = .panicking (gupR e) ∧ R w' := by
  refine callsD_of_wpS Tryd.func29 rfl fun c₀ cs hu => ?_
  have HC := Lib.hid hcl
  clear hcl
  have hta : ∀ (e : Int) (w : World), (Instr.typeAssert (.iface 29 (.int .i64 e)) 20 29 false).run Tryd.prog w = .ok (.int .i64 e) w := fun _ _ => by kernel_rfl
  apply wpS_seq
  apply wpS_region
  simp [wpOpsS, go_sem, recoverD, hu, Tryd.ntmps29, Exit.thenS, Array.replicate_succ]
  refine wpS_of_wp ?_
  unfold Enters at hg
  go_wp2_with (refine HC.out.mono ?_; rintro en w1 ⟨rfl, hr⟩)
  cases c₀
  simp_all [bodyPostS, results, Tryd.results29, Exit.thenS]
end Go.Proofs.YtjenohodgpmchaaDoor
