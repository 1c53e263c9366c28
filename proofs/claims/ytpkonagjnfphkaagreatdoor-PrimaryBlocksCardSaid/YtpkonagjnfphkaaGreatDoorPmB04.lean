/-
  OctetE, OctetF: several texts in one (bundle.py).
-/
import Derived.Test.YtpkonagjnfphkaaGreatDoorPmB03
import Derived.Lib.AppendZeros
namespace Go.Proofs.YtpkonagjnfphkaaGreatDoor
open Go.RowKit
set_option linter.unusedSimpArgs false
set_option linter.unusedVariables false

/-- slices.Equal of bytes. -/
theorem equalB_c (l m : List UInt8) (v u : Value) (n k : Nat) (w : World) (hv : Sl w 1 v n (by8 l)) (hu : Sl w 1 u k (by8 m)) (hn : n ≤ 140737488351233) :
    Calls Tryz.prog 61 #[v, u] w (Ret (.bool (decide (l = m))) w) := by
  have hln := hv.n_len
  have hmk := hu.n_len
  obtain ⟨a, c, rfl⟩ := hv.len
  obtain ⟨a', c', rfl⟩ := hu.len
  by_cases hnk : n = k
  · subst hnk
    have Hln := Lib.hid hln; clear hln
    have Hmk := Lib.hid hmk; clear hmk
    go_enter Tryz.func61, Tryz.ntmps61
    go_wp2
    go_loopw [13] (fun i wr => ∃ j : Nat, j ≤ n ∧ i = .int .i64 j ∧ l.take j = m.take j ∧ Below w.heap.size w wr) (fun i _ => n - (intOf i).toNat)
    case atStart => exact ⟨0, Nat.zero_le _, rfl, rfl, Below.refl _ _⟩
    case round =>
      obtain ⟨j, hj, rfl, hpre, hB⟩ := hrel
      have Hpre := Lib.hid hpre; clear hpre
      by_cases hlt : j < n
      · have h1 : j < l.length := by rw [Hln.out]; exact hlt
        have h2 : j < m.length := by rw [Hmk.out]; exact hlt
        obtain ⟨b, off, rfl, hc⟩ := (hv.up hB).cellAt (k := j) (by omega) (by omega)
        obtain ⟨b', off', rfl, hc'⟩ := (hu.up hB).cellAt (k := j) (by omega) (by omega)
        rw [by8_get l j h1] at hc
        rw [by8_get m j h2] at hc'
        have hj0 : (0 : Int) ≤ ↑j := by omega
        have hjn : (↑j : Int) < ↑n := by omega
        by_cases he : l[j] = m[j]
        · have he' : ((l[j].toNat : Int) != (m[j].toNat : Int)) = false := by rw [he]; simp
          have He := Lib.hid he; clear he
          generalize hX : (l[j].toNat : Int) = X at *
          generalize hY : (m[j].toNat : Int) = Y at *
          go_wp2
          refine wp_region_abv (by kernel_rfl) (by kernel_rfl) ?_
          have C1 : ∀ t : Abv wr, t.val.cell? ⟨b, off + j, none⟩ = some (.int .u8 X) := fun t => t.cell _ _ hc
          have C2 : ∀ t : Abv wr, t.val.cell? ⟨b', off' + j, none⟩ = some (.int .u8 Y) := fun t => t.cell _ _ hc'
          repeat (go_big_quiet_step (fail))
          refine wpQuiet_nil ?_
          rintro _ ⟨t, rfl⟩
          go_wp2
          go_roundw
          case rel =>
            refine ⟨j + 1, by omega, by go_num, ?_, below_up hB t.prop⟩
            rw [Oct.take_snoc l j h1, Oct.take_snoc m j h2, Hpre.out, He.out]
          case measure => simp [intOf]; omega
        · have he' : ((l[j].toNat : Int) != (m[j].toNat : Int)) = true := by
            simp only [bne_iff_ne, ne_eq]; intro h; exact he (UInt8.toNat_inj.1 (by omega))
          have He := Lib.hid he; clear he
          generalize hX : (l[j].toNat : Int) = X at *
          generalize hY : (m[j].toNat : Int) = Y at *
          go_wp2
          refine wp_region_abv (by kernel_rfl) (by kernel_rfl) ?_
          have C1 : ∀ t : Abv wr, t.val.cell? ⟨b, off + j, none⟩ = some (.int .u8 X) := fun t => t.cell _ _ hc
          have C2 : ∀ t : Abv wr, t.val.cell? ⟨b', off' + j, none⟩ = some (.int .u8 Y) := fun t => t.cell _ _ hc'
          repeat (go_big_quiet_step (fail))
          refine wpQuiet_nil ?_
          rintro _ ⟨t, rfl⟩
          go_wp2
          go_ret
          refine ⟨retB (Eq.symm (decide_eq_false ?_)), below_up hB t.prop⟩
          intro h
          subst h
          exact He.out rfl
      · obtain rfl : j = n := by omega
        have hlm : l = m := by
          have := Hpre.out
          rwa [List.take_of_length_le (by rw [Hln.out]; exact Nat.le_refl _), List.take_of_length_le (by rw [Hmk.out]; exact Nat.le_refl _)] at this
        have Hlm := Lib.hid hlm; clear hlm
        go_wp2
        go_ret
        exact ⟨retB (Eq.symm (decide_eq_true Hlm.out)), hB⟩
  · have hne : l ≠ m := by intro h; subst h; omega
    have Hne := Lib.hid hne; clear hne
    have hd : ((n : Int) != (k : Int)) = true := by simp; omega
    have hd2 : (n != k) = true := by simp; omega
    clear hnk
    go_enter Tryz.func61, Tryz.ntmps61
    go_wp2
    go_ret
    exact ⟨retB (Eq.symm (decide_eq_false Hne.out)), Below.refl _ _⟩

namespace Oct
def beginsB (l m : List UInt8) : Bool := decide (m.length ≤ l.length) && decide (l.take m.length = m)
end Oct

theorem begins_c (l m : List UInt8) (v u : Value) (n k : Nat) (w : World) (hv : Sl w 1 v n (by8 l)) (hu : Sl w 1 u k (by8 m)) (hn : n ≤ 140737488351233) :
    Calls Tryz.prog 144 #[v, u] w (Ret (.bool (Oct.beginsB l m)) w) := by
  have hln := hv.n_len
  have hmk := hu.n_len
  unfold Oct.beginsB
  rw [hln, hmk]
  obtain ⟨a, c, rfl⟩ := hv.len
  obtain ⟨a', c', rfl⟩ := hu.len
  by_cases hk : k ≤ n
  · rw [decide_eq_true hk, Bool.true_and]
    obtain ⟨a2, hsl, hs⟩ := cut_h slT_u8 hv k hk
    rw [Nat.mul_one, ← by8_take] at hs
    have hk' : (k : Int) ≤ (n : Int) := by omega
    clear hln hmk
    go_enter Tryz.func144, Tryz.ntmps144
    go_wp2_with (go_at_call 61; refine (equalB_c (l.take k) m _ _ k k _ hs hu (by omega)).mono ?_; rintro e w1 ⟨rfl, hb⟩)
    go_ret
    exact ⟨rfl, hb⟩
  · rw [decide_eq_false hk, Bool.false_and]
    have hd : decide (k ≤ n) = false := decide_eq_false hk
    have hk' : ¬ (k : Int) ≤ (n : Int) := by omega
    clear hln hmk
    go_enter Tryz.func144, Tryz.ntmps144
    go_wp2
    go_ret
    exact ⟨rfl, Below.refl _ _⟩

/-- Bytes in memory of the law's own, with 77 behind. -/
def Lent (w : World) (base : Nat) (v : Value) (n : Nat) (l : List UInt8) : Prop :=
  ∃ g cap, v = .slice (some ⟨g, 0, none⟩) n cap ∧ base ≤ g ∧ w.ownsRow base 5 1 (.slice (some ⟨g, 0, none⟩) (n + 1) cap) (n + 1) (by8 (l ++ [77]))

theorem Lent.sl1 {w : World} {base : Nat} {v : Value} {n : Nat} {l : List UInt8} (h : Lent w base v n l) : ∃ g cap, v = .slice (some ⟨g, 0, none⟩) n cap ∧ Sl w 1 (.slice (some ⟨g, 0, none⟩) (n + 1) cap) (n + 1) (by8 (l ++ [77])) := by
  obtain ⟨g, cap, rfl, _, h⟩ := h
  exact ⟨g, cap, rfl, Sl.of_own h⟩
theorem Lent.sl {w : World} {base : Nat} {v : Value} {n : Nat} {l : List UInt8} (h : Lent w base v n l) : Sl w 1 v n (by8 l) := by
  obtain ⟨g, cap, hv, hs⟩ := h.sl1
  clear h
  subst hv
  obtain ⟨hl, ⟨a', c', e, h0⟩ | ⟨b, off, cap', e, hn', hm, hc⟩⟩ := hs
  · omega
  · simp only [Value.slice.injEq, Option.some.injEq, Addr.mk.injEq] at e
    obtain ⟨⟨rfl, rfl, _⟩, _, rfl⟩ := e
    have hn : l.length = n := by simp [by8_len] at hl; exact hl
    refine ⟨by rw [by8_len]; omega, .inr ⟨g, 0, cap, rfl, by omega, hm, fun j u hj => hc j u ?_⟩⟩
    rw [by8_app, List.getElem?_append_left (List.getElem?_eq_some_iff.1 hj).1]
    exact hj

set_option maxRecDepth 100000 in
/-- slices.Grow of nothing. -/
theorem growB_c (n : Nat) (w : World) (hn : n ≤ 140737488355328) :
    Calls Tryz.prog 185 #[.slice none 0 0, .int .i64 n] w fun e w' => ∃ v', e = .returned v' ∧ w'.ownsRow w.heap.size 5 1 v' 0 [] ∧ Below w.heap.size w w' := by
  by_cases h0 : n = 0
  · subst h0
    go_enter Tryz.func185, Tryz.ntmps185
    go_wp2
    go_ret
    exact ⟨_, rfl, World.ownsRow_nil _ _ _ _, Below.refl _ _⟩
  · have hp : (0 : Int) < n := by omega
    obtain ⟨i, hi, hz, hsz, hby⟩ := info_parts (show (Tryz.prog.info? 5).map (fun i => (i.zero, i.size, i.bytes)) = some (some (.int .u8 0), 1, 1) by kernel_rfl)
    have hge := grownCap_ge w n 0 5
    have hle := grownCap_le_maxLen w n 0 5 (by simp only [maxLen]; omega)
    have hsl0 : ∀ (w' : World), (Instr.slice 48 (.slice none 0 0) none (some (.int .i64 0)) none).run Tryz.prog w' = .ok (.slice none 0 0) w' := fun w' => run_cut_h slT_u8 none 0 0 0 .i64 (Nat.le_refl _) w'
    go_enter Tryz.func185, Tryz.ntmps185
    go_wp2_with (at_builtin; refine Lib.wpList_append_run _ rfl (.tmp 20) (.tmp 21) _ _ rfl _ _ rfl rfl _ _ (Lib.run_append_nil_zeros _ 48 3 _ 5 i (.int .u8 0) .i64 .i64 Tryz.underlying48 Tryz.underlying3 hi hz n (by omega) (by rw [hsz]; decide) (by omega) (by rw [hby]; omega)) ?_)
    go_ret
    generalize grownCap w n 0 5 = cap at *
    refine ⟨_, rfl, ⟨rfl, .inr ⟨w.heap.size, cap, _, rfl, Nat.le_refl _, heap_alloc_new w _, Nat.zero_le _, hle, ?_, rfl⟩⟩, (below_alloc _ _).drew⟩
    rw [Array.size_append, size_zeroCells, size_zeroCells]
    simp [Value.cells]
    omega
end Go.Proofs.YtpkonagjnfphkaaGreatDoor

namespace Go.Proofs.YtpkonagjnfphkaaGreatDoor
open Go.RowKit
set_option linter.unusedSimpArgs false
set_option linter.unusedVariables false

/-- The slice v has slices of bytes as its elements; they read ls. -/
structure SlB (w : World) (v : Value) (n : Nat) (vs : List Value) (ls : List (List UInt8)) : Prop where
  out : Sl w 1 v n vs
  len : vs.length = ls.length
  each : ∀ (i : Nat) (u : Value) (l : List UInt8), vs[i]? = some u → ls[i]? = some l → Sl w 1 u l.length (by8 l)

theorem SlB.up {w w' : World} {v : Value} {n : Nat} {vs : List Value} {ls : List (List UInt8)} (h : SlB w v n vs ls) (hb : Below w.heap.size w w') : SlB w' v n vs ls :=
  ⟨h.out.up hb, h.len, fun i u l h1 h2 => (h.each i u l h1 h2).up hb⟩
theorem SlB.n_len {w : World} {v : Value} {n : Nat} {vs : List Value} {ls : List (List UInt8)} (h : SlB w v n vs ls) : ls.length = n := by have := h.out.1; have := h.len; omega

/-- Element k: its cell, what it reads. -/
theorem SlB.at_ {w : World} {a : Option Addr} {n c : Nat} {vs : List Value} {ls : List (List UInt8)} (h : SlB w (.slice a n c) n vs ls) {k : Nat} (hk : k < n) (hk' : k < ls.length) :
    ∃ b off a' c', a = some ⟨b, off, none⟩ ∧ w.cell? ⟨b, off + k, none⟩ = some (.slice a' ls[k].length c') ∧ Sl w 1 (.slice a' ls[k].length c') ls[k].length (by8 ls[k]) := by
  have hl := h.len
  have hv : k < vs.length := by omega
  obtain ⟨b, off, ha, hc⟩ := h.out.cellAt (k := k) (by omega) (by omega)
  have hs := h.each k vs[k] ls[k] (List.getElem?_eq_getElem hv) (List.getElem?_eq_getElem hk')
  obtain ⟨a', c', e⟩ := hs.len
  rw [List.getElem?_eq_getElem hv, e] at hc
  rw [e] at hs
  exact ⟨b, off, a', c', ha, hc, hs⟩

namespace Oct
theorem flat_take (ls : List (List UInt8)) (k : Nat) (h : k < ls.length) : (ls.take (k + 1)).flatten = (ls.take k).flatten ++ ls[k] := by
  rw [List.take_succ_eq_append_getElem h, List.flatten_append]; simp
theorem flat_le (ls : List (List UInt8)) (k : Nat) : (ls.take k).flatten.length ≤ ls.flatten.length := by
  have : ls.flatten = (ls.take k).flatten ++ (ls.drop k).flatten := by rw [← List.flatten_append, List.take_append_drop]
  rw [this, List.length_append]; omega
end Oct

set_option maxHeartbeats 1000000 in
/-- slices.Concat of bytes. -/
theorem concatB_c (ls : List (List UInt8)) (vs : List Value) (v : Value) (n : Nat) (w : World) (hv : SlB w v n vs ls) (hn : n ≤ 140737488355328) (ht : ls.flatten.length ≤ 140737488355328) :
    Calls Tryz.prog 182 #[v] w fun e w' => ∃ v', e = .returned v' ∧ w'.ownsRow w.heap.size 5 1 v' ls.flatten.length (by8 ls.flatten) ∧ Below w.heap.size w w' := by
  have hln := hv.n_len
  have Hln := Lib.hid hln; clear hln
  obtain ⟨a, c, rfl⟩ := hv.out.len
  go_enter Tryz.func182, Tryz.ntmps182
  go_wp2
  go_loop [3, 11] (fun s i => ∃ k : Nat, k ≤ n ∧ i = .int .i64 k ∧ s = .int .i64 ((ls.take k).flatten.length : Nat)) (fun _ i => n - (intOf i).toNat)
  case atStart => exact ⟨0, Nat.zero_le _, rfl, rfl⟩
  case round =>
    obtain ⟨k, hk, rfl, rfl⟩ := hrel
    by_cases hlt : k < n
    · have hlt' : k < ls.length := by rw [Hln.out]; exact hlt
      obtain ⟨b, off, a', c', rfl, hc, hs⟩ := hv.at_ hlt hlt'
      have hle := Oct.flat_le ls (k + 1)
      have hf := Oct.flat_take ls k hlt'
      rw [hf, List.length_append] at hle
      have Hf := Lib.hid (show (ls.take (k + 1)).flatten.length = (ls.take k).flatten.length + ls[k].length by rw [hf, List.length_append])
      clear hf
      generalize hX : (ls.take k).flatten.length = X at *
      generalize hY : ls[k].length = Y at *
      clear hX hY
      go_wp2
      go_round
      case rel => exact ⟨k + 1, by omega, by go_num, by rw [Hf.out]; go_num⟩
      case measure => simp [intOf]; omega
    · obtain rfl : k = n := by omega
      have hall : ls.take k = ls := List.take_of_length_le (by rw [Hln.out]; exact Nat.le_refl _)
      have Hall := Lib.hid hall
      rw [hall]
      clear hall
      generalize hX : ls.flatten.length = X at *
      have HX := Lib.hid hX; clear hX
      go_wp2_with (go_at_call 185; refine (growB_c X _ ht).mono ?_; rintro e w1 ⟨v1, rfl, hown, hb⟩)
      go_loopw [6, 27] (fun o i wr => ∃ j : Nat, j ≤ k ∧ i = .int .i64 j ∧ wr.ownsRow w.heap.size 5 1 o (ls.take j).flatten.length (by8 (ls.take j).flatten) ∧ Below w.heap.size w wr) (fun _ i _ => k - (intOf i).toNat)
      case atStart => exact ⟨0, Nat.zero_le _, rfl, hown, hb⟩
      case round =>
        obtain ⟨j, hj, rfl, ho, hB⟩ := hrel
        by_cases hlt2 : j < k
        · have hlt' : j < ls.length := by rw [Hln.out]; exact hlt2
          obtain ⟨b, off, a', c', rfl, hc, hs⟩ := (hv.up hB).at_ hlt2 hlt'
          have hle := Oct.flat_le ls (j + 1)
          have hf := Oct.flat_take ls j hlt'
          rw [hf, List.length_append, HX.out] at hle
          have Hf := Lib.hid hf
          clear hf
          go_wp2_with (at_builtin; refine wpList_app rfl _ _ 48 rfl slT_u8 w.heap.size rfl ho rfl hs (one_by8 _) (by simp only [maxLen]; omega) (by omega) hB.size ?_; intro v' w2 hown2 hgrow _)
          go_roundw
          case rel => exact ⟨j + 1, by omega, by go_num, by rw [Hf.out, by8_app, List.length_append]; exact hown2, grown_below hB hgrow (fun q hq => (ho.lt q hq).1)⟩
          case measure => simp [intOf]; omega
        · obtain rfl : j = k := by omega
          rw [Hall.out] at ho
          go_wp2
          go_ret
          exact ⟨_, rfl, by rw [← HX.out]; exact ho, hB⟩

theorem join_c (ls : List (List UInt8)) (vs : List Value) (v : Value) (n : Nat) (w : World) (hv : SlB w v n vs ls) (hn : n ≤ 140737488355328) (ht : ls.flatten.length ≤ 140737488355328) :
    Calls Tryz.prog 171 #[v] w fun e w' => ∃ v', e = .returned v' ∧ w'.ownsRow w.heap.size 5 1 v' ls.flatten.length (by8 ls.flatten) ∧ Below w.heap.size w w' := by
  go_enter Tryz.func171, Tryz.ntmps171
  go_wp2_with (go_at_call 182; refine (concatB_c ls vs v n _ hv hn ht).mono ?_; rintro e w1 ⟨v1, rfl, hown, hb⟩)
  go_ret
  exact ⟨_, rfl, hown, hb⟩

end Go.Proofs.YtpkonagjnfphkaaGreatDoor
