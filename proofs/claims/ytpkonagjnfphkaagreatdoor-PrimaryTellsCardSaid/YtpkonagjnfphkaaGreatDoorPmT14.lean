/-
  PrK, PrD, PrT, NmNu: several texts in one (bundle.py).
-/
import Derived.Test.YtpkonagjnfphkaaGreatDoorPmT01
import Derived.Test.YtpkonagjnfphkaaGreatDoorPmT10
import Derived.Test.YtpkonagjnfphkaaGreatDoorPmT09
import Derived.Test.YtpkonagjnfphkaaGreatDoorPmT13
import Derived.Laws.EntriesVeiled
import Derived.Test.YtpkonagjnfphkaaGreatDoorPmT02
import Derived.Deep.LoopGhost
namespace Go.Proofs.YtpkonagjnfphkaaGreatDoor
open Go.RowKit
namespace Clk
def topF (n : Int) : Int := if n ≤ 4611686018427387903 then n else 4611686018427387903
theorem topF_lo {n : Int} (h : n ≤ 4611686018427387903) : topF n = n := by unfold topF; rw [if_pos h]
theorem topF_hi {n : Int} (h : 4611686018427387903 ≤ n) : topF n = 4611686018427387903 := by unfold topF; split <;> omega
theorem topF_b (n : Int) (h : 0 ≤ n) : 0 ≤ topF n ∧ topF n ≤ 4611686018427387903 := by unfold topF; split <;> omega
theorem topF_topF (n : Int) : topF (topF n) = topF n := by unfold topF; split <;> simp [*]
def part (a b : Int) (k : Nat) : Int := match k with | 0 => 0 | 1 => topF a | _ => topF (topF a + topF b)
theorem part_s0 (a b : Int) : topF (part a b 0 + topF a) = part a b 1 := by simp [part, topF_topF]
theorem part_s1 (a b : Int) : topF (part a b 1 + topF b) = part a b 2 := rfl
theorem part_b (a b : Int) (k : Nat) (ha : 0 ≤ a) (hb : 0 ≤ b) : 0 ≤ part a b k ∧ part a b k ≤ 4611686018427387903 := by
  have h1 := topF_b a ha
  have h2 := topF_b b hb
  have h3 := topF_b (topF a + topF b) (by omega)
  unfold part
  split <;> omega
def addF (a b : Int) : Int := topF (topF a + topF b)
end Clk
theorem cktop_c (n : Int) (w : World) : Calls Tryz.prog 72 #[.int .u64 n] w fun e w' => e = .returned (.int .u64 (Clk.topF n)) ∧ w = w' := by
  by_cases h : n ≤ 4611686018427387903
  · have hmn : min n 4611686018427387903 = n := by omega
    rw [Clk.topF_lo h]
    go_enter Tryz.func72, Tryz.ntmps72
    go_wp2
    go_ret
    exact ⟨rfl, rfl⟩
  · have hmn : min n 4611686018427387903 = 4611686018427387903 := by omega
    rw [Clk.topF_hi (by omega)]
    go_enter Tryz.func72, Tryz.ntmps72
    go_wp2
    go_ret
    exact ⟨rfl, rfl⟩
theorem cktopR_c (n : Int) (w : World) : Calls Tryz.prog 74 #[.int .u64 n] w fun e w' => e = .returned (.int .u64 (Clk.topF n)) ∧ w = w' := by
  by_cases h : n ≤ 4611686018427387903
  · have hmn : min n 4611686018427387903 = n := by omega
    rw [Clk.topF_lo h]
    go_enter Tryz.func74, Tryz.ntmps74
    go_wp2
    go_ret
    exact ⟨rfl, rfl⟩
  · have hmn : min n 4611686018427387903 = 4611686018427387903 := by omega
    rw [Clk.topF_hi (by omega)]
    go_enter Tryz.func74, Tryz.ntmps74
    go_wp2
    go_ret
    exact ⟨rfl, rfl⟩
open Go.RowKit
theorem ckslT_u64 : SlT Tryz.prog 112 26 1 8 := SlT.mk' Tryz.underlying112 (z := .int .u64 0) (by kernel_rfl) rfl (by decide)
/-- slices.Clone of numbers. -/
theorem ckcloneU_c (l : List Int) (v : Value) (n : Nat) (w : World) (hv : Sl w 1 v n (l.map (.int .u64))) (hn : n * 8 ≤ 140737488351232) :
    Calls Tryz.prog 112 #[v] w fun e w' => ∃ v', e = .returned v' ∧ w'.ownsRow w.heap.size 26 1 v' n (l.map (.int .u64)) ∧ Below w.heap.size w w' := by
  obtain ⟨a, c, rfl⟩ := hv.len
  have he := fun (w : World) (a : Option Addr) (n c : Nat) => Lib.run_eql_slice_nil (P := Tryz.prog) w 112 26 a n c 0 0 Tryz.underlying112
  cases a with
  | none =>
    have h0 : n = 0 ∧ l = [] := by
      obtain ⟨hl, ⟨a, c, h1, rfl⟩ | ⟨b, off, cap, h1, _⟩⟩ := hv
      · exact ⟨rfl, by simpa using hl⟩
      · simp at h1
    obtain ⟨rfl, rfl⟩ := h0
    go_enter Tryz.func112, Tryz.ntmps112
    go_wp2
    go_ret
    exact ⟨_, rfl, World.ownsRow_nil _ _ _ _, Below.refl _ _⟩
  | some a =>
    go_enter Tryz.func112, Tryz.ntmps112
    go_wp2_with (at_builtin; refine wpList_app rfl _ _ 112 rfl ckslT_u64 w.heap.size rfl (World.ownsRow_lit w #[] 0 (Nat.le_refl _) (by decide) rfl) rfl (hv.up ((Below.refl _ _).alloc (Nat.le_refl _) _)) (one_int _ _) (by simp [maxLen]; omega) (by omega) (by simp) ?_; intro v' w1 hown hgrow _)
    go_ret
    exact ⟨v', rfl, by simpa using hown, grown_below ((Below.refl _ _).alloc (Nat.le_refl _) _) hgrow (fun k hk => by have : w.heap.size = k := Option.some.inj hk; omega)⟩
namespace Clk
def topTo (l : List Int) (k : Nat) : List Int := (l.take k).map topF ++ l.drop k
theorem topTo_zero (l : List Int) : topTo l 0 = l := by simp [topTo]
theorem topTo_all (l : List Int) (k : Nat) (h : l.length ≤ k) : topTo l k = l.map topF := by simp [topTo, List.take_of_length_le h, List.drop_eq_nil_of_le h]
theorem topTo_get (l : List Int) (k : Nat) (h : k < l.length) : (topTo l k)[k]? = l[k]? := by
  simp [topTo, List.getElem?_append, List.length_take, Nat.min_eq_left (Nat.le_of_lt h)]
theorem topTo_set (l : List Int) (k : Nat) (h : k < l.length) : (topTo l k).set k (topF l[k]) = topTo l (k + 1) := by
  apply List.ext_getElem?
  intro j
  simp only [topTo, List.getElem?_set, List.getElem?_append, List.length_map, List.length_take, List.getElem?_map, List.getElem?_take, List.getElem?_drop, List.length_append, List.length_drop]
  rcases Nat.lt_trichotomy j k with hj | rfl | hj
  · rw [if_neg (by omega), if_pos (by omega), if_pos (by omega), if_pos (by omega), if_pos (by omega)]
  · rw [if_pos rfl, if_pos (by omega), if_pos (by omega), if_pos (by omega), List.getElem?_eq_getElem h]; rfl
  · rw [if_neg (by omega), if_neg (by omega), if_neg (by omega)]; congr 1; omega
end Clk
/-- clock.times. -/
theorem cktimes_c (l : List Int) (v : Value) (n : Nat) (w : World) (hv : Sl w 1 v n (l.map (.int .u64))) (hn : n * 8 ≤ 140737488351232) :
    Calls Tryz.prog 73 #[v] w fun e w' => ∃ v', e = .returned v' ∧ w'.ownsRow w.heap.size 26 1 v' n ((l.map Clk.topF).map (.int .u64)) ∧ Below w.heap.size w w' := by
  have hln : l.length = n := by have := hv.1; simpa using this
  have Hln := Lib.hid hln; clear hln
  go_enter Tryz.func73, Tryz.ntmps73
  go_wp2_with (go_at_call 112; refine (ckcloneU_c l v n _ hv hn).mono ?_; rintro e w1 ⟨v1, rfl, hown, hb⟩; obtain ⟨a1, c1, rfl⟩ := (Sl.of_own hown).len)
  go_loopw [10] (fun i wr => ∃ k : Nat, k ≤ n ∧ i = .int .i64 k ∧ wr.ownsRow w.heap.size 26 1 (.slice a1 n c1) n ((Clk.topTo l k).map (.int .u64)) ∧ Below w.heap.size w wr) (fun i _ => n - (intOf i).toNat)
  case atStart => exact ⟨0, Nat.zero_le _, rfl, by rw [Clk.topTo_zero]; exact hown, hb⟩
  case round =>
    obtain ⟨k, hk, rfl, ho, hB⟩ := hrel
    have hm : n ≤ 9223372036854775807 := by omega
    by_cases hlt : k < n
    · obtain ⟨g, rfl, hg0, hg1⟩ := own_some ho (by omega)
      have hlt' : k < l.length := by rw [Hln.out]; exact hlt
      have hc : wr.cell? ⟨g, k, none⟩ = some (.int .u64 l[k]) := by
        rw [ho.cellAt k (by omega)]; simp [Clk.topTo_get l k hlt', hlt']
      have hf := ho.frozenAt k
      have hst := ho.stored k (.int .u64 (Clk.topF l[k]))
      have Hst := Lib.hid hst; clear hst ho hown
      go_wp2_with (go_at_call 72; refine (cktop_c _ _).mono ?_; rintro e w1 ⟨rfl, rfl⟩)
      go_roundw
      case rel => exact ⟨k + 1, by omega, by go_num, by rw [← Clk.topTo_set l k hlt', List.map_set]; exact Hst.out.1, hB.setCell hg0 _⟩
      case measure => simp [intOf]; omega
    · obtain rfl : k = n := by omega
      go_wp2
      go_ret
      exact ⟨_, rfl, by rw [← Clk.topTo_all l k (by rw [Hln.out]; exact Nat.le_refl _)]; exact ho, hB⟩
namespace Clk
/-- The place of the first that is such; below 0: none is. -/
def idx {α : Type} (p : α → Bool) (l : List α) : Int := match l.findIdx? p with | some i => i | none => -1
theorem idx_some {α : Type} {p : α → Bool} {l : List α} {k : Nat} (hk : k < l.length) (h : ∀ j, j < k → ∀ hj : j < l.length, p l[j] = false) (hp : p l[k] = true) : idx p l = k := by
  have : l.findIdx? p = some k := by
    rw [List.findIdx?_eq_some_iff_getElem]
    exact ⟨hk, hp, fun j hj => by simp [h j hj (by omega)]⟩
  simp [idx, this]
theorem idx_none {α : Type} {p : α → Bool} {l : List α} (h : ∀ j, ∀ hj : j < l.length, p l[j] = false) : idx p l = -1 := by
  have : l.findIdx? p = none := by
    rw [List.findIdx?_eq_none_iff]
    intro x hx
    obtain ⟨j, hj, rfl⟩ := List.getElem_of_mem hx
    exact h j hj
  simp [idx, this]
theorem idx_any {α : Type} (p : α → Bool) (l : List α) : decide (0 ≤ idx p l) = l.any p := by
  unfold idx
  cases h : l.findIdx? p with
  | none =>
    rw [List.findIdx?_eq_none_iff] at h
    have : l.any p = false := by rw [List.any_eq_false]; intro x hx; simp [h x hx]
    rw [this]; rfl
  | some i =>
    have : l.any p = true := by
      rw [List.findIdx?_eq_some_iff_getElem] at h
      obtain ⟨hi, hp, _⟩ := h
      exact List.any_eq_true.2 ⟨l[i], List.getElem_mem hi, hp⟩
    rw [this]; simp
end Clk
/-- slices.IndexFunc of numbers. -/
theorem ckindexU_c (l : List Int) (v : Value) (n : Nat) (w : World) (hv : Sl w 1 v n (l.map (.int .u64))) (hn : n * 8 ≤ 140737488351232) (f : FuncId) (hf : Enters Tryz.prog f) (caps : Array Value) (p : Int → Bool)
    (hp : ∀ x ∈ l, ∀ w1, Below w.heap.size w w1 → Calls Tryz.prog f (#[.int .u64 x] ++ caps) w1 (Ret (.bool (p x)) w1)) :
    Calls Tryz.prog 143 #[v, .func (.func f) #[] caps] w (Ret (.int .i64 (Clk.idx p l)) w) := by
  have hln : l.length = n := by have := hv.1; simpa using this
  obtain ⟨a1, c1, rfl⟩ := hv.len
  have Hln := Lib.hid hln; clear hln
  go_enter Tryz.func143, Tryz.ntmps143
  go_wp2
  go_loopw [8] (fun i wr => ∃ k : Nat, k ≤ n ∧ i = .int .i64 k ∧ (∀ j, j < k → ∀ hj : j < l.length, p l[j] = false) ∧ Below w.heap.size w wr) (fun i _ => n - (intOf i).toNat)
  case atStart => exact ⟨0, Nat.zero_le _, rfl, by intro j hj; omega, Below.refl _ _⟩
  case round =>
    obtain ⟨k, hk, rfl, hno, hB⟩ := hrel
    have hm : n ≤ 9223372036854775807 := by omega
    have Hno := Lib.hid hno; clear hno
    by_cases hlt : k < n
    · have hlt' : k < l.length := by rw [Hln.out]; exact hlt
      obtain ⟨b, off, rfl, hc⟩ := (hv.up hB).cellAt (k := k) (by omega) (by omega)
      have hc1 : wr.cell? ⟨b, off + k, none⟩ = some (.int .u64 l[k]) := by
        simpa [hlt'] using hc
      have hcall := hp l[k] (List.getElem_mem hlt') wr hB
      unfold Enters at hf
      by_cases hpk : p l[k] = true
      · rw [hpk] at hcall
        have Hpk := Lib.hid hpk; clear hpk
        go_wp2_with (refine hcall.mono ?_; rintro e w1 ⟨rfl, hb⟩)
        go_ret
        exact ⟨retI (Clk.idx_some hlt' Hno.out Hpk.out).symm, hB.trans (hb.mono hB.size)⟩
      · have hpk : p l[k] = false := by simpa using hpk
        rw [hpk] at hcall
        have Hpk := Lib.hid hpk; clear hpk
        go_wp2_with (refine hcall.mono ?_; rintro e w1 ⟨rfl, hb⟩)
        go_roundw
        case rel =>
          refine ⟨k + 1, by omega, by go_num, fun j hj hj' => ?_, hB.trans (hb.mono hB.size)⟩
          rcases Nat.lt_or_ge j k with h | h
          · exact Hno.out j h hj'
          · obtain rfl : j = k := by omega
            exact Hpk.out
        case measure => simp [intOf]; omega
    · obtain rfl : k = n := by omega
      go_wp2
      go_ret
      exact ⟨retI (Clk.idx_none fun j hj => Hno.out j (by rw [← Hln.out]; exact hj) hj).symm, hB⟩
open Go.RowKit
theorem ckcontainsU_c (l : List Int) (v : Value) (n : Nat) (w : World) (hv : Sl w 1 v n (l.map (.int .u64))) (hn : n * 8 ≤ 140737488351232) (f : FuncId) (hf : Enters Tryz.prog f) (caps : Array Value) (p : Int → Bool)
    (hp : ∀ x ∈ l, ∀ w1, Below w.heap.size w w1 → Calls Tryz.prog f (#[.int .u64 x] ++ caps) w1 (Ret (.bool (p x)) w1)) :
    Calls Tryz.prog 121 #[v, .func (.func f) #[] caps] w (Ret (.bool (l.any p)) w) := by
  go_enter Tryz.func121, Tryz.ntmps121
  go_wp2_with (go_at_call 143; refine (ckindexU_c l v n _ hv hn f hf caps p hp).mono ?_; rintro e w1 ⟨rfl, hb⟩)
  go_ret
  exact ⟨retB (Clk.idx_any p l), hb⟩
/-- The closure in 'all': a call of the question, turned round. -/
theorem ckallU1_c (x : Int) (b : Nat) (f : FuncId) (hf : Enters Tryz.prog f) (caps : Array Value) (p : Bool) (w : World) (hc : w.cell? ⟨b, 0, none⟩ = some (.func (.func f) #[] caps))
    (hp : Calls Tryz.prog f (#[.int .u64 x] ++ caps) w (Ret (.bool p) w)) :
    Calls Tryz.prog 122 #[.int .u64 x, .pointer (some ⟨b, 0, none⟩)] w (Ret (.bool (!p)) w) := by
  unfold Enters at hf
  go_enter Tryz.func122, Tryz.ntmps122
  go_wp2_with (refine hp.mono ?_; rintro e w1 ⟨rfl, hb⟩)
  go_ret
  exact ⟨rfl, hb⟩
theorem ckenters_allU1 : Enters Tryz.prog 122 := enters_of Tryz.func122 (by kernel_rfl) rfl
theorem ckallU_c (l : List Int) (v : Value) (n : Nat) (w : World) (hv : Sl w 1 v n (l.map (.int .u64))) (hn : n * 8 ≤ 140737488351232) (f : FuncId) (hf : Enters Tryz.prog f) (caps : Array Value) (p : Int → Bool)
    (hp : ∀ x ∈ l, ∀ w1, Below w.heap.size w w1 → Calls Tryz.prog f (#[.int .u64 x] ++ caps) w1 (Ret (.bool (p x)) w1)) :
    Calls Tryz.prog 96 #[.func (.func f) #[] caps, v] w (Ret (.bool (l.all p)) w) := by
  have hmf : ∀ (fn : Fn) (first cap : Array Value) (w : World), (Instr.makeFunc fn first cap).run Tryz.prog w = .ok (.func fn first cap) w := fun _ _ _ _ => rfl
  go_enter Tryz.func96, Tryz.ntmps96
  go_wp2_with (go_at_call 121; refine (ckcontainsU_c l v n _ (hv.up (below_alloc _ _)) hn _ ckenters_allU1 #[.pointer (some ⟨w.heap.size, 0, none⟩)] (fun x => !p x) (fun x hx w1 hB => Calls.cast rfl (ckallU1_c x w.heap.size f hf caps (p x) w1 (cell_up hB (cell_new _ _ _)) (hp x hx w1 (below_new hB))))).mono ?_; rintro e w1 ⟨rfl, hb⟩)
  go_ret
  exact ⟨retB (by rw [← List.not_all_eq_any_not]; simp), below_new hb⟩
theorem ckcheck1_c (n : Int) (w : World) : Calls Tryz.prog 97 #[.int .u64 n] w (Ret (.bool (decide (n ≤ 4611686018427387903))) w) := by
  go_enter Tryz.func97, Tryz.ntmps97
  go_wp2
  go_ret
  exact ⟨rfl, Below.refl _ _⟩
theorem ckenters_check1 : Enters Tryz.prog 97 := enters_of Tryz.func97 (by kernel_rfl) rfl
/-- clock.Check. -/
theorem ckcheck_c (l : List Int) (v : Value) (n : Nat) (w : World) (hv : Sl w 1 v n (l.map (.int .u64))) (hn : n * 8 ≤ 140737488351232) :
    Calls Tryz.prog 55 #[v] w (Ret (.int .i64 (if l.all (fun n => decide (n ≤ 4611686018427387903)) then 0 else 2)) w) := by
  have hmf : ∀ (fn : Fn) (first cap : Array Value) (w : World), (Instr.makeFunc fn first cap).run Tryz.prog w = .ok (.func fn first cap) w := fun _ _ _ _ => rfl
  generalize hx : l.all (fun n => decide (n ≤ 4611686018427387903)) = x
  have Hx := Lib.hid hx; clear hx
  cases x
  all_goals
    go_enter Tryz.func55, Tryz.ntmps55
    go_wp2_with (go_at_call 96; refine (ckallU_c l v n _ hv hn _ ckenters_check1 #[] (fun n => decide (n ≤ 4611686018427387903)) (fun x hx w1 hB => Calls.cast rfl (ckcheck1_c x w1))).mono ?_; rw [Hx.out]; rintro e w1 ⟨rfl, hb⟩)
    go_ret
    exact ⟨rfl, hb⟩
/-- The closure in Add. -/
theorem ckadd1_c (x n : Int) (b : Nat) (w : World) (hc : w.cell? ⟨b, 0, none⟩ = some (.int .u64 n)) (hf : w.frozen? ⟨b, 0, none⟩ = false) (h0 : 0 ≤ n + x) (h1 : n + x ≤ 18446744073709551615) :
    Calls Tryz.prog 71 #[.int .u64 x, .pointer (some ⟨b, 0, none⟩)] w fun e w' => e = .returned (.tuple #[]) ∧ w' = w.setCell ⟨b, 0, none⟩ (.int .u64 (Clk.topF (n + x))) := by
  go_enter Tryz.func71, Tryz.ntmps71
  go_wp2_with (go_at_call 72; refine (cktop_c _ _).mono ?_; rintro e w1 ⟨rfl, rfl⟩)
  go_end0
  exact ⟨rfl, rfl⟩
/-- clock.Add. -/
theorem ckadd_c (a b : Int) (w : World) (ha : 0 ≤ a) (hb : 0 ≤ b) : Calls Tryz.prog 38 #[.int .u64 a, .int .u64 b] w (Ret (.int .u64 (Clk.addF a b)) w) := by
  have hmf : ∀ (fn : Fn) (first cap : Array Value) (w : World), (Instr.makeFunc fn first cap).run Tryz.prog w = .ok (.func fn first cap) w := fun _ _ _ _ => rfl
  have hsl : Sl ((w.alloc (.cells #[.int .u64 0] 26)).alloc (.cells #[.int .u64 a, .int .u64 b] 26)) 1 (.slice (some ⟨w.heap.size + 1, 0, none⟩) 2 2) 2 ([a, b].map (.int .u64)) :=
    Sl.of_own (by have := World.ownsRow_lit (w.alloc (.cells #[.int .u64 0] 26)) #[.int .u64 a, .int .u64 b] 2 (size := 1) (e := 26) (Nat.le_refl _) (by decide) rfl; simpa using this)
  have hB0 : Below w.heap.size w ((w.alloc (.cells #[.int .u64 0] 26)).alloc (.cells #[.int .u64 a, .int .u64 b] 26)) := (below_alloc _ _).alloc (by simp) _
  obtain ⟨ta0, ta1⟩ := Clk.topF_b a ha
  obtain ⟨tb0, tb1⟩ := Clk.topF_b b hb
  go_enter Tryz.func38, Tryz.ntmps38
  go_wp2_with (go_at_call 73; refine (cktimes_c [a, b] _ 2 _ hsl (by decide)).mono ?_; rintro e w1 ⟨v1, rfl, hs1, hb1⟩; obtain ⟨a1, c1, rfl⟩ := (Sl.of_own hs1).len)
  have hcn : w1.cell? ⟨w.heap.size, 0, none⟩ = some (.int .u64 0) := cell_up hb1 (by rw [World.cell?_alloc_past _ _ _ (by simp)]; exact cell_new _ _ _)
  have hfn : w1.frozen? ⟨w.heap.size, 0, none⟩ = false := frozen_up hb1 (by rw [World.cell?_alloc_past _ _ _ (by simp)]; exact cell_new _ _ _) (by rw [World.frozen?_alloc_past _ _ _ (by simp)]; exact frozen_new _ _ _)
  have hB1 : Below w.heap.size w w1 := below_up hB0 hb1
  obtain ⟨g, rfl, hg0, hg1⟩ := own_some hs1 (by decide)
  simp at hg0
  have hgn : g ≠ w.heap.size := by omega
  clear hsl hB0 hb1
  go_loopw [15] (fun i wr => ∃ k : Nat, k ≤ 2 ∧ i = .int .i64 k ∧ wr.ownsRow (w.heap.size + 2) 26 1 (.slice (some ⟨g, 0, none⟩) 2 c1) 2 [.int .u64 (Clk.topF a), .int .u64 (Clk.topF b)] ∧ wr.cell? ⟨w.heap.size, 0, none⟩ = some (.int .u64 (Clk.part a b k)) ∧ wr.frozen? ⟨w.heap.size, 0, none⟩ = false ∧ Below w.heap.size w wr) (fun i _ => 2 - (intOf i).toNat)
  case atStart => exact ⟨0, Nat.zero_le _, rfl, by simpa using hs1, hcn, hfn, hB1⟩
  case round =>
    obtain ⟨k, hk, rfl, ho, hcn', hfn', hB⟩ := hrel
    clear hcn hfn hs1 hB1
    have hpb := Clk.part_b a b k ha hb
    have hlt3 : k = 0 ∨ k = 1 ∨ k = 2 := by omega
    rcases hlt3 with rfl | rfl | rfl
    · have hc := ho.cellAt 0 (by decide)
      simp at hc
      go_wp2_with (go_at_call 71; refine (ckadd1_c _ _ _ _ hcn' hfn' (by omega) (by omega)).mono ?_; rintro e w2 ⟨rfl, rfl⟩)
      go_roundw
      case rel => exact ⟨1, by omega, by go_num, ownsRow_setCell_below ho (by simp) _, by rw [Clk.part_s0]; exact World.cell?_setCell_same' _ _ _ (by rw [hcn']; rfl), by rw [World.frozen?_setCell]; exact hfn', hB.setCell (Nat.le_refl _) _⟩
      case measure => simp [intOf]
    · have hc := ho.cellAt 1 (by decide)
      simp at hc
      go_wp2_with (go_at_call 71; refine (ckadd1_c _ _ _ _ hcn' hfn' (by omega) (by omega)).mono ?_; rintro e w2 ⟨rfl, rfl⟩)
      go_roundw
      case rel => exact ⟨2, by omega, by go_num, ownsRow_setCell_below ho (by simp) _, by rw [Clk.part_s1]; exact World.cell?_setCell_same' _ _ _ (by rw [hcn']; rfl), by rw [World.frozen?_setCell]; exact hfn', hB.setCell (Nat.le_refl _) _⟩
      case measure => simp [intOf]
    · go_wp2
      go_ret
      exact ⟨rfl, hB⟩
open Go.RowKit
theorem ckaddR_c (a b : Int) (w : World) (ha : 0 ≤ a) (hb : 0 ≤ b) : Calls Tryz.prog 39 #[.int .u64 a, .int .u64 b] w fun e w' => e = .returned (.int .u64 (Clk.addF a b)) ∧ w = w' := by
  obtain ⟨ta0, ta1⟩ := Clk.topF_b a ha
  obtain ⟨tb0, tb1⟩ := Clk.topF_b b hb
  unfold Clk.addF
  generalize hx : Clk.topF a = x at *
  generalize hy : Clk.topF b = y at *
  have Hx := Lib.hid hx; clear hx
  have Hy := Lib.hid hy; clear hy
  go_enter Tryz.func39, Tryz.ntmps39
  go_wp2_with fail
  refine (cktopR_c a w).mono ?_
  rw [Hx.out]
  rintro e w1 ⟨rfl, rfl⟩
  go_wp2_with fail
  refine (cktopR_c b w).mono ?_
  rw [Hy.out]
  rintro e w1 ⟨rfl, rfl⟩
  go_wp2_with fail
  refine (cktopR_c _ w).mono ?_
  rintro e w1 ⟨rfl, rfl⟩
  go_wp2
  go_ret
  exact ⟨rfl, rfl⟩
end Go.Proofs.YtpkonagjnfphkaaGreatDoor

namespace Go.Proofs.YtpkonagjnfphkaaGreatDoor
open Go.RowKit Trc
set_option linter.unusedSimpArgs false
set_option linter.unusedVariables false
abbrev prC (p : Prm.Pr) : List Value := [.int .u32 p.flags, .int .i64 p.sum, .int .u32 p.toN, .int .u32 p.toS, .int .u32 p.srN, .int .u32 p.srS, .int .u32 p.rpN, .int .u32 p.rpS, .int .u64 p.time, .int .u32 p.seq, .int .u64 p.life]
abbrev prV (p : Prm.Pr) : Value := .agg (prC p).toArray
theorem bv_andNot {w : Nat} (x m : BitVec w) : x &&& ~~~m = 0#w ↔ x &&& m = x := by
  constructor
  · intro h
    refine BitVec.eq_of_getLsbD_eq fun i hi => ?_
    have h2 := congrArg (fun b : BitVec w => b.getLsbD i) h
    simp only [BitVec.getLsbD_and, BitVec.getLsbD_not, BitVec.getLsbD_zero, hi, decide_true, Bool.true_and] at h2 ⊢
    cases hx : x.getLsbD i <;> cases hm : m.getLsbD i <;> simp_all
  · intro h
    refine BitVec.eq_of_getLsbD_eq fun i hi => ?_
    have h2 := congrArg (fun b : BitVec w => b.getLsbD i) h
    simp only [BitVec.getLsbD_and, BitVec.getLsbD_not, BitVec.getLsbD_zero, hi, decide_true, Bool.true_and] at h2 ⊢
    cases hx : x.getLsbD i <;> cases hm : m.getLsbD i <;> simp_all
theorem andNot_zero (f : Nat) (hf : f < 4294967296) : (bits .andNot .u32 (f : Int) 418 == 0) = decide (f &&& 418 = f) := by
  have e1 : BitVec.ofInt 32 (f : Int) = BitVec.ofNat 32 f := by simp
  have e2 : bits .andNot .u32 (f : Int) 418 = ((BitVec.ofNat 32 f &&& ~~~(418#32)).toNat : Int) := by
    show IntKind.u32.wrap _ = _
    rw [IntKind.wrap_u32]
    have h := (BitVec.ofNat 32 f &&& ~~~(418#32)).isLt
    rw [show (BitVec.ofInt IntKind.u32.bits (f : Int)) = BitVec.ofNat 32 f from e1]
    show ((BitVec.ofNat 32 f &&& ~~~(418#32)).toNat : Int) % 4294967296 = _
    omega
  rw [e2]
  have h3 := bv_andNot (BitVec.ofNat 32 f) (418#32)
  have h4 : (BitVec.ofNat 32 f &&& 418#32 = BitVec.ofNat 32 f) ↔ f &&& 418 = f := by
    rw [← BitVec.toNat_inj, BitVec.toNat_and, BitVec.toNat_ofNat, BitVec.toNat_ofNat, Nat.mod_eq_of_lt hf]
  rw [h4, ← BitVec.toNat_inj] at h3
  by_cases h : f &&& 418 = f
  · rw [decide_eq_true h, h3.2 h]; rfl
  · rw [decide_eq_false h, beq_eq_false_iff_ne]
    intro e
    exact h (h3.1 (by simpa using e))
set_option maxRecDepth 100000 in
theorem prFlags_c (p : Prm.Pr) (hf : p.flags < 4294967296) (w : World) : Calls Tryz.prog 36 #[prV p] w (Ret (.bool (Prm.flagsB p.flags)) w) := by
  have X0 := RowAt.new w (prC p).toArray 76
  have x0 := X0.cell (i := 0) rfl
  have hB := below_alloc w (.cells (prC p).toArray 76)
  have hq : ((p.flags : Int).tdiv 128) = ((p.flags / 128 : Nat) : Int) := by rw [Int.tdiv_eq_ediv_of_nonneg (by omega)]; omega
  have e := andNot_zero p.flags hf
  have hfe := Prm.flags_eq p.flags
  obtain ⟨R, hR⟩ : ∃ R, R = Prm.flagsB p.flags := ⟨_, rfl⟩
  rw [← hR] at hfe ⊢
  have HR := Lib.hid hfe
  clear hR hfe
  by_cases h1 : p.flags &&& 418 = p.flags
  · rw [decide_eq_true h1] at e
    by_cases h2 : p.flags / 128 ≤ 2
    · have h3 : decide ((p.flags : Int) / 128 ≤ 2) = true := decide_eq_true (by omega)
      have HRT := Lib.hid (show R = true by rw [← HR.out]; exact decide_eq_true ⟨h1, h2⟩)
      clear h1 h2
      go_enter Tryz.func36, Tryz.ntmps36
      go_wp2
      go_ret
      exact ⟨by rw [HRT.out]; rfl, hB⟩
    · have h3 : decide ((p.flags : Int) / 128 ≤ 2) = false := decide_eq_false (by omega)
      have HRT := Lib.hid (show R = false by rw [← HR.out]; exact decide_eq_false fun h => h2 h.2)
      clear h1 h2
      go_enter Tryz.func36, Tryz.ntmps36
      go_wp2
      go_ret
      exact ⟨by rw [HRT.out]; rfl, hB⟩
  · rw [decide_eq_false h1] at e
    have HRT := Lib.hid (show R = false by rw [← HR.out]; exact decide_eq_false fun h => h1 h.1)
    clear h1
    go_enter Tryz.func36, Tryz.ntmps36
    go_wp2
    go_ret
    exact ⟨by rw [HRT.out]; rfl, hB⟩
/-- A question: the function, what it is bound to, what it answers. -/
structure Prm.Qn where
  g : FuncId
  cap : Array Value
  b : Bool
abbrev prQ (a : Prm.Qn) : List Value := [.func (.func a.g) #[] a.cap]
theorem Prm.any_take {l : List Prm.Qn} {k : Nat} (hk : k < l.length) (h : (l.take k).any (·.b) = false) (hb : l[k].b = false) : (l.take (k + 1)).any (·.b) = false := by
  rw [List.take_succ_eq_append_getElem hk, List.any_append, h]; simp [hb]
theorem Prm.any_at {l : List Prm.Qn} {k : Nat} (hk : k < l.length) (hb : l[k].b = true) : l.any (·.b) = true := by
  rw [List.any_eq_true]; exact ⟨l[k], List.getElem_mem hk, hb⟩
set_option maxHeartbeats 1000000 in
set_option maxRecDepth 100000 in
theorem prWrong_c (l : List Prm.Qn) (v : Value) (n : Nat) (w : World) (hv : Sl w 1 v n (l.flatMap prQ)) (hg : ∀ a ∈ l, Enters Tryz.prog a.g)
    (hq : ∀ a ∈ l, ∀ w1, Below w.heap.size w w1 → Calls Tryz.prog a.g a.cap w1 (Ret (.bool a.b) w1)) :
    Calls Tryz.prog 47 #[v] w (Ret (.bool (l.any (·.b))) w) := by
  have Hln := Lib.hid (Sl.recs (cells := prQ) (sz := 1) (fun _ => rfl) (by decide) hv)
  have hn := hv.n_max
  obtain ⟨a, c, rfl⟩ := hv.len
  obtain ⟨R, hR⟩ : ∃ R, R = l.any (·.b) := ⟨_, rfl⟩
  rw [← hR]
  have HR := Lib.hid hR
  have HG := Lib.hid hg
  have HQ := Lib.hid hq
  clear hR hg hq
  go_enter Tryz.func47, Tryz.ntmps47
  go_wp2
  refine wp_scope_fwd 0 rfl ?_
  go_wp2
  go_loopw [2, 7] (fun q i wr => ∃ k : Nat, k ≤ n ∧ q = .bool false ∧ i = .int .i64 k ∧ RowKit.Hid ((l.take k).any (·.b) = false) ∧ Below w.heap.size w wr) (fun _ i _ => n - (intOf i).toNat)
  case atStart => exact ⟨0, Nat.zero_le _, rfl, rfl, Lib.hid (by simp), Below.refl _ _⟩
  case round =>
    obtain ⟨k, hk, rfl, rfl, Hno, hB⟩ := hrel
    have HB := Lib.hid hB
    by_cases hlt : k < n
    · have hlt' : k < l.length := by rw [Hln.out]; exact hlt
      obtain ⟨b, off, rfl, hr⟩ := (hv.up hB).rec_at (cells := prQ) (sz := 1) (fun _ => rfl) hlt hlt'
      have hcall := HQ.out l[k] (List.getElem_mem hlt')
      have hent := HG.out l[k] (List.getElem_mem hlt')
      have Hsome := Lib.hid (fun h : l[k].b = true => HR.out.trans (Prm.any_at hlt' h))
      have Hstep := Lib.hid (fun (h : l[k].b = false) => Prm.any_take hlt' Hno.out h)
      clear hB
      unfold Enters at hent
      generalize l[k] = x at *
      obtain ⟨g, cap, bb⟩ := x
      simp only at hcall hent
      have hcl := hcall _ HB.out
      have c0 := hr 0 _ rfl
      simp only [Nat.mul_one, Nat.add_zero] at c0
      cases bb with
      | true =>
        have hRe := Hsome.out rfl
        go_wp2_with (refine hcl.mono ?_; rintro en w1 ⟨rfl, hb⟩)
        refine wp_goto ?_
        refine And.intro rfl ?_
        show Code.wp _ _ _ _ _
        go_wp2
        try rw [jump_ret]
        go_ret
        exact ⟨by rw [hRe]; rfl, below_up HB.out hb⟩
      | false =>
        go_wp2_with (refine hcl.mono ?_; rintro en w1 ⟨rfl, hb⟩)
        go_roundw
        case rel => exact ⟨k + 1, by omega, rfl, by go_num, Lib.hid (by first | exact Hstep.out rfl | exact Hstep.out trivial), below_up HB.out hb⟩
        case measure => simp [intOf]; omega
    · obtain rfl : k = n := by omega
      have hRe : R = false := by rw [HR.out, ← Hno.out, List.take_of_length_le (by rw [Hln.out]; exact Nat.le_refl _)]
      go_wp2
      refine wp_label ?_
      go_wp2
      go_ret
      exact ⟨by rw [hRe]; rfl, HB.out⟩
theorem prQ1_c (p : Prm.Pr) (hp : p.Ok) (B : Nat) (w : World) (hB : RowAt w B (prC p).toArray 76) : Calls Tryz.prog 48 #[.pointer (some ⟨B, 0, none⟩)] w (Ret (.bool (!Prm.flagsB p.flags)) w) := by
  have x0 := hB.cell (i := 0) rfl
  have x1 := hB.cell (i := 1) rfl
  have x2 := hB.cell (i := 2) rfl
  have x3 := hB.cell (i := 3) rfl
  have x4 := hB.cell (i := 4) rfl
  have x5 := hB.cell (i := 5) rfl
  have x6 := hB.cell (i := 6) rfl
  have x7 := hB.cell (i := 7) rfl
  have x8 := hB.cell (i := 8) rfl
  have x9 := hB.cell (i := 9) rfl
  have x10 := hB.cell (i := 10) rfl
  have hcl := prFlags_c p hp.f w
  cases hb : Prm.flagsB p.flags
  all_goals
    rw [hb] at hcl
    go_enter Tryz.func48, Tryz.ntmps48
    go_wp2_with (go_at_call 36; refine hcl.mono ?_; rintro en w1 ⟨rfl, hb1⟩)
    go_ret
    exact ⟨rfl, hb1⟩
theorem prQ2_c (p : Prm.Pr) (hp : p.Ok) (B : Nat) (w : World) (hB : RowAt w B (prC p).toArray 76) : Calls Tryz.prog 49 #[.pointer (some ⟨B, 0, none⟩)] w (Ret (.bool (!decide (0 ≤ p.sum ∧ p.sum ≤ 2))) w) := by
  have x0 := hB.cell (i := 0) rfl
  have x1 := hB.cell (i := 1) rfl
  have x2 := hB.cell (i := 2) rfl
  have x3 := hB.cell (i := 3) rfl
  have x4 := hB.cell (i := 4) rfl
  have x5 := hB.cell (i := 5) rfl
  have x6 := hB.cell (i := 6) rfl
  have x7 := hB.cell (i := 7) rfl
  have x8 := hB.cell (i := 8) rfl
  have x9 := hB.cell (i := 9) rfl
  have x10 := hB.cell (i := 10) rfl
  by_cases h : 0 ≤ p.sum ∧ p.sum ≤ 2
  · rw [decide_eq_true h]
    have hs : ((p.sum.toNat : Nat) : Int) = p.sum := by omega
    have hcl := suwidth_c p.sum.toNat (by omega) w
    rw [hs] at hcl
    go_enter Tryz.func49, Tryz.ntmps49
    go_wp2_with (go_at_call 50; refine hcl.mono ?_; rintro en w1 ⟨rfl, hb1⟩)
    go_ret
    exact ⟨rfl, hb1⟩
  · rw [decide_eq_false h]
    have hcl := suwidth_bad p.sum (by omega) w
    clear h
    go_enter Tryz.func49, Tryz.ntmps49
    go_wp2_with (go_at_call 50; refine hcl.mono ?_; rintro en w1 ⟨rfl, hb1⟩)
    go_ret
    exact ⟨rfl, hb1⟩
theorem prQ3_c (p : Prm.Pr) (hp : p.Ok) (B : Nat) (w : World) (hB : RowAt w B (prC p).toArray 76) : Calls Tryz.prog 51 #[.pointer (some ⟨B, 0, none⟩)] w (Ret (.bool (!decide (p.toN ≠ 0 ∧ p.srN ≠ 0))) w) := by
  have x0 := hB.cell (i := 0) rfl
  have x1 := hB.cell (i := 1) rfl
  have x2 := hB.cell (i := 2) rfl
  have x3 := hB.cell (i := 3) rfl
  have x4 := hB.cell (i := 4) rfl
  have x5 := hB.cell (i := 5) rfl
  have x6 := hB.cell (i := 6) rfl
  have x7 := hB.cell (i := 7) rfl
  have x8 := hB.cell (i := 8) rfl
  have x9 := hB.cell (i := 9) rfl
  have x10 := hB.cell (i := 10) rfl
  by_cases h : p.toN ≠ 0 ∧ p.srN ≠ 0
  · have e2 : (min (p.toN : Int) (p.srN : Int) == 0) = false := by rw [beq_eq_false_iff_ne]; omega
    rw [decide_eq_true h]
    clear h
    go_enter Tryz.func51, Tryz.ntmps51
    go_wp2
    go_ret
    exact ⟨rfl, Below.refl _ _⟩
  · have e2 : (min (p.toN : Int) (p.srN : Int) == 0) = true := by rw [beq_iff_eq]; omega
    rw [decide_eq_false h]
    clear h
    go_enter Tryz.func51, Tryz.ntmps51
    go_wp2
    go_ret
    exact ⟨rfl, Below.refl _ _⟩
theorem prQ4_c (p : Prm.Pr) (hp : p.Ok) (B : Nat) (w : World) (hB : RowAt w B (prC p).toArray 76) : Calls Tryz.prog 52 #[.pointer (some ⟨B, 0, none⟩)] w (Ret (.bool (!decide (Dig.chkP p.rpN p.rpS = 0))) w) := by
  have x0 := hB.cell (i := 0) rfl
  have x1 := hB.cell (i := 1) rfl
  have x2 := hB.cell (i := 2) rfl
  have x3 := hB.cell (i := 3) rfl
  have x4 := hB.cell (i := 4) rfl
  have x5 := hB.cell (i := 5) rfl
  have x6 := hB.cell (i := 6) rfl
  have x7 := hB.cell (i := 7) rfl
  have x8 := hB.cell (i := 8) rfl
  have x9 := hB.cell (i := 9) rfl
  have x10 := hB.cell (i := 10) rfl
  have hcl := check_cN p.rpN p.rpS w
  have h2 : Dig.chkP p.rpN p.rpS = 0 ∨ Dig.chkP p.rpN p.rpS = 2 := by unfold Dig.chkP; split; exact .inr rfl; exact .inl rfl
  rcases h2 with h | h
  all_goals
    rw [h] at hcl ⊢
    go_enter Tryz.func52, Tryz.ntmps52
    go_wp2_with (go_at_call 53; refine hcl.mono ?_; rintro en w1 ⟨rfl, hb1⟩)
    go_ret
    exact ⟨rfl, hb1⟩
theorem prQ5_c (p : Prm.Pr) (hp : p.Ok) (B : Nat) (w : World) (hB : RowAt w B (prC p).toArray 76) : Calls Tryz.prog 54 #[.pointer (some ⟨B, 0, none⟩)] w (Ret (.bool (!decide (p.time ≤ 4611686018427387903 ∧ p.life ≤ 4611686018427387903))) w) := by
  have x0 := hB.cell (i := 0) rfl
  have x1 := hB.cell (i := 1) rfl
  have x2 := hB.cell (i := 2) rfl
  have x3 := hB.cell (i := 3) rfl
  have x4 := hB.cell (i := 4) rfl
  have x5 := hB.cell (i := 5) rfl
  have x6 := hB.cell (i := 6) rfl
  have x7 := hB.cell (i := 7) rfl
  have x8 := hB.cell (i := 8) rfl
  have x9 := hB.cell (i := 9) rfl
  have x10 := hB.cell (i := 10) rfl
  have hsl : Sl (w.alloc (.cells #[.int .u64 p.time, .int .u64 p.life] 26)) 1 (.slice (some ⟨w.heap.size, 0, none⟩) 2 2) 2 (([(p.time : Int), (p.life : Int)]).map (.int .u64)) :=
    Sl.of_own (World.ownsRow_lit w #[.int .u64 p.time, .int .u64 p.life] 2 (size := 1) (e := 26) (Nat.le_refl _) (by decide) rfl)
  have hcl := ckcheck_c [(p.time : Int), (p.life : Int)] _ 2 _ hsl (by decide)
  have hd : ([(p.time : Int), (p.life : Int)].all fun n => decide (n ≤ 4611686018427387903)) = decide (p.time ≤ 4611686018427387903 ∧ p.life ≤ 4611686018427387903) := by
    rw [Bool.eq_iff_iff]; simp; omega
  rw [hd] at hcl
  have hB0 := below_alloc w (.cells #[.int .u64 p.time, .int .u64 p.life] 26)
  cases hb : decide (p.time ≤ 4611686018427387903 ∧ p.life ≤ 4611686018427387903)
  all_goals
    rw [hb] at hcl
    clear hb hd hsl
    go_enter Tryz.func54, Tryz.ntmps54
    go_wp2_with (go_at_call 55; refine hcl.mono ?_; rintro en w1 ⟨rfl, hb1⟩)
    go_ret
    exact ⟨rfl, below_up hB0 hb1⟩
theorem enters_prQ1 : Enters Tryz.prog 48 := enters_of Tryz.func48 (by kernel_rfl) rfl
theorem enters_prQ2 : Enters Tryz.prog 49 := enters_of Tryz.func49 (by kernel_rfl) rfl
theorem enters_prQ3 : Enters Tryz.prog 51 := enters_of Tryz.func51 (by kernel_rfl) rfl
theorem enters_prQ4 : Enters Tryz.prog 52 := enters_of Tryz.func52 (by kernel_rfl) rfl
theorem enters_prQ5 : Enters Tryz.prog 54 := enters_of Tryz.func54 (by kernel_rfl) rfl
def prQs (p : Prm.Pr) (B : Nat) : List Prm.Qn := [⟨48, #[.pointer (some ⟨B, 0, none⟩)], !Prm.flagsB p.flags⟩, ⟨49, #[.pointer (some ⟨B, 0, none⟩)], !decide (0 ≤ p.sum ∧ p.sum ≤ 2)⟩, ⟨51, #[.pointer (some ⟨B, 0, none⟩)], !decide (p.toN ≠ 0 ∧ p.srN ≠ 0)⟩, ⟨52, #[.pointer (some ⟨B, 0, none⟩)], !decide (Dig.chkP p.rpN p.rpS = 0)⟩, ⟨54, #[.pointer (some ⟨B, 0, none⟩)], !decide (p.time ≤ 4611686018427387903 ∧ p.life ≤ 4611686018427387903)⟩]
theorem prQs_any (p : Prm.Pr) (B : Nat) : (prQs p B).any (·.b) = !Prm.okPr p := by
  unfold prQs Prm.okPr
  simp only [List.any_cons, List.any_nil, Bool.or_false, Bool.not_and]
theorem prQs_call (p : Prm.Pr) (hp : p.Ok) (B : Nat) (w : World) (hB : RowAt w B (prC p).toArray 76) : ∀ a ∈ prQs p B, ∀ w1, Below w.heap.size w w1 → Calls Tryz.prog a.g a.cap w1 (Ret (.bool a.b) w1) := by
  intro a ha w1 hb
  simp only [prQs, List.mem_cons, List.not_mem_nil, or_false] at ha
  rcases ha with rfl | rfl | rfl | rfl | rfl
  · exact prQ1_c p hp B w1 (hB.below hb)
  · exact prQ2_c p hp B w1 (hB.below hb)
  · exact prQ3_c p hp B w1 (hB.below hb)
  · exact prQ4_c p hp B w1 (hB.below hb)
  · exact prQ5_c p hp B w1 (hB.below hb)
theorem prQs_enter (p : Prm.Pr) (B : Nat) : ∀ a ∈ prQs p B, Enters Tryz.prog a.g := by
  intro a ha
  simp only [prQs, List.mem_cons, List.not_mem_nil, or_false] at ha
  rcases ha with rfl | rfl | rfl | rfl | rfl
  · exact enters_prQ1
  · exact enters_prQ2
  · exact enters_prQ3
  · exact enters_prQ4
  · exact enters_prQ5
set_option maxHeartbeats 1000000 in
set_option maxRecDepth 100000 in
theorem prCheck_c (p : Prm.Pr) (hp : p.Ok) (w : World) : Calls Tryz.prog 23 #[prV p] w (Ret (.int .i64 (if Prm.okPr p then 0 else 2)) w) := by
  have X0 := RowAt.new w (prC p).toArray 28
  have x0 := X0.cell (i := 0) rfl
  have x1 := X0.cell (i := 1) rfl
  have x2 := X0.cell (i := 2) rfl
  have x3 := X0.cell (i := 3) rfl
  have x4 := X0.cell (i := 4) rfl
  have x5 := X0.cell (i := 5) rfl
  have x6 := X0.cell (i := 6) rfl
  have x7 := X0.cell (i := 7) rfl
  have x8 := X0.cell (i := 8) rfl
  have x9 := X0.cell (i := 9) rfl
  have x10 := X0.cell (i := 10) rfl
  have hmf : ∀ (fn : Fn) (first cap : Array Value) (w : World), (Instr.makeFunc fn first cap).run Tryz.prog w = .ok (.func fn first cap) w := fun _ _ _ _ => rfl
  obtain ⟨W1, hW1⟩ : ∃ W, W = (w.alloc (.cells (prC p).toArray 28)).alloc (.cells (prC p).toArray 76) := ⟨_, rfl⟩
  have hB1 : RowAt W1 (w.heap.size + 1) (prC p).toArray 76 := by
    rw [hW1]
    have := RowAt.new (w.alloc (.cells (prC p).toArray 28)) (prC p).toArray 76
    rwa [World.size_alloc] at this
  have hb1 : Below w.heap.size w W1 := by rw [hW1]; exact (below_alloc _ _).alloc (by simp) _
  have hs1 : W1.heap.size = w.heap.size + 2 := by rw [hW1]; simp
  have hq := below_alloc W1 (.cells ((prQs p (w.heap.size + 1)).flatMap prQ).toArray 30)
  have hsl : Sl (W1.alloc (.cells ((prQs p (w.heap.size + 1)).flatMap prQ).toArray 30)) 1 (.slice (some ⟨W1.heap.size, 0, none⟩) 5 5) 5 ((prQs p (w.heap.size + 1)).flatMap prQ) :=
    Sl.of_own (World.ownsRow_lit W1 ((prQs p (w.heap.size + 1)).flatMap prQ).toArray 5 (size := 1) (e := 30) (Nat.le_refl _) (by decide) rfl)
  have hcl := prWrong_c (prQs p (w.heap.size + 1)) _ 5 _ hsl (prQs_enter p _) (prQs_call p hp _ _ (hB1.below hq))
  rw [prQs_any, hs1] at hcl
  have HCL := Lib.hid hcl
  have HQ := Lib.hid (below_up hb1 hq)
  have HW := Lib.hid hW1
  clear hcl hsl hq hB1 hb1 hs1
  cases hk : Prm.okPr p
  all_goals
    rw [hk] at HCL
    go_enter Tryz.func23, Tryz.ntmps23
    go_wp2_with (go_at_call 47; rw [← HW.out]; refine HCL.out.mono ?_; rintro en w1 ⟨rfl, hb1⟩)
    go_ret
    exact ⟨rfl, below_up HQ.out hb1⟩
end Go.Proofs.YtpkonagjnfphkaaGreatDoor

namespace Go.Proofs.YtpkonagjnfphkaaGreatDoor
open Go.RowKit Trc
set_option linter.unusedSimpArgs false
set_option linter.unusedVariables false
namespace Prm
/-- Has a primary a flag? -/
def hasB (f q : Nat) : Bool := (q == 2 || q == 32) && decide (f / q % 2 = 1)
theorem bit_and (f i : Nat) : (f &&& 2 ^ i != 0) = decide (f / 2 ^ i % 2 = 1) := by
  rw [← Nat.testBit_eq_decide_div_mod_eq]
  cases h : f.testBit i with
  | true =>
    rw [bne_iff_ne]
    intro e
    have h2 := congrArg (fun x => x.testBit i) e
    simp [Nat.testBit_and, h, Nat.testBit_two_pow_self] at h2
  | false =>
    have : f &&& 2 ^ i = 0 := by
      apply Nat.eq_of_testBit_eq
      intro j
      rw [Nat.testBit_and, Nat.zero_testBit, Nat.testBit_two_pow]
      by_cases hj : i = j
      · subst hj; simp [h]
      · simp [hj]
    rw [this]; rfl
theorem and32 (f q : Nat) (hf : f < 4294967296) (hq : q < 4294967296) : bits .and .u32 (f : Int) (q : Int) = ((f &&& q : Nat) : Int) := by
  have e1 : BitVec.ofInt 32 (f : Int) = BitVec.ofNat 32 f := by simp
  have e2 : BitVec.ofInt 32 (q : Int) = BitVec.ofNat 32 q := by simp
  show IntKind.u32.wrap _ = _
  rw [IntKind.wrap_u32]
  rw [show (BitVec.ofInt IntKind.u32.bits (f : Int)) = BitVec.ofNat 32 f from e1, show (BitVec.ofInt IntKind.u32.bits (q : Int)) = BitVec.ofNat 32 q from e2]
  show ((BitVec.ofNat 32 f &&& BitVec.ofNat 32 q).toNat : Int) % 4294967296 = _
  have h := (BitVec.ofNat 32 f &&& BitVec.ofNat 32 q).isLt
  have h2 : (BitVec.ofNat 32 f &&& BitVec.ofNat 32 q).toNat = f &&& q := by
    rw [BitVec.toNat_and, BitVec.toNat_ofNat, BitVec.toNat_ofNat, Nat.mod_eq_of_lt hf, Nat.mod_eq_of_lt hq]
  omega
theorem or32 (f q : Nat) (hf : f < 4294967296) (hq : q < 4294967296) : bits .or .u32 (f : Int) (q : Int) = ((f ||| q : Nat) : Int) := by
  have e1 : BitVec.ofInt 32 (f : Int) = BitVec.ofNat 32 f := by simp
  have e2 : BitVec.ofInt 32 (q : Int) = BitVec.ofNat 32 q := by simp
  show IntKind.u32.wrap _ = _
  rw [IntKind.wrap_u32]
  rw [show (BitVec.ofInt IntKind.u32.bits (f : Int)) = BitVec.ofNat 32 f from e1, show (BitVec.ofInt IntKind.u32.bits (q : Int)) = BitVec.ofNat 32 q from e2]
  show ((BitVec.ofNat 32 f ||| BitVec.ofNat 32 q).toNat : Int) % 4294967296 = _
  have h := (BitVec.ofNat 32 f ||| BitVec.ofNat 32 q).isLt
  have h2 : (BitVec.ofNat 32 f ||| BitVec.ofNat 32 q).toNat = f ||| q := by
    rw [BitVec.toNat_or, BitVec.toNat_ofNat, BitVec.toNat_ofNat, Nat.mod_eq_of_lt hf, Nat.mod_eq_of_lt hq]
  omega
theorem has2 (f : Nat) : (f &&& 2 != 0) = decide (f / 2 % 2 = 1) := bit_and f 1
theorem has32 (f : Nat) : (f &&& 32 != 0) = decide (f / 32 % 2 = 1) := bit_and f 5
/-- A rank's base. -/
def baseN (r : Int) : Nat := if 0 ≤ r ∧ r ≤ 2 then 128 * r.toNat else 0
/-- Flags of a rank. -/
def flagsN (r : Int) (l : List Nat) : Nat := baseN r + (if 2 ∈ l then 2 else 0) + (if 32 ∈ l then 32 else 0)
theorem base_of (r : Int) : baseN r = 0 ∨ baseN r = 128 ∨ baseN r = 256 := by
  unfold baseN
  split
  · omega
  · exact .inl rfl
theorem flagsN_lt (r : Int) (l : List Nat) : flagsN r l ≤ 290 := by
  unfold flagsN
  have := base_of r
  split <;> split <;> omega
theorem flagsN_or (r : Int) (l : List Nat) (q : Nat) (hq : q = 2 ∨ q = 32) : flagsN r l ||| q = flagsN r (l ++ [q]) := by
  unfold flagsN
  rcases base_of r with h | h | h <;> rw [h] <;> rcases hq with rfl | rfl <;> by_cases h2 : 2 ∈ l <;> by_cases h3 : 32 ∈ l <;> simp [h2, h3]
theorem flagsN_no (r : Int) (l : List Nat) (q : Nat) (h2 : q ≠ 2) (h3 : q ≠ 32) : flagsN r (l ++ [q]) = flagsN r l := by
  unfold flagsN
  have e1 : (2 ∈ l ++ [q]) ↔ 2 ∈ l := by simp; omega
  have e2 : (32 ∈ l ++ [q]) ↔ 32 ∈ l := by simp; omega
  simp only [e1, e2]
/-- The flags that a primary has. -/
def wantsL (f : Nat) : List Nat := [2, 32].filter fun q => hasB f q
end Prm
end Go.Proofs.YtpkonagjnfphkaaGreatDoor

namespace Go.Proofs.YtpkonagjnfphkaaGreatDoor
open Go.RowKit Trc
set_option linter.unusedSimpArgs false
set_option linter.unusedVariables false
set_option maxRecDepth 100000 in
theorem rRight_c (n m : Nat) (w : World) : Calls Tryz.prog 57 #[epV n m] w (Ret (.bool (decide (Dig.chkP n m = 0))) w) := by
  by_cases h : n = 0
  · subst h
    by_cases hm : m = 0
    · subst hm
      rw [show decide (Dig.chkP 0 0 = 0) = true from rfl]
      go_enter Tryz.func57, Tryz.ntmps57
      go_wp2
      go_ret
      exact ⟨rfl, below_alloc _ _⟩
    · have hd : (((m : Int)) == 0) = false := by simp; omega
      rw [show decide (Dig.chkP 0 m = 0) = false from decide_eq_false (by rw [show Dig.chkP 0 m = 2 from if_pos ⟨rfl, hm⟩]; decide)]
      go_enter Tryz.func57, Tryz.ntmps57
      go_wp2
      go_ret
      exact ⟨rfl, below_alloc _ _⟩
  · have hd : decide ((0 : Int) < (n : Int)) = true := decide_eq_true (by omega)
    have hd2 : decide (0 < n) = true := decide_eq_true (by omega)
    rw [show decide (Dig.chkP n m = 0) = true from decide_eq_true (if_neg (fun e => h e.1))]
    clear h
    go_enter Tryz.func57, Tryz.ntmps57
    go_wp2
    go_ret
    exact ⟨rfl, below_alloc _ _⟩
set_option maxRecDepth 100000 in
theorem rRightName_c (n m t s : Nat) (w : World) : Calls Tryz.prog 11 #[nmW n m t s] w (Ret (.bool (decide (Dig.chkN n t = 0))) w) := by
  by_cases h : n = 0
  · subst h
    rw [show decide (Dig.chkN 0 t = 0) = false from decide_eq_false (by rw [show Dig.chkN 0 t = 2 from if_pos (.inl rfl)]; decide)]
    go_enter Tryz.func11, Tryz.ntmps11
    go_wp2
    go_ret
    exact ⟨rfl, below_alloc _ _⟩
  · have hd2 : decide (0 < n) = true := decide_eq_true (by omega)
    by_cases ht : 4611686018427387903 < t
    · have hd3 : decide ((t : Int) ≤ 4611686018427387903) = false := decide_eq_false (by omega)
      have hd4 : decide (t ≤ 4611686018427387903) = false := decide_eq_false (by omega)
      rw [show decide (Dig.chkN n t = 0) = false from decide_eq_false (by rw [show Dig.chkN n t = 2 from if_pos (.inr ht)]; decide)]
      clear h
      go_enter Tryz.func11, Tryz.ntmps11
      go_wp2
      go_ret
      exact ⟨rfl, below_alloc _ _⟩
    · have hd3 : decide ((t : Int) ≤ 4611686018427387903) = true := decide_eq_true (by omega)
      have hd4 : decide (t ≤ 4611686018427387903) = true := decide_eq_true (by omega)
      rw [show decide (Dig.chkN n t = 0) = true from decide_eq_true (if_neg (fun e => by rcases e with e | e; exact h e; exact ht e))]
      clear h
      go_enter Tryz.func11, Tryz.ntmps11
      go_wp2
      go_ret
      exact ⟨rfl, below_alloc _ _⟩
end Go.Proofs.YtpkonagjnfphkaaGreatDoor
