/-
  The reference's Find, Regions, Nodes, Home, Has.
-/
import Derived.Test.YteakpppabgbpeaaMemK
namespace Go.Proofs.Yteakpppabgbpeaa
open Go.RowKit Mem
set_option linter.unusedSimpArgs false
set_option linter.unusedVariables false

namespace Mem
def lessB (x y : Int) (m : Mb) : Bool := decide (m.node < x) || decide (m.node = x) && decide (m.region < y)
/-- Where a key lies, or would lie. -/
def findK (L : List Mb) (x y : Int) : Nat := L.findIdx fun m => !lessB x y m
def findB (L : List Mb) (x y : Int) : Bool := match L[findK L x y]? with | some m => ofB x y m | none => false
theorem findK_at {L : List Mb} {x y : Int} {k : Nat} (hk : k < L.length) (h : ∀ j, j < k → ∀ hj : j < L.length, lessB x y L[j] = true) (h2 : lessB x y L[k] = false) : findK L x y = k := by
  unfold findK
  rw [List.findIdx_eq hk]
  exact ⟨by rw [h2]; rfl, fun j hj => by rw [h j hj (by omega)]; rfl⟩
theorem findK_end {L : List Mb} {x y : Int} (h : ∀ j, ∀ hj : j < L.length, lessB x y L[j] = true) : findK L x y = L.length := by
  unfold findK
  rw [List.findIdx_eq_length_of_false]
  intro m hm
  obtain ⟨j, hj, rfl⟩ := List.getElem_of_mem hm
  rw [h j hj]; rfl
theorem findB_at {L : List Mb} {x y : Int} {k : Nat} (hk : k < L.length) (h : findK L x y = k) : findB L x y = ofB x y L[k] := by
  unfold findB; rw [h, List.getElem?_eq_getElem hk]
theorem findB_end {L : List Mb} {x y : Int} (h : findK L x y = L.length) : findB L x y = false := by
  unfold findB; rw [h, List.getElem?_eq_none (Nat.le_refl _)]
end Mem
/-- What Find tells. -/
def findV (L : List Mb) (x y : Int) : Value := .tuple #[.int .i64 (findK L x y : Nat), .bool (findB L x y)]
set_option maxHeartbeats 4000000 in
set_option maxRecDepth 100000 in
theorem rfFind_c (L : List Mb) (u : Value) (n : Nat) (x y : Int) (w : World) (hu : Sl w 4 u n (L.flatMap mbC)) (hL : n ≤ 100000) :
    Calls Try.prog 35 #[.agg #[u], .int .u32 x, .int .u32 y] w (Ret (findV L x y) w) := by
  have hln : L.length = n := Sl.recs (cells := mbC) (sz := 4) (fun _ => rfl) (by decide) hu
  have HLN := Lib.hid hln
  have hu1 := hu.up (below_alloc w (.cells #[u] 40))
  have hu0 := cell_new w u 40
  have HB := Lib.hid (below_alloc w (.cells #[u] 40))
  obtain ⟨a, c, rfl⟩ := hu.len
  obtain ⟨FV, hFV⟩ : ∃ FV, findV L x y = FV := ⟨_, rfl⟩
  rw [hFV]
  have HFV := Lib.hid hFV
  clear hln hu hFV
  go_enter Try.func35, Try.ntmps35
  go_wp2
  obtain ⟨W0, hW0⟩ : ∃ W0, w.alloc (.cells #[.slice a n c] 40) = W0 := ⟨_, rfl⟩
  rw [hW0] at hu0 hu1 HB ⊢
  clear hW0
  go_loop [8] (fun i => ∃ k : Nat, k ≤ n ∧ i = .int .i64 k ∧ RowKit.Hid (∀ j, j < k → ∀ hj : j < L.length, lessB x y L[j] = true)) (fun i => n - (intOf i).toNat)
  case atStart => exact ⟨0, Nat.zero_le _, rfl, Lib.hid (fun j hj => by omega)⟩
  case round =>
    obtain ⟨k, hk, rfl, HLs⟩ := hrel
    by_cases hlt : k < n
    · have hlt' : k < L.length := by rw [HLN.out]; exact hlt
      obtain ⟨b, off, rfl, hr⟩ := hu1.rec_at (cells := mbC) (sz := 4) (fun _ => rfl) hlt hlt'
      have hkn : (k : Int) < (n : Int) := by omega
      have hk0 : (0 : Int) ≤ (k : Int) := by omega
      obtain ⟨m, hm⟩ : ∃ m, L[k] = m := ⟨_, rfl⟩
      rw [hm] at hr
      have HM := Lib.hid hm
      have Hnext := Lib.hid (fun (h : lessB x y m = true) j (hj : j < k + 1) (hj' : j < L.length) => (show lessB x y L[j] = true from by
        rcases Nat.lt_or_ge j k with h' | h'
        · exact HLs.out j h' hj'
        · obtain rfl : j = k := by omega
          rw [hm]; exact h))
      have Hres := Lib.hid (fun (h : lessB x y m = false) => (show FV = .tuple #[.int .i64 (k : Nat), .bool (ofB x y m)] from by
        have h1 := findK_at hlt' HLs.out (by rw [hm]; exact h)
        rw [← HFV.out]; unfold findV; rw [findB_at hlt' h1, h1, hm]))
      clear hm
      have r0 := hr 0 (.int .u32 m.node) rfl
      have r1 := hr 1 (.int .u32 m.region) rfl
      simp only [Nat.add_zero] at r0
      clear hr
      obtain ⟨m1, m2, m3, m4⟩ := m
      simp only at r0 r1
      by_cases c1 : m1 < x
      · go_wp2
        go_round
        case rel => exact ⟨k + 1, by omega, by go_num, Lib.hid (Hnext.out (by unfold lessB; simp [c1]))⟩
        case measure => simp [intOf]; omega
      · by_cases c2 : m1 = x
        · subst c2
          by_cases c3 : m2 < y
          · go_wp2
            go_round
            case rel => exact ⟨k + 1, by omega, by go_num, Lib.hid (Hnext.out (by unfold lessB; simp [c3]))⟩
            case measure => simp [intOf]; omega
          · have hR := Hres.out (by unfold lessB; simp [c3])
            by_cases c4 : m2 = y
            · subst c4
              have hR2 : FV = .tuple #[.int .i64 (k : Nat), .bool true] := by rw [hR]; simp [ofB]
              clear hR Hres
              have HR := Lib.hid hR2
              clear hR2
              go_wp2
              go_quiet (fail)
              go_wp2
              go_ret2
              exact ⟨by rw [HR.out]; rfl, below_drewN HB.out _⟩
            · have c5 : (m2 == y) = false := by simpa using c4
              have hR2 : FV = .tuple #[.int .i64 (k : Nat), .bool false] := by rw [hR]; simp [ofB, c4]
              clear hR Hres
              have HR := Lib.hid hR2
              clear hR2
              go_wp2
              go_quiet (fail)
              go_wp2
              go_ret2
              exact ⟨by rw [HR.out]; rfl, below_drewN HB.out _⟩
        · have c5 : (m1 == x) = false := by simpa using c2
          have hR := Hres.out (by unfold lessB; simp [c1, c2])
          have hR2 : FV = .tuple #[.int .i64 (k : Nat), .bool false] := by rw [hR]; simp [ofB, c2]
          clear hR Hres
          have HR := Lib.hid hR2
          clear hR2
          go_wp2
          go_quiet (fail)
          go_wp2
          go_ret2
          exact ⟨by rw [HR.out]; rfl, below_drewN HB.out _⟩
    · obtain rfl : k = n := by omega
      have hR2 : FV = .tuple #[.int .i64 (k : Nat), .bool false] := by
        have h1 := findK_end (x := x) (y := y) (L := L) (fun j hj => HLs.out j (by rw [← HLN.out]; exact hj) hj)
        rw [← HFV.out]; unfold findV; rw [findB_end h1, h1, HLN.out]
      have HR := Lib.hid hR2
      clear hR2
      have d1 : decide ((k : Int) < (k : Int)) = false := decide_eq_false (by omega)
      go_wp2
      go_quiet (fail)
      go_wp2
      go_ret2
      exact ⟨by rw [HR.out]; rfl, below_drewN HB.out _⟩

/-- What rfRegions leaves. -/
def Lst_rfRegions (l : List Int) (w : World) (en : Ending) (w' : World) : Prop := ∃ v : Value, en = .returned v ∧ w'.ownsRow w.heap.size 22 1 v l.length (l.map (Value.int .u32)) ∧ Below w.heap.size w w'
set_option maxHeartbeats 4000000 in
set_option maxRecDepth 100000 in
theorem rfRegions_c (L : List Mb) (u : Value) (n : Nat) (x : Int) (w : World) (hu : Sl w 4 u n (L.flatMap mbC)) (hL : n ≤ 100000) :
    Calls Try.prog 42 #[.agg #[u], .int .u32 x] w (Lst_rfRegions (regsF L x) w) := by
  have hln : L.length = n := Sl.recs (cells := mbC) (sz := 4) (fun _ => rfl) (by decide) hu
  have HLN := Lib.hid hln
  have hu1 := hu.up (below_alloc w (.cells #[u] 40))
  have hu0 := cell_new w u 40
  have HB0 := Lib.hid (below_alloc w (.cells #[u] 40))
  obtain ⟨a, c, rfl⟩ := hu.len
  have hF : regsF L x = (L.filter fun m => m.in_ && decide (m.node = x)).map (·.region) := rfl
  have HF := Lib.hid hF
  clear hln hu hF
  go_enter Try.func42, Try.ntmps42
  go_wp2
  obtain ⟨W0, hW0⟩ : ∃ W0, w.alloc (.cells #[.slice a n c] 40) = W0 := ⟨_, rfl⟩
  rw [hW0] at hu0 hu1 HB0 ⊢
  clear hW0
  have HU0 := Lib.hid hu0
  have HU := Lib.hid hu1
  clear hu0 hu1
  go_loopw [5, 6] (fun o i wr => ∃ k : Nat, k ≤ n ∧ i = .int .i64 k ∧ wr.ownsRow W0.heap.size 22 1 o ((L.take k).filter fun m => m.in_ && decide (m.node = x)).length ((((L.take k).filter fun m => m.in_ && decide (m.node = x)).map (·.region)).map (Value.int .u32)) ∧ Below W0.heap.size W0 wr) (fun _ i _ => n - (intOf i).toNat)
  case atStart => exact ⟨0, Nat.zero_le _, rfl, World.ownsRow_nil _ _ _ _, Below.refl _ _⟩
  case round =>
    obtain ⟨k, hk, rfl, hrow, hB⟩ := hrel
    have hu0 := cell_up hB HU0.out
    by_cases hlt : k < n
    · have hlt' : k < L.length := by rw [HLN.out]; exact hlt
      obtain ⟨b, off, rfl, hr⟩ := (HU.out.up hB).rec_at (cells := mbC) (sz := 4) (fun _ => rfl) hlt hlt'
      have hkn : (k : Int) < (n : Int) := by omega
      obtain ⟨m, hm⟩ : ∃ m, L[k] = m := ⟨_, rfl⟩
      have htk : L.take (k + 1) = L.take k ++ [m] := by rw [List.take_succ_eq_append_getElem hlt', hm]
      rw [hm] at hr
      clear hm
      have hfl := Nat.le_trans (List.length_filter_le (fun m : Mb => m.in_ && decide (m.node = x)) (L.take k)) (List.length_take_le k L)
      have HT := Lib.hid (fun h : (m.in_ && decide (m.node = x)) = true => (show (L.take (k + 1)).filter (fun m : Mb => m.in_ && decide (m.node = x)) = (L.take k).filter (fun m : Mb => m.in_ && decide (m.node = x)) ++ [m] by rw [htk, List.filter_append]; simp only [List.filter_cons, h, if_true, List.filter_nil]))
      have HFf := Lib.hid (fun h : (m.in_ && decide (m.node = x)) = false => (show (L.take (k + 1)).filter (fun m : Mb => m.in_ && decide (m.node = x)) = (L.take k).filter (fun m : Mb => m.in_ && decide (m.node = x)) by rw [htk, List.filter_append]; simp only [List.filter_cons, h, Bool.false_eq_true, if_false, List.filter_nil, List.append_nil]))
      clear htk
      generalize (L.take k).filter (fun m : Mb => m.in_ && decide (m.node = x)) = F at *
      have r0 := hr 0 (.int .u32 m.node) rfl
      have r1 := hr 1 (.int .u32 m.region) rfl
      have r3 := hr 3 (.bool m.in_) rfl
      simp only [Nat.add_zero] at r0
      clear hr
      obtain ⟨m1, m2, m3, m4⟩ := m
      simp only at r0 r1 r3
      by_cases c2 : m1 = x
      · cases m4 with
        | true =>
          have HX := Lib.hid (HT.out (by simp [c2]))
          subst c2
          clear HT HFf
          obtain ⟨ao, co, rfl⟩ := own_slice hrow
          go_wp2_with (at_builtin; refine wpList_app_at rfl _ _ 73 rfl slU32 W0.heap.size rfl (hrow.alloc _) rfl (sl1 _ _ rfl _ _) (by simp [Value.oneCell']) (by simp [maxLen]; omega) (by omega) (by have := hB.size; simp; omega) ?_; intro v' w3 hown' hgrow _ hat; have hB3 := grown_below (hB.alloc hB.size _) hgrow (fun q hq => (own_of_some hrow hq).1); obtain ⟨g', cap', rfl⟩ := ownsRow_succ hown')
          go_roundw
          case rel =>
            exact ⟨k + 1, by omega, by go_num, by rw [HX.out]; simpa using hown', hB3⟩
          case measure => simp [intOf]; omega
        | false =>
          have HX := Lib.hid (HFf.out (by simp))
          subst c2
          clear HT HFf
          go_wp2
          go_roundw
          case rel => exact ⟨k + 1, by omega, by go_num, by rw [HX.out]; exact hrow, hB⟩
          case measure => simp [intOf]; omega
      · have c5 : (m1 == x) = false := by simpa using c2
        have HX := Lib.hid (HFf.out (by simp [c2]))
        clear HT HFf
        go_wp2
        go_roundw
        case rel => exact ⟨k + 1, by omega, by go_num, by rw [HX.out]; exact hrow, hB⟩
        case measure => simp [intOf]; omega
    · obtain rfl : k = n := by omega
      rw [List.take_of_length_le (by rw [HLN.out]; exact Nat.le_refl _)] at hrow
      go_wp2
      go_ret
      exact ⟨_, rfl, by rw [HF.out, List.length_map]; exact own_down hrow HB0.out.size, below_up HB0.out hB⟩

/-- What rfNodes leaves. -/
def Lst_rfNodes (l : List Int) (w : World) (en : Ending) (w' : World) : Prop := ∃ v : Value, en = .returned v ∧ w'.ownsRow w.heap.size 22 1 v l.length (l.map (Value.int .u32)) ∧ Below w.heap.size w w'
set_option maxHeartbeats 4000000 in
set_option maxRecDepth 100000 in
theorem rfNodes_c (L : List Mb) (u : Value) (n : Nat) (x : Int) (w : World) (hu : Sl w 4 u n (L.flatMap mbC)) (hL : n ≤ 100000) :
    Calls Try.prog 43 #[.agg #[u], .int .u32 x] w (Lst_rfNodes (nodsF L x) w) := by
  have hln : L.length = n := Sl.recs (cells := mbC) (sz := 4) (fun _ => rfl) (by decide) hu
  have HLN := Lib.hid hln
  have hu1 := hu.up (below_alloc w (.cells #[u] 40))
  have hu0 := cell_new w u 40
  have HB0 := Lib.hid (below_alloc w (.cells #[u] 40))
  obtain ⟨a, c, rfl⟩ := hu.len
  have hF : nodsF L x = (L.filter fun m => m.in_ && decide (m.region = x)).map (·.node) := rfl
  have HF := Lib.hid hF
  clear hln hu hF
  go_enter Try.func43, Try.ntmps43
  go_wp2
  obtain ⟨W0, hW0⟩ : ∃ W0, w.alloc (.cells #[.slice a n c] 40) = W0 := ⟨_, rfl⟩
  rw [hW0] at hu0 hu1 HB0 ⊢
  clear hW0
  have HU0 := Lib.hid hu0
  have HU := Lib.hid hu1
  clear hu0 hu1
  go_loopw [5, 6] (fun o i wr => ∃ k : Nat, k ≤ n ∧ i = .int .i64 k ∧ wr.ownsRow W0.heap.size 22 1 o ((L.take k).filter fun m => m.in_ && decide (m.region = x)).length ((((L.take k).filter fun m => m.in_ && decide (m.region = x)).map (·.node)).map (Value.int .u32)) ∧ Below W0.heap.size W0 wr) (fun _ i _ => n - (intOf i).toNat)
  case atStart => exact ⟨0, Nat.zero_le _, rfl, World.ownsRow_nil _ _ _ _, Below.refl _ _⟩
  case round =>
    obtain ⟨k, hk, rfl, hrow, hB⟩ := hrel
    have hu0 := cell_up hB HU0.out
    by_cases hlt : k < n
    · have hlt' : k < L.length := by rw [HLN.out]; exact hlt
      obtain ⟨b, off, rfl, hr⟩ := (HU.out.up hB).rec_at (cells := mbC) (sz := 4) (fun _ => rfl) hlt hlt'
      have hkn : (k : Int) < (n : Int) := by omega
      obtain ⟨m, hm⟩ : ∃ m, L[k] = m := ⟨_, rfl⟩
      have htk : L.take (k + 1) = L.take k ++ [m] := by rw [List.take_succ_eq_append_getElem hlt', hm]
      rw [hm] at hr
      clear hm
      have hfl := Nat.le_trans (List.length_filter_le (fun m : Mb => m.in_ && decide (m.region = x)) (L.take k)) (List.length_take_le k L)
      have HT := Lib.hid (fun h : (m.in_ && decide (m.region = x)) = true => (show (L.take (k + 1)).filter (fun m : Mb => m.in_ && decide (m.region = x)) = (L.take k).filter (fun m : Mb => m.in_ && decide (m.region = x)) ++ [m] by rw [htk, List.filter_append]; simp only [List.filter_cons, h, if_true, List.filter_nil]))
      have HFf := Lib.hid (fun h : (m.in_ && decide (m.region = x)) = false => (show (L.take (k + 1)).filter (fun m : Mb => m.in_ && decide (m.region = x)) = (L.take k).filter (fun m : Mb => m.in_ && decide (m.region = x)) by rw [htk, List.filter_append]; simp only [List.filter_cons, h, Bool.false_eq_true, if_false, List.filter_nil, List.append_nil]))
      clear htk
      generalize (L.take k).filter (fun m : Mb => m.in_ && decide (m.region = x)) = F at *
      have r0 := hr 0 (.int .u32 m.node) rfl
      have r1 := hr 1 (.int .u32 m.region) rfl
      have r3 := hr 3 (.bool m.in_) rfl
      simp only [Nat.add_zero] at r0
      clear hr
      obtain ⟨m1, m2, m3, m4⟩ := m
      simp only at r0 r1 r3
      by_cases c2 : m2 = x
      · cases m4 with
        | true =>
          have HX := Lib.hid (HT.out (by simp [c2]))
          subst c2
          clear HT HFf
          obtain ⟨ao, co, rfl⟩ := own_slice hrow
          go_wp2_with (at_builtin; refine wpList_app_at rfl _ _ 73 rfl slU32 W0.heap.size rfl (hrow.alloc _) rfl (sl1 _ _ rfl _ _) (by simp [Value.oneCell']) (by simp [maxLen]; omega) (by omega) (by have := hB.size; simp; omega) ?_; intro v' w3 hown' hgrow _ hat; have hB3 := grown_below (hB.alloc hB.size _) hgrow (fun q hq => (own_of_some hrow hq).1); obtain ⟨g', cap', rfl⟩ := ownsRow_succ hown')
          go_roundw
          case rel =>
            exact ⟨k + 1, by omega, by go_num, by rw [HX.out]; simpa using hown', hB3⟩
          case measure => simp [intOf]; omega
        | false =>
          have HX := Lib.hid (HFf.out (by simp))
          subst c2
          clear HT HFf
          go_wp2
          go_roundw
          case rel => exact ⟨k + 1, by omega, by go_num, by rw [HX.out]; exact hrow, hB⟩
          case measure => simp [intOf]; omega
      · have c5 : (m2 == x) = false := by simpa using c2
        have HX := Lib.hid (HFf.out (by simp [c2]))
        clear HT HFf
        go_wp2
        go_roundw
        case rel => exact ⟨k + 1, by omega, by go_num, by rw [HX.out]; exact hrow, hB⟩
        case measure => simp [intOf]; omega
    · obtain rfl : k = n := by omega
      rw [List.take_of_length_le (by rw [HLN.out]; exact Nat.le_refl _)] at hrow
      go_wp2
      go_ret
      exact ⟨_, rfl, by rw [HF.out, List.length_map]; exact own_down hrow HB0.out.size, below_up HB0.out hB⟩
end Go.Proofs.Yteakpppabgbpeaa
