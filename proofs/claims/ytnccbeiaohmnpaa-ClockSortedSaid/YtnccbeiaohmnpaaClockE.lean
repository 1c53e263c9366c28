/-
  Contracts of clock's functions over lists of spans: IndexFunc, ContainsFunc, all, Both; and the reference's Both.
-/
import Derived.Test.YtnccbeiaohmnpaaClockD
namespace Go.Proofs.Ytnccbeiaohmnpaa
open Go.RowKit

namespace Clk
/-- The cells of a list of spans. -/
def spans : List (Int × Int) → List Value
  | [] => []
  | x :: l => .int .u64 x.1 :: .int .u64 x.2 :: spans l
theorem spans_len (l : List (Int × Int)) : (spans l).length = 2 * l.length := by
  induction l with
  | nil => rfl
  | cons x l ih => simp [spans, ih]; omega
theorem spans_get (l : List (Int × Int)) (k : Nat) (h : k < l.length) : (spans l)[k * 2]? = some (.int .u64 l[k].1) ∧ (spans l)[k * 2 + 1]? = some (.int .u64 l[k].2) := by
  induction l generalizing k with
  | nil => simp at h
  | cons x l ih =>
    cases k with
    | zero => exact ⟨rfl, rfl⟩
    | succ k =>
      have := ih k (by simpa using h)
      have e : (k + 1) * 2 = k * 2 + 1 + 1 := by omega
      rw [e]
      simpa [spans] using this
def spanV (x : Int × Int) : Value := .agg #[.int .u64 x.1, .int .u64 x.2]
end Clk

/-- slices.IndexFunc of spans. -/
theorem indexS_c (l : List (Int × Int)) (v : Value) (n : Nat) (w : World) (hv : Sl w 2 v n (Clk.spans l)) (hn : n * 16 ≤ 140737488351232) (f : FuncId) (hf : Enters Try.prog f) (caps : Array Value) (p : Int × Int → Bool)
    (hp : ∀ x ∈ l, ∀ w1, Below w.heap.size w w1 → Calls Try.prog f (#[.agg #[.int .u64 x.1, .int .u64 x.2]] ++ caps) w1 (Ret (.bool (p x)) w1)) :
    Calls Try.prog 50 #[v, .func (.func f) #[] caps] w (Ret (.int .i64 (Clk.idx p l)) w) := by
  have hln : l.length = n := by have := hv.1; rw [Clk.spans_len] at this; omega
  obtain ⟨a1, c1, rfl⟩ := hv.len
  have Hln := Lib.hid hln; clear hln
  go_enter Try.func50, Try.ntmps50
  go_wp2
  go_loopw [8] (fun i wr => ∃ k : Nat, k ≤ n ∧ i = .int .i64 k ∧ (∀ j, j < k → ∀ hj : j < l.length, p l[j] = false) ∧ Below w.heap.size w wr) (fun i _ => n - (intOf i).toNat)
  case atStart => exact ⟨0, Nat.zero_le _, rfl, by intro j hj; omega, Below.refl _ _⟩
  case round =>
    obtain ⟨k, hk, rfl, hno, hB⟩ := hrel
    have hm : n ≤ 9223372036854775807 := by omega
    have Hno := Lib.hid hno; clear hno
    by_cases hlt : k < n
    · have hlt' : k < l.length := by rw [Hln.out]; exact hlt
      obtain ⟨b, off, rfl, hcs⟩ := (hv.up hB).cells_at hlt
      have hc := hcs 0 (by decide)
      have hd := hcs 1 (by decide)
      rw [Nat.add_zero, Nat.add_zero, (Clk.spans_get l k hlt').1] at hc
      rw [(Clk.spans_get l k hlt').2] at hd
      clear hcs
      have hcall := hp l[k] (List.getElem_mem hlt') wr hB
      unfold Enters at hf
      by_cases hpk : p l[k] = true
      · rw [hpk] at hcall
        have Hpk := Lib.hid hpk; clear hpk
        go_wp2_with (refine hcall.mono ?_; rintro e w1 ⟨rfl, hb⟩)
        go_ret
        exact ⟨retI (Clk.idx_some hlt' Hno.out Hpk.out).symm, hB.trans (hb.mono hB.size)⟩
      · have hpk : p l[k] = false := by simpa using hpk
        rw [hpk] at hcall
        have Hpk := Lib.hid hpk; clear hpk
        go_wp2_with (refine hcall.mono ?_; rintro e w1 ⟨rfl, hb⟩)
        go_roundw
        case rel =>
          refine ⟨k + 1, by omega, by go_num, fun j hj hj' => ?_, hB.trans (hb.mono hB.size)⟩
          rcases Nat.lt_or_ge j k with h | h
          · exact Hno.out j h hj'
          · obtain rfl : j = k := by omega
            exact Hpk.out
        case measure => simp [intOf]; omega
    · obtain rfl : k = n := by omega
      go_wp2
      go_ret
      exact ⟨retI (Clk.idx_none fun j hj => Hno.out j (by rw [← Hln.out]; exact hj) hj).symm, hB⟩

theorem containsS_c (l : List (Int × Int)) (v : Value) (n : Nat) (w : World) (hv : Sl w 2 v n (Clk.spans l)) (hn : n * 16 ≤ 140737488351232) (f : FuncId) (hf : Enters Try.prog f) (caps : Array Value) (p : Int × Int → Bool)
    (hp : ∀ x ∈ l, ∀ w1, Below w.heap.size w w1 → Calls Try.prog f (#[.agg #[.int .u64 x.1, .int .u64 x.2]] ++ caps) w1 (Ret (.bool (p x)) w1)) :
    Calls Try.prog 45 #[v, .func (.func f) #[] caps] w (Ret (.bool (l.any p)) w) := by
  go_enter Try.func45, Try.ntmps45
  go_wp2_with (go_at_call 50; refine (indexS_c l v n _ hv hn f hf caps p hp).mono ?_; rintro e w1 ⟨rfl, hb⟩)
  go_ret
  exact ⟨retB (Clk.idx_any p l), hb⟩

theorem allS1_c (x y : Int) (b : Nat) (f : FuncId) (hf : Enters Try.prog f) (caps : Array Value) (p : Bool) (w : World) (hc : w.cell? ⟨b, 0, none⟩ = some (.func (.func f) #[] caps))
    (hp : ∀ w1, Below w.heap.size w w1 → Calls Try.prog f (#[.agg #[.int .u64 x, .int .u64 y]] ++ caps) w1 (Ret (.bool p) w1)) :
    Calls Try.prog 46 #[.agg #[.int .u64 x, .int .u64 y], .pointer (some ⟨b, 0, none⟩)] w (Ret (.bool (!p)) w) := by
  unfold Enters at hf
  have hc' : (w.alloc (.cells #[.int .u64 x, .int .u64 y] 24)).cell? ⟨b, 0, none⟩ = some (.func (.func f) #[] caps) := cell_up (below_alloc _ _) hc
  have hp' := hp _ (below_alloc w (.cells #[.int .u64 x, .int .u64 y] 24))
  go_enter Try.func46, Try.ntmps46
  go_wp2_with (refine hp'.mono ?_; rintro e w1 ⟨rfl, hb⟩)
  go_ret
  exact ⟨rfl, below_new hb⟩

theorem enters_allS1 : Enters Try.prog 46 := enters_of Try.func46 (by kernel_rfl) rfl

theorem allS_c (l : List (Int × Int)) (v : Value) (n : Nat) (w : World) (hv : Sl w 2 v n (Clk.spans l)) (hn : n * 16 ≤ 140737488351232) (f : FuncId) (hf : Enters Try.prog f) (caps : Array Value) (p : Int × Int → Bool)
    (hp : ∀ x ∈ l, ∀ w1, Below w.heap.size w w1 → Calls Try.prog f (#[.agg #[.int .u64 x.1, .int .u64 x.2]] ++ caps) w1 (Ret (.bool (p x)) w1)) :
    Calls Try.prog 27 #[.func (.func f) #[] caps, v] w (Ret (.bool (l.all p)) w) := by
  have hmf : ∀ (fn : Fn) (first cap : Array Value) (w : World), (Instr.makeFunc fn first cap).run Try.prog w = .ok (.func fn first cap) w := fun _ _ _ _ => rfl
  go_enter Try.func27, Try.ntmps27
  go_wp2_with (go_at_call 45; refine (containsS_c l v n _ (hv.up (below_alloc _ _)) hn _ enters_allS1 #[.pointer (some ⟨w.heap.size, 0, none⟩)] (fun x => !p x) (fun x hx w1 hB => Calls.cast rfl (allS1_c x.1 x.2 w.heap.size f hf caps (p x) w1 (cell_up hB (cell_new _ _ _)) (fun w2 hB2 => hp x hx w2 (below_up (below_new hB) hB2))))).mono ?_; rintro e w1 ⟨rfl, hb⟩)
  go_ret
  exact ⟨retB (by rw [← List.not_all_eq_any_not]; simp), below_new hb⟩

theorem enters_right : Enters Try.prog 9 := enters_of Try.func9 (by kernel_rfl) rfl

/-- clock.all of Right, of two spans. -/
theorem all2_c (a b c d : Int) (v : Value) (w : World) (hv : Sl w 2 v 2 (Clk.spans [(a, b), (c, d)])) :
    Calls Try.prog 27 #[.func (.func 9) #[] #[], v] w (Ret (.bool (Clk.rightB a b && Clk.rightB c d)) w) :=
  (allS_c [(a, b), (c, d)] v 2 w hv (by decide) _ enters_right #[] (fun x => Clk.rightB x.1 x.2) (fun x _ w1 _ => Calls.cast rfl (right_c x.1 x.2 w1))).mono fun _ _ h => by simpa using h

namespace Clk
def maxI (a b : Int) : Int := if a < b then b else a
def minI (a b : Int) : Int := if a < b then a else b
/-- Whether both have a time; which they have. -/
def bothB (a b c d : Int) : Bool := rightB a b && rightB c d && decide (maxI a c < minI b d)
def bothF (a b c d : Int) : Value := if bothB a b c d then .agg #[.int .u64 (maxI a c), .int .u64 (minI b d)] else .agg #[.int .u64 0, .int .u64 0]
end Clk

theorem sl2 (w : World) (a b c d : Int) (T : TypeId) : Sl (w.alloc (.cells #[.int .u64 a, .int .u64 b, .int .u64 c, .int .u64 d] T)) 2 (.slice (some ⟨w.heap.size, 0, none⟩) 2 2) 2 (Clk.spans [(a, b), (c, d)]) :=
  Sl.of_own (World.ownsRow_lit w #[.int .u64 a, .int .u64 b, .int .u64 c, .int .u64 d] 2 (size := 2) (e := T) (Nat.le_refl _) (by decide) rfl)

theorem sl2' (w : World) (k : Nat) (hk : k = w.heap.size) (a b c d : Int) (T : TypeId) : Sl (w.alloc (.cells #[.int .u64 a, .int .u64 b, .int .u64 c, .int .u64 d] T)) 2 (.slice (some ⟨k, 0, none⟩) 2 2) 2 (Clk.spans [(a, b), (c, d)]) := hk ▸ sl2 w a b c d T

namespace Clk
theorem bothB_no {a b c d : Int} (h : (rightB a b && rightB c d) = false) : bothB a b c d = false ∧ bothF a b c d = .agg #[.int .u64 0, .int .u64 0] := by
  have hv : bothB a b c d = false := by unfold bothB; rw [h]; rfl
  exact ⟨hv, by unfold bothF; rw [hv]; rfl⟩
theorem bothB_out {a b c d m n : Int} (hm : maxI a c = m) (hn : minI b d = n) (k : n ≤ m) : bothB a b c d = false ∧ bothF a b c d = .agg #[.int .u64 0, .int .u64 0] := by
  have hv : bothB a b c d = false := by unfold bothB; rw [hm, hn, decide_eq_false (by omega), Bool.and_false]
  exact ⟨hv, by unfold bothF; rw [hv]; rfl⟩
theorem bothB_yes {a b c d m n : Int} (h : (rightB a b && rightB c d) = true) (hm : maxI a c = m) (hn : minI b d = n) (k : m < n) : bothB a b c d = true ∧ bothF a b c d = .agg #[.int .u64 m, .int .u64 n] := by
  have hv : bothB a b c d = true := by unfold bothB; rw [h, hm, hn, decide_eq_true k]; rfl
  exact ⟨hv, by unfold bothF; rw [hv, hm, hn]; rfl⟩
theorem max_cases (a c : Int) : (c ≤ a ∧ maxI a c = a) ∨ (¬ c ≤ a ∧ maxI a c = c) := by unfold maxI; split <;> omega
theorem min_cases (b d : Int) : (b ≤ d ∧ minI b d = b) ∨ (¬ b ≤ d ∧ minI b d = d) := by unfold minI; split <;> omega
end Clk

/-- What is known behind the call of 'all' in Both: the result's cells, the ends' cells. -/
theorem both_mid {w w1 : World} {a b c d m n : Int} {T U : TypeId}
    (hb : Below (((((w.alloc (.cells #[.int .u64 a, .int .u64 b] T)).alloc (.cells #[.int .u64 c, .int .u64 d] T)).alloc (.cells #[.int .u64 0, .int .u64 0] T)).alloc (.cells #[.int .u64 m, .int .u64 n] U)).alloc (.cells #[.int .u64 a, .int .u64 b, .int .u64 c, .int .u64 d] T)).heap.size
      (((((w.alloc (.cells #[.int .u64 a, .int .u64 b] T)).alloc (.cells #[.int .u64 c, .int .u64 d] T)).alloc (.cells #[.int .u64 0, .int .u64 0] T)).alloc (.cells #[.int .u64 m, .int .u64 n] U)).alloc (.cells #[.int .u64 a, .int .u64 b, .int .u64 c, .int .u64 d] T)) w1) :
    Below w.heap.size w w1 ∧
    (w1.cell? ⟨w.heap.size + 1 + 1, 0, none⟩ = some (.int .u64 0) ∧ w1.cell? ⟨w.heap.size + 1 + 1, 1, none⟩ = some (.int .u64 0)) ∧
    (w1.frozen? ⟨w.heap.size + 1 + 1, 0, none⟩ = false ∧ w1.frozen? ⟨w.heap.size + 1 + 1, 1, none⟩ = false) ∧
    (w1.cell? ⟨w.heap.size + 1 + 1 + 1, 0, none⟩ = some (.int .u64 m) ∧ w1.cell? ⟨w.heap.size + 1 + 1 + 1, 1, none⟩ = some (.int .u64 n)) := by
  refine ⟨below_new (below_new (below_new (below_new (below_new hb)))), ⟨?_, ?_⟩, ⟨?_, ?_⟩, ⟨?_, ?_⟩⟩
  · exact (hb.cell (p := ⟨w.heap.size + 1 + 1, 0, none⟩) (by simp)).trans (by simp [go_sem])
  · exact (hb.cell (p := ⟨w.heap.size + 1 + 1, 1, none⟩) (by simp)).trans (by simp [go_sem])
  · exact (hb.frozen (p := ⟨w.heap.size + 1 + 1, 0, none⟩) (by simp)).trans (by simp [go_sem])
  · exact (hb.frozen (p := ⟨w.heap.size + 1 + 1, 1, none⟩) (by simp)).trans (by simp [go_sem])
  · exact (hb.cell (p := ⟨w.heap.size + 1 + 1 + 1, 0, none⟩) (by simp)).trans (by simp [go_sem])
  · exact (hb.cell (p := ⟨w.heap.size + 1 + 1 + 1, 1, none⟩) (by simp)).trans (by simp [go_sem])

set_option maxHeartbeats 1000000 in
theorem both_c (a b c d : Int) (w : World) : Calls Try.prog 7 #[.agg #[.int .u64 a, .int .u64 b], .agg #[.int .u64 c, .int .u64 d]] w (Ret (.tuple #[Clk.bothF a b c d, .bool (Clk.bothB a b c d)]) w) := by
  generalize hx : (Clk.rightB a b && Clk.rightB c d) = x
  have Hx := Lib.hid hx
  cases x
  · obtain ⟨hv, hw⟩ := Clk.bothB_no hx
    rw [hv, hw]
    clear hv hw hx
    rcases Clk.max_cases a c with ⟨h1, _⟩ | ⟨h1, _⟩ <;> rcases Clk.min_cases b d with ⟨h2, _⟩ | ⟨h2, _⟩
    all_goals
      rename_i hA hB
      clear hA hB
      go_enter Try.func7, Try.ntmps7
      go_wp2_with (go_at_call 27; refine (all2_c a b c d _ _ (sl2' _ _ (by simp) a b c d _)).mono ?_; rw [Hx.out]; rintro e w1 ⟨rfl, hb⟩; obtain ⟨hB, ⟨r0, r1⟩, ⟨f0, f1⟩, _⟩ := both_mid hb; clear hb)
      refine bodyPost_ret (v := .tuple #[.agg #[.int .u64 0, .int .u64 0], .bool false]) (by simp [results, Try.results7, go_sem, r0, r1]) rfl ⟨rfl, (hB.setCell (by show _ ≤ _ + 1 + 1; omega) _).setCell (by show _ ≤ _ + 1 + 1; omega) _⟩
  · rcases Clk.max_cases a c with ⟨h1, hm⟩ | ⟨h1, hm⟩ <;> rcases Clk.min_cases b d with ⟨h2, hn⟩ | ⟨h2, hn⟩
    · by_cases h3 : b ≤ a
      · obtain ⟨hv, hw⟩ := Clk.bothB_out hm hn h3
        rw [hv, hw]
        clear hv hw hx hm hn
        go_enter Try.func7, Try.ntmps7
        go_wp2_with (go_at_call 27; refine (all2_c a b c d _ _ (sl2' _ _ (by simp) a b c d _)).mono ?_; rw [Hx.out]; rintro e w1 ⟨rfl, hb⟩; obtain ⟨hB, ⟨r0, r1⟩, ⟨f0, f1⟩, ⟨e0, e1⟩⟩ := both_mid hb; clear hb)
        refine bodyPost_ret (v := .tuple #[.agg #[.int .u64 0, .int .u64 0], .bool false]) (by simp [results, Try.results7, go_sem, r0, r1]) rfl ⟨rfl, (hB.setCell (by show _ ≤ _ + 1 + 1; omega) _).setCell (by show _ ≤ _ + 1 + 1; omega) _⟩
      · obtain ⟨hv, hw⟩ := Clk.bothB_yes hx hm hn (by omega)
        rw [hv, hw]
        clear hv hw hx hm hn
        go_enter Try.func7, Try.ntmps7
        go_wp2_with (go_at_call 27; refine (all2_c a b c d _ _ (sl2' _ _ (by simp) a b c d _)).mono ?_; rw [Hx.out]; rintro e w1 ⟨rfl, hb⟩; obtain ⟨hB, ⟨r0, r1⟩, ⟨f0, f1⟩, ⟨e0, e1⟩⟩ := both_mid hb; clear hb)
        refine bodyPost_ret (v := .tuple #[.agg #[.int .u64 a, .int .u64 b], .bool true]) (by simp [results, Try.results7, go_sem, r0, r1]) rfl ⟨rfl, (hB.setCell (by show _ ≤ _ + 1 + 1; omega) _).setCell (by show _ ≤ _ + 1 + 1; omega) _⟩
    · by_cases h3 : d ≤ a
      · obtain ⟨hv, hw⟩ := Clk.bothB_out hm hn h3
        rw [hv, hw]
        clear hv hw hx hm hn
        go_enter Try.func7, Try.ntmps7
        go_wp2_with (go_at_call 27; refine (all2_c a b c d _ _ (sl2' _ _ (by simp) a b c d _)).mono ?_; rw [Hx.out]; rintro e w1 ⟨rfl, hb⟩; obtain ⟨hB, ⟨r0, r1⟩, ⟨f0, f1⟩, ⟨e0, e1⟩⟩ := both_mid hb; clear hb)
        refine bodyPost_ret (v := .tuple #[.agg #[.int .u64 0, .int .u64 0], .bool false]) (by simp [results, Try.results7, go_sem, r0, r1]) rfl ⟨rfl, (hB.setCell (by show _ ≤ _ + 1 + 1; omega) _).setCell (by show _ ≤ _ + 1 + 1; omega) _⟩
      · obtain ⟨hv, hw⟩ := Clk.bothB_yes hx hm hn (by omega)
        rw [hv, hw]
        clear hv hw hx hm hn
        go_enter Try.func7, Try.ntmps7
        go_wp2_with (go_at_call 27; refine (all2_c a b c d _ _ (sl2' _ _ (by simp) a b c d _)).mono ?_; rw [Hx.out]; rintro e w1 ⟨rfl, hb⟩; obtain ⟨hB, ⟨r0, r1⟩, ⟨f0, f1⟩, ⟨e0, e1⟩⟩ := both_mid hb; clear hb)
        refine bodyPost_ret (v := .tuple #[.agg #[.int .u64 a, .int .u64 d], .bool true]) (by simp [results, Try.results7, go_sem, r0, r1]) rfl ⟨rfl, (hB.setCell (by show _ ≤ _ + 1 + 1; omega) _).setCell (by show _ ≤ _ + 1 + 1; omega) _⟩
    · by_cases h3 : b ≤ c
      · obtain ⟨hv, hw⟩ := Clk.bothB_out hm hn h3
        rw [hv, hw]
        clear hv hw hx hm hn
        go_enter Try.func7, Try.ntmps7
        go_wp2_with (go_at_call 27; refine (all2_c a b c d _ _ (sl2' _ _ (by simp) a b c d _)).mono ?_; rw [Hx.out]; rintro e w1 ⟨rfl, hb⟩; obtain ⟨hB, ⟨r0, r1⟩, ⟨f0, f1⟩, ⟨e0, e1⟩⟩ := both_mid hb; clear hb)
        refine bodyPost_ret (v := .tuple #[.agg #[.int .u64 0, .int .u64 0], .bool false]) (by simp [results, Try.results7, go_sem, r0, r1]) rfl ⟨rfl, (hB.setCell (by show _ ≤ _ + 1 + 1; omega) _).setCell (by show _ ≤ _ + 1 + 1; omega) _⟩
      · obtain ⟨hv, hw⟩ := Clk.bothB_yes hx hm hn (by omega)
        rw [hv, hw]
        clear hv hw hx hm hn
        go_enter Try.func7, Try.ntmps7
        go_wp2_with (go_at_call 27; refine (all2_c a b c d _ _ (sl2' _ _ (by simp) a b c d _)).mono ?_; rw [Hx.out]; rintro e w1 ⟨rfl, hb⟩; obtain ⟨hB, ⟨r0, r1⟩, ⟨f0, f1⟩, ⟨e0, e1⟩⟩ := both_mid hb; clear hb)
        refine bodyPost_ret (v := .tuple #[.agg #[.int .u64 c, .int .u64 b], .bool true]) (by simp [results, Try.results7, go_sem, r0, r1]) rfl ⟨rfl, (hB.setCell (by show _ ≤ _ + 1 + 1; omega) _).setCell (by show _ ≤ _ + 1 + 1; omega) _⟩
    · by_cases h3 : d ≤ c
      · obtain ⟨hv, hw⟩ := Clk.bothB_out hm hn h3
        rw [hv, hw]
        clear hv hw hx hm hn
        go_enter Try.func7, Try.ntmps7
        go_wp2_with (go_at_call 27; refine (all2_c a b c d _ _ (sl2' _ _ (by simp) a b c d _)).mono ?_; rw [Hx.out]; rintro e w1 ⟨rfl, hb⟩; obtain ⟨hB, ⟨r0, r1⟩, ⟨f0, f1⟩, ⟨e0, e1⟩⟩ := both_mid hb; clear hb)
        refine bodyPost_ret (v := .tuple #[.agg #[.int .u64 0, .int .u64 0], .bool false]) (by simp [results, Try.results7, go_sem, r0, r1]) rfl ⟨rfl, (hB.setCell (by show _ ≤ _ + 1 + 1; omega) _).setCell (by show _ ≤ _ + 1 + 1; omega) _⟩
      · obtain ⟨hv, hw⟩ := Clk.bothB_yes hx hm hn (by omega)
        rw [hv, hw]
        clear hv hw hx hm hn
        go_enter Try.func7, Try.ntmps7
        go_wp2_with (go_at_call 27; refine (all2_c a b c d _ _ (sl2' _ _ (by simp) a b c d _)).mono ?_; rw [Hx.out]; rintro e w1 ⟨rfl, hb⟩; obtain ⟨hB, ⟨r0, r1⟩, ⟨f0, f1⟩, ⟨e0, e1⟩⟩ := both_mid hb; clear hb)
        refine bodyPost_ret (v := .tuple #[.agg #[.int .u64 c, .int .u64 d], .bool true]) (by simp [results, Try.results7, go_sem, r0, r1]) rfl ⟨rfl, (hB.setCell (by show _ ≤ _ + 1 + 1; omega) _).setCell (by show _ ≤ _ + 1 + 1; omega) _⟩
end Go.Proofs.Ytnccbeiaohmnpaa
