/-
  Contracts over slices of contacts: Grow, Concat, Clone, EqualFunc, BinarySearchFunc.
-/
import Derived.Test.YtgbpdchdcbnoaaaConB
import Derived.Lib.AppendZeros
import Derived.Lib.SliceRun
namespace Go.Proofs.Ytgbpdchdcbnoaaa
open Go.RowKit Vol
set_option linter.unusedSimpArgs false
set_option linter.unusedVariables false

theorem one_ct (l : List Ct) : ∀ u ∈ l.flatMap ctC, u.oneCell' = true := by
  intro u hu
  obtain ⟨e, _, hu⟩ := List.mem_flatMap.1 hu
  simp only [List.mem_cons, List.not_mem_nil, or_false] at hu
  rcases hu with h | h | h | h | h <;> (rw [h]; rfl)
theorem ct_len (c : Ct) : (ctC c).length = 5 := rfl


set_option maxRecDepth 100000 in
theorem growL_c (n : Nat) (w : World) (hn : n ≤ 1000000) :
    Calls Try.prog 65 #[.slice none 0 0, .int .i64 n] w fun e w' => ∃ v', e = .returned v' ∧ w'.ownsRow w.heap.size 27 5 v' 0 [] ∧ Below w.heap.size w w' := by
  by_cases h0 : n = 0
  · subst h0
    go_enter Try.func65, Try.ntmps65
    go_wp2
    go_ret
    exact ⟨_, rfl, World.ownsRow_nil _ _ _ _, Below.refl _ _⟩
  · have hp : (0 : Int) < n := by omega
    obtain ⟨i, hi, hz, hsz, hby⟩ := info_parts (show (Try.prog.info? 27).map (fun i => (i.zero, i.size, i.bytes)) = some (some (.agg #[.int .u32 0, .int .u32 0, .int .u64 0, .int .u64 0, .int .u64 0]), 5, 32) by kernel_rfl)
    have hge := grownCap_ge w n 0 27
    have hle := grownCap_le_maxLen w n 0 27 (by simp only [maxLen]; omega)
    have hsl0 : ∀ (w' : World), (Instr.slice 65 (.slice none 0 0) none (some (.int .i64 0)) none).run Try.prog w' = .ok (.slice none 0 0) w' := fun w' => run_cut_h slL none 0 0 0 .i64 (Nat.le_refl _) w'
    go_enter Try.func65, Try.ntmps65
    go_wp2_with (at_builtin; refine Lib.wpList_append_run _ rfl (.tmp 20) (.tmp 21) _ _ rfl _ _ rfl rfl _ _ (Lib.run_append_nil_zeros _ 65 3 _ 27 i (.agg #[.int .u32 0, .int .u32 0, .int .u64 0, .int .u64 0, .int .u64 0]) .i64 .i64 Try.underlying65 Try.underlying3 hi hz n (by omega) (by rw [hsz]; decide) (by omega) (by rw [hby]; omega)) ?_)
    go_ret
    generalize grownCap w n 0 27 = cap at *
    refine ⟨_, rfl, ⟨rfl, .inr ⟨w.heap.size, cap, _, rfl, Nat.le_refl _, heap_alloc_new w _, Nat.zero_le _, hle, ?_, rfl⟩⟩, (below_alloc _ _).drew⟩
    rw [Array.size_append, size_zeroCells, size_zeroCells]
    simp [Value.cells]
    omega

/-- The slice v has slices of contacts as its elements; they read ls. -/
structure SlL (w : World) (v : Value) (n : Nat) (vs : List Value) (ls : List (List Ct)) : Prop where
  out : Sl w 1 v n vs
  len : vs.length = ls.length
  each : ∀ (i : Nat) (u : Value) (l : List Ct), vs[i]? = some u → ls[i]? = some l → Sl w 5 u l.length (l.flatMap ctC)
theorem SlL.up {w w' : World} {v : Value} {n : Nat} {vs : List Value} {ls : List (List Ct)} (h : SlL w v n vs ls) (hb : Below w.heap.size w w') : SlL w' v n vs ls :=
  ⟨h.out.up hb, h.len, fun i u l h1 h2 => (h.each i u l h1 h2).up hb⟩
theorem SlL.n_len {w : World} {v : Value} {n : Nat} {vs : List Value} {ls : List (List Ct)} (h : SlL w v n vs ls) : ls.length = n := by have := h.out.1; have := h.len; omega
theorem SlL.at_ {w : World} {a : Option Addr} {n c : Nat} {vs : List Value} {ls : List (List Ct)} (h : SlL w (.slice a n c) n vs ls) {k : Nat} (hk : k < n) (hk' : k < ls.length) :
    ∃ b off a' c', a = some ⟨b, off, none⟩ ∧ w.cell? ⟨b, off + k, none⟩ = some (.slice a' ls[k].length c') ∧ Sl w 5 (.slice a' ls[k].length c') ls[k].length (ls[k].flatMap ctC) := by
  have hl := h.len
  have hv : k < vs.length := by omega
  obtain ⟨b, off, ha, hc⟩ := h.out.cellAt (k := k) (by omega) (by omega)
  have hs := h.each k vs[k] ls[k] (List.getElem?_eq_getElem hv) (List.getElem?_eq_getElem hk')
  obtain ⟨a', c', e⟩ := hs.len
  rw [List.getElem?_eq_getElem hv, e] at hc
  rw [e] at hs
  exact ⟨b, off, a', c', ha, hc, hs⟩
namespace Vol
theorem flat_take {α : Type} (ls : List (List α)) (k : Nat) (h : k < ls.length) : (ls.take (k + 1)).flatten = (ls.take k).flatten ++ ls[k] := by
  rw [List.take_succ_eq_append_getElem h, List.flatten_append]; simp
theorem flat_le {α : Type} (ls : List (List α)) (k : Nat) : (ls.take k).flatten.length ≤ ls.flatten.length := by
  have : ls.flatten = (ls.take k).flatten ++ (ls.drop k).flatten := by rw [← List.flatten_append, List.take_append_drop]
  rw [this, List.length_append]; omega
end Vol

set_option maxHeartbeats 1000000 in
/-- slices.Concat of contacts. -/
theorem concatL_c (ls : List (List Ct)) (vs : List Value) (v : Value) (n : Nat) (w : World) (hv : SlL w v n vs ls) (hn : n ≤ 140737488355328) (ht : ls.flatten.length ≤ 1000000) :
    Calls Try.prog 40 #[v] w fun e w' => ∃ v', e = .returned v' ∧ w'.ownsRow w.heap.size 27 5 v' ls.flatten.length (ls.flatten.flatMap ctC) ∧ Below w.heap.size w w' := by
  have hln := hv.n_len
  have Hln := Lib.hid hln; clear hln
  obtain ⟨a, c, rfl⟩ := hv.out.len
  go_enter Try.func40, Try.ntmps40
  go_wp2
  go_loop [3, 11] (fun s i => ∃ k : Nat, k ≤ n ∧ i = .int .i64 k ∧ s = .int .i64 ((ls.take k).flatten.length : Nat)) (fun _ i => n - (intOf i).toNat)
  case atStart => exact ⟨0, Nat.zero_le _, rfl, rfl⟩
  case round =>
    obtain ⟨k, hk, rfl, rfl⟩ := hrel
    by_cases hlt : k < n
    · have hlt' : k < ls.length := by rw [Hln.out]; exact hlt
      obtain ⟨b, off, a', c', rfl, hc, hs⟩ := hv.at_ hlt hlt'
      have hle := Vol.flat_le ls (k + 1)
      have hf := Vol.flat_take ls k hlt'
      rw [hf, List.length_append] at hle
      have Hf := Lib.hid (show (ls.take (k + 1)).flatten.length = (ls.take k).flatten.length + ls[k].length by rw [hf, List.length_append])
      clear hf
      generalize hX : (ls.take k).flatten.length = X at *
      generalize hY : ls[k].length = Y at *
      clear hX hY
      go_wp2
      go_round
      case rel => exact ⟨k + 1, by omega, by go_num, by rw [Hf.out]; go_num⟩
      case measure => simp [intOf]; omega
    · obtain rfl : k = n := by omega
      have hall : ls.take k = ls := List.take_of_length_le (by rw [Hln.out]; exact Nat.le_refl _)
      have Hall := Lib.hid hall
      rw [hall]
      clear hall
      generalize hX : ls.flatten.length = X at *
      have HX := Lib.hid hX; clear hX
      go_wp2_with (go_at_call 65; refine (growL_c X _ ht).mono ?_; rintro e w1 ⟨v1, rfl, hown, hb⟩)
      go_loopw [6, 27] (fun o i wr => ∃ j : Nat, j ≤ k ∧ i = .int .i64 j ∧ wr.ownsRow w.heap.size 27 5 o (ls.take j).flatten.length ((ls.take j).flatten.flatMap ctC) ∧ Below w.heap.size w wr) (fun _ i _ => k - (intOf i).toNat)
      case atStart => exact ⟨0, Nat.zero_le _, rfl, hown, hb⟩
      case round =>
        obtain ⟨j, hj, rfl, ho, hB⟩ := hrel
        by_cases hlt2 : j < k
        · have hlt' : j < ls.length := by rw [Hln.out]; exact hlt2
          obtain ⟨b, off, a', c', rfl, hc, hs⟩ := (hv.up hB).at_ hlt2 hlt'
          have hle := Vol.flat_le ls (j + 1)
          have hf := Vol.flat_take ls j hlt'
          rw [hf, List.length_append, HX.out] at hle
          have Hf := Lib.hid hf
          clear hf
          go_wp2_with (at_builtin; refine wpList_app rfl _ _ 65 rfl slL w.heap.size rfl ho rfl hs (one_ct _) (by simp only [maxLen]; omega) (by omega) hB.size ?_; intro v' w2 hown2 hgrow _)
          go_roundw
          case rel => exact ⟨j + 1, by omega, by go_num, by rw [Hf.out, List.flatMap_append, List.length_append]; exact hown2, grown_below hB hgrow (fun q hq => (ho.lt q hq).1)⟩
          case measure => simp [intOf]; omega
        · obtain rfl : j = k := by omega
          rw [Hall.out] at ho
          go_wp2
          go_ret
          exact ⟨_, rfl, by rw [← HX.out]; exact ho, hB⟩

set_option maxRecDepth 100000 in
theorem cloneL_c (l : List Ct) (v : Value) (n : Nat) (w : World) (hv : Sl w 5 v n (l.flatMap ctC)) (hn : n ≤ 100000) :
    Calls Try.prog 54 #[v] w fun e w' => ∃ v', e = .returned v' ∧ w'.ownsRow w.heap.size 27 5 v' n (l.flatMap ctC) ∧ Below w.heap.size w w' := by
  have hlen : l.length = n := Sl.recs (cells := ctC) (sz := 5) (fun _ => rfl) (by decide) hv
  obtain ⟨a, c, rfl⟩ := hv.len
  have hnil := fun w a => Lib.run_eql_slice_nil (P := Try.prog) w 65 _ a n c 0 0 Try.underlying65
  cases a with
  | none =>
    have h0 : n = 0 ∧ l = [] := by
      rcases hv.2 with ⟨_, _, _, h⟩ | ⟨b, off, cap, e, _⟩
      · exact ⟨h, List.eq_nil_of_length_eq_zero (by omega)⟩
      · simp at e
    obtain ⟨rfl, rfl⟩ := h0
    go_enter Try.func54, Try.ntmps54
    go_wp2
    go_ret
    exact ⟨_, rfl, World.ownsRow_nil _ _ _ _, Below.refl _ _⟩
  | some a =>
    go_enter Try.func54, Try.ntmps54
    go_wp2_with (at_builtin; refine wpList_app rfl _ _ 65 rfl slL w.heap.size rfl (World.ownsRow_lit w #[] 0 (Nat.le_refl _) (by decide) rfl) rfl (hv.up ((Below.refl _ _).alloc (Nat.le_refl _) _)) (one_ct _) (by simp [maxLen]; omega) (by omega) (by simp) ?_; intro v' w1 hown hgrow _)
    go_ret
    exact ⟨v', rfl, by simpa using hown, grown_below ((Below.refl _ _).alloc (Nat.le_refl _) _) hgrow (fun k hk => by have : w.heap.size = k := Option.some.inj hk; omega)⟩

theorem ct_eql (c d : Ct) (w : World) : (binOp .eql 27 (ctV c) (ctV d)).run Try.prog w = .ok (.bool (decide (c = d))) w := by
  obtain ⟨c1, c2, c3, c4, c5⟩ := c
  obtain ⟨d1, d2, d3, d4, d5⟩ := d
  by_cases h1 : c1 = d1
  · subst h1
    by_cases h2 : c2 = d2
    · subst h2
      by_cases h3 : c3 = d3
      · subst h3
        by_cases h4 : c4 = d4
        · subst h4
          by_cases h5 : c5 = d5
          · subst h5; simp [go_sem]
          · simp [go_sem, h5]
        · simp [go_sem, h4]
      · simp [go_sem, h3]
    · simp [go_sem, h2]
  · simp [go_sem, h1]
theorem same1_c (x y : Ct) (w : World) : Calls Try.prog 43 #[ctV x, ctV y] w (Ret (.bool (decide (x = y))) w) := by
  have hq := ct_eql x y
  generalize decide (x = y) = z at hq ⊢
  have hB2 : Below w.heap.size w ((w.alloc (.cells (ctC x).toArray 27)).alloc (.cells (ctC y).toArray 27)) := (below_alloc w _).alloc (by simp) _
  go_enter Try.func43, Try.ntmps43
  go_wp2
  go_ret
  exact ⟨rfl, hB2⟩
theorem enters_same1 : Enters Try.prog 43 := enters_of Try.func43 (by kernel_rfl) rfl

set_option maxHeartbeats 1000000 in
set_option maxRecDepth 100000 in
theorem equalL_c (l m : List Ct) (v u : Value) (n k : Nat) (w : World) (hv : Sl w 5 v n (l.flatMap ctC)) (hu : Sl w 5 u k (m.flatMap ctC)) :
    Calls Try.prog 42 #[v, u, .func (.func 43) #[] #[]] w (Ret (.bool (decide (l = m))) w) := by
  have Hln := Lib.hid (Sl.recs (cells := ctC) (sz := 5) (fun _ => rfl) (by decide) hv)
  have Hmk := Lib.hid (Sl.recs (cells := ctC) (sz := 5) (fun _ => rfl) (by decide) hu)
  have hn := hv.n_max
  have hk := hu.n_max
  obtain ⟨a, c, rfl⟩ := hv.len
  obtain ⟨a2, c2, rfl⟩ := hu.len
  obtain ⟨R, hR⟩ : ∃ R, R = decide (l = m) := ⟨_, rfl⟩
  rw [← hR]
  have HR := Lib.hid hR
  clear hR
  by_cases hnk : n = k
  · subst hnk
    go_enter Try.func42, Try.ntmps42
    go_wp2
    go_loopw [17] (fun i wr => ∃ j : Nat, j ≤ n ∧ i = .int .i64 j ∧ RowKit.Hid (l.take j = m.take j) ∧ Below w.heap.size w wr) (fun i _ => n - (intOf i).toNat)
    case atStart => exact ⟨0, Nat.zero_le _, rfl, Lib.hid rfl, Below.refl _ _⟩
    case round =>
      obtain ⟨j, hj, rfl, Hsame, hB⟩ := hrel
      have HB := Lib.hid hB
      by_cases hlt : j < n
      · have hl' : j < l.length := by rw [Hln.out]; exact hlt
        have hm' : j < m.length := by rw [Hmk.out]; exact hlt
        obtain ⟨b, off, rfl, hr⟩ := (hv.up hB).rec_at (cells := ctC) (sz := 5) (fun _ => rfl) hlt hl'
        obtain ⟨b2, off2, rfl, hr2⟩ := (hu.up hB).rec_at (cells := ctC) (sz := 5) (fun _ => rfl) hlt hm'
        have hs1 : l.take (j + 1) = l.take j ++ [l[j]] := List.take_succ_eq_append_getElem hl'
        have hs2 : m.take (j + 1) = m.take j ++ [m[j]] := List.take_succ_eq_append_getElem hm'
        have Hs := Lib.hid (fun h : l[j] = m[j] => show l.take (j + 1) = m.take (j + 1) by rw [hs1, hs2, h, Hsame.out])
        have Hno := Lib.hid (fun h : ¬ l[j] = m[j] => show R = false by
          rw [HR.out]
          refine decide_eq_false fun e => h ?_
          subst e; rfl)
        clear hs1 hs2 hB
        have hr2' := rangeAt_up (below_alloc wr (.cells (ctC l[j]).toArray 27)) hr2
        have hcl := same1_c l[j] m[j]
        generalize l[j] = x at *
        generalize m[j] = y at *
        by_cases hxy : x = y
        · have Hst := Lib.hid (Hs.out hxy)
          simp only [decide_eq_true hxy] at hcl
          clear hxy Hs Hno
          go_wp2_with (first
            | (refine wpList_load_mid rfl 27 (.tmp 20) rfl b (off + j * 5) rfl (ctC x) _ hr Try.underlying27 rfl (by kernel_rfl) ?_)
            | (refine wpList_load_mid rfl 27 (.tmp 24) rfl b2 (off2 + j * 5) rfl (ctC y) _ hr2' Try.underlying27 rfl (by kernel_rfl) ?_)
            | (go_at_call 43; refine (hcl _).mono ?_; rintro en w1 ⟨rfl, hb⟩))
          go_roundw
          case rel => exact ⟨j + 1, by omega, by go_num, Hst, below_up ((HB.out.alloc HB.out.size _).alloc (by have := HB.out.size; simp; omega) _) hb⟩
          case measure => simp [intOf]; omega
        · have HRf := Lib.hid (Hno.out hxy)
          simp only [decide_eq_false hxy] at hcl
          clear hxy Hs Hno
          go_wp2_with (first
            | (refine wpList_load_mid rfl 27 (.tmp 20) rfl b (off + j * 5) rfl (ctC x) _ hr Try.underlying27 rfl (by kernel_rfl) ?_)
            | (refine wpList_load_mid rfl 27 (.tmp 24) rfl b2 (off2 + j * 5) rfl (ctC y) _ hr2' Try.underlying27 rfl (by kernel_rfl) ?_)
            | (go_at_call 43; refine (hcl _).mono ?_; rintro en w1 ⟨rfl, hb⟩))
          go_ret
          exact ⟨retB HRf.out.symm, below_up ((HB.out.alloc HB.out.size _).alloc (by have := HB.out.size; simp; omega) _) hb⟩
      · obtain rfl : j = n := by omega
        have HRt : R = true := by
          rw [HR.out]
          refine decide_eq_true ?_
          have := Hsame.out
          rwa [List.take_of_length_le (by rw [Hln.out]; exact Nat.le_refl _), List.take_of_length_le (by rw [Hmk.out]; exact Nat.le_refl _)] at this
        go_wp2
        go_ret
        exact ⟨retB HRt.symm, HB.out⟩
  · have hne : ¬ ((n : Int) = (k : Int)) := by omega
    have HRf : R = false := by
      rw [HR.out]
      refine decide_eq_false fun e => hnk ?_
      have h1 := Hln.out
      have h2 := Hmk.out
      rw [e] at h1; omega
    go_enter Try.func42, Try.ntmps42
    go_wp2
    go_ret
    exact ⟨retB HRf.symm, Below.refl _ _⟩
end Go.Proofs.Ytgbpdchdcbnoaaa
