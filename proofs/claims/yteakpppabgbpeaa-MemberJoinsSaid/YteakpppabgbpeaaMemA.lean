/-
  A roll as the list of its tellings; contracts of none, New, of, Outdoes (both), num.
-/
import Derived.Test.YteakpppabgbpeaaMapB
import Derived.Test.YteakpppabgbpeaaFork
import Derived.Test.YteakpppabgbpeaaPtM
namespace Go.Proofs.Yteakpppabgbpeaa
open Go.RowKit Go.Maps
set_option linter.unusedSimpArgs false
set_option linter.unusedVariables false

namespace Mem
/-- A telling. -/
structure Mb where
  node : Int
  region : Int
  epoch : Int
  in_ : Bool
deriving DecidableEq
structure Mb.Wf (m : Mb) : Prop where
  n1 : 0 ≤ m.node
  n2 : m.node ≤ 4294967295
  r1 : 0 ≤ m.region
  r2 : m.region ≤ 4294967295
def zmb : Mb := ⟨0, 0, 0, false⟩
/-- Is it of both? -/
def ofB (n r : Int) (m : Mb) : Bool := decide (m.node = n) && decide (m.region = r)
def find (E : List Mb) (n r : Int) : Option Mb := E.find? (ofB n r)
def outB (a b : Mb) : Bool := decide (a.node = b.node) && decide (a.region = b.region) && (decide (b.epoch < a.epoch) || decide (a.epoch = b.epoch) && !a.in_ && b.in_)
end Mem
open Mem
abbrev mbC (m : Mb) : List Value := [.int .u32 m.node, .int .u32 m.region, .int .u32 m.epoch, .bool m.in_]
abbrev mbV (m : Mb) : Value := .agg (mbC m).toArray
abbrev keyV (n r : Int) : Value := .agg #[.int .u32 n, .int .u32 r]
abbrev mEnt (m : Mb) : Value × Value := (keyV m.node m.region, mbV m)
abbrev MMap (w : World) (M : Nat) (E : List Mb) : Prop := MapAt Try.prog 62 w M (E.map mEnt)

theorem laidOutM : laidOutB Try.prog = true := by kernel_rfl
theorem memKeyed : Keyed Try.prog 62 :=
  Keyed.of_law (deep_law_laid laidOutM (m := 4) (by omega) (of_decide_eq_true (by kernel_rfl)) (by kernel_rfl) (by rw [Try.underlying62]))
theorem key_lit (n r : Int) (hn0 : 0 ≤ n) (hn : n ≤ 4294967295) (hr0 : 0 ≤ r) (hr : r ≤ 4294967295) : ∃ l, keyOf Try.prog 62 (keyV n r) = some l := by
  have h1 : (Lit.int .u32 n).wf = true := by simp [Lit.wf, IntKind.min, IntKind.max, IntKind.signed, IntKind.bits]; omega
  have h2 : (Lit.int .u32 r).wf = true := by simp [Lit.wf, IntKind.min, IntKind.max, IntKind.signed, IntKind.bits]; omega
  unfold keyOf
  rw [Try.underlying62]
  have hk : Try.prog.keyType 62 = true := by kernel_rfl
  have hc : Try.prog.cellsOf 62 = 2 := by kernel_rfl
  have hf : (keyV n r).formed Try.prog 62 = true := by
    unfold Value.formed
    rw [Try.underlying62]
    rw [hc]
    rfl
  rw [hk, hf]
  simp only [Bool.and_true, if_true]
  obtain ⟨d, hd⟩ : ∃ d, Try.prog.types.size + 1 = d + 3 := ⟨Try.prog.types.size - 2, by have : 2 ≤ Try.prog.types.size := of_decide_eq_true (by kernel_rfl); omega⟩
  rw [hd]
  have c3 : Try.prog.cellsOf 22 = 1 := by kernel_rfl
  have hkl : Try.prog.keyLits (d + 3) 62 (keyV n r).cells.toList = some [.int .u32 n, .int .u32 r] := by
    have hrg : List.range 2 = [0, 1] := rfl
    simp [Program.keyLits, Value.cells, Try.underlying62, Try.underlying22, hc, c3, h1, h2, hrg]
  rw [hkl]
  exact ⟨_, rfl⟩

namespace Mem
theorem keyV_eq {m : Mb} {n r : Int} : keyV m.node m.region = keyV n r ↔ ofB n r m = true := by
  simp [keyV, ofB]
theorem find_some {E : List Mb} {n r : Int} {m : Mb} (h : find E n r = some m) : m ∈ E ∧ m.node = n ∧ m.region = r := by
  refine ⟨List.mem_of_find?_eq_some h, ?_⟩
  have := List.find?_some h
  simpa [ofB] using this
end Mem
theorem mlook {w : World} {M : Nat} {E : List Mb} (h : MMap w M E) {n r : Int} (hn0 : 0 ≤ n) (hn : n ≤ 4294967295) (hr0 : 0 ≤ r) (hr : r ≤ 4294967295) :
    (Instr.lookup 53 (.map (some M)) (keyV n r) true).run Try.prog w = .ok (.tuple #[mbV ((find E n r).getD zmb), .bool (find E n r).isSome]) w := by
  obtain ⟨l, hl⟩ := key_lit n r hn0 hn hr0 hr
  cases hg : find E n r with
  | none =>
    have hz : Try.t24.zero = some (mbV zmb) := by kernel_rfl
    refine h.look_none memKeyed Try.underlying53 (z := mbV zmb) (by simp [go_sem, zeroValue, hz]) hl (fun p hp e => ?_) true
    obtain ⟨q, hq, rfl⟩ := List.mem_map.1 hp
    have := List.find?_eq_none.1 hg q hq
    exact this (keyV_eq.1 e)
  | some q =>
    obtain ⟨hq, h1, h2⟩ := find_some hg
    exact h.look_some memKeyed Try.underlying53 hl (List.mem_map.2 ⟨q, hq, by show (keyV q.node q.region, mbV q) = _; rw [h1, h2]; rfl⟩) true

/-- A roll: its variable lies in block B, its map in block M. -/
structure RollAt (w : World) (B M : Nat) (E : List Mb) : Prop where
  var : RowAt w B #[.map (some M)] 55
  map : MMap w M E
  ne : B ≠ M
  wf : ∀ m ∈ E, m.Wf
theorem RollAt.but {w w' : World} {B M : Nat} {E : List Mb} (h : RollAt w B M E) {O : Nat → Prop} (hb : But O w w') (hB : ¬ O B) (hM : ¬ O M) : RollAt w' B M E :=
  ⟨(hb.same B h.var.lt hB).trans h.var, h.map.heap (hb.same M h.map.lt hM), h.ne, h.wf⟩
theorem RollAt.below {w w' : World} {B M : Nat} {E : List Mb} (h : RollAt w B M E) (hb : Below w.heap.size w w') : RollAt w' B M E :=
  h.but (O := fun _ => False) (But.of_below hb) (fun h => h) (fun h => h)

theorem num_cc (e : Int) (w : World) : Calls Try.prog 13 #[.int .i64 e] w (fun en w' => en = .returned (.int .i64 e) ∧ w = w') := by
  go_enter Try.func13, Try.ntmps13
  go_wp2
  go_ret
  exact ⟨rfl, rfl⟩
set_option maxRecDepth 100000 in
theorem rNone_c {B M : Nat} {E : List Mb} (w : World) (h : RollAt w B M E) : Calls Try.prog 26 #[.pointer (some ⟨B, 0, none⟩)] w fun en w' => en = .returned (.bool false) ∧ w = w' := by
  have hc := h.var.cell (i := 0) (v := .map (some M)) rfl
  have hm := fun w => run_eql_map_nil (P := Try.prog) w 53 _ _ (some M) Try.underlying53
  go_enter Try.func26, Try.ntmps26
  go_wp2
  go_ret
  exact ⟨rfl, rfl⟩
set_option maxRecDepth 100000 in
theorem rNew_c (w : World) : Calls Try.prog 11 #[] w fun en w' => en = .returned (.pointer (some ⟨w.heap.size + 1, 0, none⟩)) ∧ RollAt w' (w.heap.size + 1) w.heap.size [] ∧ Below w.heap.size w w' := by
  have hmk := run_makeMap (P := Try.prog) 53 w
  go_enter Try.func11, Try.ntmps11
  go_wp2
  go_ret
  refine ⟨by simp, ⟨?_, ?_, by omega, fun m hm => by cases hm⟩, (below_alloc w _).alloc (by simp) _⟩
  · have := RowAt.new (w.alloc (.map #[] 0)) #[.map (some w.heap.size)] 55
    rwa [show (w.alloc (.map #[] 0)).heap.size = w.heap.size + 1 by simp] at this
  · exact (MapAt.new w).heap (heap_alloc_old _ _ (MapAt.new (P := Try.prog) (k := 62) w).lt)

set_option maxRecDepth 100000 in
theorem mOf_c {M : Nat} {E : List Mb} (n r : Int) (hn0 : 0 ≤ n) (hn : n ≤ 4294967295) (hr0 : 0 ≤ r) (hr : r ≤ 4294967295) (w : World) (h : MMap w M E) :
    Calls Try.prog 29 #[.map (some M), .int .u32 n, .int .u32 r] w (Ret (.tuple #[mbV ((find E n r).getD zmb), .bool (find E n r).isSome]) w) := by
  have hb := below_alloc w (.cells (mbC zmb).toArray 24)
  have hl := mlook (h.heap (hb.block M h.lt)) hn0 hn hr0 hr
  generalize (find E n r).getD zmb = x at *
  have Z0 := RowAt.new w (mbC zmb).toArray 24
  have hb2 := below_alloc (w.alloc (.cells (mbC zmb).toArray 24)) (.cells (mbC x).toArray 24)
  have Z1 := Z0.below hb2
  go_enter Try.func29, Try.ntmps29
  go_wp2_with (refine wpList_look rfl 53 (.tmp 11) (.tmp 14) true rfl (mv := .map (some M)) (iv := keyV n r) rfl rfl hl ?_)
  exact bodyPost_ret (v := .tuple #[mbV x, .bool (find E n r).isSome]) (by simp [results, Try.results29, go_sem]) rfl ⟨rfl, (below_alloc w _).alloc (by simp) _⟩

set_option maxRecDepth 100000 in
theorem mb_eql (c d : Mb) (w : World) : (binOp .eql 24 (mbV c) (mbV d)).run Try.prog w = .ok (.bool (decide (c = d))) w := by
  obtain ⟨c1, c2, c3, c4⟩ := c
  obtain ⟨d1, d2, d3, d4⟩ := d
  by_cases h1 : c1 = d1
  · subst h1
    by_cases h2 : c2 = d2
    · subst h2
      by_cases h3 : c3 = d3
      · subst h3
        by_cases h4 : c4 = d4
        · subst h4; simp [go_sem]
        · simp [go_sem, h4]
      · simp [go_sem, h3]
    · simp [go_sem, h2]
  · simp [go_sem, h1]
set_option maxRecDepth 100000 in
theorem mb_neql (c d : Mb) (w : World) : (binOp .neq 24 (mbV c) (mbV d)).run Try.prog w = .ok (.bool (!decide (c = d))) w := by
  obtain ⟨c1, c2, c3, c4⟩ := c
  obtain ⟨d1, d2, d3, d4⟩ := d
  by_cases h1 : c1 = d1
  · subst h1
    by_cases h2 : c2 = d2
    · subst h2
      by_cases h3 : c3 = d3
      · subst h3
        by_cases h4 : c4 = d4
        · subst h4; simp [go_sem]
        · simp [go_sem, h4]
      · simp [go_sem, h3]
    · simp [go_sem, h2]
  · simp [go_sem, h1]

set_option maxHeartbeats 1000000 in
set_option maxRecDepth 100000 in
theorem refOut_c (a b : Mb) (w : World) : Calls Try.prog 9 #[mbV a, mbV b] w (Ret (.bool (outB a b)) w) := by
  obtain ⟨R, hR⟩ : ∃ R, R = outB a b := ⟨_, rfl⟩
  rw [← hR]
  have HR := Lib.hid hR
  clear hR
  obtain ⟨a1, a2, a3, a4⟩ := a
  obtain ⟨b1, b2, b3, b4⟩ := b
  unfold outB at HR
  simp only at HR
  by_cases e1 : a1 = b1
  · subst e1
    by_cases e2 : a2 = b2
    · subst e2
      by_cases h3 : b3 < a3
      · have hv : R = true := by rw [HR.out]; simp [h3]
        clear HR; subst hv
        go_enter Try.func9, Try.ntmps9
        go_wp2
        go_ret
        exact ⟨rfl, (below_alloc w _).alloc (by simp) _⟩
      · by_cases e4 : a3 = b3
        · subst e4
          have hv : R = (!a4 && b4) := by rw [HR.out]; simp
          clear HR; subst hv
          cases a4 <;> cases b4
          all_goals
            go_enter Try.func9, Try.ntmps9
            go_wp2
            go_ret
            exact ⟨rfl, (below_alloc w _).alloc (by simp) _⟩
        · have hv : R = false := by rw [HR.out]; simp [e4, h3]
          have h3d : decide (b3 < a3) = false := decide_eq_false h3
          have h4 : (a3 == b3) = false := by simpa using e4
          have h4n : (a3 != b3) = true := by simpa using e4
          clear HR; subst hv
          go_enter Try.func9, Try.ntmps9
          go_wp2
          go_ret
          exact ⟨rfl, (below_alloc w _).alloc (by simp) _⟩
    · have hv : R = false := by rw [HR.out]; simp [e2]
      have h2 : (a2 == b2) = false := by simpa using e2
      have h2n : (a2 != b2) = true := by simpa using e2
      clear HR; subst hv
      go_enter Try.func9, Try.ntmps9
      go_wp2
      go_ret
      exact ⟨rfl, (below_alloc w _).alloc (by simp) _⟩
  · have hv : R = false := by rw [HR.out]; simp [e1]
    have h1 : (a1 == b1) = false := by simpa using e1
    have h1n : (a1 != b1) = true := by simpa using e1
    clear HR; subst hv
    go_enter Try.func9, Try.ntmps9
    go_wp2
    go_ret
    exact ⟨rfl, (below_alloc w _).alloc (by simp) _⟩
set_option maxHeartbeats 1000000 in
set_option maxRecDepth 100000 in
theorem mOut_c (a b : Mb) (w : World) : Calls Try.prog 8 #[mbV a, mbV b] w (Ret (.bool (outB a b)) w) := by
  obtain ⟨R, hR⟩ : ∃ R, R = outB a b := ⟨_, rfl⟩
  rw [← hR]
  have HR := Lib.hid hR
  clear hR
  obtain ⟨a1, a2, a3, a4⟩ := a
  obtain ⟨b1, b2, b3, b4⟩ := b
  unfold outB at HR
  simp only at HR
  by_cases e1 : a1 = b1
  · subst e1
    by_cases e2 : a2 = b2
    · subst e2
      by_cases h3 : b3 < a3
      · have hv : R = true := by rw [HR.out]; simp [h3]
        clear HR; subst hv
        go_enter Try.func8, Try.ntmps8
        go_wp2
        go_region
        all_goals
          go_wp2
        go_ret
        exact ⟨rfl, (((below_alloc w _).alloc (by simp) _).alloc (by simp; omega) _).drew⟩
      · by_cases e4 : a3 = b3
        · subst e4
          have hv : R = (!a4 && b4) := by rw [HR.out]; simp
          clear HR; subst hv
          cases a4 <;> cases b4
          all_goals
            go_enter Try.func8, Try.ntmps8
            go_wp2
            go_region
            all_goals
              go_wp2
            go_ret
            exact ⟨rfl, (((below_alloc w _).alloc (by simp) _).alloc (by simp; omega) _).drew⟩
        · have hv : R = false := by rw [HR.out]; simp [e4, h3]
          have h3d : decide (b3 < a3) = false := decide_eq_false h3
          have h4 : (a3 == b3) = false := by simpa using e4
          have h4n : (a3 != b3) = true := by simpa using e4
          clear HR; subst hv
          go_enter Try.func8, Try.ntmps8
          go_wp2
          go_region
          all_goals
            go_wp2
          go_ret
          exact ⟨rfl, (((below_alloc w _).alloc (by simp) _).alloc (by simp; omega) _).drew⟩
    · have hv : R = false := by rw [HR.out]; simp [e2]
      have h2 : (a2 == b2) = false := by simpa using e2
      have h2n : (a2 != b2) = true := by simpa using e2
      clear HR; subst hv
      go_enter Try.func8, Try.ntmps8
      go_wp2
      go_region
      all_goals
        go_wp2
      go_ret
      exact ⟨rfl, (((below_alloc w _).alloc (by simp) _).alloc (by simp; omega) _).drew⟩
  · have hv : R = false := by rw [HR.out]; simp [e1]
    have h1 : (a1 == b1) = false := by simpa using e1
    have h1n : (a1 != b1) = true := by simpa using e1
    clear HR; subst hv
    go_enter Try.func8, Try.ntmps8
    go_wp2
    go_region
    all_goals
      go_wp2
    go_ret
    exact ⟨rfl, (((below_alloc w _).alloc (by simp) _).alloc (by simp; omega) _).drew⟩
end Go.Proofs.Yteakpppabgbpeaa
