/-
  Sights; a table of sights as the list of its entries.
-/
import Derived.Test.YtfoncaamhleckaaSeN
namespace Go.Proofs.Ytfoncaamhleckaa
open Go.RowKit Go.Maps Trc Srt
set_option linter.unusedSimpArgs false
set_option linter.unusedVariables false

namespace Sn
structure Sg where
  n : Nm
  b : Bool
  c : Int
deriving DecidableEq
def Sg.wf (s : Sg) : Prop := s.n.wf ∧ (Lit.int .u8 s.c).wf = true
def zsg : Sg := ⟨⟨0, 0, 0, 0⟩, false, 0⟩
end Sn
open Sn
abbrev sgC (s : Sg) : List Value := [.int .u32 s.n.node, .int .u32 s.n.service, .int .u64 s.n.time, .int .u32 s.n.seq, .bool s.b, .int .u8 s.c]
abbrev sgV (s : Sg) : Value := .agg (sgC s).toArray
theorem sgV_inj {s t : Sg} (h : sgV s = sgV t) : s = t := by
  obtain ⟨⟨a, b, c, d⟩, e, f⟩ := s
  obtain ⟨⟨a', b', c', d'⟩, e', f'⟩ := t
  simp at h
  simp [h]

theorem laidOutS : laidOutB Try.prog = true := by kernel_rfl
theorem sgKeyed : Keyed Try.prog 38 :=
  Keyed.of_law (deep_law_laid laidOutS (m := 4) (by omega) (of_decide_eq_true (by kernel_rfl)) (by kernel_rfl) (by rw [Try.underlying38]))

theorem sg_key (s : Sg) (h : s.wf) : ∃ l, keyOf Try.prog 38 (sgV s) = some l := by
  obtain ⟨⟨h1, h2, h3, h4⟩, h5⟩ := h
  have h6 : (Lit.bool s.b).wf = true := rfl
  unfold keyOf
  rw [Try.underlying38]
  have hk : Try.prog.keyType 38 = true := by kernel_rfl
  have hf : (sgV s).formed Try.prog 38 = true := by
    unfold Value.formed
    rw [Try.underlying38]
    have hc : Try.prog.cellsOf 38 = 6 := by kernel_rfl
    rw [hc]
    rfl
  rw [hk, hf]
  simp only [Bool.and_true, if_true]
  obtain ⟨d, hd⟩ : ∃ d, Try.prog.types.size + 1 = d + 4 := ⟨Try.prog.types.size - 3, by have : 3 ≤ Try.prog.types.size := of_decide_eq_true (by kernel_rfl); omega⟩
  rw [hd]
  have c0 : Try.prog.cellsOf 36 = 4 := by kernel_rfl
  have c1 : Try.prog.cellsOf 34 = 2 := by kernel_rfl
  have c2 : Try.prog.cellsOf 23 = 1 := by kernel_rfl
  have c3 : Try.prog.cellsOf 32 = 1 := by kernel_rfl
  have c4 : Try.prog.cellsOf 38 = 6 := by kernel_rfl
  have c5 : Try.prog.cellsOf 4 = 1 := by kernel_rfl
  have c6 : Try.prog.cellsOf 5 = 1 := by kernel_rfl
  have hkl : Try.prog.keyLits (d + 4) 38 (sgV s).cells.toList = some [.int .u32 s.n.node, .int .u32 s.n.service, .int .u64 s.n.time, .int .u32 s.n.seq, .bool s.b, .int .u8 s.c] := by
    simp [Program.keyLits, Value.cells, Try.underlying38, Try.underlying36, Try.underlying34, Try.underlying23, Try.underlying32, Try.underlying5, Try.underlying4, c0, c1, c2, c3, c4, c5, c6, h1, h2, h3, h4, h5]
    try (repeat rw [if_pos (by decide)])
    try rfl
  rw [hkl]
  exact ⟨_, rfl⟩

namespace Sn
/-- The entry of a sight. -/
def get (E : List (Sg × Int)) (s : Sg) : Option (Sg × Int) := E.find? fun p => decide (p.1 = s)
def lk (E : List (Sg × Int)) (s : Sg) : Int := ((get E s).getD (s, 0)).2
def hasB (E : List (Sg × Int)) (s : Sg) : Bool := (get E s).isSome
theorem get_key {E : List (Sg × Int)} {s : Sg} {q : Sg × Int} (h : get E s = some q) : q.1 = s := of_decide_eq_true (List.find?_some (p := fun p : Sg × Int => decide (p.1 = s)) h)
theorem get_mem {E : List (Sg × Int)} {s : Sg} {q : Sg × Int} (h : get E s = some q) : q ∈ E := List.mem_of_find?_eq_some h
theorem hasB_iff {E : List (Sg × Int)} {s : Sg} : hasB E s = true ↔ s ∈ E.map (·.1) := by
  unfold hasB get
  rw [List.find?_isSome]
  simp
theorem hasB_no {E : List (Sg × Int)} {s : Sg} (h : hasB E s = false) : ∀ p ∈ E, p.1 ≠ s := fun p hp e => by
  have := hasB_iff.2 (List.mem_map.2 ⟨p, hp, e⟩)
  rw [h] at this; cases this
theorem lk_of {E : List (Sg × Int)} {s : Sg} {q : Sg × Int} (h : get E s = some q) : lk E s = q.2 := by unfold lk; rw [h]; rfl
theorem lk_no {E : List (Sg × Int)} {s : Sg} (h : hasB E s = false) : lk E s = 0 := by
  unfold lk; unfold hasB at h; cases hg : get E s with
  | none => rfl
  | some q => rw [hg] at h; cases h
theorem get_nodup {E : List (Sg × Int)} (hn : (E.map (·.1)).Nodup) {p : Sg × Int} (hp : p ∈ E) : get E p.1 = some p := by
  induction E with
  | nil => cases hp
  | cons q r ih =>
    unfold get
    rw [List.find?_cons]
    simp only [List.map_cons, List.nodup_cons] at hn
    rcases List.mem_cons.1 hp with rfl | hp'
    · simp
    · have : ¬ q.1 = p.1 := fun e => hn.1 (List.mem_map.2 ⟨p, hp', e.symm⟩)
      rw [decide_eq_false this]
      exact ih hn.2 hp'
end Sn
abbrev sEnt (p : Sg × Int) : Value × Value := (sgV p.1, .int .u64 p.2)
abbrev SMap (w : World) (M : Nat) (E : List (Sg × Int)) : Prop := MapAt Try.prog 38 w M (E.map sEnt)
theorem SMap.nodup {w : World} {M : Nat} {E : List (Sg × Int)} (h : SMap w M E) : (E.map (·.1)).Nodup := by
  have := h.one
  rw [List.map_map] at this
  have h2 : ((E.map (·.1)).map sgV).Nodup := by rw [List.map_map]; exact this
  exact List.Pairwise.of_map sgV (fun a b hab e => hab (by rw [e])) h2

theorem slook {w : World} {M : Nat} {E : List (Sg × Int)} (h : SMap w M E) {s : Sg} (hs : s.wf) (b : Bool) :
    (Instr.lookup 30 (.map (some M)) (sgV s) b).run Try.prog w = .ok (if b then .tuple #[.int .u64 (lk E s), .bool (hasB E s)] else .int .u64 (lk E s)) w := by
  obtain ⟨l, hl⟩ := sg_key s hs
  cases hg : get E s with
  | none =>
    have hz : Try.t23.zero = some (.int .u64 0) := by kernel_rfl
    have h1 : lk E s = 0 := by unfold lk; rw [hg]; rfl
    have h2 : hasB E s = false := by unfold hasB; rw [hg]; rfl
    rw [h1, h2]
    refine h.look_none sgKeyed Try.underlying30 (z := .int .u64 0) (by simp [go_sem, zeroValue, hz]) hl (fun p hp e => ?_) b
    obtain ⟨q, hq, rfl⟩ := List.mem_map.1 hp
    have := List.find?_eq_none.1 hg q hq
    exact this (decide_eq_true (sgV_inj e))
  | some q =>
    have h1 := lk_of hg
    have h2 : hasB E s = true := by unfold hasB; rw [hg]; rfl
    rw [h1, h2]
    exact h.look_some sgKeyed Try.underlying30 hl (List.mem_map.2 ⟨q, get_mem hg, by show (sgV q.1, _) = _; rw [get_key hg]⟩) b
theorem sput {w : World} {M : Nat} {E : List (Sg × Int)} (h : SMap w M E) {s : Sg} (hs : s.wf) (hn : hasB E s = false) (u : Int) :
    ∃ w', (Instr.mapUpdate 30 (.map (some M)) (sgV s) (.int .u64 u)).run Try.prog w = .ok () w' ∧ SMap w' M (E ++ [(s, u)]) ∧ But (· = M) w w' := by
  obtain ⟨l, hl⟩ := sg_key s hs
  obtain ⟨w', h1, h2, h3⟩ := h.put_new sgKeyed Try.underlying30 (v := .int .u64 u) hl (fun p hp e => by
    obtain ⟨q, hq, rfl⟩ := List.mem_map.1 hp
    exact hasB_no hn q hq (sgV_inj e))
  exact ⟨w', h1, by show MapAt _ _ _ _ _; rw [List.map_append]; exact h2, h3⟩
theorem sdel {w : World} {M : Nat} {E0 E1 : List (Sg × Int)} {p : Sg × Int} (h : SMap w M (E0 ++ p :: E1)) (hs : p.1.wf) (kt ty : TypeId) :
    ∃ w', (Builtin.delete_ #[30, kt] ty #[.map (some M), sgV p.1]).run Try.prog w = .ok (.tuple #[]) w' ∧ SMap w' M (E0 ++ E1) ∧ But (· = M) w w' := by
  obtain ⟨l, hl⟩ := sg_key p.1 hs
  have h0 : MapAt Try.prog 38 w M (E0.map sEnt ++ sEnt p :: E1.map sEnt) := by rw [← List.map_cons, ← List.map_append]; exact h
  obtain ⟨w', h1, h2, h3⟩ := h0.del sgKeyed Try.underlying30 hl kt ty
  exact ⟨w', h1, by show MapAt _ _ _ _ _; rw [List.map_append]; exact h2, h3⟩

/-- A table: its variable lies in block T, its map in block M. -/
structure Tab (w : World) (T M : Nat) (most : Int) (E : List (Sg × Int)) : Prop where
  var : RowAt w T #[.int .i64 most, .map (some M)] 66
  map : SMap w M E
  ne : T ≠ M
  ok : ∀ p ∈ E, p.1.wf
  len : E.length ≤ 4096
  most : 0 ≤ most ∧ most ≤ 4096
theorem Tab.but {w w' : World} {T M : Nat} {most : Int} {E : List (Sg × Int)} (h : Tab w T M most E) {O : Nat → Prop} (hb : But O w w') (hL : ¬ O T) (hM : ¬ O M) : Tab w' T M most E :=
  ⟨(hb.same T h.var.lt hL).trans h.var, h.map.heap (hb.same M h.map.lt hM), h.ne, h.ok, h.len, h.most⟩
theorem Tab.below {w w' : World} {T M : Nat} {most : Int} {E : List (Sg × Int)} (h : Tab w T M most E) (hb : Below w.heap.size w w') : Tab w' T M most E :=
  h.but (O := fun _ => False) (But.of_below hb) (fun h => h) (fun h => h)
end Go.Proofs.Ytfoncaamhleckaa
