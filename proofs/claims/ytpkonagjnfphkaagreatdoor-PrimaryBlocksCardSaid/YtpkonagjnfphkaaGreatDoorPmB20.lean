/-
  TraceA, TraceB, TraceC, TraceD, TraceG, TraceH: several texts in one (bundle.py).
-/
import Derived.Test.YtpkonagjnfphkaaGreatDoorPmB01
import Derived.Test.YtpkonagjnfphkaaGreatDoorPmB02
import Derived.Test.YtpkonagjnfphkaaGreatDoorPmB11
namespace Go.Proofs.YtpkonagjnfphkaaGreatDoor
open Go.RowKit
set_option linter.unusedSimpArgs false
set_option linter.unusedVariables false

namespace Trc
@[ext] structure Nm where
  node : Int
  service : Int
  time : Int
  seq : Int
deriving DecidableEq
structure Ev where
  kind : Int
  at_ : Int
  node : Int
  to : Int
  n : Int
  name : Nm
  got : Int
  gname : Nm
  why : Int
  errno : Int
deriving DecidableEq
def saysB (e : Ev) : Bool := e.kind == 3 || e.kind == 15 || e.kind == 16
def gotB (k : Int) : Bool := decide (0 ≤ k) && decide (k ≤ 6)
def aloneB (e : Ev) : Bool := gotB e.got && (decide (e.name = e.gname) && (if e.got = 5 then decide (1 ≤ e.why) && decide (e.why ≤ 5) else decide (e.why = 0)))
end Trc
open Trc
abbrev nmV (x : Nm) : Value := .agg #[.int .u32 x.node, .int .u32 x.service, .int .u64 x.time, .int .u32 x.seq]
abbrev evC (e : Ev) : List Value := [.int .i64 e.kind, .int .u64 e.at_, .int .u32 e.node, .int .u32 e.to, .int .u64 e.n, .int .u32 e.name.node, .int .u32 e.name.service, .int .u64 e.name.time, .int .u32 e.name.seq,
  .int .i64 e.got, .int .u32 e.gname.node, .int .u32 e.gname.service, .int .u64 e.gname.time, .int .u32 e.gname.seq, .int .i64 e.why, .int .i64 e.errno]
abbrev evA (e : Ev) : Array Value := (evC e).toArray
abbrev evV (e : Ev) : Value := .agg (evA e)

end Go.Proofs.YtpkonagjnfphkaaGreatDoor

namespace Go.Proofs.YtpkonagjnfphkaaGreatDoor
open Go.RowKit Trc
set_option linter.unusedSimpArgs false
set_option linter.unusedVariables false

theorem slK (w : World) (k : Nat) (hk : k = w.heap.size) (T : TypeId) : Sl (w.alloc (.cells #[.int .i64 3, .int .i64 15, .int .i64 16] T)) 1 (.slice (some ⟨k, 0, none⟩) 3 3) 3 ([3, 15, 16].map (.int .i64)) := by
  subst hk
  refine ⟨by simp, .inr ⟨w.heap.size, 0, 3, rfl, by decide, by decide, fun j u hj => ?_⟩⟩
  have : (w.alloc (.cells #[.int .i64 3, .int .i64 15, .int .i64 16] T)).heap[w.heap.size]? = some (.cells #[.int .i64 3, .int .i64 15, .int .i64 16] T) := heap_alloc_new w _
  simp only [World.cell?, this, Nat.zero_add]
  simpa using hj

end Go.Proofs.YtpkonagjnfphkaaGreatDoor

namespace Go.Proofs.YtpkonagjnfphkaaGreatDoor
open Go.RowKit Trc
set_option linter.unusedSimpArgs false
set_option linter.unusedVariables false

namespace Trc
/-- Not ahead of the last. -/
def risesB (l : List Ev) (e : Ev) : Bool := match l.getLast? with | none => true | some p => decide (p.at_ ≤ e.at_)
def sameB (e o : Ev) : Bool := saysB o && decide (o.name = e.name)
def onceB (l : List Ev) (e : Ev) : Bool := !saysB e || (e.name.node == 0 || !(l.any (sameB e)))
end Trc

end Go.Proofs.YtpkonagjnfphkaaGreatDoor

namespace Go.Proofs.YtpkonagjnfphkaaGreatDoor
open Go.RowKit Trc
set_option linter.unusedSimpArgs false
set_option linter.unusedVariables false

abbrev fnV (f : FuncId) : Value := .func (.func f) #[] #[]
abbrev fnC (f : FuncId) : List Value := [fnV f]

namespace Trc
def soundB (l : List Ev) (e : Ev) : Bool := aloneB e && (risesB l e && onceB l e)
/-- The first that is not sound beside those ahead. -/
def badAt (l : List Ev) : Nat → Nat → Option Nat
  | _, 0 => none
  | k, n + 1 => match l[k]? with
    | none => none
    | some e => if soundB (l.take k) e then badAt l (k + 1) n else some k
def wrongAt (l : List Ev) : Option Nat := badAt l 0 l.length
def checkAt (l : List Ev) : Int := if 4096 < l.length then 0 else match wrongAt l with | none => 0 | some k => k
def checkE (l : List Ev) : Int := if 4096 < l.length then 3 else match wrongAt l with | none => 0 | some _ => 360
theorem badAt_some {l : List Ev} : ∀ (n k : Nat) (j : Nat) (hj : j < l.length), k ≤ j → j < k + n → (∀ i, k ≤ i → i < j → ∀ hi : i < l.length, soundB (l.take i) l[i] = true) → soundB (l.take j) l[j] = false → badAt l k n = some j
  | 0, k, j, _, h1, h2, _, _ => by omega
  | n + 1, k, j, hj, h1, h2, h3, h4 => by
    unfold badAt
    rw [List.getElem?_eq_getElem (by omega)]
    by_cases h : k = j
    · subst h
      simp [h4]
    · simp [h3 k (Nat.le_refl _) (by omega) (by omega)]
      exact badAt_some n (k + 1) j hj (by omega) (by omega) (fun i hi => h3 i (by omega)) h4
theorem badAt_none {l : List Ev} : ∀ (n k : Nat), (∀ i, k ≤ i → ∀ hi : i < l.length, soundB (l.take i) l[i] = true) → badAt l k n = none
  | 0, k, _ => rfl
  | n + 1, k, h => by
    unfold badAt
    by_cases hk : k < l.length
    · rw [List.getElem?_eq_getElem hk]
      simp [h k (Nat.le_refl _) hk]
      exact badAt_none n (k + 1) (fun i hi => h i (by omega))
    · rw [List.getElem?_eq_none (by omega)]
end Trc

theorem sl3f (w : World) (k : Nat) (hk : k = w.heap.size) (T : TypeId) (f g h : FuncId) : Sl (w.alloc (.cells #[fnV f, fnV g, fnV h] T)) 1 (.slice (some ⟨k, 0, none⟩) 3 3) 3 ([f, g, h].flatMap fnC) := by
  subst hk
  refine ⟨by simp, .inr ⟨w.heap.size, 0, 3, rfl, by decide, by decide, fun j u hj => ?_⟩⟩
  have : (w.alloc (.cells #[fnV f, fnV g, fnV h] T)).heap[w.heap.size]? = some (.cells #[fnV f, fnV g, fnV h] T) := heap_alloc_new w _
  simp only [World.cell?, this, Nat.zero_add]
  simpa using hj

end Go.Proofs.YtpkonagjnfphkaaGreatDoor

namespace Go.Proofs.YtpkonagjnfphkaaGreatDoor
open Go.RowKit Trc
set_option linter.unusedSimpArgs false
set_option linter.unusedVariables false

namespace Trc
def cnt (l : List Ev) (i : Int) : Nat := l.countP fun e => e.got == i
theorem cnt_snoc (l : List Ev) (e : Ev) (i : Int) : cnt (l ++ [e]) i = cnt l i + if e.got = i then 1 else 0 := by
  unfold cnt
  rw [List.countP_append]
  by_cases h : e.got = i <;> simp [h]
theorem cnt_le (l : List Ev) (i : Int) : cnt l i ≤ l.length := List.countP_le_length
end Trc
abbrev cntA (l : List Ev) : Array Value := #[.int .i64 (cnt l 0), .int .i64 (cnt l 1), .int .i64 (cnt l 2), .int .i64 (cnt l 3), .int .i64 (cnt l 4), .int .i64 (cnt l 5), .int .i64 (cnt l 6)]

theorem got7 {g : Int} (h : gotB g = true) : g = 0 ∨ g = 1 ∨ g = 2 ∨ g = 3 ∨ g = 4 ∨ g = 5 ∨ g = 6 := by simp [gotB] at h; omega
theorem cntA_get (l : List Ev) {g : Int} (h : gotB g = true) : (cntA l)[g.toNat]? = some (.int .i64 (cnt l g)) := by
  rcases got7 h with rfl | rfl | rfl | rfl | rfl | rfl | rfl <;> rfl
theorem cntA_set (l : List Ev) (x : Ev) (h : gotB x.got = true) : cntA (l ++ [x]) = (cntA l).setIfInBounds x.got.toNat (.int .i64 ((cnt l x.got : Nat) + 1 : Int)) := by
  simp only [cntA, cnt_snoc]
  rcases got7 h with h | h | h | h | h | h | h <;> simp [h]
theorem cntA_not (l : List Ev) (x : Ev) (h : gotB x.got = false) : cntA (l ++ [x]) = cntA l := by
  have : ∀ i : Int, 0 ≤ i → i ≤ 6 → ¬ x.got = i := fun i h1 h2 e => by simp [gotB] at h; omega
  simp only [cntA, cnt_snoc]
  simp [this]

end Go.Proofs.YtpkonagjnfphkaaGreatDoor

namespace Go.Proofs.YtpkonagjnfphkaaGreatDoor
open Go.RowKit Go.Maps Trc
set_option linter.unusedSimpArgs false
set_option linter.unusedVariables false

theorem laidOutT : laidOutB Tryz.prog = true := by kernel_rfl
theorem nameKeyed : Keyed Tryz.prog 32 :=
  Keyed.of_law (deep_law_laid laidOutT (m := 4) (by omega) (of_decide_eq_true (by kernel_rfl)) (by kernel_rfl) (by rw [Tryz.underlying32]))

def Trc.Nm.wf (x : Nm) : Prop := (Lit.int .u32 x.node).wf = true ∧ (Lit.int .u32 x.service).wf = true ∧ (Lit.int .u64 x.time).wf = true ∧ (Lit.int .u32 x.seq).wf = true

theorem nm_key (x : Nm) (h : x.wf) : ∃ l, keyOf Tryz.prog 32 (nmV x) = some l := by
  obtain ⟨h1, h2, h3, h4⟩ := h
  unfold keyOf
  rw [Tryz.underlying32]
  have hk : Tryz.prog.keyType 32 = true := by kernel_rfl
  have hf : (nmV x).formed Tryz.prog 32 = true := by
    unfold Value.formed
    rw [Tryz.underlying32]
    have hc : Tryz.prog.cellsOf 32 = 4 := by kernel_rfl
    rw [hc]
    rfl
  rw [hk, hf]
  simp only [Bool.and_true, if_true]
  obtain ⟨d, hd⟩ : ∃ d, Tryz.prog.types.size + 1 = d + 3 := ⟨Tryz.prog.types.size - 2, by have : 2 ≤ Tryz.prog.types.size := of_decide_eq_true (by kernel_rfl); omega⟩
  rw [hd]
  have c0 : Tryz.prog.cellsOf 32 = 4 := by kernel_rfl
  have c1 : Tryz.prog.cellsOf 25 = 2 := by kernel_rfl
  have c2 : Tryz.prog.cellsOf 26 = 1 := by kernel_rfl
  have c3 : Tryz.prog.cellsOf 22 = 1 := by kernel_rfl
  have hkl : Tryz.prog.keyLits (d + 3) 32 (nmV x).cells.toList = some [.int .u32 x.node, .int .u32 x.service, .int .u64 x.time, .int .u32 x.seq] := by
    simp [Program.keyLits, Value.cells, Tryz.underlying32, Tryz.underlying25, Tryz.underlying26, Tryz.underlying22, c0, c1, c2, c3, h1, h2, h3, h4]
    rw [if_pos (by decide)]
    rfl
  rw [hkl]
  exact ⟨_, rfl⟩
end Go.Proofs.YtpkonagjnfphkaaGreatDoor
