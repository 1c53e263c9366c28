/-
  NmNu, CbI: several texts in one (bundle.py).
-/
import Derived.Test.YtpfgepgjpnekdaaDoorNmH18
import Derived.Test.YtpfgepgjpnekdaaDoorNmH05
import Derived.Deep.LoopGhost
import Derived.Test.YtpfgepgjpnekdaaDoorNmH06
import Derived.Test.YtpfgepgjpnekdaaDoorNmH08
import Derived.Test.YtpfgepgjpnekdaaDoorNmH09
namespace Go.Proofs.YtpfgepgjpnekdaaDoor
open Go.RowKit Trc
set_option linter.unusedSimpArgs false
set_option linter.unusedVariables false
set_option maxRecDepth 100000 in
theorem rRight_c (n m : Nat) (w : World) : Calls Tryd.prog 27 #[epV n m] w (Ret (.bool (decide (Dig.chkP n m = 0))) w) := by
  by_cases h : n = 0
  · subst h
    by_cases hm : m = 0
    · subst hm
      rw [show decide (Dig.chkP 0 0 = 0) = true from rfl]
      go_enter Tryd.func27, Tryd.ntmps27
      go_wp2
      go_ret
      exact ⟨rfl, below_alloc _ _⟩
    · have hd : (((m : Int)) == 0) = false := by simp; omega
      rw [show decide (Dig.chkP 0 m = 0) = false from decide_eq_false (by rw [show Dig.chkP 0 m = 2 from if_pos ⟨rfl, hm⟩]; decide)]
      go_enter Tryd.func27, Tryd.ntmps27
      go_wp2
      go_ret
      exact ⟨rfl, below_alloc _ _⟩
  · have hd : decide ((0 : Int) < (n : Int)) = true := decide_eq_true (by omega)
    have hd2 : decide (0 < n) = true := decide_eq_true (by omega)
    rw [show decide (Dig.chkP n m = 0) = true from decide_eq_true (if_neg (fun e => h e.1))]
    clear h
    go_enter Tryd.func27, Tryd.ntmps27
    go_wp2
    go_ret
    exact ⟨rfl, below_alloc _ _⟩
set_option maxRecDepth 100000 in
theorem rRightName_c (n m t s : Nat) (w : World) : Calls Tryd.prog 21 #[nmW n m t s] w (Ret (.bool (decide (Dig.chkN n t = 0))) w) := by
  by_cases h : n = 0
  · subst h
    rw [show decide (Dig.chkN 0 t = 0) = false from decide_eq_false (by rw [show Dig.chkN 0 t = 2 from if_pos (.inl rfl)]; decide)]
    go_enter Tryd.func21, Tryd.ntmps21
    go_wp2
    go_ret
    exact ⟨rfl, below_alloc _ _⟩
  · have hd2 : decide (0 < n) = true := decide_eq_true (by omega)
    by_cases ht : 4611686018427387903 < t
    · have hd3 : decide ((t : Int) ≤ 4611686018427387903) = false := decide_eq_false (by omega)
      have hd4 : decide (t ≤ 4611686018427387903) = false := decide_eq_false (by omega)
      rw [show decide (Dig.chkN n t = 0) = false from decide_eq_false (by rw [show Dig.chkN n t = 2 from if_pos (.inr ht)]; decide)]
      clear h
      go_enter Tryd.func21, Tryd.ntmps21
      go_wp2
      go_ret
      exact ⟨rfl, below_alloc _ _⟩
    · have hd3 : decide ((t : Int) ≤ 4611686018427387903) = true := decide_eq_true (by omega)
      have hd4 : decide (t ≤ 4611686018427387903) = true := decide_eq_true (by omega)
      rw [show decide (Dig.chkN n t = 0) = true from decide_eq_true (if_neg (fun e => by rcases e with e | e; exact h e; exact ht e))]
      clear h
      go_enter Tryd.func21, Tryd.ntmps21
      go_wp2
      go_ret
      exact ⟨rfl, below_alloc _ _⟩
set_option maxHeartbeats 1000000 in
set_option maxRecDepth 100000 in
theorem rNumber_c (N : Nat) (hN : N < 18446744073709551616) (w : World) : Calls Tryd.prog 68 #[.int .u64 N] w (Ret (strV (Lib.decDigits N)) w) := by
  have hdl := dec_len N hN
  go_enter Tryd.func68, Tryd.ntmps68
  go_wp2
  go_loopw [0, 3] (fun vn vs wr => ∃ (v : Nat) (A : List UInt8), vn = .int .u64 v ∧ vs = strV A ∧ v ≤ N ∧ Below w.heap.size w wr ∧ RowKit.Hid (Lib.decDigits N = Lib.decDigits v ++ A)) (fun vn _ _ => (intOf vn).toNat)
  case atStart => exact ⟨N, [], rfl, rfl, Nat.le_refl _, Below.refl _ _, Lib.hid (by simp)⟩
  case round =>
    obtain ⟨v, A, rfl, rfl, hv, hB, HI⟩ := hrel
    have hAl : A.length ≤ 20 := by have := congrArg List.length HI.out; rw [List.length_append] at this; omega
    have hr0 : (0 : Int) ≤ (v : Int) % 10 := by omega
    have hr1 : (v : Int) % 10 < 10 := by omega
    obtain ⟨d, hd⟩ : ∃ d : Nat, (v : Int) % 10 = (d : Int) := ⟨v % 10, by omega⟩
    have HDN := Lib.hid (show d = v % 10 by omega)
    have hd9 : d < 10 := by omega
    obtain ⟨q, hq⟩ : ∃ q : Nat, (v : Int) / 10 = (q : Int) := ⟨v / 10, by omega⟩
    have HQN := Lib.hid (show q = v / 10 by omega)
    have hq9 : q ≤ 18446744073709551615 := by omega
    have hw1 : IntKind.u64.wrap (48 + (d : Int)) = 48 + (d : Int) := by rw [IntKind.wrap_u64]; omega
    have hw2 : IntKind.u8.wrap (48 + (d : Int)) = 48 + (d : Int) := by rw [IntKind.wrap_u8]; omega
    have HV := Lib.hid hv
    obtain ⟨c, hc⟩ : ∃ c : UInt8, UInt8.ofNat (48 + d) = c := ⟨_, rfl⟩
    have HC := Lib.hid hc
    have hcat := fun W => run_cat [c] A (by simp only [List.length_cons, List.length_nil]; omega) W
    have hcell : Value.int .u8 (c.toNat : Int) = .int .u8 (48 + (d : Int)) := by rw [← hc, Dig.toNat_dig hd9]; simp
    have hsl : Sl (wr.alloc (.cells #[.int .u8 (48 + (d : Int))] 5)) 1 (.slice (some ⟨wr.heap.size, 0, none⟩) 1 1) 1 (by8 [c]) := by
      refine ⟨rfl, .inr ⟨wr.heap.size, 0, 1, rfl, Nat.le_refl _, by unfold maxLen; omega, fun j u hj => ?_⟩⟩
      match j, hj with
      | 0, hj =>
        have : u = .int .u8 (48 + (d : Int)) := by rw [← hcell]; simpa [by8] using hj.symm
        rw [this]; exact cell_new _ _ _
    have hcv := run_str (P := Tryd.prog) (src := 45) (dst := 9) Tryd.underlying45 Tryd.underlying5 Tryd.underlying9 hsl
    have HAp := Lib.hid (show Lib.decDigits N = Lib.decDigits v ++ A from HI.out)
    have hB2 := hB.alloc (Nat.le_trans hB.size (Nat.le_refl _)) (.cells #[.int .u8 (48 + (d : Int))] 5)
    have hnl : ¬ (9223372036854775807 < 1 + A.length) := by omega
    have hnl2 : ¬ (9223372036854775807 < A.length + 1) := by omega
    have hap := bytes_append [c] A
    clear hr0 hr1 hAl hv hdl hsl hcell hc hcat
    by_cases h0 : q = 0
    · have hd0 : ((q : Int) == 0) = true := by simp [h0]
      have HF := Lib.hid (show Lib.decDigits N = [c] ++ A by
        rw [HAp.out]
        have e1 := HQN.out
        have e2 := HDN.out
        have h9 : v < 10 := by omega
        rw [← HC.out, Lib.decDigits, dif_pos h9, show v = d by omega])
      clear h0
      go_wp2
      go_ret
      exact ⟨by rw [HF.out]; rfl, hB2⟩
    · have hd0 : ((q : Int) == 0) = false := by simp; omega
      have HN := Lib.hid (show Lib.decDigits N = Lib.decDigits q ++ ([c] ++ A) by
        rw [HAp.out]
        have e1 := HQN.out
        have e2 := HDN.out
        have h9 : ¬ v < 10 := by omega
        rw [← HC.out, Lib.decDigits, dif_neg h9, ← e1, ← e2, List.append_assoc])
      have hqv : q < v := by have := HQN.out; omega
      have HQV := Lib.hid hqv
      clear h0 hqv
      go_wp2
      exact ⟨⟨q, _, rfl, rfl, by have := HQV.out; have := HV.out; omega, hB2, HN⟩, by have := HQV.out; simp [intOf]; omega⟩
end Go.Proofs.YtpfgepgjpnekdaaDoor

namespace Go.Proofs.YtpfgepgjpnekdaaDoor
open Go.RowKit
set_option linter.unusedSimpArgs false
set_option linter.unusedVariables false
namespace Cb
/-- An item: its kind, number, bytes, text, list. -/
inductive It where
  | mk (k n : Int) (b : List UInt8) (s : ByteArray) (l : List It)
def It.k : It → Int | .mk k _ _ _ _ => k
def It.n : It → Int | .mk _ n _ _ _ => n
def It.b : It → List UInt8 | .mk _ _ b _ _ => b
def It.s : It → ByteArray | .mk _ _ _ s _ => s
def It.l : It → List It | .mk _ _ _ _ l => l
mutual
/-- How many items, and bytes. -/
def cnt : It → Nat
  | .mk _ _ b s l => 1 + b.length + s.size + cntL l
def cntL : List It → Nat
  | [] => 0
  | x :: l => cnt x + cntL l
end
theorem cnt_pos : ∀ x : It, 1 ≤ cnt x
  | .mk _ _ b s l => by simp only [cnt]; omega
theorem cntL_mem : ∀ {l : List It} {x : It}, x ∈ l → cnt x ≤ cntL l
  | y :: l, x, h => by
    simp only [cntL]
    rcases List.mem_cons.1 h with rfl | h
    · omega
    · have := cntL_mem h; omega
theorem cnt_mem {x y : It} (h : y ∈ x.l) : cnt y < cnt x := by
  cases x with
  | mk k n b s l =>
    have := cntL_mem (l := l) h
    simp only [cnt]; omega
theorem cntL_len : ∀ l : List It, l.length ≤ cntL l
  | [] => Nat.le_refl _
  | x :: l => by have := cnt_pos x; have := cntL_len l; simp only [cntL, List.length_cons]; omega
theorem cntL_app : ∀ l m : List It, cntL (l ++ m) = cntL l + cntL m
  | [], m => by simp [cntL]
  | x :: l, m => by simp only [List.cons_append, cntL, cntL_app l m]; omega
/-- Induction over an item: what holds of its list's items holds of it. -/
theorem It.ind {p : It → Prop} (h : ∀ x : It, (∀ y ∈ x.l, p y) → p x) (x : It) : p x := by
  suffices ∀ n (x : It), cnt x ≤ n → p x from this _ x (Nat.le_refl _)
  intro n
  induction n with
  | zero => intro x hx; have := cnt_pos x; omega
  | succ n ih => intro x hx; exact h x fun y hy => ih y (by have := cnt_mem hy; omega)
/-- A record's cells. -/
structure Rw where
  k : Int
  n : Int
  b : Value
  s : ByteArray
  l : Value
end Cb
open Cb
abbrev rwC (r : Rw) : List Value := [.int .i64 r.k, .int .u64 r.n, r.b, .string r.s, r.l]
abbrev rwV (r : Rw) : Value := .agg (rwC r).toArray
/-- A slice whose block is one of S. -/
def SlS (S : Nat → Prop) (w : World) (sz : Nat) (v : Value) (n : Nat) (cs : List Value) : Prop := Sl w sz v n cs ∧ (n = 0 ∨ ∀ k, v.ownBlock = some k → S k)
theorem SlS.but {S : Nat → Prop} {w w' : World} {sz : Nat} {v : Value} {n : Nat} {cs : List Value} (h : SlS S w sz v n cs) {O : Nat → Prop} (hb : But O w w') (hO : ∀ k, S k → ¬ O k) : SlS S w' sz v n cs :=
  ⟨h.1.but hb (h.2.imp id fun h k hk => hO k (h k hk)), h.2⟩
theorem SlS.mono {S S' : Nat → Prop} {w : World} {sz : Nat} {v : Value} {n : Nat} {cs : List Value} (h : SlS S w sz v n cs) (hS : ∀ k, S k → S' k) : SlS S' w sz v n cs := ⟨h.1, h.2.imp id fun h k hk => hS k (h k hk)⟩
theorem SlS.up {S : Nat → Prop} {w w' : World} {sz : Nat} {v : Value} {n : Nat} {cs : List Value} (h : SlS S w sz v n cs) (hb : Below w.heap.size w w') : SlS S w' sz v n cs := ⟨h.1.up hb, h.2⟩
/-- A value that is a slice, or may be stored as one cell. -/
theorem SlS.cell {S : Nat → Prop} {w : World} {sz : Nat} {v : Value} {n : Nat} {cs : List Value} (h : SlS S w sz v n cs) : ∃ a c, v = .slice a n c := h.1.len
mutual
/-- The record r reads as the item x; what it holds lies in blocks of S. -/
def ItR (S : Nat → Prop) (w : World) : It → Rw → Prop
  | .mk k n b s l, r => r.k = k ∧ r.n = n ∧ r.s = s ∧ (0 ≤ n ∧ n ≤ 18446744073709551615) ∧ SlS S w 1 r.b b.length (by8 b) ∧ ∃ rows : List Rw, SlS S w 5 r.l l.length (rows.flatMap rwC) ∧ ItsR S w l rows
def ItsR (S : Nat → Prop) (w : World) : List It → List Rw → Prop
  | [], rows => rows = []
  | x :: l, rows => ∃ r rs, rows = r :: rs ∧ ItR S w x r ∧ ItsR S w l rs
end
theorem ItsR.len {S : Nat → Prop} {w : World} : ∀ {l : List It} {rows : List Rw}, ItsR S w l rows → rows.length = l.length
  | [], rows, h => by simp only [ItsR] at h; rw [h]; rfl
  | x :: l, rows, h => by
    simp only [ItsR] at h
    obtain ⟨r, rs, rfl, _, h⟩ := h
    simp [ItsR.len h]
theorem ItsR.get {S : Nat → Prop} {w : World} : ∀ {l : List It} {rows : List Rw}, ItsR S w l rows → ∀ {i : Nat} (hi : i < l.length) (hr : i < rows.length), ItR S w l[i] rows[i]
  | [], rows, h, i, hi, hr => by simp at hi
  | x :: l, rows, h, i, hi, hr => by
    simp only [ItsR] at h
    obtain ⟨r, rs, rfl, h1, h2⟩ := h
    cases i with
    | zero => exact h1
    | succ i => exact ItsR.get h2 (by simpa using hi) (by simpa using hr)
theorem ItsR.of {S : Nat → Prop} {w : World} : ∀ {l : List It} {rows : List Rw}, rows.length = l.length → (∀ (i : Nat) (hi : i < l.length) (hr : i < rows.length), ItR S w l[i] rows[i]) → ItsR S w l rows
  | [], rows, hl, _ => by simp only [ItsR]; exact List.eq_nil_of_length_eq_zero hl
  | x :: l, [], hl, _ => by simp at hl
  | x :: l, r :: rs, hl, h => by
    simp only [ItsR]
    exact ⟨r, rs, rfl, h 0 (by simp) (by simp), ItsR.of (by simpa using hl) fun i hi hr => h (i + 1) (by simpa using hi) (by simpa using hr)⟩
theorem ItsR.snoc {S : Nat → Prop} {w : World} : ∀ {l : List It} {rows : List Rw} {x : It} {r : Rw}, ItsR S w l rows → ItR S w x r → ItsR S w (l ++ [x]) (rows ++ [r])
  | [], rows, x, r, h, hx => by
    simp only [ItsR] at h
    subst h
    simp only [List.nil_append, ItsR]
    exact ⟨r, [], rfl, hx, rfl⟩
  | y :: l, rows, x, r, h, hx => by
    simp only [ItsR] at h
    obtain ⟨q, rs, rfl, h1, h2⟩ := h
    simp only [List.cons_append, ItsR]
    exact ⟨q, rs ++ [r], rfl, h1, ItsR.snoc h2 hx⟩
/-- What an item's record leans on turns nowhere else. -/
theorem ItR.turn {S S' : Nat → Prop} {w w' : World} (hs : ∀ (sz : Nat) (v : Value) (n : Nat) (cs : List Value), SlS S w sz v n cs → SlS S' w' sz v n cs) : ∀ (x : It) (r : Rw), ItR S w x r → ItR S' w' x r := by
  intro x
  induction x using It.ind with
  | h x ih =>
    intro r h
    cases x with
    | mk k n b s l =>
      simp only [ItR] at h ⊢
      obtain ⟨h1, h2, h3, h4, h5, rows, h6, h7⟩ := h
      refine ⟨h1, h2, h3, h4, hs _ _ _ _ h5, rows, hs _ _ _ _ h6, ItsR.of h7.len fun i hi hr => ?_⟩
      exact ih l[i] (List.getElem_mem hi) _ (h7.get hi hr)
theorem ItR.but {S : Nat → Prop} {w w' : World} {x : It} {r : Rw} (h : ItR S w x r) {O : Nat → Prop} (hb : But O w w') (hO : ∀ k, S k → ¬ O k) : ItR S w' x r := ItR.turn (fun _ _ _ _ h => h.but hb hO) x r h
theorem ItR.up {S : Nat → Prop} {w w' : World} {x : It} {r : Rw} (h : ItR S w x r) (hb : Below w.heap.size w w') : ItR S w' x r := ItR.turn (fun _ _ _ _ h => h.up hb) x r h
theorem ItR.mono {S S' : Nat → Prop} {w : World} {x : It} {r : Rw} (h : ItR S w x r) (hS : ∀ k, S k → S' k) : ItR S' w x r := ItR.turn (fun _ _ _ _ h => h.mono hS) x r h
theorem ItsR.turn {S S' : Nat → Prop} {w w' : World} (hs : ∀ (sz : Nat) (v : Value) (n : Nat) (cs : List Value), SlS S w sz v n cs → SlS S' w' sz v n cs) {l : List It} {rows : List Rw} (h : ItsR S w l rows) : ItsR S' w' l rows :=
  ItsR.of h.len fun i hi hr => ItR.turn hs _ _ (h.get hi hr)
theorem ItsR.up {S : Nat → Prop} {w w' : World} {l : List It} {rows : List Rw} (h : ItsR S w l rows) (hb : Below w.heap.size w w') : ItsR S w' l rows := h.turn (fun _ _ _ _ h => h.up hb)
/-- An item's parts, by the record. -/
structure Parts (S : Nat → Prop) (w : World) (x : It) (r : Rw) (rows : List Rw) : Prop where
  k : r.k = x.k
  n : r.n = x.n
  s : r.s = x.s
  lo : 0 ≤ x.n
  hi : x.n ≤ 18446744073709551615
  b : SlS S w 1 r.b x.b.length (by8 x.b)
  l : SlS S w 5 r.l x.l.length (rows.flatMap rwC)
  each : ItsR S w x.l rows
theorem ItR.parts {S : Nat → Prop} {w : World} {x : It} {r : Rw} (h : ItR S w x r) : ∃ rows, Parts S w x r rows := by
  cases x with
  | mk k n b s l =>
    simp only [ItR] at h
    obtain ⟨h1, h2, h3, h4, h5, rows, h6, h7⟩ := h
    exact ⟨rows, h1, h2, h3, h4.1, h4.2, h5, h6, h7⟩
theorem Parts.it {S : Nat → Prop} {w : World} {x : It} {r : Rw} {rows : List Rw} (h : Parts S w x r rows) : ItR S w x r := by
  cases x with
  | mk k n b s l =>
    simp only [ItR]
    exact ⟨h.k, h.n, h.s, ⟨h.lo, h.hi⟩, h.b, rows, h.l, h.each⟩
end Go.Proofs.YtpfgepgjpnekdaaDoor
