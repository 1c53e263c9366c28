/-
  Store, CbI, OctetA: several texts in one (bundle.py).
-/
import Derived.Test.YtpfgepgjpnekdaaDoorNmI02
import Derived.Test.YtpfgepgjpnekdaaDoorNmI03
namespace Go.Proofs.YtpfgepgjpnekdaaDoor
open Go.RowKit
set_option linter.unusedVariables false

def setAllA (cs : Array Value) : Nat → List Value → Array Value
  | _, [] => cs
  | o, v :: r => setAllA (cs.setIfInBounds o v) (o + 1) r
theorem setAllA_size : ∀ (vs : List Value) (cs : Array Value) (o : Nat), (setAllA cs o vs).size = cs.size
  | [], _, _ => rfl
  | v :: r, cs, o => by rw [setAllA, setAllA_size r]; simp
theorem setAllA_get : ∀ (vs : List Value) (cs : Array Value) (o i : Nat), o + vs.length ≤ cs.size → (setAllA cs o vs)[i]? = if o ≤ i ∧ i < o + vs.length then vs[i - o]? else cs[i]?
  | [], cs, o, i, _ => by rw [setAllA, if_neg (by simp)]
  | v :: r, cs, o, i, h => by
    simp only [List.length_cons] at h
    rw [setAllA, setAllA_get r _ (o + 1) i (by simp; omega)]
    simp only [List.length_cons]
    by_cases h1 : i = o
    · subst h1
      rw [if_neg (by omega), if_pos (by omega)]
      rw [Nat.sub_self, Array.getElem?_setIfInBounds_self_of_lt (by omega)]; rfl
    · by_cases h2 : o + 1 ≤ i ∧ i < o + 1 + r.length
      · rw [if_pos h2, if_pos (by omega)]
        rw [show i - o = (i - (o + 1)) + 1 by omega, List.getElem?_cons_succ]
      · rw [if_neg h2, if_neg (by omega)]
        rw [Array.getElem?_setIfInBounds_ne (fun e => h1 e.symm)]
theorem setAllA_all (vs : List Value) (cs : Array Value) (h : vs.length = cs.size) : setAllA cs 0 vs = vs.toArray := by
  refine Array.ext_getElem? fun i => ?_
  rw [setAllA_get vs cs 0 i (by omega)]
  by_cases hi : i < vs.length
  · rw [if_pos (by omega)]; simp
  · rw [if_neg (by omega), Array.getElem?_eq_none (by omega), Array.getElem?_eq_none (by simp; omega)]
theorem RowAt.sets {H : Nat} {T : TypeId} : ∀ (vs : List Value) {w : World} {cs : Array Value} (o : Nat), RowAt w H cs T → RowAt (w.setCells H o vs) H (setAllA cs o vs) T
  | [], _, _, _, h => h
  | v :: r, w, cs, o, h => RowAt.sets r (o + 1) (h.set o v)
theorem RowAt.setAll {w : World} {H : Nat} {cs : Array Value} {T : TypeId} (h : RowAt w H cs T) (vs : List Value) (hl : vs.length = cs.size) : RowAt (w.setCells H 0 vs) H vs.toArray T := by
  have := RowAt.sets vs 0 h
  rwa [setAllA_all vs cs hl] at this
theorem But.setCells {O : Nat → Prop} {b : Nat} : ∀ (vs : List Value) (w : World) (o : Nat), O b → But O w (w.setCells b o vs)
  | [], w, _, _ => But.refl _ w
  | v :: r, w, o, h => (But.setCell w ⟨b, o, none⟩ v (.inl h)).trans (But.setCells r _ (o + 1) h)
theorem RowAt.there {w : World} {H : Nat} {cs : Array Value} {T : TypeId} (h : RowAt w H cs T) {n : Nat} (hn : n ≤ cs.size) : w.there H 0 n := fun j hj => by
  rw [Nat.zero_add]
  exact ⟨by rw [h.cell (Array.getElem?_eq_getElem (by omega))]; rfl, h.fz j⟩
theorem wpList_put_row {P : Program} {ops : Array Oper} {rest : List Oper} {op : Oper} {a : Act} {w : World} {Q : Exit → Act → World → Prop} (hgd : op.guard = none) (ty : TypeId) (x y : Operand) (ho : op.op = .store ty x y)
    (H : Nat) (vs : List Value) {cs : Array Value} {T : TypeId} (hx : a.eval x = .pointer (some ⟨H, 0, none⟩)) (hy : a.eval y = .agg vs.toArray) (hr : RowAt w H cs T) (hl : vs.length = cs.size)
    (hi : (P.info? ty).map (·.size) = some vs.length) (h1 : vs.all (·.oneCell') = true)
    (h : ∀ w', RowAt w' H vs.toArray T → But (· = H) w w' → wpList P ops Q rest (a.put op.dst undef) w') : wpList P ops Q (op :: rest) a w :=
  wpList_store_mid hgd ty x y ho H 0 vs.toArray hx hy (hr.there (by simp; omega)) (by simpa using hi) (by simpa using h1) (h _ (hr.setAll vs hl) (But.setCells _ _ _ rfl))
theorem result_row {P : Program} {w : World} {H : Nat} {cs : List Value} {T : TypeId} {d : TypeDesc} (h : RowAt w H cs.toArray T) (ty : TypeId) (hu : P.underlying ty = some d) (hd : d.isRow = true) (hi : (P.info? ty).map (·.size) = some cs.length) :
    (loadVar ty ⟨H, 0, none⟩).run P w = .ok (.agg cs.toArray) w := run_loadVar_mid w H 0 ty cs d h.range hu hd hi
end Go.Proofs.YtpfgepgjpnekdaaDoor

namespace Go.Proofs.YtpfgepgjpnekdaaDoor
open Go.RowKit
set_option linter.unusedSimpArgs false
set_option linter.unusedVariables false
namespace Cb
/-- An item: its kind, number, bytes, text, list. -/
inductive It where
  | mk (k n : Int) (b : List UInt8) (s : ByteArray) (l : List It)
def It.k : It → Int | .mk k _ _ _ _ => k
def It.n : It → Int | .mk _ n _ _ _ => n
def It.b : It → List UInt8 | .mk _ _ b _ _ => b
def It.s : It → ByteArray | .mk _ _ _ s _ => s
def It.l : It → List It | .mk _ _ _ _ l => l
mutual
/-- How many items, and bytes. -/
def cnt : It → Nat
  | .mk _ _ b s l => 1 + b.length + s.size + cntL l
def cntL : List It → Nat
  | [] => 0
  | x :: l => cnt x + cntL l
end
theorem cnt_pos : ∀ x : It, 1 ≤ cnt x
  | .mk _ _ b s l => by simp only [cnt]; omega
theorem cntL_mem : ∀ {l : List It} {x : It}, x ∈ l → cnt x ≤ cntL l
  | y :: l, x, h => by
    simp only [cntL]
    rcases List.mem_cons.1 h with rfl | h
    · omega
    · have := cntL_mem h; omega
theorem cnt_mem {x y : It} (h : y ∈ x.l) : cnt y < cnt x := by
  cases x with
  | mk k n b s l =>
    have := cntL_mem (l := l) h
    simp only [cnt]; omega
theorem cntL_len : ∀ l : List It, l.length ≤ cntL l
  | [] => Nat.le_refl _
  | x :: l => by have := cnt_pos x; have := cntL_len l; simp only [cntL, List.length_cons]; omega
theorem cntL_app : ∀ l m : List It, cntL (l ++ m) = cntL l + cntL m
  | [], m => by simp [cntL]
  | x :: l, m => by simp only [List.cons_append, cntL, cntL_app l m]; omega
/-- Induction over an item: what holds of its list's items holds of it. -/
theorem It.ind {p : It → Prop} (h : ∀ x : It, (∀ y ∈ x.l, p y) → p x) (x : It) : p x := by
  suffices ∀ n (x : It), cnt x ≤ n → p x from this _ x (Nat.le_refl _)
  intro n
  induction n with
  | zero => intro x hx; have := cnt_pos x; omega
  | succ n ih => intro x hx; exact h x fun y hy => ih y (by have := cnt_mem hy; omega)
/-- A record's cells. -/
structure Rw where
  k : Int
  n : Int
  b : Value
  s : ByteArray
  l : Value
end Cb
open Cb
abbrev rwC (r : Rw) : List Value := [.int .i64 r.k, .int .u64 r.n, r.b, .string r.s, r.l]
abbrev rwV (r : Rw) : Value := .agg (rwC r).toArray
/-- A slice whose block is one of S. -/
def SlS (S : Nat → Prop) (w : World) (sz : Nat) (v : Value) (n : Nat) (cs : List Value) : Prop := Sl w sz v n cs ∧ (n = 0 ∨ ∀ k, v.ownBlock = some k → S k)
theorem SlS.but {S : Nat → Prop} {w w' : World} {sz : Nat} {v : Value} {n : Nat} {cs : List Value} (h : SlS S w sz v n cs) {O : Nat → Prop} (hb : But O w w') (hO : ∀ k, S k → ¬ O k) : SlS S w' sz v n cs :=
  ⟨h.1.but hb (h.2.imp id fun h k hk => hO k (h k hk)), h.2⟩
theorem SlS.mono {S S' : Nat → Prop} {w : World} {sz : Nat} {v : Value} {n : Nat} {cs : List Value} (h : SlS S w sz v n cs) (hS : ∀ k, S k → S' k) : SlS S' w sz v n cs := ⟨h.1, h.2.imp id fun h k hk => hS k (h k hk)⟩
theorem SlS.up {S : Nat → Prop} {w w' : World} {sz : Nat} {v : Value} {n : Nat} {cs : List Value} (h : SlS S w sz v n cs) (hb : Below w.heap.size w w') : SlS S w' sz v n cs := ⟨h.1.up hb, h.2⟩
/-- A value that is a slice, or may be stored as one cell. -/
theorem SlS.cell {S : Nat → Prop} {w : World} {sz : Nat} {v : Value} {n : Nat} {cs : List Value} (h : SlS S w sz v n cs) : ∃ a c, v = .slice a n c := h.1.len
mutual
/-- The record r reads as the item x; what it holds lies in blocks of S. -/
def ItR (S : Nat → Prop) (w : World) : It → Rw → Prop
  | .mk k n b s l, r => r.k = k ∧ r.n = n ∧ r.s = s ∧ (0 ≤ n ∧ n ≤ 18446744073709551615) ∧ SlS S w 1 r.b b.length (by8 b) ∧ ∃ rows : List Rw, SlS S w 5 r.l l.length (rows.flatMap rwC) ∧ ItsR S w l rows
def ItsR (S : Nat → Prop) (w : World) : List It → List Rw → Prop
  | [], rows => rows = []
  | x :: l, rows => ∃ r rs, rows = r :: rs ∧ ItR S w x r ∧ ItsR S w l rs
end
theorem ItsR.len {S : Nat → Prop} {w : World} : ∀ {l : List It} {rows : List Rw}, ItsR S w l rows → rows.length = l.length
  | [], rows, h => by simp only [ItsR] at h; rw [h]; rfl
  | x :: l, rows, h => by
    simp only [ItsR] at h
    obtain ⟨r, rs, rfl, _, h⟩ := h
    simp [ItsR.len h]
theorem ItsR.get {S : Nat → Prop} {w : World} : ∀ {l : List It} {rows : List Rw}, ItsR S w l rows → ∀ {i : Nat} (hi : i < l.length) (hr : i < rows.length), ItR S w l[i] rows[i]
  | [], rows, h, i, hi, hr => by simp at hi
  | x :: l, rows, h, i, hi, hr => by
    simp only [ItsR] at h
    obtain ⟨r, rs, rfl, h1, h2⟩ := h
    cases i with
    | zero => exact h1
    | succ i => exact ItsR.get h2 (by simpa using hi) (by simpa using hr)
theorem ItsR.of {S : Nat → Prop} {w : World} : ∀ {l : List It} {rows : List Rw}, rows.length = l.length → (∀ (i : Nat) (hi : i < l.length) (hr : i < rows.length), ItR S w l[i] rows[i]) → ItsR S w l rows
  | [], rows, hl, _ => by simp only [ItsR]; exact List.eq_nil_of_length_eq_zero hl
  | x :: l, [], hl, _ => by simp at hl
  | x :: l, r :: rs, hl, h => by
    simp only [ItsR]
    exact ⟨r, rs, rfl, h 0 (by simp) (by simp), ItsR.of (by simpa using hl) fun i hi hr => h (i + 1) (by simpa using hi) (by simpa using hr)⟩
theorem ItsR.snoc {S : Nat → Prop} {w : World} : ∀ {l : List It} {rows : List Rw} {x : It} {r : Rw}, ItsR S w l rows → ItR S w x r → ItsR S w (l ++ [x]) (rows ++ [r])
  | [], rows, x, r, h, hx => by
    simp only [ItsR] at h
    subst h
    simp only [List.nil_append, ItsR]
    exact ⟨r, [], rfl, hx, rfl⟩
  | y :: l, rows, x, r, h, hx => by
    simp only [ItsR] at h
    obtain ⟨q, rs, rfl, h1, h2⟩ := h
    simp only [List.cons_append, ItsR]
    exact ⟨q, rs ++ [r], rfl, h1, ItsR.snoc h2 hx⟩
/-- What an item's record leans on turns nowhere else. -/
theorem ItR.turn {S S' : Nat → Prop} {w w' : World} (hs : ∀ (sz : Nat) (v : Value) (n : Nat) (cs : List Value), SlS S w sz v n cs → SlS S' w' sz v n cs) : ∀ (x : It) (r : Rw), ItR S w x r → ItR S' w' x r := by
  intro x
  induction x using It.ind with
  | h x ih =>
    intro r h
    cases x with
    | mk k n b s l =>
      simp only [ItR] at h ⊢
      obtain ⟨h1, h2, h3, h4, h5, rows, h6, h7⟩ := h
      refine ⟨h1, h2, h3, h4, hs _ _ _ _ h5, rows, hs _ _ _ _ h6, ItsR.of h7.len fun i hi hr => ?_⟩
      exact ih l[i] (List.getElem_mem hi) _ (h7.get hi hr)
theorem ItR.but {S : Nat → Prop} {w w' : World} {x : It} {r : Rw} (h : ItR S w x r) {O : Nat → Prop} (hb : But O w w') (hO : ∀ k, S k → ¬ O k) : ItR S w' x r := ItR.turn (fun _ _ _ _ h => h.but hb hO) x r h
theorem ItR.up {S : Nat → Prop} {w w' : World} {x : It} {r : Rw} (h : ItR S w x r) (hb : Below w.heap.size w w') : ItR S w' x r := ItR.turn (fun _ _ _ _ h => h.up hb) x r h
theorem ItR.mono {S S' : Nat → Prop} {w : World} {x : It} {r : Rw} (h : ItR S w x r) (hS : ∀ k, S k → S' k) : ItR S' w x r := ItR.turn (fun _ _ _ _ h => h.mono hS) x r h
theorem ItsR.turn {S S' : Nat → Prop} {w w' : World} (hs : ∀ (sz : Nat) (v : Value) (n : Nat) (cs : List Value), SlS S w sz v n cs → SlS S' w' sz v n cs) {l : List It} {rows : List Rw} (h : ItsR S w l rows) : ItsR S' w' l rows :=
  ItsR.of h.len fun i hi hr => ItR.turn hs _ _ (h.get hi hr)
theorem ItsR.up {S : Nat → Prop} {w w' : World} {l : List It} {rows : List Rw} (h : ItsR S w l rows) (hb : Below w.heap.size w w') : ItsR S w' l rows := h.turn (fun _ _ _ _ h => h.up hb)
/-- An item's parts, by the record. -/
structure Parts (S : Nat → Prop) (w : World) (x : It) (r : Rw) (rows : List Rw) : Prop where
  k : r.k = x.k
  n : r.n = x.n
  s : r.s = x.s
  lo : 0 ≤ x.n
  hi : x.n ≤ 18446744073709551615
  b : SlS S w 1 r.b x.b.length (by8 x.b)
  l : SlS S w 5 r.l x.l.length (rows.flatMap rwC)
  each : ItsR S w x.l rows
theorem ItR.parts {S : Nat → Prop} {w : World} {x : It} {r : Rw} (h : ItR S w x r) : ∃ rows, Parts S w x r rows := by
  cases x with
  | mk k n b s l =>
    simp only [ItR] at h
    obtain ⟨h1, h2, h3, h4, h5, rows, h6, h7⟩ := h
    exact ⟨rows, h1, h2, h3, h4.1, h4.2, h5, h6, h7⟩
theorem Parts.it {S : Nat → Prop} {w : World} {x : It} {r : Rw} {rows : List Rw} (h : Parts S w x r rows) : ItR S w x r := by
  cases x with
  | mk k n b s l =>
    simp only [ItR]
    exact ⟨h.k, h.n, h.s, ⟨h.lo, h.hi⟩, h.b, rows, h.l, h.each⟩
end Go.Proofs.YtpfgepgjpnekdaaDoor

namespace Go.Proofs.YtpfgepgjpnekdaaDoor
open Go.RowKit
set_option linter.unusedSimpArgs false
set_option linter.unusedVariables false

namespace Oct
/-- Is it a width? -/
def okW (n : Int) : Bool := n == 1 || n == 2 || n == 4 || n == 8
theorem okW_any (n : Int) : ([1, 2, 4, 8].any fun y => n == y) = okW n := by simp [okW, Bool.or_assoc]
theorem okW_cases {n : Int} (h : okW n = true) : n = 1 ∨ n = 2 ∨ n = 4 ∨ n = 8 := by simpa [okW, or_assoc] using h
theorem mem4 {x : Int} (h : x ∈ [(1 : Int), 2, 4, 8]) : okW x = true := by simp at h; simp [okW]; omega
end Oct

theorem sl4 (w : World) (k : Nat) (hk : k = w.heap.size) (T : TypeId) : Sl (w.alloc (.cells #[.int .i64 1, .int .i64 2, .int .i64 4, .int .i64 8] T)) 1 (.slice (some ⟨k, 0, none⟩) 4 4) 4 ([1, 2, 4, 8].map (.int .i64)) := by
  subst hk
  exact Sl.of_own (World.ownsRow_lit w #[.int .i64 1, .int .i64 2, .int .i64 4, .int .i64 8] 4 (size := 1) (e := T) (Nat.le_refl _) (by decide) rfl)

namespace Oct
/-- Has n no more than k bytes? -/
def fitsB (k : Int) (n : Int) : Bool := decide (n < 256 ^ k.toNat)
def leastF (n : Int) : Int := if n < 256 then 1 else if n < 65536 then 2 else if n < 4294967296 then 4 else 8
theorem leastF_ok (n : Int) : okW (leastF n) = true := by unfold leastF; split; · rfl
                                                          split; · rfl
                                                          split <;> rfl
def firstF (p : Int → Bool) (l : List Int) : Int := (l.find? p).getD 0
theorem least_find {n : Int} (h1 : n ≤ 18446744073709551615) : firstF (fun k => fitsB k n) [1, 2, 4, 8] = leastF n := by
  unfold firstF leastF fitsB
  have e1 : (256 : Int) ^ (1 : Int).toNat = 256 := by decide
  have e2 : (256 : Int) ^ (2 : Int).toNat = 65536 := by decide
  have e4 : (256 : Int) ^ (4 : Int).toNat = 4294967296 := by decide
  have e8 : (256 : Int) ^ (8 : Int).toNat = 18446744073709551616 := by decide
  simp only [List.find?, e1, e2, e4, e8]
  by_cases h : n < 256
  · simp [h]
  · by_cases h2 : n < 65536
    · simp [h, h2]
    · by_cases h3 : n < 4294967296
      · simp [h, h2, h3]
      · have h4 : n < 18446744073709551616 := by omega
        simp [h, h2, h3, h4]
end Oct
theorem idx_find {p : Int → Bool} {l : List Int} : (idx p l = -1 ∧ Oct.firstF p l = 0) ∨ ∃ k : Nat, ∃ h : k < l.length, idx p l = k ∧ Oct.firstF p l = l[k] := by
  cases h : l.findIdx? p with
  | none =>
    left
    refine ⟨by simp [idx, h], ?_⟩
    rw [List.findIdx?_eq_none_iff] at h
    have : l.find? p = none := List.find?_eq_none.2 (by intro x hx; simp [h x hx])
    simp [Oct.firstF, this]
  | some i =>
    right
    have h' := h
    rw [List.findIdx?_eq_some_iff_getElem] at h
    obtain ⟨hi, hp, hj⟩ := h
    refine ⟨i, hi, by simp [idx, h'], ?_⟩
    have : l.find? p = some l[i] := by
      rw [List.find?_eq_some_iff_getElem]
      exact ⟨hp, i, hi, rfl, fun j hji => by have := hj j hji; simpa using this⟩
    simp [Oct.firstF, this]

end Go.Proofs.YtpfgepgjpnekdaaDoor
