/-
  Contracts of sum's words: kinds, step, put.
-/
import Derived.Test.YtinohligpncpiaaOctetG
import Derived.Test.YtinohligpncpiaaIter
import Derived.Laws.Bits64
import Derived.StillTailTactics
namespace Go.Proofs.Ytinohligpncpiaa
open Go.RowKit
set_option linter.unusedSimpArgs false
set_option linter.unusedVariables false

/-- A literal's cells. -/
theorem sl_lit (w : World) (cs : List Value) (T : TypeId) (f : Nat × Nat) (k : Nat) (hk : k = w.heap.size) (hm : cs.length ≤ maxLen) : Sl (w.alloc (.cells cs.toArray T f)) 1 (.slice (some ⟨k, 0, none⟩) cs.length cs.length) cs.length cs := by
  subst hk
  refine ⟨by simp, .inr ⟨w.heap.size, 0, cs.length, rfl, Nat.le_refl _, hm, fun j u hj => ?_⟩⟩
  have : (w.alloc (.cells cs.toArray T f)).heap[w.heap.size]? = some (.cells cs.toArray T f) := heap_alloc_new w _
  simp only [World.cell?, this, Nat.zero_add]
  simpa using hj
theorem slB_lit (w : World) (vs : List Value) (ls : List (List UInt8)) (h : ∀ (i : Nat) (u : Value) (l : List UInt8), vs[i]? = some u → ls[i]? = some l → Sl w 1 u l.length (by8 l)) (hl : vs.length = ls.length) (T : TypeId) (f : Nat × Nat) (k : Nat) (hk : k = w.heap.size) (hm : vs.length ≤ maxLen) :
    SlB (w.alloc (.cells vs.toArray T f)) (.slice (some ⟨k, 0, none⟩) vs.length vs.length) vs.length vs ls :=
  ⟨sl_lit w vs T f k hk hm, hl, fun i u l h1 h2 => (h i u l h1 h2).up (below_alloc _ _)⟩
theorem wrap_u32 (n : Int) : IntKind.u32.wrap n = n % 4294967296 := by simp [IntKind.wrap, IntKind.bits, IntKind.signed]
theorem bits_xor_u32 (a b : Nat) (ha : a < 4294967296) (hb : b < 4294967296) : bits .xor .u32 (a : Int) (b : Int) = ((a ^^^ b : Nat) : Int) := by
  have hx : a ^^^ b < 2 ^ 32 := Nat.xor_lt_two_pow (by omega) (by omega)
  have h1 : (BitVec.ofInt 32 (a : Int)).toNat = a := by
    rw [BitVec.ofInt_natCast, BitVec.toNat_ofNat]; exact Nat.mod_eq_of_lt (by omega)
  have h2 : (BitVec.ofInt 32 (b : Int)).toNat = b := by
    rw [BitVec.ofInt_natCast, BitVec.toNat_ofNat]; exact Nat.mod_eq_of_lt (by omega)
  show IntKind.u32.wrap ((BitVec.ofInt 32 (a : Int) ^^^ BitVec.ofInt 32 (b : Int)).toNat : Int) = _
  rw [BitVec.toNat_xor, h1, h2, wrap_u32]
  omega
theorem bits_and1_u32 (a : Nat) (ha : a < 4294967296) : bits .and .u32 (a : Int) 1 = ((a % 2 : Nat) : Int) := by
  have h1 : (BitVec.ofInt 32 (a : Int)).toNat = a := by
    rw [BitVec.ofInt_natCast, BitVec.toNat_ofNat]; exact Nat.mod_eq_of_lt (by omega)
  show IntKind.u32.wrap ((BitVec.ofInt 32 (a : Int) &&& BitVec.ofInt 32 1).toNat : Int) = _
  rw [BitVec.toNat_and, h1, show (BitVec.ofInt 32 1).toNat = 1 from rfl, wrap_u32, Nat.and_one_is_mod]
  omega

namespace Sum
/-- One bit more. -/
def stepN (u n b : Nat) : Nat := if n % 2 = b % 2 then n / 2 else n / 2 ^^^ u
theorem stepN_lt {u n b : Nat} (hu : u < 4294967296) (hn : n < 4294967296) : stepN u n b < 4294967296 := by
  unfold stepN
  split
  · omega
  · exact Nat.xor_lt_two_pow (n := 32) (by omega) (by omega)
theorem unlike {n b : Nat} (h : n % 2 ≠ b % 2) : (n ^^^ b) % 2 = 1 := by
  rw [Nat.xor_mod_two_eq_one]; omega
theorem alike {n b : Nat} (h : n % 2 = b % 2) : (n ^^^ b) % 2 = 0 := by
  have : ¬ (n ^^^ b) % 2 = 1 := by rw [Nat.xor_mod_two_eq_one]; omega
  omega
end Sum

/-- A word lies in block B. -/
def WordAt (w : World) (B wd all u n : Nat) : Prop := w.heap[B]? = some (.cells #[.int .i64 wd, .int .u32 all, .int .u32 u, .int .u32 n] 63 (0, 0))
theorem WordAt.lt {w : World} {B wd all u n : Nat} (h : WordAt w B wd all u n) : B < w.heap.size := (Array.getElem?_eq_some_iff.1 h).1
theorem WordAt.c0 {w : World} {B wd all u n : Nat} (h : WordAt w B wd all u n) : w.cell? ⟨B, 0, none⟩ = some (.int .i64 wd) := by simp [World.cell?, show w.heap[B]? = _ from h]
theorem WordAt.c1 {w : World} {B wd all u n : Nat} (h : WordAt w B wd all u n) : w.cell? ⟨B, 1, none⟩ = some (.int .u32 all) := by simp [World.cell?, show w.heap[B]? = _ from h]
theorem WordAt.c2 {w : World} {B wd all u n : Nat} (h : WordAt w B wd all u n) : w.cell? ⟨B, 2, none⟩ = some (.int .u32 u) := by simp [World.cell?, show w.heap[B]? = _ from h]
theorem WordAt.c3 {w : World} {B wd all u n : Nat} (h : WordAt w B wd all u n) : w.cell? ⟨B, 3, none⟩ = some (.int .u32 n) := by simp [World.cell?, show w.heap[B]? = _ from h]
theorem WordAt.fz {w : World} {B wd all u n : Nat} (h : WordAt w B wd all u n) (k : Nat) : w.frozen? ⟨B, k, none⟩ = false := by simp [World.frozen?, show w.heap[B]? = _ from h]
theorem WordAt.set {w : World} {B wd all u n : Nat} (h : WordAt w B wd all u n) (m : Nat) : WordAt (w.setCell ⟨B, 3, none⟩ (.int .u32 m)) B wd all u m := by
  have hlt := h.lt
  have hb := Array.getElem?_eq_some_iff.1 h
  simp only [WordAt, World.setCell, Array.getElem?_modify]
  simp [show w.heap[B]? = _ from h]

theorem step_c (b n u wd all : Nat) (B : Nat) (w : World) (h : WordAt w B wd all u n) (hu : u < 4294967296) (hn : n < 4294967296) (hb : b < 4294967296) :
    Calls Try.prog 29 #[.pointer (some ⟨B, 0, none⟩), .int .u32 b] w fun e w' => (∃ v, e = .returned v) ∧ But (· = B) w w' ∧ WordAt w' B wd all u (Sum.stepN u n b) := by
  have c0 := h.c0
  have c1 := h.c1
  have c2 := h.c2
  have c3 := h.c3
  have f3 := h.fz 3
  by_cases hx : n % 2 = b % 2
  · have ht : (bits BinOp.and IntKind.u32 (bits BinOp.xor IntKind.u32 (n : Int) (b : Int)) 1 == 1) = false := by
      rw [bits_xor_u32 n b hn hb, bits_and1_u32 _ (Nat.xor_lt_two_pow (n := 32) hn hb), Sum.alike hx]; rfl
    have hs : Sum.stepN u n b = n / 2 := by unfold Sum.stepN; rw [if_pos hx]
    rw [hs]
    clear hs hx
    go_enter Try.func29, Try.ntmps29
    go_wp2
    go_end0
    exact ⟨⟨_, rfl⟩, But.setCell _ _ _ (.inl rfl), by rw [show ((n : Int) / 2) = ((n / 2 : Nat) : Int) by omega]; exact h.set _⟩
  · have ht : (bits BinOp.and IntKind.u32 (bits BinOp.xor IntKind.u32 (n : Int) (b : Int)) 1 == 1) = true := by
      rw [bits_xor_u32 n b hn hb, bits_and1_u32 _ (Nat.xor_lt_two_pow (n := 32) hn hb), Sum.unlike hx]; rfl
    have hs : Sum.stepN u n b = n / 2 ^^^ u := by unfold Sum.stepN; rw [if_neg hx]
    rw [hs]
    clear hs hx
    have hset := h.set (n / 2)
    have e2 : ((n : Int) / 2) = ((n / 2 : Nat) : Int) := by omega
    rw [← e2] at hset
    have d0 := hset.c0
    have d1 := hset.c1
    have d2 := hset.c2
    have d3 := hset.c3
    have g3 := hset.fz 3
    have HX := Lib.hid (bits_xor_u32 (n / 2) u (by omega) hu)
    have E2 := Lib.hid e2
    clear e2
    go_enter Try.func29, Try.ntmps29
    go_wp2
    refine wp_still_tail 12 (by kernel_rfl) (by kernel_rfl) ?_
    simp only [List.take_succ_cons, List.take_zero, List.drop_succ_cons, List.drop_zero]
    repeat still_step
    refine wpStill_nil ?_
    go_wp2
    go_end0
    have k1 : But (fun x => x = B) w (w.setCell ⟨B, 3, none⟩ (.int .u32 ((n : Int) / 2))) := But.setCell _ _ _ (.inl rfl)
    refine ⟨⟨_, rfl⟩, (k1.trans (But.setCell _ _ _ (.inl rfl))).trans (But.drew _), ?_⟩
    rw [E2.out, HX.out]
    exact (h.set (n / 2)).set _

namespace Sum
/-- A byte's first k bits more. -/
def bitsTo (u n c : Nat) : Nat → Nat
  | 0 => n
  | k + 1 => stepN u (bitsTo u n c k) (c / 2 ^ k)
def byteN (u n c : Nat) : Nat := bitsTo u n c 8
theorem bitsTo_lt {u n c : Nat} (hu : u < 4294967296) (hn : n < 4294967296) : ∀ k, bitsTo u n c k < 4294967296
  | 0 => hn
  | k + 1 => stepN_lt hu (bitsTo_lt hu hn k)
end Sum

theorem put1_c (c n u wd all : Nat) (B : Nat) (w : World) (h : WordAt w B wd all u n) (hu : u < 4294967296) (hn : n < 4294967296) (hc : c < 256) :
    Calls Try.prog 28 #[.int .u8 c, .pointer (some ⟨B, 0, none⟩)] w fun e w' => (∃ v, e = .returned v) ∧ But (· = B) w w' ∧ WordAt w' B wd all u (Sum.byteN u n c) := by
  go_enter Try.func28, Try.ntmps28
  go_wp2
  go_loopw [4] (fun i wr => ∃ k : Nat, k ≤ 8 ∧ i = .int .i64 k ∧ But (· = B) w wr ∧ WordAt wr B wd all u (Sum.bitsTo u n c k)) (fun i _ => 8 - (intOf i).toNat)
  case atStart => exact ⟨0, by decide, rfl, But.refl _ _, h⟩
  case round =>
    obtain ⟨k, hk, rfl, hb, hW⟩ := hrel
    have hlt := Sum.bitsTo_lt (c := c) hu hn k
    by_cases h8 : k < 8
    · have hd : c / 2 ^ k ≤ c := Nat.div_le_self _ _
      have e : (c : Int) / 2 ^ k % 4294967296 = ((c / 2 ^ k : Nat) : Int) := by
        rw [show (2 : Int) ^ k = ((2 ^ k : Nat) : Int) by simp, ← Int.natCast_ediv]
        generalize c / 2 ^ k = q at *
        omega
      have E := Lib.hid e
      clear e
      go_wp2_with fail
      rw [E.out]
      refine (step_c (c / 2 ^ k) _ u wd all B wr hW hu hlt (by omega)).mono ?_
      rintro e w1 ⟨⟨v, rfl⟩, hb1, hW1⟩
      go_wp2
      go_roundw
      case rel => exact ⟨k + 1, by omega, by go_num, hb.trans hb1, hW1⟩
      case measure => simp [intOf]; omega
    · obtain rfl : k = 8 := by omega
      go_wp2
      go_end0
      exact ⟨⟨_, rfl⟩, hb, hW⟩

namespace Sum
def wd (k : Nat) : Nat := match k with | 0 => 0 | 1 => 2 | _ => 4
def all (k : Nat) : Nat := match k with | 0 => 0 | 1 => 65535 | _ => 4294967295
def upon (k : Nat) : Nat := match k with | 0 => 0 | 1 => 33800 | _ => 2197175160
theorem all_lt (k : Nat) : all k < 4294967296 := by unfold all; split <;> decide
theorem upon_lt (k : Nat) : upon k < 4294967296 := by unfold upon; split <;> decide
theorem wd_eq {k : Nat} (h : k ≤ 2) : wd k = 2 * k := by
  have : k = 0 ∨ k = 1 ∨ k = 2 := by omega
  rcases this with rfl | rfl | rfl <;> rfl
end Sum
/-- A kind's value. -/
abbrev kindV (k : Nat) : Value := .agg #[.int .i64 (Sum.wd k), .int .u32 (Sum.all k), .int .u32 (Sum.upon k)]

theorem kinds_c (w : World) : Calls Try.prog 26 #[] w (Ret (.agg #[.int .i64 0, .int .u32 0, .int .u32 0, .int .i64 2, .int .u32 65535, .int .u32 33800, .int .i64 4, .int .u32 4294967295, .int .u32 2197175160]) w) := by
  go_enter Try.func26, Try.ntmps26
  go_wp2
  exact bodyPost_ret (v := .agg #[.int .i64 0, .int .u32 0, .int .u32 0, .int .i64 2, .int .u32 65535, .int .u32 33800, .int .i64 4, .int .u32 4294967295, .int .u32 2197175160]) (by simp [results, Try.results26, go_sem]) rfl ⟨rfl, below_alloc _ _⟩
theorem kinds_at0 (w : World) : (Instr.index 58 (.agg #[.int .i64 0, .int .u32 0, .int .u32 0, .int .i64 2, .int .u32 65535, .int .u32 33800, .int .i64 4, .int .u32 4294967295, .int .u32 2197175160]) (.int .i64 0)).run Try.prog w = .ok (.agg #[.int .i64 0, .int .u32 0, .int .u32 0]) w := by kernel_rfl
theorem kinds_at1 (w : World) : (Instr.index 58 (.agg #[.int .i64 0, .int .u32 0, .int .u32 0, .int .i64 2, .int .u32 65535, .int .u32 33800, .int .i64 4, .int .u32 4294967295, .int .u32 2197175160]) (.int .i64 1)).run Try.prog w = .ok (.agg #[.int .i64 2, .int .u32 65535, .int .u32 33800]) w := by kernel_rfl
theorem kinds_at2 (w : World) : (Instr.index 58 (.agg #[.int .i64 0, .int .u32 0, .int .u32 0, .int .i64 2, .int .u32 65535, .int .u32 33800, .int .i64 4, .int .u32 4294967295, .int .u32 2197175160]) (.int .i64 2)).run Try.prog w = .ok (.agg #[.int .i64 4, .int .u32 4294967295, .int .u32 2197175160]) w := by kernel_rfl
theorem kinds_at (k : Nat) (hk : k ≤ 2) (w : World) : (Instr.index 58 (.agg #[.int .i64 0, .int .u32 0, .int .u32 0, .int .i64 2, .int .u32 65535, .int .u32 33800, .int .i64 4, .int .u32 4294967295, .int .u32 2197175160]) (.int .i64 k)).run Try.prog w = .ok (kindV k) w := by
  have : k = 0 ∨ k = 1 ∨ k = 2 := by omega
  rcases this with rfl | rfl | rfl
  · exact kinds_at0 w
  · exact kinds_at1 w
  · exact kinds_at2 w

theorem toldU_c (k : Nat) (hk : k ≤ 2) (f : FuncId) (hf : Enters Try.prog f) (caps : Array Value) (w : World) (R : Value → World → Prop)
    (hp : ∀ w1, Below w.heap.size w w1 → Calls Try.prog f (#[kindV k] ++ caps) w1 fun e w' => ∃ v, e = .returned v ∧ R v w' ∧ Below w1.heap.size w1 w') :
    Calls Try.prog 17 #[.int .i64 k, .func (.func f) #[] caps] w fun e w' => ∃ v, e = .returned (.tuple #[v, .int .i64 0]) ∧ R v w' ∧ Below w.heap.size w w' := by
  unfold Enters at hf
  have hix := kinds_at k hk
  have Hp := Lib.hid hp
  clear hp
  go_enter Try.func17, Try.ntmps17
  go_wp2
  go_step3
  go_wp2_with (go_at_call 26; refine (kinds_c _).mono ?_; rintro e w1 ⟨rfl, hb⟩; have hcall := Hp.out w1 hb)
  refine hcall.mono ?_
  rintro e w2 ⟨v, rfl, hr, hb2⟩
  go_wp2
  rw [Exit.noGoto_ret]
  go_ret2
  exact ⟨_, rfl, hr, below_up hb hb2⟩
theorem toldU_bad (k : Int) (hk : k < 0 ∨ 2 < k) (f : FuncId) (caps : Array Value) (w : World) :
    Calls Try.prog 17 #[.int .i64 k, .func (.func f) #[] caps] w fun e w' => e = .returned (.tuple #[.int .u32 0, .int .i64 2]) ∧ w = w' := by
  rcases hk with h | h
  all_goals
    go_enter Try.func17, Try.ntmps17
    go_wp2
    refine wp_scope_fwd 0 rfl ?_
    go_wp2
    go_step3
    go_wp2
    refine jump_fwd ?_
    go_wp2
    rw [jump_ret]
    go_ret2
    exact ⟨rfl, rfl⟩

theorem toldI_c (k : Nat) (hk : k ≤ 2) (f : FuncId) (hf : Enters Try.prog f) (caps : Array Value) (w : World) (R : Value → World → Prop)
    (hp : ∀ w1, Below w.heap.size w w1 → Calls Try.prog f (#[kindV k] ++ caps) w1 fun e w' => ∃ v, e = .returned v ∧ R v w' ∧ Below w1.heap.size w1 w') :
    Calls Try.prog 20 #[.int .i64 k, .func (.func f) #[] caps] w fun e w' => ∃ v, e = .returned (.tuple #[v, .int .i64 0]) ∧ R v w' ∧ Below w.heap.size w w' := by
  unfold Enters at hf
  have hix := kinds_at k hk
  have Hp := Lib.hid hp
  clear hp
  go_enter Try.func20, Try.ntmps20
  go_wp2
  go_step3
  go_wp2_with (go_at_call 26; refine (kinds_c _).mono ?_; rintro e w1 ⟨rfl, hb⟩; have hcall := Hp.out w1 hb)
  refine hcall.mono ?_
  rintro e w2 ⟨v, rfl, hr, hb2⟩
  go_wp2
  rw [Exit.noGoto_ret]
  go_ret2
  exact ⟨_, rfl, hr, below_up hb hb2⟩
theorem toldI_bad (k : Int) (hk : k < 0 ∨ 2 < k) (f : FuncId) (caps : Array Value) (w : World) :
    Calls Try.prog 20 #[.int .i64 k, .func (.func f) #[] caps] w fun e w' => e = .returned (.tuple #[.int .i64 0, .int .i64 2]) ∧ w = w' := by
  rcases hk with h | h
  all_goals
    go_enter Try.func20, Try.ntmps20
    go_wp2
    refine wp_scope_fwd 0 rfl ?_
    go_wp2
    go_step3
    go_wp2
    refine jump_fwd ?_
    go_wp2
    rw [jump_ret]
    go_ret2
    exact ⟨rfl, rfl⟩

theorem toldB_c (k : Nat) (hk : k ≤ 2) (f : FuncId) (hf : Enters Try.prog f) (caps : Array Value) (w : World) (R : Value → World → Prop)
    (hp : ∀ w1, Below w.heap.size w w1 → Calls Try.prog f (#[kindV k] ++ caps) w1 fun e w' => ∃ v, e = .returned v ∧ R v w' ∧ Below w1.heap.size w1 w') :
    Calls Try.prog 22 #[.int .i64 k, .func (.func f) #[] caps] w fun e w' => ∃ v, e = .returned (.tuple #[v, .int .i64 0]) ∧ R v w' ∧ Below w.heap.size w w' := by
  unfold Enters at hf
  have hix := kinds_at k hk
  have Hp := Lib.hid hp
  clear hp
  go_enter Try.func22, Try.ntmps22
  go_wp2
  go_step3
  go_wp2_with (go_at_call 26; refine (kinds_c _).mono ?_; rintro e w1 ⟨rfl, hb⟩; have hcall := Hp.out w1 hb)
  refine hcall.mono ?_
  rintro e w2 ⟨v, rfl, hr, hb2⟩
  go_wp2
  rw [Exit.noGoto_ret]
  go_ret2
  exact ⟨_, rfl, hr, below_up hb hb2⟩
theorem toldB_bad (k : Int) (hk : k < 0 ∨ 2 < k) (f : FuncId) (caps : Array Value) (w : World) :
    Calls Try.prog 22 #[.int .i64 k, .func (.func f) #[] caps] w fun e w' => e = .returned (.tuple #[.slice none 0 0, .int .i64 2]) ∧ w = w' := by
  rcases hk with h | h
  all_goals
    go_enter Try.func22, Try.ntmps22
    go_wp2
    refine wp_scope_fwd 0 rfl ?_
    go_wp2
    go_step3
    go_wp2
    refine jump_fwd ?_
    go_wp2
    rw [jump_ret]
    go_ret2
    exact ⟨rfl, rfl⟩

theorem bytes_c (a : Option Addr) (n c : Nat) (w : World) : Calls Try.prog 30 #[.slice a n c] w fun e w' =>
    e = .returned (.func (.func 35) #[] #[.pointer (some ⟨w.heap.size, 0, none⟩)]) ∧ w' = w.alloc (.cells #[.slice a n c] 22) := by
  go_enter Try.func30, Try.ntmps30
  go_wp2
  go_ret
  exact ⟨rfl, rfl⟩
theorem enters_bytes1 : Enters Try.prog 35 := enters_of Try.func35 (by kernel_rfl) rfl
end Go.Proofs.Ytinohligpncpiaa
