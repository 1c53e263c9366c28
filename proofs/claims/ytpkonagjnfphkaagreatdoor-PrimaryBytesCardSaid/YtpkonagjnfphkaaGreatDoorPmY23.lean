/-
  PrS: several texts in one (bundle.py).
-/
import Derived.Test.YtpkonagjnfphkaaGreatDoorPmY11
import Derived.Test.YtpkonagjnfphkaaGreatDoorPmY05
import Derived.Laws.Bits64
import Derived.StillTailTactics
import Derived.Sort.LoopGhostIn
import Derived.Laws.EntriesVeiled
import Derived.Test.YtpkonagjnfphkaaGreatDoorPmY02
set_option linter.unusedSimpArgs false
set_option linter.unusedVariables false
set_option maxRecDepth 100000
set_option maxHeartbeats 1000000
namespace Go.Proofs.YtpkonagjnfphkaaGreatDoor
open Go.RowKit
theorem suwrap_u32 (n : Int) : IntKind.u32.wrap n = n % 4294967296 := by simp [IntKind.wrap, IntKind.bits, IntKind.signed]
theorem subits_xor_u32 (a b : Nat) (ha : a < 4294967296) (hb : b < 4294967296) : bits .xor .u32 (a : Int) (b : Int) = ((a ^^^ b : Nat) : Int) := by
  have hx : a ^^^ b < 2 ^ 32 := Nat.xor_lt_two_pow (by omega) (by omega)
  have h1 : (BitVec.ofInt 32 (a : Int)).toNat = a := by
    rw [BitVec.ofInt_natCast, BitVec.toNat_ofNat]; exact Nat.mod_eq_of_lt (by omega)
  have h2 : (BitVec.ofInt 32 (b : Int)).toNat = b := by
    rw [BitVec.ofInt_natCast, BitVec.toNat_ofNat]; exact Nat.mod_eq_of_lt (by omega)
  show IntKind.u32.wrap ((BitVec.ofInt 32 (a : Int) ^^^ BitVec.ofInt 32 (b : Int)).toNat : Int) = _; rw [BitVec.toNat_xor, h1, h2, suwrap_u32]; omega
theorem subits_and1_u32 (a : Nat) (ha : a < 4294967296) : bits .and .u32 (a : Int) 1 = ((a % 2 : Nat) : Int) := by
  have h1 : (BitVec.ofInt 32 (a : Int)).toNat = a := by
    rw [BitVec.ofInt_natCast, BitVec.toNat_ofNat]; exact Nat.mod_eq_of_lt (by omega)
  show IntKind.u32.wrap ((BitVec.ofInt 32 (a : Int) &&& BitVec.ofInt 32 1).toNat : Int) = _; rw [BitVec.toNat_and, h1, show (BitVec.ofInt 32 1).toNat = 1 from rfl, suwrap_u32, Nat.and_one_is_mod]; omega
namespace Sum
def stepN (u n b : Nat) : Nat := if n % 2 = b % 2 then n / 2 else n / 2 ^^^ u
theorem stepN_lt {u n b : Nat} (hu : u < 4294967296) (hn : n < 4294967296) : stepN u n b < 4294967296 := by
  unfold stepN; split
  · omega
  · exact Nat.xor_lt_two_pow (n := 32) (by omega) (by omega)
theorem unlike {n b : Nat} (h : n % 2 ≠ b % 2) : (n ^^^ b) % 2 = 1 := by
  rw [Nat.xor_mod_two_eq_one]; omega
theorem alike {n b : Nat} (h : n % 2 = b % 2) : (n ^^^ b) % 2 = 0 := by
  have : ¬ (n ^^^ b) % 2 = 1 := by rw [Nat.xor_mod_two_eq_one]; omega
  omega
end Sum
def suWordAt (w : World) (B wd all u n : Nat) : Prop := w.heap[B]? = some (.cells #[.int .i64 wd, .int .u32 all, .int .u32 u, .int .u32 n] 171 (0, 0))
theorem suWordAt.lt {w : World} {B wd all u n : Nat} (h : suWordAt w B wd all u n) : B < w.heap.size := (Array.getElem?_eq_some_iff.1 h).1
theorem suWordAt.c0 {w : World} {B wd all u n : Nat} (h : suWordAt w B wd all u n) : w.cell? ⟨B, 0, none⟩ = some (.int .i64 wd) := by simp [World.cell?, show w.heap[B]? = _ from h]
theorem suWordAt.c1 {w : World} {B wd all u n : Nat} (h : suWordAt w B wd all u n) : w.cell? ⟨B, 1, none⟩ = some (.int .u32 all) := by simp [World.cell?, show w.heap[B]? = _ from h]
theorem suWordAt.c2 {w : World} {B wd all u n : Nat} (h : suWordAt w B wd all u n) : w.cell? ⟨B, 2, none⟩ = some (.int .u32 u) := by simp [World.cell?, show w.heap[B]? = _ from h]
theorem suWordAt.c3 {w : World} {B wd all u n : Nat} (h : suWordAt w B wd all u n) : w.cell? ⟨B, 3, none⟩ = some (.int .u32 n) := by simp [World.cell?, show w.heap[B]? = _ from h]
theorem suWordAt.fz {w : World} {B wd all u n : Nat} (h : suWordAt w B wd all u n) (k : Nat) : w.frozen? ⟨B, k, none⟩ = false := by simp [World.frozen?, show w.heap[B]? = _ from h]
theorem suWordAt.set {w : World} {B wd all u n : Nat} (h : suWordAt w B wd all u n) (m : Nat) : suWordAt (w.setCell ⟨B, 3, none⟩ (.int .u32 m)) B wd all u m := by
  have hlt := h.lt; have hb := Array.getElem?_eq_some_iff.1 h; simp only [suWordAt, World.setCell, Array.getElem?_modify]; simp [show w.heap[B]? = _ from h]
theorem sustep_c (b n u wd all : Nat) (B : Nat) (w : World) (h : suWordAt w B wd all u n) (hu : u < 4294967296) (hn : n < 4294967296) (hb : b < 4294967296) :
    Calls Tryz.prog 139 #[.pointer (some ⟨B, 0, none⟩), .int .u32 b] w fun e w' => (∃ v, e = .returned v) ∧ But (· = B) w w' ∧ suWordAt w' B wd all u (Sum.stepN u n b) := by
  have c0 := h.c0; have c1 := h.c1; have c2 := h.c2; have c3 := h.c3; have f3 := h.fz 3; by_cases hx : n % 2 = b % 2
  · have ht : (bits BinOp.and IntKind.u32 (bits BinOp.xor IntKind.u32 (n : Int) (b : Int)) 1 == 1) = false := by
      rw [subits_xor_u32 n b hn hb, subits_and1_u32 _ (Nat.xor_lt_two_pow (n := 32) hn hb), Sum.alike hx]; rfl
    have hs : Sum.stepN u n b = n / 2 := by unfold Sum.stepN; rw [if_pos hx]
    rw [hs]; clear hs hx; go_enter Tryz.func139, Tryz.ntmps139; go_wp2
    go_end0
    exact ⟨⟨_, rfl⟩, But.setCell _ _ _ (.inl rfl), by rw [show ((n : Int) / 2) = ((n / 2 : Nat) : Int) by omega]; exact h.set _⟩
  · have ht : (bits BinOp.and IntKind.u32 (bits BinOp.xor IntKind.u32 (n : Int) (b : Int)) 1 == 1) = true := by
      rw [subits_xor_u32 n b hn hb, subits_and1_u32 _ (Nat.xor_lt_two_pow (n := 32) hn hb), Sum.unlike hx]; rfl
    have hs : Sum.stepN u n b = n / 2 ^^^ u := by unfold Sum.stepN; rw [if_neg hx]
    rw [hs]; clear hs hx; have hset := h.set (n / 2)
    have e2 : ((n : Int) / 2) = ((n / 2 : Nat) : Int) := by omega
    rw [← e2] at hset; have d0 := hset.c0; have d1 := hset.c1; have d2 := hset.c2; have d3 := hset.c3; have g3 := hset.fz 3; have HX := Lib.hid (subits_xor_u32 (n / 2) u (by omega) hu); have E2 := Lib.hid e2; clear e2; go_enter Tryz.func139, Tryz.ntmps139; go_wp2; refine wp_still_tail 12 (by kernel_rfl) (by kernel_rfl) ?_; simp only [List.take_succ_cons, List.take_zero, List.drop_succ_cons, List.drop_zero]
    repeat still_step
    refine wpStill_nil ?_; go_wp2
    go_end0
    have k1 : But (fun x => x = B) w (w.setCell ⟨B, 3, none⟩ (.int .u32 ((n : Int) / 2))) := But.setCell _ _ _ (.inl rfl); refine ⟨⟨_, rfl⟩, (k1.trans (But.setCell _ _ _ (.inl rfl))).trans (But.drew _), ?_⟩; rw [E2.out, HX.out]; exact (h.set (n / 2)).set _
namespace Sum
def bitsTo (u n c : Nat) : Nat → Nat
  | 0 => n
  | k + 1 => stepN u (bitsTo u n c k) (c / 2 ^ k)
def byteN (u n c : Nat) : Nat := bitsTo u n c 8
theorem bitsTo_lt {u n c : Nat} (hu : u < 4294967296) (hn : n < 4294967296) : ∀ k, bitsTo u n c k < 4294967296
  | 0 => hn
  | k + 1 => stepN_lt hu (bitsTo_lt hu hn k)
end Sum
theorem suput1_c (c n u wd all : Nat) (B : Nat) (w : World) (h : suWordAt w B wd all u n) (hu : u < 4294967296) (hn : n < 4294967296) (hc : c < 256) :
    Calls Tryz.prog 138 #[.int .u8 c, .pointer (some ⟨B, 0, none⟩)] w fun e w' => (∃ v, e = .returned v) ∧ But (· = B) w w' ∧ suWordAt w' B wd all u (Sum.byteN u n c) := by
  go_enter Tryz.func138, Tryz.ntmps138; go_wp2
  go_loopw [4] (fun i wr => ∃ k : Nat, k ≤ 8 ∧ i = .int .i64 k ∧ But (· = B) w wr ∧ suWordAt wr B wd all u (Sum.bitsTo u n c k)) (fun i _ => 8 - (intOf i).toNat)
  case atStart => exact ⟨0, by decide, rfl, But.refl _ _, h⟩
  case round =>
    obtain ⟨k, hk, rfl, hb, hW⟩ := hrel; have hlt := Sum.bitsTo_lt (c := c) hu hn k; by_cases h8 : k < 8
    · have hd : c / 2 ^ k ≤ c := Nat.div_le_self _ _
      have e : (c : Int) / 2 ^ k % 4294967296 = ((c / 2 ^ k : Nat) : Int) := by
        rw [show (2 : Int) ^ k = ((2 ^ k : Nat) : Int) by simp, ← Int.natCast_ediv]; generalize c / 2 ^ k = q at *; omega
      have E := Lib.hid e; clear e
      go_wp2_with fail
      rw [E.out]; refine (sustep_c (c / 2 ^ k) _ u wd all B wr hW hu hlt (by omega)).mono ?_; rintro e w1 ⟨⟨v, rfl⟩, hb1, hW1⟩; go_wp2
      go_roundw
      case rel => exact ⟨k + 1, by omega, by go_num, hb.trans hb1, hW1⟩
      case measure => simp [intOf]; omega
    · obtain rfl : k = 8 := by omega
      go_wp2
      go_end0
      exact ⟨⟨_, rfl⟩, hb, hW⟩
namespace Sum
def wd (k : Nat) : Nat := match k with | 0 => 0 | 1 => 2 | _ => 4
def all (k : Nat) : Nat := match k with | 0 => 0 | 1 => 65535 | _ => 4294967295
def upon (k : Nat) : Nat := match k with | 0 => 0 | 1 => 33800 | _ => 2197175160
theorem all_lt (k : Nat) : all k < 4294967296 := by unfold all; split <;> decide
theorem upon_lt (k : Nat) : upon k < 4294967296 := by unfold upon; split <;> decide
theorem wd_eq {k : Nat} (h : k ≤ 2) : wd k = 2 * k := by
  have : k = 0 ∨ k = 1 ∨ k = 2 := by omega
  rcases this with rfl | rfl | rfl <;> rfl
end Sum
abbrev sukindV (k : Nat) : Value := .agg #[.int .i64 (Sum.wd k), .int .u32 (Sum.all k), .int .u32 (Sum.upon k)]
theorem sukinds_c (w : World) : Calls Tryz.prog 120 #[] w (Ret (.agg #[.int .i64 0, .int .u32 0, .int .u32 0, .int .i64 2, .int .u32 65535, .int .u32 33800, .int .i64 4, .int .u32 4294967295, .int .u32 2197175160]) w) := by
  go_enter Tryz.func120, Tryz.ntmps120; go_wp2; exact bodyPost_ret (v := .agg #[.int .i64 0, .int .u32 0, .int .u32 0, .int .i64 2, .int .u32 65535, .int .u32 33800, .int .i64 4, .int .u32 4294967295, .int .u32 2197175160]) (by simp [results, Tryz.results120, go_sem]) rfl ⟨rfl, below_alloc _ _⟩
theorem sukinds_at0 (w : World) : (Instr.index 157 (.agg #[.int .i64 0, .int .u32 0, .int .u32 0, .int .i64 2, .int .u32 65535, .int .u32 33800, .int .i64 4, .int .u32 4294967295, .int .u32 2197175160]) (.int .i64 0)).run Tryz.prog w = .ok (.agg #[.int .i64 0, .int .u32 0, .int .u32 0]) w := by kernel_rfl
theorem sukinds_at1 (w : World) : (Instr.index 157 (.agg #[.int .i64 0, .int .u32 0, .int .u32 0, .int .i64 2, .int .u32 65535, .int .u32 33800, .int .i64 4, .int .u32 4294967295, .int .u32 2197175160]) (.int .i64 1)).run Tryz.prog w = .ok (.agg #[.int .i64 2, .int .u32 65535, .int .u32 33800]) w := by kernel_rfl
theorem sukinds_at2 (w : World) : (Instr.index 157 (.agg #[.int .i64 0, .int .u32 0, .int .u32 0, .int .i64 2, .int .u32 65535, .int .u32 33800, .int .i64 4, .int .u32 4294967295, .int .u32 2197175160]) (.int .i64 2)).run Tryz.prog w = .ok (.agg #[.int .i64 4, .int .u32 4294967295, .int .u32 2197175160]) w := by kernel_rfl
theorem sukinds_at (k : Nat) (hk : k ≤ 2) (w : World) : (Instr.index 157 (.agg #[.int .i64 0, .int .u32 0, .int .u32 0, .int .i64 2, .int .u32 65535, .int .u32 33800, .int .i64 4, .int .u32 4294967295, .int .u32 2197175160]) (.int .i64 k)).run Tryz.prog w = .ok (sukindV k) w := by
  have : k = 0 ∨ k = 1 ∨ k = 2 := by omega
  rcases this with rfl | rfl | rfl
  · exact sukinds_at0 w
  · exact sukinds_at1 w
  · exact sukinds_at2 w
theorem sutoldU_c (k : Nat) (hk : k ≤ 2) (f : FuncId) (hf : Enters Tryz.prog f) (caps : Array Value) (w : World) (R : Value → World → Prop)
    (hp : ∀ w1, Below w.heap.size w w1 → Calls Tryz.prog f (#[sukindV k] ++ caps) w1 fun e w' => ∃ v, e = .returned v ∧ R v w' ∧ Below w1.heap.size w1 w') :
    Calls Tryz.prog 115 #[.int .i64 k, .func (.func f) #[] caps] w fun e w' => ∃ v, e = .returned (.tuple #[v, .int .i64 0]) ∧ R v w' ∧ Below w.heap.size w w' := by
  unfold Enters at hf; have hix := sukinds_at k hk; have Hp := Lib.hid hp; clear hp; go_enter Tryz.func115, Tryz.ntmps115; go_wp2
  go_step3
  go_wp2_with (go_at_call 120; refine (sukinds_c _).mono ?_; rintro e w1 ⟨rfl, hb⟩; have hcall := Hp.out w1 hb)
  refine hcall.mono ?_; rintro e w2 ⟨v, rfl, hr, hb2⟩; go_wp2; rw [Exit.noGoto_ret]
  go_ret2
  exact ⟨_, rfl, hr, below_up hb hb2⟩
theorem sutoldI_c (k : Nat) (hk : k ≤ 2) (f : FuncId) (hf : Enters Tryz.prog f) (caps : Array Value) (w : World) (R : Value → World → Prop)
    (hp : ∀ w1, Below w.heap.size w w1 → Calls Tryz.prog f (#[sukindV k] ++ caps) w1 fun e w' => ∃ v, e = .returned v ∧ R v w' ∧ Below w1.heap.size w1 w') :
    Calls Tryz.prog 94 #[.int .i64 k, .func (.func f) #[] caps] w fun e w' => ∃ v, e = .returned (.tuple #[v, .int .i64 0]) ∧ R v w' ∧ Below w.heap.size w w' := by
  unfold Enters at hf; have hix := sukinds_at k hk; have Hp := Lib.hid hp; clear hp; go_enter Tryz.func94, Tryz.ntmps94; go_wp2
  go_step3
  go_wp2_with (go_at_call 120; refine (sukinds_c _).mono ?_; rintro e w1 ⟨rfl, hb⟩; have hcall := Hp.out w1 hb)
  refine hcall.mono ?_; rintro e w2 ⟨v, rfl, hr, hb2⟩; go_wp2; rw [Exit.noGoto_ret]
  go_ret2
  exact ⟨_, rfl, hr, below_up hb hb2⟩
theorem sutoldI_bad (k : Int) (hk : k < 0 ∨ 2 < k) (f : FuncId) (caps : Array Value) (w : World) :
    Calls Tryz.prog 94 #[.int .i64 k, .func (.func f) #[] caps] w fun e w' => e = .returned (.tuple #[.int .i64 0, .int .i64 2]) ∧ w = w' := by
  rcases hk with h | h
  all_goals
    go_enter Tryz.func94, Tryz.ntmps94; go_wp2; refine wp_scope_fwd 0 rfl ?_; go_wp2
    go_step3
    go_wp2; refine jump_fwd ?_; go_wp2; rw [jump_ret]
    go_ret2
    exact ⟨rfl, rfl⟩
theorem subytes_c (a : Option Addr) (n c : Nat) (w : World) : Calls Tryz.prog 140 #[.slice a n c] w fun e w' =>
    e = .returned (.func (.func 160) #[] #[.pointer (some ⟨w.heap.size, 0, none⟩)]) ∧ w' = w.alloc (.cells #[.slice a n c] 150) := by
  go_enter Tryz.func140, Tryz.ntmps140; go_wp2; go_ret; exact ⟨rfl, rfl⟩
theorem suenters_bytes1 : Enters Tryz.prog 160 := enters_of Tryz.func160 (by kernel_rfl) rfl
open Go.RowKit
attribute [local go_sem] Oper.semAt_some
theorem suflat_at (ls : List (List UInt8)) (j i : Nat) (hj : j < ls.length) (hi : i < ls[j].length) : (ls.take j).flatten.length + i < ls.flatten.length ∧ (by8 ls.flatten)[(ls.take j).flatten.length + i]? = (by8 ls[j])[i]? := by
  have e : ls.flatten = (ls.take j).flatten ++ (ls[j] ++ (ls.drop (j + 1)).flatten) := by
    conv => lhs; rw [← List.take_append_drop j ls]
    rw [List.flatten_append, List.drop_eq_getElem_cons hj, List.flatten_cons]
  constructor
  · rw [e]; simp only [List.length_append]; omega
  · rw [e, by8_app, by8_app, List.getElem?_append_right (by rw [by8_len]; omega), by8_len, Nat.add_sub_cancel_left, List.getElem?_append_left (by rw [by8_len]; exact hi)]
theorem subytes1_x (ls : List (List UInt8)) (vs : List Value) (a : Option Addr) (c n B : Nat) (x8 : Nat → Int) (hx8 : ∀ k, k < ls.flatten.length → (by8 ls.flatten)[k]? = some (.int .u8 (x8 k))) (w0 w : World) (hv : SlB w0 (.slice a n c) n vs ls) (hw : Below w0.heap.size w0 w)
    (hc : w.cell? ⟨B, 0, none⟩ = some (.slice a n c)) (hn : n ≤ 140737488355328) (ht : ∀ l ∈ ls, l.length ≤ 140737488355328) :
    SeqX Tryz.prog 160 #[.pointer (some ⟨B, 0, none⟩)] (fun k => #[.int .u8 (x8 k)]) ls.flatten.length (fun j => j < w0.heap.size) w := by
  intro l' G J Jx W hW hS hG hJ hJx hY h0; have hc' := cell_up hW hc; have hB0 := below_up hw hW; have hln := hv.n_len; have Hx := Lib.hid hx8; have Ht := Lib.hid ht; have Hln := Lib.hid hln; clear hc hx8 ht hln; obtain ⟨P, hP⟩ : ∃ P : Nat → Nat, ∀ j, P j = (ls.take j).flatten.length := ⟨_, fun _ => rfl⟩; have HP := Lib.hid hP
  have hP0 : J (P 0) G W := by rw [HP.out]; simpa using h0
  clear hP; refine (callsIn_wide (n := 3)).1 ?_; refine callsIn_of_wp Tryz.func160 rfl trivial ?_ rfl; simp only [Tryz.ntmps160, List.size_toArray, List.length_cons, List.length_nil, Nat.reduceAdd, Nat.reduceSub, Array.replicate_succ, Array.replicate_zero, List.push_toArray, List.append_toArray, List.nil_append, List.cons_append]
  gi_wp2
  refine wpIn_scope0 ?_
  gi_wp2
  gi_loopg [9] n (fun gh t9 wr => ∃ (j : Nat) (G : Nat → Prop), j ≤ n ∧ gh = n - j ∧ t9 = .int .i64 j ∧ J (P j) G wr ∧ (∀ i, G i → w0.heap.size ≤ i) ∧ Below w0.heap.size w0 wr ∧ w0.heap.size ≤ wr.heap.size)
  case atStart => exact ⟨0, G, Nat.zero_le _, rfl, rfl, hP0, fun i hi => by have := (hS i); by_cases h : i < w0.heap.size; exact absurd hi (this h).2; omega, hB0, hB0.size⟩
  case round =>
    obtain ⟨j, G, hj, rfl, rfl, hJ0, hG0, hB, hsz⟩ := hrel; by_cases hlt : j < n
    · have hjl : j < ls.length := by rw [Hln.out]; exact hlt
      obtain ⟨b, off, a1, c1, rfl, hcc0, hsl⟩ := hv.at_ hlt hjl; have hcc := cell_up hB hcc0; clear hcc0; have hL := Ht.out ls[j] (List.getElem_mem hjl); obtain ⟨q, hq⟩ : ∃ q, ls[j].length = q := ⟨_, rfl⟩; rw [hq] at hcc hL; have HQ := Lib.hid hq; clear hq
      gi_wp2
      gi_loopg [15] q (fun gh t15 wr => ∃ (i : Nat) (G : Nat → Prop), i ≤ q ∧ gh = q - i ∧ t15 = .int .i64 i ∧ J (P j + i) G wr ∧ (∀ i, G i → w0.heap.size ≤ i) ∧ Below w0.heap.size w0 wr ∧ w0.heap.size ≤ wr.heap.size)
      case atStart => exact ⟨0, G, Nat.zero_le _, rfl, rfl, hJ0, hG0, hB, hsz⟩
      case round =>
        obtain ⟨i, G, hi, rfl, rfl, hJ1, hG1, hB1, hsz1⟩ := hrel; by_cases hil : i < q
        · have hiq : i < ls[j].length := by rw [HQ.out]; exact hil
          obtain ⟨hfl, hfa⟩ := suflat_at ls j i hjl hiq; rw [← HP.out] at hfl hfa; have hsl2 := hsl.up hB1; rw [HQ.out] at hsl2; obtain ⟨b2, off2, rfl, h2⟩ := hsl2.cellAt (k := i) (by omega) (by omega); rw [← hfa, Hx.out _ hfl] at h2; obtain ⟨fn, tmps, assign, body, hy, hR⟩ := yieldAt_wide (m' := 2) (hY _ G wr hfl hJ1); clear hfa
          gi_wp2
          refine hR.mono ?_; rintro e W3 ⟨g, rfl, hw3⟩
          cases g with
          | true =>
            gi_wp2
            gi_roundg (q - (i + 1))
            case rel => exact ⟨i + 1, _, by omega, rfl, by simp, hw3.on rfl, fun k hk => by rcases hk with h | h; exact hG1 k h; omega, hB1.trans (hw3.but.below hG1 hsz1), Nat.le_trans hsz1 hw3.but.size⟩
            case measure => omega
          | false =>
            gi_wp2
            rw [Exit.noGoto_normal]
            go_end0
            exact ⟨⟨_, rfl⟩, _, .inr ⟨_, hfl, hw3.off rfl⟩⟩
        · obtain rfl : i = q := by omega
          have hfl : P j + i = P (j + 1) := by
            rw [HP.out, HP.out, Oct.flat_take ls j hjl, List.length_append, HQ.out]
          have Hfl := Lib.hid hfl; clear hfl
          gi_wp2
          gi_roundg (n - (j + 1))
          case rel => exact ⟨j + 1, G, by omega, rfl, by simp, by rw [← Hfl.out]; exact hJ1, hG1, hB1, hsz1⟩
          case measure => omega
    · obtain rfl : j = n := by omega
      have hall : P j = ls.flatten.length := by rw [HP.out, List.take_of_length_le (by rw [Hln.out]; exact Nat.le_refl _)]
      have Hall := Lib.hid hall; clear hall
      gi_wp2
      rw [Exit.noGoto_normal]
      go_end0
      exact ⟨⟨_, rfl⟩, G, .inl (by rw [← Hall.out]; exact hJ0)⟩
namespace Sum
def crcN (u n : Nat) (l : List UInt8) : Nat := l.foldl (fun n c => byteN u n c.toNat) n
theorem crcN_snoc (u n : Nat) (l : List UInt8) (c : UInt8) : crcN u n (l ++ [c]) = byteN u (crcN u n l) c.toNat := by simp [crcN]
theorem crcN_lt {u n : Nat} (hu : u < 4294967296) (hn : n < 4294967296) (l : List UInt8) : crcN u n l < 4294967296 := by
  induction l generalizing n with
  | nil => exact hn
  | cons c l ih => exact ih (bitsTo_lt hu hn 8)
def sumN (k : Nat) (l : List UInt8) : Nat := all k ^^^ crcN (upon k) (all k) l
end Sum
structure suOfI (w : World) (k : Nat) (l : List UInt8) (j : Nat) (G : Nat → Prop) (W : World) : Prop where
  word : suWordAt W (w.heap.size + 1) (Sum.wd k) (Sum.all k) (Sum.upon k) (Sum.crcN (Sum.upon k) (Sum.all k) (l.take j))
  own : G (w.heap.size + 1)
  old : ∀ i, G i → i = w.heap.size + 1 ∨ w.heap.size + 4 ≤ i
  put : Boxed W (w.heap.size + 2) 173 (.func (.func 138) #[] #[.pointer (some ⟨w.heap.size + 1, 0, none⟩)])
  below : Below w.heap.size w W
  size : w.heap.size + 4 ≤ W.heap.size
theorem suOfI.abide {w : World} {k : Nat} {l : List UInt8} {j : Nat} : Abide (w.heap.size + 4) (suOfI w k l j) := by
  intro G W W' h hb; exact ⟨hb.obj h.word (fun e => e.2 h.own), h.own, h.old, hb.boxed h.put (fun e => by omega), h.below.trans (hb.below (fun _ e => by omega) h.below.size), Nat.le_trans h.size hb.size⟩
theorem suOfI.step {w : World} {k : Nat} {l : List UInt8} {j : Nat} {G : Nat → Prop} {W W' : World} (h : suOfI w k l j G W) (hj : j < l.length) (hb : But (· = w.heap.size + 1) W W')
    (hw : suWordAt W' (w.heap.size + 1) (Sum.wd k) (Sum.all k) (Sum.upon k) (Sum.byteN (Sum.upon k) (Sum.crcN (Sum.upon k) (Sum.all k) (l.take j)) (l[j].toNat))) : But G W W' ∧ suOfI w k l (j + 1) (newG G W W') W' := by
  refine ⟨hb.mono fun i _ e => by rw [e]; exact h.own, ⟨by rw [Oct.take_snoc l j hj, Sum.crcN_snoc]; exact hw, newG_old h.own, fun i hi => ?_, hb.boxed h.put (by omega), h.below.trans (hb.below (fun i e => by omega) h.below.size), Nat.le_trans h.size hb.size⟩⟩; rcases hi with hi | hi
  · exact h.old i hi
  · have := h.size; omega
theorem suof_c (k : Nat) (hk : k ≤ 2) (ls : List (List UInt8)) (vs : List Value) (a : Option Addr) (c n : Nat) (w : World) (hv : SlB w (.slice a n c) n vs ls) (hn : n ≤ 140737488355328) (ht : ∀ l ∈ ls, l.length ≤ 140737488355328) :
    Calls Tryz.prog 117 #[sukindV k, .slice a n c] w (Ret (.int .u32 (Sum.sumN k ls.flatten)) w) := by
  obtain ⟨xb, hxb⟩ : ∃ xb : Nat → Nat, ∀ k, ∀ h : k < ls.flatten.length, xb k = (ls.flatten[k]).toNat := ⟨fun k => (ls.flatten.getD k 0).toNat, fun k h => by simp only [List.getD_eq_getElem?_getD, List.getElem?_eq_getElem h, Option.getD_some]⟩; have Hxb := Lib.hid hxb; have Ht := Lib.hid ht; clear hxb ht; have hu := Sum.upon_lt k; have ha := Sum.all_lt k; refine (callsIn_wide (n := 3)).1 ?_; refine callsIn_of_wp_marks Tryz.func117 rfl trivial ?_ rfl; simp only [Tryz.ntmps117, List.size_toArray, List.length_cons, List.length_nil, Nat.reduceAdd, Nat.reduceSub, Array.replicate_succ, Array.replicate_zero, List.push_toArray, List.append_toArray, List.nil_append, List.cons_append]; refine wpIn_wide.2 ?_
  go_wp2_with (go_at_call 140; refine (subytes_c _ _ _ _).mono ?_; rintro e w' ⟨rfl, rfl⟩)
  have H0 := (Boxed.new ((w.alloc (.cells #[.int .i64 (Sum.wd k), .int .u32 (Sum.all k), .int .u32 (Sum.upon k)] 128)).alloc (.cells #[.int .i64 (Sum.wd k), .int .u32 (Sum.all k), .int .u32 (Sum.upon k), .int .u32 (Sum.all k)] 171)) 173 (.func (.func 138) #[] #[.pointer (some ⟨w.heap.size + 1, 0, none⟩)])).alloc (.cells #[.slice a n c] 150)
  have H1 : suWordAt ((((w.alloc (.cells #[.int .i64 (Sum.wd k), .int .u32 (Sum.all k), .int .u32 (Sum.upon k)] 128)).alloc (.cells #[.int .i64 (Sum.wd k), .int .u32 (Sum.all k), .int .u32 (Sum.upon k), .int .u32 (Sum.all k)] 171)).alloc (.cells #[.func (.func 138) #[] #[.pointer (some ⟨w.heap.size + 1, 0, none⟩)]] 173)).alloc (.cells #[.slice a n c] 150)) (w.heap.size + 1) (Sum.wd k) (Sum.all k) (Sum.upon k) (Sum.all k) := by
    have := World.alloc_heap_new (w.alloc (.cells #[.int .i64 (Sum.wd k), .int .u32 (Sum.all k), .int .u32 (Sum.upon k)] 128)) (.cells #[.int .i64 (Sum.wd k), .int .u32 (Sum.all k), .int .u32 (Sum.upon k), .int .u32 (Sum.all k)] 171); rw [World.size_alloc] at this; exact (Below.heap_alloc _ _ _ (by simp)).trans ((Below.heap_alloc _ _ _ (by simp)).trans this)
  have H2 := Boxed.new (((w.alloc (.cells #[.int .i64 (Sum.wd k), .int .u32 (Sum.all k), .int .u32 (Sum.upon k)] 128)).alloc (.cells #[.int .i64 (Sum.wd k), .int .u32 (Sum.all k), .int .u32 (Sum.upon k), .int .u32 (Sum.all k)] 171)).alloc (.cells #[.func (.func 138) #[] #[.pointer (some ⟨w.heap.size + 1, 0, none⟩)]] 173)) 150 (.slice a n c)
  have hB : Below w.heap.size w ((((w.alloc (.cells #[.int .i64 (Sum.wd k), .int .u32 (Sum.all k), .int .u32 (Sum.upon k)] 128)).alloc (.cells #[.int .i64 (Sum.wd k), .int .u32 (Sum.all k), .int .u32 (Sum.upon k), .int .u32 (Sum.all k)] 171)).alloc (.cells #[.func (.func 138) #[] #[.pointer (some ⟨w.heap.size + 1, 0, none⟩)]] 173)).alloc (.cells #[.slice a n c] 150)) :=
    (((below_alloc w _).alloc (by simp) _).alloc (by simp; omega) _).alloc (by simp; omega) _
  have hsz : ((((w.alloc (.cells #[.int .i64 (Sum.wd k), .int .u32 (Sum.all k), .int .u32 (Sum.upon k)] 128)).alloc (.cells #[.int .i64 (Sum.wd k), .int .u32 (Sum.all k), .int .u32 (Sum.upon k), .int .u32 (Sum.all k)] 171)).alloc (.cells #[.func (.func 138) #[] #[.pointer (some ⟨w.heap.size + 1, 0, none⟩)]] 173)).alloc (.cells #[.slice a n c] 150)).heap.size = w.heap.size + 4 := by simp
  simp only [World.size_alloc, Nat.add_assoc, Nat.reduceAdd] at H0 H2 ⊢; obtain ⟨W0, hW0⟩ : ∃ W0, ((((w.alloc (.cells #[.int .i64 (Sum.wd k), .int .u32 (Sum.all k), .int .u32 (Sum.upon k)] 128)).alloc (.cells #[.int .i64 (Sum.wd k), .int .u32 (Sum.all k), .int .u32 (Sum.upon k), .int .u32 (Sum.all k)] 171)).alloc (.cells #[.func (.func 138) #[] #[.pointer (some ⟨w.heap.size + 1, 0, none⟩)]] 173)).alloc (.cells #[.slice a n c] 150)) = W0 := ⟨_, rfl⟩; rw [hW0] at H0 H1 H2 hB hsz ⊢; clear hW0
  refine wpIn_wide.1 (wp_range (n := 3) (S := fun j => j < w.heap.size) (gf := 160) (lb := #[.pointer (some ⟨w.heap.size + 3, 0, none⟩)]) rfl suenters_bytes1
    (subytes1_x ls vs a c n (w.heap.size + 3) (fun k => (xb k : Int)) (fun k h => by rw [by8_get _ _ h, Hxb.out k h]) w W0 hv hB H2.cell hn Ht.out) (Below.refl _ _) (fun _ => rfl)
    (fun j => j = w.heap.size + 1) (fun k h => by omega) (fun j h => ⟨by omega, by omega⟩)
    (fun j G W => suOfI w k ls.flatten j G W)
    (fun j a' G W => a' = { tmps := #[sukindV k, .slice a n c, .pointer (some ⟨w.heap.size, 0, none⟩), undef, .int .u32 0, .pointer (some ⟨w.heap.size + 1, 0, none⟩), .pointer (some ⟨w.heap.size + 2, 0, none⟩), .int .u8 (xb j : Int), sukindV k, .pointer (some ⟨w.heap.size, 1, none⟩), .int .u32 (Sum.all k),
      .agg #[.int .i64 (Sum.wd k), .int .u32 (Sum.all k), .int .u32 (Sum.upon k), .int .u32 (Sum.all k)], .func (.func 138) #[] #[.pointer (some ⟨w.heap.size + 1, 0, none⟩)], .slice a n c, .func (.func 160) #[] #[.pointer (some ⟨w.heap.size + 3, 0, none⟩)], .int .u8 (xb j : Int), undef, undef, undef, undef, undef, undef, undef, undef, undef], defers := [] } ∧ suOfI w k ls.flatten j G W)
    (fun c j G W => False)
    (fun j G A B h hb => (suOfI.abide.up (by omega)) G A B h hb) (fun j a' G A B h hb => ⟨h.1, (suOfI.abide.up (by omega)) G A B h.2 hb⟩) (fun c j G A B h hb => h)
    ⟨H1, rfl, fun j h => .inl h, H0, hB, by omega⟩ ?assign ?body ?done ?stop)
  case assign =>
    intro l2 j G wr K hk hi hK
    gi_wp2
    exact hK _ _ (But.refl _ _) (by rw [newG_same rfl]; exact ⟨rfl, hi⟩)
  case body =>
    rintro l2 j a' G wr hj hl2 _ _ ⟨rfl, hi⟩; have hx := Hxb.out j hj
    have hlt : xb j < 256 := by rw [hx]; exact UInt8.toNat_lt _
    have HX := Lib.hid hx; clear hx; have cp := hi.put.cell
    gi_wp2_with ((try refine ⟨trivial, ?_⟩); gi_at_call 138; refine (CallsIn.inRound l2 (callsIn_wide.2 (suput1_c (xb j) _ _ _ _ _ wr hi.word hu (Sum.crcN_lt hu ha _) hlt))).mono ?_; rintro e w1 ⟨⟨v, rfl⟩, hb1, hw1⟩)
    rw [HX.out] at hw1; exact hi.step hj hb1 hw1
  case done =>
    rintro D G wr hD hGD hi hK; have c1 := hi.word.c1; have c3 := hi.word.c3; have hx := subits_xor_u32 (Sum.all k) (Sum.crcN (Sum.upon k) (Sum.all k) (ls.flatten.take ls.flatten.length)) ha (Sum.crcN_lt hu ha _); rw [List.take_length] at hx c3; have HX := Lib.hid hx; clear hx; generalize hcr : Sum.crcN (Sum.upon k) (Sum.all k) ls.flatten = cr at *; have Hcr := Lib.hid hcr; clear hcr; go_wp2; refine ⟨by simp, .inl ⟨_, _, rfl, run_takeDeferred hK, ?_⟩⟩; refine ⟨.int .u32 (bits BinOp.xor IntKind.u32 (Sum.all k : Int) (cr : Int)), by simp [results, Tryz.f117, go_sem], ?_, hi.below.trans (belowK_b (w := w) (Nat.le_refl _) wr D _ _ (by omega) hK rfl rfl)⟩; rw [HX.out]; unfold Sum.sumN; rw [Hcr.out]
  case stop =>
    rintro D c' j G wr hD hGD hk h hK; exact h.elim
open Go.RowKit
theorem suenters_of1 : Enters Tryz.prog 116 := enters_of Tryz.func116 (by kernel_rfl) rfl
theorem suenters_width1 : Enters Tryz.prog 95 := enters_of Tryz.func95 (by kernel_rfl) rfl
theorem suwidth1_c (k : Nat) (w : World) : Calls Tryz.prog 95 #[sukindV k] w (Ret (.int .i64 (Sum.wd k)) w) := by
  go_enter Tryz.func95, Tryz.ntmps95; go_wp2; go_ret; exact ⟨rfl, below_alloc _ _⟩
theorem suof1_c (k : Nat) (hk : k ≤ 2) (ls : List (List UInt8)) (vs : List Value) (a : Option Addr) (c n B : Nat) (w : World) (hc : w.cell? ⟨B, 0, none⟩ = some (.slice a n c)) (hv : SlB w (.slice a n c) n vs ls) (hn : n ≤ 140737488355328) (ht : ∀ l ∈ ls, l.length ≤ 140737488355328) :
    Calls Tryz.prog 116 #[sukindV k, .pointer (some ⟨B, 0, none⟩)] w (Ret (.int .u32 (Sum.sumN k ls.flatten)) w) := by
  have hc' := cell_up (below_alloc w (.cells #[.int .i64 (Sum.wd k), .int .u32 (Sum.all k), .int .u32 (Sum.upon k)] 128)) hc; have hv' := hv.up (below_alloc w (.cells #[.int .i64 (Sum.wd k), .int .u32 (Sum.all k), .int .u32 (Sum.upon k)] 128)); have Ht := Lib.hid ht; clear ht; go_enter Tryz.func116, Tryz.ntmps116
  go_wp2_with (go_at_call 117; refine (suof_c k hk ls vs a c n _ hv' hn Ht.out).mono ?_; rintro e w1 ⟨rfl, hb⟩)
  go_ret; exact ⟨rfl, below_new hb⟩
theorem suwidth_c (k : Nat) (hk : k ≤ 2) (w : World) : Calls Tryz.prog 50 #[.int .i64 k] w (Ret (.tuple #[.int .i64 (Sum.wd k), .int .i64 0]) w) := by
  go_enter Tryz.func50, Tryz.ntmps50
  go_wp2_with (go_at_call 94; refine (sutoldI_c k hk _ suenters_width1 #[] _ (fun v _ => v = .int .i64 (Sum.wd k)) (fun w1 _ => (suwidth1_c k w1).mono fun e w' h => ⟨_, h.1, rfl, h.2⟩)).mono ?_; rintro e w1 ⟨_, rfl, rfl, hb⟩)
  go_ret2
  exact ⟨rfl, hb⟩
theorem suwidth_bad (k : Int) (hk : k < 0 ∨ 2 < k) (w : World) : Calls Tryz.prog 50 #[.int .i64 k] w (Ret (.tuple #[.int .i64 0, .int .i64 2]) w) := by
  go_enter Tryz.func50, Tryz.ntmps50
  go_wp2_with (go_at_call 94; refine (sutoldI_bad k hk _ _ _).mono ?_; rintro e w1 ⟨rfl, rfl⟩)
  go_ret2
  exact ⟨rfl, Below.refl _ _⟩
theorem susumOf_c (k : Nat) (hk : k ≤ 2) (ls : List (List UInt8)) (vs : List Value) (a : Option Addr) (c n : Nat) (w : World) (hv : SlB w (.slice a n c) n vs ls) (hn : n ≤ 140737488355328) (ht : ∀ l ∈ ls, l.length ≤ 140737488355328) :
    Calls Tryz.prog 92 #[.int .i64 k, .slice a n c] w (Ret (.tuple #[.int .u32 (Sum.sumN k ls.flatten), .int .i64 0]) w) := by
  have hmf : ∀ (fn : Fn) (first cap : Array Value) (w : World), (Instr.makeFunc fn first cap).run Tryz.prog w = .ok (.func fn first cap) w := fun _ _ _ _ => rfl
  have hb0 := below_alloc w (.cells #[.slice a n c] 150); have hc0 : (w.alloc (.cells #[.slice a n c] 150)).cell? ⟨w.heap.size, 0, none⟩ = some (.slice a n c) := cell_new _ _ _; have Ht := Lib.hid ht; clear ht; go_enter Tryz.func92, Tryz.ntmps92
  go_wp2_with (go_at_call 115; refine (sutoldU_c k hk _ suenters_of1 #[.pointer (some ⟨w.heap.size, 0, none⟩)] _ (fun v _ => v = .int .u32 (Sum.sumN k ls.flatten)) (fun w1 hb1 => (Calls.cast rfl (suof1_c k hk ls vs a c n w.heap.size w1 (cell_up hb1 hc0) (hv.up (below_up hb0 hb1)) hn Ht.out)).mono fun e w' h => ⟨_, h.1, rfl, h.2⟩)).mono ?_; rintro e w1 ⟨_, rfl, rfl, hb⟩)
  go_ret2
  exact ⟨rfl, below_new hb⟩
open Go.RowKit
namespace Sum
theorem putB_le (n w : Int) : (Oct.putB n w).length ≤ 8 := by
  unfold Oct.putB; split
  · rename_i h
    rw [Bool.and_eq_true] at h; rw [Oct.beB_len]
    rcases Oct.okW_cases h.1 with rfl | rfl | rfl | rfl <;> decide
  · simp
end Sum
open Go.RowKit
theorem surefKind_c (k : Int) (w : World) : Calls Tryz.prog 56 #[.int .i64 k] w fun e w' => e = .returned (.bool (decide (0 ≤ k) && decide (k ≤ 2))) ∧ w = w' := by
  by_cases h : 0 ≤ k
  · go_enter Tryz.func56, Tryz.ntmps56
    go_wp2; go_ret; exact ⟨retB (by simp [h]), rfl⟩
  · have h' : k < 0 := by omega
    go_enter Tryz.func56, Tryz.ntmps56; go_wp2; go_ret; exact ⟨retB (by simp; omega), rfl⟩
theorem surefWidth_c (k : Nat) (hk : k ≤ 2) (w : World) : Calls Tryz.prog 70 #[.int .i64 k] w fun e w' => e = .returned (.int .i64 (Sum.wd k)) ∧ w = w' := by
  have hw := Sum.wd_eq hk; go_enter Tryz.func70, Tryz.ntmps70; go_wp2; go_ret; exact ⟨retI (by rw [hw]; push_cast; omega), rfl⟩
namespace Sum
theorem ones_xor (m x : Nat) (h : x < 2 ^ m) : 2 ^ m - 1 - x = (2 ^ m - 1) ^^^ x := by
  have h1 := BitVec.toNat_not (x := BitVec.ofNat m x); have h2 : (BitVec.allOnes m ^^^ BitVec.ofNat m x) = ~~~ (BitVec.ofNat m x) := BitVec.allOnes_xor; rw [← h2, BitVec.toNat_xor, BitVec.toNat_allOnes, BitVec.toNat_ofNat, Nat.mod_eq_of_lt h] at h1; exact h1.symm
theorem stepN_le {k n b : Nat} (hn : n ≤ all k) : stepN (upon k) n b ≤ all k := by
  unfold stepN; split
  · omega
  · match k with
    | 0 => simp only [all, upon] at *; have : n = 0 := by omega
           subst this; decide
    | 1 => simp only [all, upon] at *; have := Nat.xor_lt_two_pow (x := n / 2) (y := 33800) (n := 16) (by omega) (by omega); omega
    | k + 2 => simp only [all, upon] at *; have := Nat.xor_lt_two_pow (x := n / 2) (y := 2197175160) (n := 32) (by omega) (by omega); omega
theorem bitsTo_le {k n c : Nat} (hn : n ≤ all k) : ∀ i, bitsTo (upon k) n c i ≤ all k
  | 0 => hn
  | i + 1 => stepN_le (bitsTo_le hn i)
theorem crcN_le {k n : Nat} (hn : n ≤ all k) (l : List UInt8) : crcN (upon k) n l ≤ all k := by
  induction l generalizing n with
  | nil => exact hn
  | cons c l ih => exact ih (bitsTo_le hn 8)
theorem all_sub (k x : Nat) (h : x ≤ all k) : all k - x = all k ^^^ x := by
  match k with
  | 0 => simp only [all] at *; have : x = 0 := by omega
         subst this; rfl
  | 1 => exact ones_xor 16 x (by simp only [all] at h; omega)
  | k + 2 => exact ones_xor 32 x (by simp only [all] at h; omega)
end Sum
theorem surefOf_c (k : Nat) (hk : k ≤ 2) (l : List UInt8) (v : Value) (n : Nat) (w : World) (hv : Sl w 1 v n (by8 l)) (hn : n ≤ 140737488355328) :
    Calls Tryz.prog 102 #[.int .i64 k, v] w (Ret (.int .u32 (Sum.sumN k l)) w) := by
  have hln := hv.n_len; obtain ⟨a, c, rfl⟩ := hv.len; have Hln := Lib.hid hln; clear hln
  have hA : ∀ (w : World), (w.alloc (.cells #[.int .u32 0, .int .u32 65535, .int .u32 4294967295] 22)).cell? ⟨w.heap.size, k, none⟩ = some (.int .u32 (Sum.all k)) := by
    intro w; rw [World.cell?_alloc_at _ _ _ _ rfl]
    have : k = 0 ∨ k = 1 ∨ k = 2 := by omega
    rcases this with rfl | rfl | rfl <;> rfl
  have hU : ∀ (w : World), (w.alloc (.cells #[.int .u32 0, .int .u32 33800, .int .u32 2197175160] 22)).cell? ⟨w.heap.size, k, none⟩ = some (.int .u32 (Sum.upon k)) := by
    intro w; rw [World.cell?_alloc_at _ _ _ _ rfl]
    have : k = 0 ∨ k = 1 ∨ k = 2 := by omega
    rcases this with rfl | rfl | rfl <;> rfl
  have hA1 := hA w; have hU1 := hU (w.alloc (.cells #[.int .u32 0, .int .u32 65535, .int .u32 4294967295] 22)); rw [World.size_alloc] at hU1; clear hA hU
  have hk2 : (k : Int) < 3 := by omega
  go_enter Tryz.func102, Tryz.ntmps102; go_wp2; have hB0 : Below w.heap.size w ((w.alloc (.cells #[.int .u32 0, .int .u32 65535, .int .u32 4294967295] 22)).alloc (.cells #[.int .u32 0, .int .u32 33800, .int .u32 2197175160] 22)) := (below_alloc w _).alloc (by simp) _; have hu := Sum.upon_lt k; have ha := Sum.all_lt k; clear hA1 hU1
  go_loopg [7, 8] n (fun gh t7 t8 wr => ∃ (i : Nat), i ≤ n ∧ gh = n - i ∧ t7 = .int .u32 (Sum.crcN (Sum.upon k) (Sum.all k) (l.take i) : Nat) ∧ t8 = .int .i64 i ∧ Below w.heap.size w wr)
  case atStart => exact ⟨0, Nat.zero_le _, rfl, rfl, rfl, hB0⟩
  case round =>
    obtain ⟨i, hi, rfl, rfl, rfl, hB⟩ := hrel; by_cases hlt : i < n
    · have hil : i < l.length := by rw [Hln.out]; exact hlt
      obtain ⟨b, off, rfl, hc⟩ := (hv.up hB).cellAt (k := i) (by omega) (by omega); rw [by8_get l i hil] at hc; have hc256 : (l[i]).toNat < 256 := UInt8.toNat_lt _
      have hsn : Sum.crcN (Sum.upon k) (Sum.all k) (l.take (i + 1)) = Sum.byteN (Sum.upon k) (Sum.crcN (Sum.upon k) (Sum.all k) (l.take i)) l[i].toNat := by rw [Oct.take_snoc l i hil, Sum.crcN_snoc]
      have Hsn := Lib.hid hsn; have hlt2 := Sum.crcN_lt hu ha (l.take i); clear hsn; generalize (l[i]).toNat = cb at *; generalize Sum.crcN (Sum.upon k) (Sum.all k) (l.take i) = cr at *; generalize Sum.upon k = uu at *; go_wp2
      go_loopg [7, 9, 10] 8 (fun gh t7 t9 t10 wr => ∃ (j : Nat), j ≤ 8 ∧ gh = 8 - j ∧ t7 = .int .u32 (Sum.bitsTo uu cr cb j : Nat) ∧ t9 = .int .u32 (cb / 2 ^ j : Nat) ∧ t10 = .int .i64 j ∧ Below w.heap.size w wr)
      case atStart => exact ⟨0, by decide, rfl, rfl, by simp, rfl, hB⟩
      case round =>
        obtain ⟨j, hj, rfl, rfl, rfl, rfl, hB1⟩ := hrel; by_cases hj8 : j < 8
        · have hst : Sum.bitsTo uu cr cb (j + 1) = Sum.stepN uu (Sum.bitsTo uu cr cb j) (cb / 2 ^ j) := rfl
          have hdiv : cb / 2 ^ (j + 1) = cb / 2 ^ j / 2 := by rw [Nat.pow_succ, Nat.div_div_eq_div_mul]
          have hb1 := Sum.bitsTo_lt (c := cb) hu hlt2 j; have hq : cb / 2 ^ j < 256 := Nat.lt_of_le_of_lt (Nat.div_le_self _ _) hc256; have Hst := Lib.hid hst; have Hdiv := Lib.hid hdiv; clear hst hdiv; generalize Sum.bitsTo uu cr cb j = nn at *; generalize cb / 2 ^ j = qq at *; by_cases hx : nn % 2 = qq % 2
          · have ht : ((nn : Int) % 2 != (qq : Int) % 2) = false := by simp; omega
            have hs : Sum.stepN uu nn qq = nn / 2 := by unfold Sum.stepN; rw [if_pos hx]
            have Hs := Lib.hid hs; clear hs hx; go_wp2
            go_roundg (8 - (j + 1))
            case rel => exact ⟨j + 1, by omega, rfl, by rw [Hst.out, Hs.out]; rfl, by rw [Hdiv.out]; rfl, by go_num, hB1⟩
            case measure => omega
          · have ht : ((nn : Int) % 2 != (qq : Int) % 2) = true := by simp; omega
            have hs : Sum.stepN uu nn qq = nn / 2 ^^^ uu := by unfold Sum.stepN; rw [if_neg hx]
            have Hs := Lib.hid hs; have HX := Lib.hid (subits_xor_u32 (nn / 2) uu (by omega) hu); clear hs hx; go_wp2
            go_roundg (8 - (j + 1))
            case rel => exact ⟨j + 1, by omega, rfl, by rw [Hst.out, Hs.out, ← HX.out]; rfl, by rw [Hdiv.out]; rfl, by go_num, hB1⟩
            case measure => omega
        · obtain rfl : j = 8 := by omega
          go_wp2
          go_roundg (n - (i + 1))
          case rel => exact ⟨i + 1, by omega, rfl, by rw [Hsn.out]; rfl, by go_num, hB1⟩
          case measure => omega
    · obtain rfl : i = n := by omega
      have hle := Sum.crcN_le (Nat.le_refl (Sum.all k)) l
      have hsub : (Sum.sumN k l : Int) = (Sum.all k : Int) - (Sum.crcN (Sum.upon k) (Sum.all k) l : Int) := by
        unfold Sum.sumN; rw [← Sum.all_sub k _ hle]; omega
      have hall : l.take i = l := by rw [List.take_of_length_le (by rw [Hln.out]; exact Nat.le_refl _)]
      rw [hall]; have Hsub := Lib.hid hsub; clear hsub hall; generalize Sum.crcN (Sum.upon k) (Sum.all k) l = cr at *; go_wp2; go_ret; exact ⟨retI Hsub.out.symm, hB⟩
open Go.RowKit
namespace Sum
theorem xor_top {M u a : Nat} (p : Nat) (hM : M = 2 ^ p) (hu : M ≤ u) (hu2 : u < 2 * M) (ha : a < M) : M ≤ a ^^^ u ∧ a ^^^ u < 2 * M := by
  subst hM
  have h1 : u.testBit p = true := by
    rw [Nat.testBit_eq_decide_div_mod_eq, decide_eq_true_eq]
    have : u / 2 ^ p = 1 := by
      rw [Nat.div_eq_iff (Nat.two_pow_pos p)]; have := Nat.two_pow_pos p; omega
    rw [this]
  have h2 : a.testBit p = false := Nat.testBit_lt_two_pow ha
  have h3 : (a ^^^ u).testBit p = true := by rw [Nat.testBit_xor, h1, h2]; rfl
  refine ⟨?_, ?_⟩
  · exact Nat.le_of_not_lt fun h => by rw [Nat.testBit_lt_two_pow h] at h3; cases h3
  · rw [show 2 * 2 ^ p = 2 ^ (p + 1) by rw [Nat.pow_succ, Nat.mul_comm]]
    exact Nat.xor_lt_two_pow (by rw [Nat.pow_succ]; omega) (by rw [Nat.pow_succ]; omega)
theorem xor_inj {a b u : Nat} (h : a ^^^ u = b ^^^ u) : a = b := by
  have := congrArg (· ^^^ u) h
  simpa [Nat.xor_assoc] using this
structure Top (u M : Nat) : Prop where
  p : ∃ p, M = 2 ^ p
  lo : M ≤ u
  hi : u < 2 * M
theorem stepN_in {u M n b : Nat} (h : Top u M) (hn : n < 2 * M) : stepN u n b < 2 * M := by
  obtain ⟨p, hp⟩ := h.p; unfold stepN; split
  · omega
  · exact (xor_top p hp h.lo h.hi (by omega)).2
theorem stepN_inj {u M n m b : Nat} (h : Top u M) (hn : n < 2 * M) (hm : m < 2 * M) (e : stepN u n b = stepN u m b) : n = m := by
  obtain ⟨p, hp⟩ := h.p; have x1 := xor_top p hp h.lo h.hi (a := n / 2) (by omega); have x2 := xor_top p hp h.lo h.hi (a := m / 2) (by omega); unfold stepN at e
  split at e <;> split at e
  · omega
  · omega
  · omega
  · have := xor_inj e; omega
theorem stepN_bit {u M n b c : Nat} (h : Top u M) (hn : n < 2 * M) (hbc : b % 2 ≠ c % 2) : stepN u n b ≠ stepN u n c := by
  obtain ⟨p, hp⟩ := h.p; have x1 := xor_top p hp h.lo h.hi (a := n / 2) (by omega); intro e; unfold stepN at e
  split at e <;> split at e <;> omega
theorem bitsTo_in {u M n c : Nat} (h : Top u M) (hn : n < 2 * M) : ∀ k, bitsTo u n c k < 2 * M
  | 0 => hn
  | k + 1 => stepN_in h (bitsTo_in h hn k)
theorem bitsTo_inj {u M n m c : Nat} (h : Top u M) (hn : n < 2 * M) (hm : m < 2 * M) : ∀ k, bitsTo u n c k = bitsTo u m c k → n = m
  | 0, e => e
  | k + 1, e => bitsTo_inj h hn hm k (stepN_inj h (bitsTo_in h hn k) (bitsTo_in h hm k) e)
theorem byteN_in {u M n c : Nat} (h : Top u M) (hn : n < 2 * M) : byteN u n c < 2 * M := bitsTo_in h hn 8
theorem byteN_inj {u M n m c : Nat} (h : Top u M) (hn : n < 2 * M) (hm : m < 2 * M) (e : byteN u n c = byteN u m c) : n = m := bitsTo_inj h hn hm 8 e
def OneBit (c d : Nat) : Prop := ∃ j, j < 8 ∧ ∀ i, i < 8 → (c / 2 ^ i % 2 = d / 2 ^ i % 2 ↔ i ≠ j)
theorem stepN_cong {u n b c : Nat} (h : b % 2 = c % 2) : stepN u n b = stepN u n c := by unfold stepN; rw [h]
theorem bitsTo_bit {u M n c d j : Nat} (h : Top u M) (hn : n < 2 * M) (hj : ∀ i, i < 8 → (c / 2 ^ i % 2 = d / 2 ^ i % 2 ↔ i ≠ j)) :
    ∀ k, k ≤ 8 → (k ≤ j → bitsTo u n c k = bitsTo u n d k) ∧ (j < k → bitsTo u n c k ≠ bitsTo u n d k)
  | 0, _ => ⟨fun _ => rfl, fun h => by omega⟩
  | k + 1, hk => by
    obtain ⟨i1, i2⟩ := bitsTo_bit h hn hj k (by omega); have hb := hj k (by omega); refine ⟨fun hkj => ?_, fun hkj => ?_⟩
    · show stepN _ _ _ = stepN _ _ _
      rw [i1 (by omega), stepN_cong (hb.2 (by omega))]
    · show stepN _ _ _ ≠ stepN _ _ _
      by_cases e : k = j
      · rw [i1 (by omega)]
        exact stepN_bit h (bitsTo_in h hn k) fun x => hb.1 x e
      · rw [stepN_cong (hb.2 e)]
        exact fun x => i2 (by omega) (stepN_inj h (bitsTo_in h hn k) (bitsTo_in h hn k) x)
theorem byteN_bit {u M n c d : Nat} (h : Top u M) (hn : n < 2 * M) (ho : OneBit c d) : byteN u n c ≠ byteN u n d := by
  obtain ⟨j, h8, hj⟩ := ho; exact (bitsTo_bit h hn hj 8 (Nat.le_refl _)).2 h8
theorem crcN_in {u M : Nat} (h : Top u M) : ∀ (l : List UInt8) {n : Nat}, n < 2 * M → crcN u n l < 2 * M
  | [], _, hn => hn
  | c :: l, _, hn => crcN_in h l (byteN_in h hn)
theorem crcN_inj {u M : Nat} (h : Top u M) : ∀ (l : List UInt8) {n m : Nat}, n < 2 * M → m < 2 * M → crcN u n l = crcN u m l → n = m
  | [], _, _, _, _, e => e
  | c :: l, _, _, hn, hm, e => byteN_inj h hn hm (crcN_inj h l (byteN_in h hn) (byteN_in h hm) e)
theorem crcN_bit {u M : Nat} (h : Top u M) : ∀ (l : List UInt8) {n : Nat} (i : Nat) (d : UInt8) (hi : i < l.length), n < 2 * M → OneBit l[i].toNat d.toNat → crcN u n l ≠ crcN u n (l.set i d)
  | c :: l, n, 0, d, _, hn, ho => fun e => byteN_bit h hn ho (crcN_inj h l (byteN_in h hn) (byteN_in h hn) e)
  | c :: l, n, i + 1, d, hi, hn, ho => crcN_bit h l i d (by simpa using hi) (byteN_in h hn) ho
theorem top_of {k : Nat} (hk : k = 1 ∨ k = 2) : ∃ M, Top (upon k) M ∧ all k < 2 * M ∧ 2 * M = 256 ^ wd k := by
  rcases hk with rfl | rfl
  · exact ⟨32768, ⟨⟨15, rfl⟩, by decide, by decide⟩, by decide, by decide⟩
  · exact ⟨2147483648, ⟨⟨31, rfl⟩, by decide, by decide⟩, by decide, by decide⟩
theorem sumN_bit {k : Nat} (hk : k = 1 ∨ k = 2) (l : List UInt8) (i : Nat) (d : UInt8) (hi : i < l.length) (ho : OneBit l[i].toNat d.toNat) : sumN k l ≠ sumN k (l.set i d) := by
  obtain ⟨M, hT, ha, _⟩ := top_of hk; intro e; unfold sumN at e; rw [Nat.xor_comm, Nat.xor_comm (all k)] at e; exact crcN_bit hT l i d hi ha ho (xor_inj e)
theorem sumN_in {k : Nat} (hk : k = 1 ∨ k = 2) (l : List UInt8) : sumN k l < 256 ^ wd k := by
  obtain ⟨M, hT, ha, hM⟩ := top_of hk; obtain ⟨p, hp⟩ := hT.p; rw [← hM]; unfold sumN; rw [show 2 * M = 2 ^ (p + 1) by rw [hp, Nat.pow_succ, Nat.mul_comm]] at *; exact Nat.xor_lt_two_pow ha (by have := crcN_in hT l (n := all k) (by rw [show 2 * M = 2 ^ (p + 1) by rw [hp, Nat.pow_succ, Nat.mul_comm]]; exact ha); rw [show 2 * M = 2 ^ (p + 1) by rw [hp, Nat.pow_succ, Nat.mul_comm]] at this; exact this)
theorem one_bit (x : UInt8) {j : Nat} (hj : j < 8) : OneBit x.toNat (x.toNat ^^^ 2 ^ j) := by
  refine ⟨j, hj, fun i _ => ?_⟩
  have e : ∀ c : Nat, c / 2 ^ i % 2 = if c.testBit i then 1 else 0 := fun c => by
    rw [Nat.testBit_eq_decide_div_mod_eq]; have : c / 2 ^ i % 2 < 2 := Nat.mod_lt _ (by decide); by_cases h : c / 2 ^ i % 2 = 1
    · rw [h]; rfl
    · rw [show c / 2 ^ i % 2 = 0 by omega]; rfl
  rw [e, e, Nat.testBit_xor, Nat.testBit_two_pow]; by_cases h : j = i
  · subst h; cases x.toNat.testBit j <;> simp
  · simp [h]; exact fun e => h e.symm
theorem wd_ok {k : Nat} (hk : k ≤ 2) (h0 : k ≠ 0) : Oct.okW (wd k) = true := by
  rcases (show k = 1 ∨ k = 2 by omega) with rfl | rfl <;> rfl
theorem pow_up {a m : Nat} (h : a < 256 ^ m) : (a : Int) < 256 ^ m := by
  have : ((256 ^ m : Nat) : Int) = 256 ^ m := Int.natCast_pow 256 m; rw [← this]; exact Int.ofNat_lt.2 h
theorem put_all {k : Nat} (hk : k = 1 ∨ k = 2) (l : List UInt8) : Oct.putB (sumN k l) (wd k) = Oct.beB (wd k) (sumN k l) := by
  have h1 := wd_ok (k := k) (by omega) (by omega)
  have h2 : Oct.fitsB (wd k) (sumN k l) = true := by
    unfold Oct.fitsB; rw [decide_eq_true_eq]; have := sumN_in hk l; rw [Int.toNat_natCast]; exact pow_up this
  unfold Oct.putB; rw [h1, h2, Int.toNat_natCast]; rfl
end Sum
end Go.Proofs.YtpkonagjnfphkaaGreatDoor
