/-
  CbB0, CbU, Utf8, CbR, CbJ, CbIp, CbHe: several texts in one (bundle.py).
-/
import Derived.Test.YtpkonagjnfphkaaGreatDoorPmY07
import Derived.Lib.DecodeN
import Derived.Test.YtpkonagjnfphkaaGreatDoorPmY01
import Derived.Shelf.Unicode.DecodeAny
import Derived.Test.YtpkonagjnfphkaaGreatDoorPmY02
import Derived.Lib.OthersKept
import Derived.Test.YtpkonagjnfphkaaGreatDoorPmY06
set_option linter.unusedSimpArgs false
set_option linter.unusedVariables false
set_option maxRecDepth 100000
set_option maxHeartbeats 8000000
namespace Go.Proofs.YtpkonagjnfphkaaGreatDoor
open Go.RowKit
namespace Cb
def bareB (x : It) : Bool := (x.k == 1 || x.k == 5 || x.n == 0) && ((x.k == 2 || x.b.length == 0) && ((x.k == 3 || x.s.size == 0) && (x.k == 4 || x.l.length == 0)))
mutual
def szOk : It → Prop
  | .mk _ _ b s l => (b.length ≤ 140737488355328 ∧ s.size ≤ 140737488355328) ∧ szOkL l
def szOkL : List It → Prop
  | [] => True
  | x :: l => szOk x ∧ szOkL l
end
mutual
def kwB : It → Prop
  | .mk k _ _ _ l => (-9223372036854775808 ≤ k ∧ k ≤ 9223372036854775807) ∧ kwL l
def kwL : List It → Prop
  | [] => True
  | x :: l => kwB x ∧ kwL l
end
theorem kwB_eq (x : It) : kwB x ↔ (-9223372036854775808 ≤ x.k ∧ x.k ≤ 9223372036854775807) ∧ kwL x.l := by cases x; exact Iff.rfl
theorem kwL_mem : ∀ {l : List It} {x : It}, kwL l → x ∈ l → kwB x
  | y :: l, x, h, hx => by
    simp only [kwL] at h; rcases List.mem_cons.1 hx with rfl | hx
    · exact h.1
    · exact kwL_mem h.2 hx
theorem kwL_all : ∀ {l : List It}, (∀ x ∈ l, kwB x) → kwL l
  | [], _ => trivial
  | y :: l, h => ⟨h y (by simp), kwL_all fun x hx => h x (by simp [hx])⟩
end Cb
end Go.Proofs.YtpkonagjnfphkaaGreatDoor
namespace Go.Proofs.YtpkonagjnfphkaaGreatDoor
open Go.Lib
namespace Cb
def rune1N (n b0 b1 b2 b3 : Nat) : Nat :=
  if b0 ≤ 127 then 1
  else if 194 ≤ b0 ∧ b0 ≤ 223 then (if 1 < n ∧ 128 ≤ b1 ∧ b1 ≤ 191 then 2 else 0)
  else if b0 = 224 then (if 1 < n ∧ 160 ≤ b1 ∧ b1 ≤ 191 ∧ 2 < n ∧ 128 ≤ b2 ∧ b2 ≤ 191 then 3 else 0)
  else if b0 = 237 then (if 1 < n ∧ 128 ≤ b1 ∧ b1 ≤ 159 ∧ 2 < n ∧ 128 ≤ b2 ∧ b2 ≤ 191 then 3 else 0)
  else if 225 ≤ b0 ∧ b0 ≤ 239 then (if 1 < n ∧ 128 ≤ b1 ∧ b1 ≤ 191 ∧ 2 < n ∧ 128 ≤ b2 ∧ b2 ≤ 191 then 3 else 0)
  else if b0 = 240 then (if 1 < n ∧ 144 ≤ b1 ∧ b1 ≤ 191 ∧ 2 < n ∧ 128 ≤ b2 ∧ b2 ≤ 191 ∧ 3 < n ∧ 128 ≤ b3 ∧ b3 ≤ 191 then 4 else 0)
  else if b0 = 244 then (if 1 < n ∧ 128 ≤ b1 ∧ b1 ≤ 143 ∧ 2 < n ∧ 128 ≤ b2 ∧ b2 ≤ 191 ∧ 3 < n ∧ 128 ≤ b3 ∧ b3 ≤ 191 then 4 else 0)
  else if 241 ≤ b0 ∧ b0 ≤ 243 then (if 1 < n ∧ 128 ≤ b1 ∧ b1 ≤ 191 ∧ 2 < n ∧ 128 ≤ b2 ∧ b2 ≤ 191 ∧ 3 < n ∧ 128 ≤ b3 ∧ b3 ≤ 191 then 4 else 0)
  else 0
theorem b0_cases (b0 : Nat) (h0 : b0 < 256) : b0 ≤ 127 ∨ (128 ≤ b0 ∧ b0 ≤ 193) ∨ (194 ≤ b0 ∧ b0 ≤ 223) ∨ b0 = 224 ∨ (225 ≤ b0 ∧ b0 ≤ 236) ∨ b0 = 237 ∨ (238 ≤ b0 ∧ b0 ≤ 239) ∨ b0 = 240 ∨ (241 ≤ b0 ∧ b0 ≤ 243) ∨ b0 = 244 ∨ 245 ≤ b0 := by omega
theorem decode_both (n b0 b1 b2 b3 : Nat) (h0 : b0 < 256) (h1 : b1 < 256) (h2 : b2 < 256) (h3 : b3 < 256) : ∃ d, decodeN n b0 b1 b2 b3 = d ∧ ∃ r, rune1N n b0 b1 b2 b3 = r ∧ (r = 0 ∧ d.2 = 1 ∨ 0 < r ∧ d.2 = r) ∧ ((d.1 ≠ 65533 ∨ 1 < d.2) ↔ r ≠ 0) := by
  refine ⟨_, rfl, _, rfl, ?_⟩; unfold decodeN rune1N; rcases b0_cases b0 h0 with h | h | h | h | h | h | h | h | h | h | h
  all_goals (repeat' (first | rw [if_pos (by omega)] | rw [if_neg (by omega)] | split))
  all_goals (dsimp only; omega)
theorem decode_wide (n b0 b1 b2 b3 : Nat) (h0 : b0 < 256) (h1 : b1 < 256) (h2 : b2 < 256) (h3 : b3 < 256) : (decodeN n b0 b1 b2 b3).2 = if rune1N n b0 b1 b2 b3 = 0 then 1 else rune1N n b0 b1 b2 b3 := by
  obtain ⟨d, hd, r, hr, h, _⟩ := decode_both n b0 b1 b2 b3 h0 h1 h2 h3
  rw [hd, hr]; split <;> omega
theorem decode_fine (n b0 b1 b2 b3 : Nat) (h0 : b0 < 256) (h1 : b1 < 256) (h2 : b2 < 256) (h3 : b3 < 256) : ((decodeN n b0 b1 b2 b3).1 ≠ 65533 ∨ 1 < (decodeN n b0 b1 b2 b3).2) ↔ rune1N n b0 b1 b2 b3 ≠ 0 := by
  obtain ⟨d, hd, r, hr, _, h⟩ := decode_both n b0 b1 b2 b3 h0 h1 h2 h3; rw [hd, hr]; exact h
def rune1 (s : ByteArray) (p : Nat) : Nat := rune1N (s.size - p) (s.get! p).toNat (s.get! (p + 1)).toNat (s.get! (p + 2)).toNat (s.get! (p + 3)).toNat
def step1 (s : ByteArray) (p : Nat) : Nat := if rune1 s p = 0 then 1 else rune1 s p
theorem dec_wide (s : ByteArray) (p : Nat) : (Utf8.decode s p).2 = step1 s p := by
  rw [decode_at]; exact decode_wide _ _ _ _ _ (UInt8.toNat_lt _) (UInt8.toNat_lt _) (UInt8.toNat_lt _) (UInt8.toNat_lt _)
theorem dec_fine (s : ByteArray) (p : Nat) : ((Utf8.decode s p).1 ≠ 65533 ∨ 1 < (Utf8.decode s p).2) ↔ rune1 s p ≠ 0 := by
  rw [decode_at]; exact decode_fine _ _ _ _ _ (UInt8.toNat_lt _) (UInt8.toNat_lt _) (UInt8.toNat_lt _) (UInt8.toNat_lt _)
theorem step1_pos (s : ByteArray) (p : Nat) : 1 ≤ step1 s p := by unfold step1; split <;> omega
theorem rune1N_le (n b0 b1 b2 b3 : Nat) (hn : 1 ≤ n) : rune1N n b0 b1 b2 b3 ≤ n := by
  unfold rune1N
  repeat' split
  all_goals omega
theorem step1_le (s : ByteArray) (p : Nat) (hp : p < s.size) : p + step1 s p ≤ s.size := by
  have := rune1N_le (s.size - p) (s.get! p).toNat (s.get! (p + 1)).toNat (s.get! (p + 2)).toNat (s.get! (p + 3)).toNat (by omega)
  unfold step1 rune1; split <;> omega
def runesF (s : ByteArray) : Nat → Nat → Nat × Bool
  | 0, _ => (0, true)
  | f + 1, p => if p < s.size then ((runesF s f (p + step1 s p)).1 + 1, decide (rune1 s p ≠ 0) && (runesF s f (p + step1 s p)).2) else (0, true)
def runesAt (s : ByteArray) (p : Nat) : Nat × Bool := runesF s (s.size - p) p
def runes (s : ByteArray) : Nat × Bool := runesAt s 0
theorem runesF_more (s : ByteArray) : ∀ (f g p : Nat), s.size - p ≤ f → s.size - p ≤ g → runesF s f p = runesF s g p
  | 0, 0, _, _, _ => rfl
  | 0, g + 1, p, h, _ => by unfold runesF; rw [if_neg (by omega)]
  | f + 1, 0, p, _, h => by unfold runesF; rw [if_neg (by omega)]
  | f + 1, g + 1, p, h1, h2 => by
    unfold runesF; split
    · have := step1_pos s p
      rw [runesF_more s f g (p + step1 s p) (by omega) (by omega)]
    · rfl
theorem runesAt_step (s : ByteArray) (p : Nat) (hp : p < s.size) : runesAt s p = ((runesAt s (p + step1 s p)).1 + 1, decide (rune1 s p ≠ 0) && (runesAt s (p + step1 s p)).2) := by
  have := step1_pos s p; unfold runesAt; rw [show s.size - p = (s.size - p - 1) + 1 by omega, runesF, if_pos hp, runesF_more s (s.size - p - 1) (s.size - (p + step1 s p)) _ (by omega) (by omega)]
theorem runesAt_end (s : ByteArray) (p : Nat) (hp : ¬ p < s.size) : runesAt s p = (0, true) := by
  unfold runesAt; rw [show s.size - p = 0 by omega]; rfl
end Cb
end Go.Proofs.YtpkonagjnfphkaaGreatDoor
namespace Go.Proofs.YtpkonagjnfphkaaGreatDoor
open Go.Shelf
def lays197_ren : Go.Shelf.Ren := ⟨fun | 197 => 165 | 260 => 180 | n => n, fun | 9 => 9 | 21 => 21 | 3 => 3 | 4 => 4 | 5 => 5 | 105 => 206 | 119 => 217 | 0 => 0 | 46 => 69 | 139 => 220 | 138 => 219 | n => n, fun | 3 => 0 | 4 => 1 | n => n⟩
theorem lays197 : Go.Proofs.Lays.n197 Tryz.prog lays197_ren := {
  mixed := by kernel_rfl
  f197 := Tryz.func165.trans (congrArg some (by kernel_rfl))
  f260 := Tryz.func180.trans (congrArg some (by kernel_rfl))
  t0 := Tryz.underlying0
  a0 := Tryz.isAgg0
  z0 := Tryz.sizeOf0
  v0 := Tryz.zeroValue0
  t3 := Tryz.underlying3
  a3 := Tryz.isAgg3
  z3 := Tryz.sizeOf3
  v3 := Tryz.zeroValue3
  t4 := Tryz.underlying4
  a4 := Tryz.isAgg4
  z4 := Tryz.sizeOf4
  v4 := Tryz.zeroValue4
  t5 := Tryz.underlying5
  a5 := Tryz.isAgg5
  z5 := Tryz.sizeOf5
  v5 := Tryz.zeroValue5
  t9 := Tryz.underlying9
  a9 := Tryz.isAgg9
  z9 := Tryz.sizeOf9
  v9 := Tryz.zeroValue9
  t21 := Tryz.underlying21
  a21 := Tryz.isAgg21
  z21 := Tryz.sizeOf21
  v21 := Tryz.zeroValue21
  t46 := Tryz.underlying69
  a46 := Tryz.isAgg69
  z46 := Tryz.sizeOf69
  v46 := Tryz.zeroValue69
  t105 := Tryz.underlying206
  a105 := Tryz.isAgg206
  z105 := Tryz.sizeOf206
  v105 := Tryz.zeroValue206
  t119 := Tryz.underlying217
  a119 := Tryz.isAgg217
  z119 := Tryz.sizeOf217
  t138 := Tryz.underlying219
  a138 := Tryz.isAgg219
  z138 := Tryz.sizeOf219
  v138 := Tryz.zeroValue219
  t139 := Tryz.underlying220
  a139 := Tryz.isAgg220
  z139 := Tryz.sizeOf220
  v139 := Tryz.zeroValue220
  g3 := by kernel_rfl
  g4 := by kernel_rfl }
open Go.RowKit Go.Lib in
theorem utf8_DecodeRuneInString (s : ByteArray) (w : World) (hT : Lib.Utf8Tabs 0 1 w) :
    Calls Tryz.prog 165 #[.string s] w fun e w' => e = .returned (.tuple #[.int .i32 (Lib.decodeGo s).1, .int .i64 (Lib.decodeGo s).2]) ∧ Below w.heap.size w w' := Any.utf8_DecodeRuneInString lays197 s w hT
end Go.Proofs.YtpkonagjnfphkaaGreatDoor
namespace Go.Proofs.YtpkonagjnfphkaaGreatDoor
open Go.RowKit Cb
abbrev Tabs (w : World) : Prop := Lib.Utf8Tabs 0 1 w
theorem Tabs.up {w w' : World} (h : Tabs w) (hb : Below w.heap.size w w') : Tabs w' :=
  ⟨fun c hc => cell_up hb (h.1 c hc), fun i hi => ⟨cell_up hb (h.2 i hi).1, cell_up hb (h.2 i hi).2⟩⟩
theorem get_ext (s : ByteArray) (p i : Nat) (hp : p ≤ s.size) : (s.extract p s.size).get! i = s.get! (p + i) := by
  by_cases h : p + i < s.size
  · rw [Utf8W.get!_of_lt _ _ (by simp; omega), Utf8W.get!_of_lt _ _ h]
    simp [ByteArray.getElem_eq_getElem_data, ByteArray.data_extract]
  · have e : ∀ (t : ByteArray) (j : Nat), ¬ j < t.size → t.get! j = default := fun t j hj => by
      show t.data[j]! = _; exact getElem!_neg t.data j hj
    rw [e _ _ (by simp; omega), e _ _ h]
theorem dec_ext (s : ByteArray) (p : Nat) (hp : p < s.size) : Lib.decodeGo (s.extract p s.size) = Utf8.decode s p := by
  have hsz : (s.extract p s.size).size = s.size - p := by simp
  unfold Lib.decodeGo; rw [if_neg (by omega), Lib.decode_at, Lib.decode_at, hsz]
  have h := fun i => get_ext s p i (by omega)
  rw [h, h, h, h]; rfl
theorem runes_next {s : ByteArray} {n p q k : Nat} {fb kb : Bool} (hi : runes s = (n + (runesAt s p).1, fb && (runesAt s p).2)) (hst : runesAt s p = ((runesAt s (p + q)).1 + 1, decide (k ≠ 0) && (runesAt s (p + q)).2)) (hk : (k ≠ 0) ↔ kb = true) :
    runes s = ((n + 1) + (runesAt s (p + q)).1, (fb && kb) && (runesAt s (p + q)).2) := by
  have e : decide (k ≠ 0) = kb := by rw [Bool.eq_iff_iff, decide_eq_true_eq]; exact hk
  rw [hi, hst, e]; refine Prod.ext (by simp only; omega) (by simp only [Bool.and_assoc])
theorem runes_c (s : ByteArray) (w : World) (hs : s.size ≤ 9223372036854775807) (hT : Tabs w) : Calls Tryz.prog 147 #[.string s] w (Ret (.tuple #[.int .i64 (runes s).1, .bool (runes s).2]) w) := by
  obtain ⟨R, hR⟩ : ∃ R, runes s = R := ⟨_, rfl⟩; have HR := Lib.hid hR; rw [hR]; have hit : (w.alloc (.stringIter s 0)).heap[w.heap.size]? = some (.stringIter s 0) := heap_alloc_new w _; have hb0 := below_alloc w (.stringIter s 0); clear hR; go_enter Tryz.func147, Tryz.ntmps147; go_wp2; change Code.wp _ _ _ _ (w.alloc (.stringIter s 0))
  go_loopw [2, 3] (fun vn vf wr => ∃ (n p : Nat) (fb : Bool), vn = .int .i64 n ∧ vf = .bool fb ∧ p ≤ s.size ∧ n ≤ p ∧ wr.heap[w.heap.size]? = some (.stringIter s p) ∧ Below w.heap.size w wr ∧ RowKit.Hid (runes s = (n + (runesAt s p).1, fb && (runesAt s p).2))) (fun _ _ wr => s.size - wr.iterPos w.heap.size)
  case atStart => exact ⟨0, 0, true, rfl, rfl, Nat.zero_le _, Nat.le_refl _, hit, hb0, Lib.hid (by simp [runes])⟩
  case round =>
    clear hit hb0; obtain ⟨n, p, fb, rfl, rfl, hp, hn, hit, hB, HI⟩ := hrel; by_cases hlt : p < s.size
    · have hnx := fun ty => Lib.run_next_any_at (P := Tryz.prog) wr w.heap.size s p ty hit hlt
      have hst := step1_le s p hlt; have hsp := step1_pos s p; have hw := dec_wide s p; have hf := dec_fine s p
      have hD := fun w1 (h1 : Tabs w1) => utf8_DecodeRuneInString (s.extract p s.size) w1 h1
      rw [dec_ext s p hlt] at hD
      have hit2 := fun pos => Lib.iterAt_heap wr w.heap.size s p pos hit
      have hpos := iterPos_of hit; have HST := Lib.hid (runesAt_step s p hlt); obtain ⟨q, hq⟩ : ∃ q, step1 s p = q := ⟨_, rfl⟩; obtain ⟨k, hk⟩ : ∃ k, rune1 s p = k := ⟨_, rfl⟩; rw [hq] at hst hsp hw HST; rw [hk] at hf HST; rw [hw] at hnx hD hf; obtain ⟨c, hc⟩ : ∃ c, (Utf8.decode s p).1 = c := ⟨_, rfl⟩; rw [hc] at hnx hD hf; have HD := Lib.hid hD; have HF := Lib.hid hf; have HK := Lib.hid hk
      have hTl : ∀ b o, b < w.heap.size → (wr.iterAt w.heap.size s (p + q)).cell? ⟨b, o, none⟩ = wr.cell? ⟨b, o, none⟩ := fun b o hb => by
        unfold World.cell?; rw [Lib.iterAt_other _ _ _ _ _ (by show b ≠ w.heap.size; omega)]
      have hB2 : Below w.heap.size w (wr.iterAt w.heap.size s (p + q)) := hB.trans ⟨rfl, rfl, rfl, by rw [Lib.iterAt_size]; exact Nat.le_refl _, fun b hb => Lib.iterAt_other _ _ _ _ _ (by omega)⟩; have hT2 := hT.up hB2; have hit3 := hit2 (p + q); obtain ⟨W2, hW2⟩ : ∃ W2, wr.iterAt w.heap.size s (p + q) = W2 := ⟨_, rfl⟩; rw [hW2] at hnx hB2 hT2 hit3
      have hpI : (p : Int) ≤ (s.size : Int) := by omega
      have HPOS := Lib.hid hpos; clear hD hf hk hq hc hw hTl hW2 hit2 hB hit hpos
      cases fb <;> by_cases h1 : c = 65533 <;> by_cases h2 : 1 < q
      · have d1 : ((c : Int) != 65533) = false := by simp; omega
        have d2 : decide ((1 : Int) < (q : Int)) = true := by simp; omega
        have HN := Lib.hid (runes_next (kb := true) HI.out HST.out (by rw [← HF.out]; simp; omega)); clear h1 h2
        go_wp2_with (go_at_call 165; refine (HD.out _ hT2).mono ?_; rintro en w5 ⟨rfl, hb5⟩)
        have hit5 := (hb5.block _ (Array.getElem?_eq_some_iff.1 hit3).1).trans hit3
        go_roundw
        case rel => exact ⟨n + 1, p + q, false, by go_num, rfl, hst, by omega, hit5, below_up hB2 hb5, HN⟩
        case measure => rw [HPOS.out, iterPos_of hit5]; omega
      · have d1 : ((c : Int) != 65533) = false := by simp; omega
        have d2 : decide ((1 : Int) < (q : Int)) = false := by simp; omega
        have HN := Lib.hid (runes_next (kb := false) HI.out HST.out (by rw [← HF.out]; simp; omega)); clear h1 h2
        go_wp2_with (go_at_call 165; refine (HD.out _ hT2).mono ?_; rintro en w5 ⟨rfl, hb5⟩)
        have hit5 := (hb5.block _ (Array.getElem?_eq_some_iff.1 hit3).1).trans hit3
        go_roundw
        case rel => exact ⟨n + 1, p + q, false, by go_num, rfl, hst, by omega, hit5, below_up hB2 hb5, HN⟩
        case measure => rw [HPOS.out, iterPos_of hit5]; omega
      · have d1 : ((c : Int) != 65533) = true := by simp; omega
        have d2 : decide ((1 : Int) < (q : Int)) = true := by simp; omega
        have HN := Lib.hid (runes_next (kb := true) HI.out HST.out (by rw [← HF.out]; simp; omega)); clear h1 h2
        go_wp2_with (go_at_call 165; refine (HD.out _ hT2).mono ?_; rintro en w5 ⟨rfl, hb5⟩)
        have hit5 := (hb5.block _ (Array.getElem?_eq_some_iff.1 hit3).1).trans hit3
        go_roundw
        case rel => exact ⟨n + 1, p + q, false, by go_num, rfl, hst, by omega, hit5, below_up hB2 hb5, HN⟩
        case measure => rw [HPOS.out, iterPos_of hit5]; omega
      · have d1 : ((c : Int) != 65533) = true := by simp; omega
        have d2 : decide ((1 : Int) < (q : Int)) = false := by simp; omega
        have HN := Lib.hid (runes_next (kb := true) HI.out HST.out (by rw [← HF.out]; simp; omega)); clear h1 h2
        go_wp2_with (go_at_call 165; refine (HD.out _ hT2).mono ?_; rintro en w5 ⟨rfl, hb5⟩)
        have hit5 := (hb5.block _ (Array.getElem?_eq_some_iff.1 hit3).1).trans hit3
        go_roundw
        case rel => exact ⟨n + 1, p + q, false, by go_num, rfl, hst, by omega, hit5, below_up hB2 hb5, HN⟩
        case measure => rw [HPOS.out, iterPos_of hit5]; omega
      · have d1 : ((c : Int) != 65533) = false := by simp; omega
        have d2 : decide ((1 : Int) < (q : Int)) = true := by simp; omega
        have HN := Lib.hid (runes_next (kb := true) HI.out HST.out (by rw [← HF.out]; simp; omega)); clear h1 h2
        go_wp2_with (go_at_call 165; refine (HD.out _ hT2).mono ?_; rintro en w5 ⟨rfl, hb5⟩)
        have hit5 := (hb5.block _ (Array.getElem?_eq_some_iff.1 hit3).1).trans hit3
        go_roundw
        case rel => exact ⟨n + 1, p + q, true, by go_num, rfl, hst, by omega, hit5, below_up hB2 hb5, HN⟩
        case measure => rw [HPOS.out, iterPos_of hit5]; omega
      · have d1 : ((c : Int) != 65533) = false := by simp; omega
        have d2 : decide ((1 : Int) < (q : Int)) = false := by simp; omega
        have HN := Lib.hid (runes_next (kb := false) HI.out HST.out (by rw [← HF.out]; simp; omega)); clear h1 h2
        go_wp2_with (go_at_call 165; refine (HD.out _ hT2).mono ?_; rintro en w5 ⟨rfl, hb5⟩)
        have hit5 := (hb5.block _ (Array.getElem?_eq_some_iff.1 hit3).1).trans hit3
        go_roundw
        case rel => exact ⟨n + 1, p + q, false, by go_num, rfl, hst, by omega, hit5, below_up hB2 hb5, HN⟩
        case measure => rw [HPOS.out, iterPos_of hit5]; omega
      · have d1 : ((c : Int) != 65533) = true := by simp; omega
        have d2 : decide ((1 : Int) < (q : Int)) = true := by simp; omega
        have HN := Lib.hid (runes_next (kb := true) HI.out HST.out (by rw [← HF.out]; simp; omega)); clear h1 h2
        go_wp2_with (go_at_call 165; refine (HD.out _ hT2).mono ?_; rintro en w5 ⟨rfl, hb5⟩)
        have hit5 := (hb5.block _ (Array.getElem?_eq_some_iff.1 hit3).1).trans hit3
        go_roundw
        case rel => exact ⟨n + 1, p + q, true, by go_num, rfl, hst, by omega, hit5, below_up hB2 hb5, HN⟩
        case measure => rw [HPOS.out, iterPos_of hit5]; omega
      · have d1 : ((c : Int) != 65533) = true := by simp; omega
        have d2 : decide ((1 : Int) < (q : Int)) = false := by simp; omega
        have HN := Lib.hid (runes_next (kb := true) HI.out HST.out (by rw [← HF.out]; simp; omega)); clear h1 h2
        go_wp2_with (go_at_call 165; refine (HD.out _ hT2).mono ?_; rintro en w5 ⟨rfl, hb5⟩)
        have hit5 := (hb5.block _ (Array.getElem?_eq_some_iff.1 hit3).1).trans hit3
        go_roundw
        case rel => exact ⟨n + 1, p + q, true, by go_num, rfl, hst, by omega, hit5, below_up hB2 hb5, HN⟩
        case measure => rw [HPOS.out, iterPos_of hit5]; omega
    · have hnx := fun ty => Lib.run_next_end_at (P := Tryz.prog) wr w.heap.size s p ty hit hlt
      have he := runesAt_end s p hlt; have HI2 := HI.out; rw [he] at HI2; have HI3 := Lib.hid HI2; clear HI2 he; go_wp2
      go_ret2
      exact ⟨by rw [← HR.out, HI3.out]; simp, hB⟩
namespace Cb
mutual
def bytesOf : It → List UInt8
  | .mk k n b s l => if k = 1 then headB 0 n else if k = 2 then headB 2 b.length ++ b else if k = 3 then headB 3 s.size ++ s.data.toList else if k = 5 then [UInt8.ofNat (244 + n).toNat] else if k = 6 then [246] else headB 4 l.length ++ bytesL l
def bytesL : List It → List UInt8
  | [] => []
  | x :: l => bytesOf x ++ bytesL l
end
mutual
def depth : It → Nat
  | .mk _ _ _ _ l => depthL l + 1
def depthL : List It → Nat
  | [] => 0
  | x :: l => max (depth x) (depthL l)
end
def ownB (x : It) : Bool := decide (1 ≤ x.k ∧ x.k ≤ 6) && (bareB x && (decide (x.k ≠ 5 ∨ x.n ≤ 1) && (runes x.s).2))
mutual
def rightB : It → Bool
  | .mk k n b s l => ownB (.mk k n b s l) && rightL l
def rightL : List It → Bool
  | [] => true
  | x :: l => rightB x && rightL l
end
theorem rightB_eq (x : It) : rightB x = (ownB x && rightL x.l) := by cases x; rfl
theorem depth_eq (x : It) : depth x = depthL x.l + 1 := by cases x; rfl
theorem bytesOf_eq (x : It) : bytesOf x = if x.k = 1 then headB 0 x.n else if x.k = 2 then headB 2 x.b.length ++ x.b else if x.k = 3 then headB 3 x.s.size ++ x.s.data.toList else if x.k = 5 then [UInt8.ofNat (244 + x.n).toNat] else if x.k = 6 then [246] else headB 4 x.l.length ++ bytesL x.l := by cases x; rfl
theorem rightL_all : ∀ l : List It, rightL l = l.all rightB
  | [] => rfl
  | x :: l => by simp [rightL, rightL_all l]
theorem rightL_mem {l : List It} (h : rightL l = true) {x : It} (hx : x ∈ l) : rightB x = true := by
  rw [rightL_all, List.all_eq_true] at h; exact h x hx
theorem bytesL_eq : ∀ l : List It, bytesL l = (l.map bytesOf).flatten
  | [] => rfl
  | x :: l => by simp [bytesL, bytesL_eq l]
theorem bytesL_app : ∀ l m : List It, bytesL (l ++ m) = bytesL l ++ bytesL m
  | [], m => by simp [bytesL]
  | x :: l, m => by simp [bytesL, bytesL_app l m]
mutual
theorem depth_cnt : ∀ x : It, depth x ≤ cnt x
  | .mk k n b s l => by have := depthL_cnt l; simp only [depth, cnt]; omega
theorem depthL_cnt : ∀ l : List It, depthL l ≤ cntL l
  | [] => by simp [depthL]
  | x :: l => by have := depth_cnt x; have := depthL_cnt l; simp only [depthL, cntL]; omega
end
mutual
theorem bytes_le : ∀ x : It, (bytesOf x).length ≤ 9 * cnt x
  | .mk k n b s l => by
    have h := bytesL_le l; have h0 := headB_len 0 n; have h2 := headB_len 2 b.length; have h3 := headB_len 3 s.size; have h4 := headB_len 4 l.length; have hs : s.data.toList.length = s.size := Array.length_toList; simp only [bytesOf, cnt]
    repeat' split
    all_goals (try simp only [List.length_append, List.length_cons, List.length_nil, hs])
    all_goals omega
theorem bytesL_le : ∀ l : List It, (bytesL l).length ≤ 9 * cntL l
  | [] => by simp [bytesL]
  | x :: l => by have := bytes_le x; have := bytesL_le l; simp only [bytesL, cntL, List.length_append]; omega
end
def chk (x : It) : Int := if rightB x = false then 2 else if 8 < depth x then 120 else if 65536 < (bytesOf x).length then 3 else 0
end Cb
namespace Cb
abbrev noS : ByteArray := ⟨#[]⟩
def listP (f : List UInt8 → Except Int (It × Nat)) : Nat → List UInt8 → Except Int (List It × Nat)
  | 0, _ => .ok ([], 0)
  | n + 1, b => match f b with
    | .error e => .error e
    | .ok (x, k) => match listP f n (b.drop k) with
      | .error e => .error e
      | .ok (l, j) => .ok (x :: l, k + j)
def simpleP (b : List UInt8) : Option It :=
  match b with
  | f :: _ => if f = 244 then some (.mk 5 0 [] noS []) else if f = 245 then some (.mk 5 1 [] noS []) else if f = 246 then some (.mk 6 0 [] noS []) else none
  | [] => none
def bodyP (f : List UInt8 → Except Int (It × Nat)) (m n : Int) (k : Nat) (r : List UInt8) : Except Int (It × Nat) :=
  if m = 0 then .ok (.mk 1 n [] noS [], k)
  else if m = 2 then (if n ≤ r.length then .ok (.mk 2 0 (r.take n.toNat) noS [], k + n.toNat) else .error 121)
  else if m = 3 then (if n ≤ r.length ∧ (runes ⟨(r.take n.toNat).toArray⟩).2 = true then .ok (.mk 3 0 [] ⟨(r.take n.toNat).toArray⟩ [], k + n.toNat) else .error 121)
  else if m = 4 then (match listP f n.toNat r with
    | .error e => .error e
    | .ok (l, j) => .ok (.mk 4 0 [] noS l, k + j))
  else .error 121
def itemP : Nat → List UInt8 → Except Int (It × Nat)
  | 0, _ => .error 120
  | d + 1, b => match simpleP b with
    | some x => .ok (x, 1)
    | none => match headP b with
      | none => .error 121
      | some (m, n, k) => bodyP (itemP d) m n k (b.drop k)
end Cb
theorem hd_nil (w : World) (D : Nat) (v : Value) (h : RdAt w D v []) :
    Calls Tryz.prog 146 #[.pointer (some ⟨D, 0, none⟩)] w (HdE [] w D) := by
  obtain ⟨a, c, rfl⟩ := h.sl.len; have c0 := h.box.cell (i := 0) (v := .slice a 0 c) rfl; have hty := take_no w D _ [] 1 h (by simp) (by simp); go_enter Tryz.func146, Tryz.ntmps146
  go_wp2_with (go_at_call 145; refine hty.mono ?_; rintro en w1 ⟨rfl, rfl⟩)
  exact ⟨rfl, But.refl _ _, rfl⟩
theorem hd_far (w : World) (D : Nat) (v : Value) (f : UInt8) (r : List UInt8) (h : RdAt w D v (f :: r)) (hbl : (f :: r).length ≤ 1000000) (hl : 28 ≤ f.toNat % 32) :
    Calls Tryz.prog 146 #[.pointer (some ⟨D, 0, none⟩)] w (HdE (f :: r) w D) := by
  obtain ⟨a, c, rfl⟩ := h.sl.len; have c0 := h.box.cell (i := 0) (v := .slice a (f :: r).length c) rfl; have hty := take_yes w D _ (f :: r) 1 h (by simp) hbl; have hF := f.toNat_lt
  have HP := Lib.hid (show headP (f :: r) = none by
    simp only [headP, headN, if_neg (show ¬ f.toNat % 32 < 24 by omega), if_pos hl])
  rw [show (f :: r).take 1 = [f] by simp, show (f :: r).drop 1 = r by simp] at hty; have hd1 : decide (24 ≤ (f.toNat : Int) % 32) = true := decide_eq_true (by omega); have hd2 : decide ((f.toNat : Int) % 32 < 28) = false := decide_eq_false (by omega)
  have hi1 : (24 : Int) ≤ (f.toNat : Int) % 32 := by omega
  have hi2 : ¬ (f.toNat : Int) % 32 < 28 := by omega
  generalize hX : f :: r = b at *; generalize hL : b.length = L at *; go_enter Tryz.func146, Tryz.ntmps146
  go_wp2_with (first
    | (go_at_call 145; refine hty.mono ?_; rintro en w1 ⟨u, v', rfl, ho, hR, hb⟩; obtain ⟨au, cu, rfl⟩ := own_slice ho; obtain ⟨g, off, rfl, hcu⟩ := (Sl.of_own ho).cellAt (k := 0) (by decide) (by decide); simp only [Nat.add_zero] at hcu; rw [show (by8 [f])[0]? = some (.int .u8 f.toNat) from rfl] at hcu)
    | (go_at_call 125; with_reducible refine (must_no _ _).mono ?_; rintro en w6 ⟨rfl, rfl⟩))
  exact ⟨rfl, hb, by rw [HP.out]⟩
theorem hd_short0 (w : World) (D : Nat) (v : Value) (f : UInt8) (r : List UInt8) (h : RdAt w D v (f :: r)) (hbl : (f :: r).length ≤ 1000000) (hl : f.toNat % 32 = 24) (hs : r.length < 1) :
    Calls Tryz.prog 146 #[.pointer (some ⟨D, 0, none⟩)] w (HdE (f :: r) w D) := by
  obtain ⟨a, c, rfl⟩ := h.sl.len; have c0 := h.box.cell (i := 0) (v := .slice a (f :: r).length c) rfl; have hty := take_yes w D _ (f :: r) 1 h (by simp) hbl; have hF := f.toNat_lt
  have HP := Lib.hid (show headP (f :: r) = none by
    simp only [headP, headN, hl, show ¬ (24 < 24) by decide, show ¬ (28 ≤ 24) by decide, if_false, show 2 ^ (24 - 24) = 1 by decide, if_pos hs])
  rw [show (f :: r).take 1 = [f] by simp, show (f :: r).drop 1 = r by simp, show ((1 : Nat) : Int) = 1 from rfl] at hty
  have hN : (f.toNat : Int) % 32 = 24 := by omega
  have hrl : r.length ≤ 1000000 := by simp at hbl; omega
  have HS := Lib.hid hs; clear hs hl; generalize hX : f :: r = b at *; generalize hL : b.length = L at *; go_enter Tryz.func146, Tryz.ntmps146
  go_wp2_with (first
    | (go_at_call 145; with_reducible refine hty.mono ?_; rintro en w1 ⟨u, v', rfl, ho, hR, hb⟩; obtain ⟨au, cu, rfl⟩ := own_slice ho; obtain ⟨g, off, rfl, hcu⟩ := (Sl.of_own ho).cellAt (k := 0) (by decide) (by decide); simp only [Nat.add_zero] at hcu; rw [show (by8 [f])[0]? = some (.int .u8 f.toNat) from rfl] at hcu; have htn := take_no w1 D _ r 1 hR (by have := HS.out; omega) hrl; have c1 := hR.box.cell (i := 0) rfl)
    | (go_at_call 145; with_reducible refine htn.mono ?_; rintro en w2 ⟨rfl, rfl⟩)
    | (go_at_call 125; with_reducible refine (must_yes _ _).mono ?_; rintro en w6 ⟨rfl, rfl⟩))
  exact ⟨rfl, hb, by rw [HP.out]⟩
theorem hd_short1 (w : World) (D : Nat) (v : Value) (f : UInt8) (r : List UInt8) (h : RdAt w D v (f :: r)) (hbl : (f :: r).length ≤ 1000000) (hl : f.toNat % 32 = 25) (hs : r.length < 2) :
    Calls Tryz.prog 146 #[.pointer (some ⟨D, 0, none⟩)] w (HdE (f :: r) w D) := by
  obtain ⟨a, c, rfl⟩ := h.sl.len; have c0 := h.box.cell (i := 0) (v := .slice a (f :: r).length c) rfl; have hty := take_yes w D _ (f :: r) 1 h (by simp) hbl; have hF := f.toNat_lt
  have HP := Lib.hid (show headP (f :: r) = none by
    simp only [headP, headN, hl, show ¬ (25 < 24) by decide, show ¬ (28 ≤ 25) by decide, if_false, show 2 ^ (25 - 24) = 2 by decide, if_pos hs])
  rw [show (f :: r).take 1 = [f] by simp, show (f :: r).drop 1 = r by simp, show ((1 : Nat) : Int) = 1 from rfl] at hty
  have hN : (f.toNat : Int) % 32 = 25 := by omega
  have hrl : r.length ≤ 1000000 := by simp at hbl; omega
  have HS := Lib.hid hs; clear hs hl; generalize hX : f :: r = b at *; generalize hL : b.length = L at *; go_enter Tryz.func146, Tryz.ntmps146
  go_wp2_with (first
    | (go_at_call 145; with_reducible refine hty.mono ?_; rintro en w1 ⟨u, v', rfl, ho, hR, hb⟩; obtain ⟨au, cu, rfl⟩ := own_slice ho; obtain ⟨g, off, rfl, hcu⟩ := (Sl.of_own ho).cellAt (k := 0) (by decide) (by decide); simp only [Nat.add_zero] at hcu; rw [show (by8 [f])[0]? = some (.int .u8 f.toNat) from rfl] at hcu; have htn := take_no w1 D _ r 2 hR (by have := HS.out; omega) hrl; have c1 := hR.box.cell (i := 0) rfl)
    | (go_at_call 145; with_reducible refine htn.mono ?_; rintro en w2 ⟨rfl, rfl⟩)
    | (go_at_call 125; with_reducible refine (must_yes _ _).mono ?_; rintro en w6 ⟨rfl, rfl⟩))
  exact ⟨rfl, hb, by rw [HP.out]⟩
theorem hd_short2 (w : World) (D : Nat) (v : Value) (f : UInt8) (r : List UInt8) (h : RdAt w D v (f :: r)) (hbl : (f :: r).length ≤ 1000000) (hl : f.toNat % 32 = 26) (hs : r.length < 4) :
    Calls Tryz.prog 146 #[.pointer (some ⟨D, 0, none⟩)] w (HdE (f :: r) w D) := by
  obtain ⟨a, c, rfl⟩ := h.sl.len; have c0 := h.box.cell (i := 0) (v := .slice a (f :: r).length c) rfl; have hty := take_yes w D _ (f :: r) 1 h (by simp) hbl; have hF := f.toNat_lt
  have HP := Lib.hid (show headP (f :: r) = none by
    simp only [headP, headN, hl, show ¬ (26 < 24) by decide, show ¬ (28 ≤ 26) by decide, if_false, show 2 ^ (26 - 24) = 4 by decide, if_pos hs])
  rw [show (f :: r).take 1 = [f] by simp, show (f :: r).drop 1 = r by simp, show ((1 : Nat) : Int) = 1 from rfl] at hty
  have hN : (f.toNat : Int) % 32 = 26 := by omega
  have hrl : r.length ≤ 1000000 := by simp at hbl; omega
  have HS := Lib.hid hs; clear hs hl; generalize hX : f :: r = b at *; generalize hL : b.length = L at *; go_enter Tryz.func146, Tryz.ntmps146
  go_wp2_with (first
    | (go_at_call 145; with_reducible refine hty.mono ?_; rintro en w1 ⟨u, v', rfl, ho, hR, hb⟩; obtain ⟨au, cu, rfl⟩ := own_slice ho; obtain ⟨g, off, rfl, hcu⟩ := (Sl.of_own ho).cellAt (k := 0) (by decide) (by decide); simp only [Nat.add_zero] at hcu; rw [show (by8 [f])[0]? = some (.int .u8 f.toNat) from rfl] at hcu; have htn := take_no w1 D _ r 4 hR (by have := HS.out; omega) hrl; have c1 := hR.box.cell (i := 0) rfl)
    | (go_at_call 145; with_reducible refine htn.mono ?_; rintro en w2 ⟨rfl, rfl⟩)
    | (go_at_call 125; with_reducible refine (must_yes _ _).mono ?_; rintro en w6 ⟨rfl, rfl⟩))
  exact ⟨rfl, hb, by rw [HP.out]⟩
theorem hd_short3 (w : World) (D : Nat) (v : Value) (f : UInt8) (r : List UInt8) (h : RdAt w D v (f :: r)) (hbl : (f :: r).length ≤ 1000000) (hl : f.toNat % 32 = 27) (hs : r.length < 8) :
    Calls Tryz.prog 146 #[.pointer (some ⟨D, 0, none⟩)] w (HdE (f :: r) w D) := by
  obtain ⟨a, c, rfl⟩ := h.sl.len; have c0 := h.box.cell (i := 0) (v := .slice a (f :: r).length c) rfl; have hty := take_yes w D _ (f :: r) 1 h (by simp) hbl; have hF := f.toNat_lt
  have HP := Lib.hid (show headP (f :: r) = none by
    simp only [headP, headN, hl, show ¬ (27 < 24) by decide, show ¬ (28 ≤ 27) by decide, if_false, show 2 ^ (27 - 24) = 8 by decide, if_pos hs])
  rw [show (f :: r).take 1 = [f] by simp, show (f :: r).drop 1 = r by simp, show ((1 : Nat) : Int) = 1 from rfl] at hty
  have hN : (f.toNat : Int) % 32 = 27 := by omega
  have hrl : r.length ≤ 1000000 := by simp at hbl; omega
  have HS := Lib.hid hs; clear hs hl; generalize hX : f :: r = b at *; generalize hL : b.length = L at *; go_enter Tryz.func146, Tryz.ntmps146
  go_wp2_with (first
    | (go_at_call 145; with_reducible refine hty.mono ?_; rintro en w1 ⟨u, v', rfl, ho, hR, hb⟩; obtain ⟨au, cu, rfl⟩ := own_slice ho; obtain ⟨g, off, rfl, hcu⟩ := (Sl.of_own ho).cellAt (k := 0) (by decide) (by decide); simp only [Nat.add_zero] at hcu; rw [show (by8 [f])[0]? = some (.int .u8 f.toNat) from rfl] at hcu; have htn := take_no w1 D _ r 8 hR (by have := HS.out; omega) hrl; have c1 := hR.box.cell (i := 0) rfl)
    | (go_at_call 145; with_reducible refine htn.mono ?_; rintro en w2 ⟨rfl, rfl⟩)
    | (go_at_call 125; with_reducible refine (must_yes _ _).mono ?_; rintro en w6 ⟨rfl, rfl⟩))
  exact ⟨rfl, hb, by rw [HP.out]⟩
end Go.Proofs.YtpkonagjnfphkaaGreatDoor
