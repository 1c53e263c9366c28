/-
  CbU, Utf8, CbR, CbJ: several texts in one (bundle.py).
-/
import Derived.Lib.DecodeN
import Derived.Test.YtjenohodgpmchaaDoorCbK01
import Derived.Shelf.Unicode.DecodeAny
import Derived.Test.YtjenohodgpmchaaDoorCbK10
import Derived.Lib.OthersKept
import Derived.Test.YtjenohodgpmchaaDoorCbK05
import Derived.Test.YtjenohodgpmchaaDoorCbK11
namespace Go.Proofs.YtjenohodgpmchaaDoor
open Go.Lib
set_option linter.unusedVariables false
namespace Cb
/-- How many bytes the first rune has; 0: it is not right. (n: how many bytes there are.) -/
def rune1N (n b0 b1 b2 b3 : Nat) : Nat :=
  if b0 ≤ 127 then 1
  else if 194 ≤ b0 ∧ b0 ≤ 223 then (if 1 < n ∧ 128 ≤ b1 ∧ b1 ≤ 191 then 2 else 0)
  else if b0 = 224 then (if 1 < n ∧ 160 ≤ b1 ∧ b1 ≤ 191 ∧ 2 < n ∧ 128 ≤ b2 ∧ b2 ≤ 191 then 3 else 0)
  else if b0 = 237 then (if 1 < n ∧ 128 ≤ b1 ∧ b1 ≤ 159 ∧ 2 < n ∧ 128 ≤ b2 ∧ b2 ≤ 191 then 3 else 0)
  else if 225 ≤ b0 ∧ b0 ≤ 239 then (if 1 < n ∧ 128 ≤ b1 ∧ b1 ≤ 191 ∧ 2 < n ∧ 128 ≤ b2 ∧ b2 ≤ 191 then 3 else 0)
  else if b0 = 240 then (if 1 < n ∧ 144 ≤ b1 ∧ b1 ≤ 191 ∧ 2 < n ∧ 128 ≤ b2 ∧ b2 ≤ 191 ∧ 3 < n ∧ 128 ≤ b3 ∧ b3 ≤ 191 then 4 else 0)
  else if b0 = 244 then (if 1 < n ∧ 128 ≤ b1 ∧ b1 ≤ 143 ∧ 2 < n ∧ 128 ≤ b2 ∧ b2 ≤ 191 ∧ 3 < n ∧ 128 ≤ b3 ∧ b3 ≤ 191 then 4 else 0)
  else if 241 ≤ b0 ∧ b0 ≤ 243 then (if 1 < n ∧ 128 ≤ b1 ∧ b1 ≤ 191 ∧ 2 < n ∧ 128 ≤ b2 ∧ b2 ≤ 191 ∧ 3 < n ∧ 128 ≤ b3 ∧ b3 ≤ 191 then 4 else 0)
  else 0
theorem b0_cases (b0 : Nat) (h0 : b0 < 256) : b0 ≤ 127 ∨ (128 ≤ b0 ∧ b0 ≤ 193) ∨ (194 ≤ b0 ∧ b0 ≤ 223) ∨ b0 = 224 ∨ (225 ≤ b0 ∧ b0 ≤ 236) ∨ b0 = 237 ∨ (238 ≤ b0 ∧ b0 ≤ 239) ∨ b0 = 240 ∨ (241 ≤ b0 ∧ b0 ≤ 243) ∨ b0 = 244 ∨ 245 ≤ b0 := by omega
set_option maxHeartbeats 4000000 in
theorem decode_both (n b0 b1 b2 b3 : Nat) (h0 : b0 < 256) (h1 : b1 < 256) (h2 : b2 < 256) (h3 : b3 < 256) : ∃ d, decodeN n b0 b1 b2 b3 = d ∧ ∃ r, rune1N n b0 b1 b2 b3 = r ∧ (r = 0 ∧ d.2 = 1 ∨ 0 < r ∧ d.2 = r) ∧ ((d.1 ≠ 65533 ∨ 1 < d.2) ↔ r ≠ 0) := by
  refine ⟨_, rfl, _, rfl, ?_⟩
  unfold decodeN rune1N
  rcases b0_cases b0 h0 with h | h | h | h | h | h | h | h | h | h | h
  all_goals (repeat' (first | rw [if_pos (by omega)] | rw [if_neg (by omega)] | split))
  all_goals (dsimp only; omega)
theorem decode_wide (n b0 b1 b2 b3 : Nat) (h0 : b0 < 256) (h1 : b1 < 256) (h2 : b2 < 256) (h3 : b3 < 256) : (decodeN n b0 b1 b2 b3).2 = if rune1N n b0 b1 b2 b3 = 0 then 1 else rune1N n b0 b1 b2 b3 := by
  obtain ⟨d, hd, r, hr, h, _⟩ := decode_both n b0 b1 b2 b3 h0 h1 h2 h3
  rw [hd, hr]; split <;> omega
theorem decode_fine (n b0 b1 b2 b3 : Nat) (h0 : b0 < 256) (h1 : b1 < 256) (h2 : b2 < 256) (h3 : b3 < 256) : ((decodeN n b0 b1 b2 b3).1 ≠ 65533 ∨ 1 < (decodeN n b0 b1 b2 b3).2) ↔ rune1N n b0 b1 b2 b3 ≠ 0 := by
  obtain ⟨d, hd, r, hr, _, h⟩ := decode_both n b0 b1 b2 b3 h0 h1 h2 h3
  rw [hd, hr]; exact h
/-- .. at a place of a text. -/
def rune1 (s : ByteArray) (p : Nat) : Nat := rune1N (s.size - p) (s.get! p).toNat (s.get! (p + 1)).toNat (s.get! (p + 2)).toNat (s.get! (p + 3)).toNat
def step1 (s : ByteArray) (p : Nat) : Nat := if rune1 s p = 0 then 1 else rune1 s p
theorem dec_wide (s : ByteArray) (p : Nat) : (Utf8.decode s p).2 = step1 s p := by
  rw [decode_at]; exact decode_wide _ _ _ _ _ (UInt8.toNat_lt _) (UInt8.toNat_lt _) (UInt8.toNat_lt _) (UInt8.toNat_lt _)
theorem dec_fine (s : ByteArray) (p : Nat) : ((Utf8.decode s p).1 ≠ 65533 ∨ 1 < (Utf8.decode s p).2) ↔ rune1 s p ≠ 0 := by
  rw [decode_at]; exact decode_fine _ _ _ _ _ (UInt8.toNat_lt _) (UInt8.toNat_lt _) (UInt8.toNat_lt _) (UInt8.toNat_lt _)
theorem step1_pos (s : ByteArray) (p : Nat) : 1 ≤ step1 s p := by unfold step1; split <;> omega
theorem rune1N_le (n b0 b1 b2 b3 : Nat) (hn : 1 ≤ n) : rune1N n b0 b1 b2 b3 ≤ n := by
  unfold rune1N
  repeat' split
  all_goals omega
theorem step1_le (s : ByteArray) (p : Nat) (hp : p < s.size) : p + step1 s p ≤ s.size := by
  have := rune1N_le (s.size - p) (s.get! p).toNat (s.get! (p + 1)).toNat (s.get! (p + 2)).toNat (s.get! (p + 3)).toNat (by omega)
  unfold step1 rune1; split <;> omega
/-- From a place on, with fuel. -/
def runesF (s : ByteArray) : Nat → Nat → Nat × Bool
  | 0, _ => (0, true)
  | f + 1, p => if p < s.size then ((runesF s f (p + step1 s p)).1 + 1, decide (rune1 s p ≠ 0) && (runesF s f (p + step1 s p)).2) else (0, true)
def runesAt (s : ByteArray) (p : Nat) : Nat × Bool := runesF s (s.size - p) p
def runes (s : ByteArray) : Nat × Bool := runesAt s 0
theorem runesF_more (s : ByteArray) : ∀ (f g p : Nat), s.size - p ≤ f → s.size - p ≤ g → runesF s f p = runesF s g p
  | 0, 0, _, _, _ => rfl
  | 0, g + 1, p, h, _ => by unfold runesF; rw [if_neg (by omega)]
  | f + 1, 0, p, _, h => by unfold runesF; rw [if_neg (by omega)]
  | f + 1, g + 1, p, h1, h2 => by
    unfold runesF
    split
    · have := step1_pos s p
      rw [runesF_more s f g (p + step1 s p) (by omega) (by omega)]
    · rfl
theorem runesAt_step (s : ByteArray) (p : Nat) (hp : p < s.size) : runesAt s p = ((runesAt s (p + step1 s p)).1 + 1, decide (rune1 s p ≠ 0) && (runesAt s (p + step1 s p)).2) := by
  have := step1_pos s p
  unfold runesAt
  rw [show s.size - p = (s.size - p - 1) + 1 by omega, runesF, if_pos hp, runesF_more s (s.size - p - 1) (s.size - (p + step1 s p)) _ (by omega) (by omega)]
theorem runesAt_end (s : ByteArray) (p : Nat) (hp : ¬ p < s.size) : runesAt s p = (0, true) := by
  unfold runesAt
  rw [show s.size - p = 0 by omega]; rfl
theorem runesF_le (s : ByteArray) : ∀ (f p : Nat), (runesF s f p).1 ≤ s.size - p
  | 0, _ => by simp [runesF]
  | f + 1, p => by
    unfold runesF
    split
    · have := step1_pos s p
      have := runesF_le s f (p + step1 s p)
      simp only; omega
    · simp
theorem runesAt_le (s : ByteArray) (p : Nat) : (runesAt s p).1 ≤ s.size - p := runesF_le s _ p
end Cb
end Go.Proofs.YtjenohodgpmchaaDoor

namespace Go.Proofs.YtjenohodgpmchaaDoor
open Go.Shelf
def lays197_ren : Go.Shelf.Ren := ⟨fun | 197 => 59 | 260 => 76 | n => n, fun | 9 => 9 | 21 => 21 | 3 => 3 | 4 => 4 | 5 => 5 | 105 => 100 | 119 => 118 | 0 => 0 | 46 => 44 | 139 => 121 | 138 => 120 | n => n, fun | 3 => 0 | 4 => 1 | n => n⟩
theorem lays197 : Go.Proofs.Lays.n197 Tryd.prog lays197_ren := {
  mixed := by kernel_rfl
  f197 := Tryd.func59.trans (congrArg some (by kernel_rfl))
  f260 := Tryd.func76.trans (congrArg some (by kernel_rfl))
  t0 := Tryd.underlying0
  a0 := Tryd.isAgg0
  z0 := Tryd.sizeOf0
  v0 := Tryd.zeroValue0
  t3 := Tryd.underlying3
  a3 := Tryd.isAgg3
  z3 := Tryd.sizeOf3
  v3 := Tryd.zeroValue3
  t4 := Tryd.underlying4
  a4 := Tryd.isAgg4
  z4 := Tryd.sizeOf4
  v4 := Tryd.zeroValue4
  t5 := Tryd.underlying5
  a5 := Tryd.isAgg5
  z5 := Tryd.sizeOf5
  v5 := Tryd.zeroValue5
  t9 := Tryd.underlying9
  a9 := Tryd.isAgg9
  z9 := Tryd.sizeOf9
  v9 := Tryd.zeroValue9
  t21 := Tryd.underlying21
  a21 := Tryd.isAgg21
  z21 := Tryd.sizeOf21
  v21 := Tryd.zeroValue21
  t46 := Tryd.underlying44
  a46 := Tryd.isAgg44
  z46 := Tryd.sizeOf44
  v46 := Tryd.zeroValue44
  t105 := Tryd.underlying100
  a105 := Tryd.isAgg100
  z105 := Tryd.sizeOf100
  v105 := Tryd.zeroValue100
  t119 := Tryd.underlying118
  a119 := Tryd.isAgg118
  z119 := Tryd.sizeOf118
  t138 := Tryd.underlying120
  a138 := Tryd.isAgg120
  z138 := Tryd.sizeOf120
  v138 := Tryd.zeroValue120
  t139 := Tryd.underlying121
  a139 := Tryd.isAgg121
  z139 := Tryd.sizeOf121
  v139 := Tryd.zeroValue121
  g3 := by kernel_rfl
  g4 := by kernel_rfl }
open Go.RowKit Go.Lib in
/-- **unicode/utf8.DecodeRuneInString AT EVERY STRING.** (LAID: no walk: one application.) -/
theorem utf8_DecodeRuneInString (s : ByteArray) (w : World) (hT : Lib.Utf8Tabs 0 1 w) :
    Calls Tryd.prog 59 #[.string s] w fun e w' => e = .returned (.tuple #[.int .i32 (Lib.decodeGo s).1, .int .i64 (Lib.decodeGo s).2]) ∧ Below w.heap.size w w' := Any.utf8_DecodeRuneInString lays197 s w hT
end Go.Proofs.YtjenohodgpmchaaDoor

namespace Go.Proofs.YtjenohodgpmchaaDoor
open Go.RowKit Cb
set_option linter.unusedSimpArgs false
set_option linter.unusedVariables false

/-- The two tables of unicode/utf8 lie as they were laid. -/
abbrev Tabs (w : World) : Prop := Lib.Utf8Tabs 0 1 w
theorem Tabs.up {w w' : World} (h : Tabs w) (hb : Below w.heap.size w w') : Tabs w' :=
  ⟨fun c hc => cell_up hb (h.1 c hc), fun i hi => ⟨cell_up hb (h.2 i hi).1, cell_up hb (h.2 i hi).2⟩⟩
theorem get_ext (s : ByteArray) (p i : Nat) (hp : p ≤ s.size) : (s.extract p s.size).get! i = s.get! (p + i) := by
  by_cases h : p + i < s.size
  · rw [Utf8W.get!_of_lt _ _ (by simp; omega), Utf8W.get!_of_lt _ _ h]
    simp [ByteArray.getElem_eq_getElem_data, ByteArray.data_extract]
  · have e : ∀ (t : ByteArray) (j : Nat), ¬ j < t.size → t.get! j = default := fun t j hj => by
      show t.data[j]! = _
      exact getElem!_neg t.data j hj
    rw [e _ _ (by simp; omega), e _ _ h]
theorem dec_ext (s : ByteArray) (p : Nat) (hp : p < s.size) : Lib.decodeGo (s.extract p s.size) = Utf8.decode s p := by
  have hsz : (s.extract p s.size).size = s.size - p := by simp
  unfold Lib.decodeGo
  rw [if_neg (by omega), Lib.decode_at, Lib.decode_at, hsz]
  have h := fun i => get_ext s p i (by omega)
  rw [h, h, h, h]
  rfl
theorem runes_next {s : ByteArray} {n p q k : Nat} {fb kb : Bool} (hi : runes s = (n + (runesAt s p).1, fb && (runesAt s p).2)) (hst : runesAt s p = ((runesAt s (p + q)).1 + 1, decide (k ≠ 0) && (runesAt s (p + q)).2)) (hk : (k ≠ 0) ↔ kb = true) :
    runes s = ((n + 1) + (runesAt s (p + q)).1, (fb && kb) && (runesAt s (p + q)).2) := by
  have e : decide (k ≠ 0) = kb := by rw [Bool.eq_iff_iff, decide_eq_true_eq]; exact hk
  rw [hi, hst, e]
  refine Prod.ext (by simp only; omega) (by simp only [Bool.and_assoc])
set_option maxHeartbeats 8000000 in
set_option maxRecDepth 100000 in
theorem runes_c (s : ByteArray) (w : World) (hs : s.size ≤ 9223372036854775807) (hT : Tabs w) : Calls Tryd.prog 46 #[.string s] w (Ret (.tuple #[.int .i64 (runes s).1, .bool (runes s).2]) w) := by
  obtain ⟨R, hR⟩ : ∃ R, runes s = R := ⟨_, rfl⟩
  have HR := Lib.hid hR
  rw [hR]
  have hit : (w.alloc (.stringIter s 0)).heap[w.heap.size]? = some (.stringIter s 0) := heap_alloc_new w _
  have hb0 := below_alloc w (.stringIter s 0)
  clear hR
  go_enter Tryd.func46, Tryd.ntmps46
  go_wp2
  change Code.wp _ _ _ _ (w.alloc (.stringIter s 0))
  go_loopw [2, 3] (fun vn vf wr => ∃ (n p : Nat) (fb : Bool), vn = .int .i64 n ∧ vf = .bool fb ∧ p ≤ s.size ∧ n ≤ p ∧ wr.heap[w.heap.size]? = some (.stringIter s p) ∧ Below w.heap.size w wr ∧ RowKit.Hid (runes s = (n + (runesAt s p).1, fb && (runesAt s p).2))) (fun _ _ wr => s.size - wr.iterPos w.heap.size)
  case atStart => exact ⟨0, 0, true, rfl, rfl, Nat.zero_le _, Nat.le_refl _, hit, hb0, Lib.hid (by simp [runes])⟩
  case round =>
    clear hit hb0
    obtain ⟨n, p, fb, rfl, rfl, hp, hn, hit, hB, HI⟩ := hrel
    by_cases hlt : p < s.size
    · have hnx := fun ty => Lib.run_next_any_at (P := Tryd.prog) wr w.heap.size s p ty hit hlt
      have hst := step1_le s p hlt
      have hsp := step1_pos s p
      have hw := dec_wide s p
      have hf := dec_fine s p
      have hD := fun w1 (h1 : Tabs w1) => utf8_DecodeRuneInString (s.extract p s.size) w1 h1
      rw [dec_ext s p hlt] at hD
      have hit2 := fun pos => Lib.iterAt_heap wr w.heap.size s p pos hit
      have hpos := iterPos_of hit
      have HST := Lib.hid (runesAt_step s p hlt)
      obtain ⟨q, hq⟩ : ∃ q, step1 s p = q := ⟨_, rfl⟩
      obtain ⟨k, hk⟩ : ∃ k, rune1 s p = k := ⟨_, rfl⟩
      rw [hq] at hst hsp hw HST
      rw [hk] at hf HST
      rw [hw] at hnx hD hf
      obtain ⟨c, hc⟩ : ∃ c, (Utf8.decode s p).1 = c := ⟨_, rfl⟩
      rw [hc] at hnx hD hf
      have HD := Lib.hid hD
      have HF := Lib.hid hf
      have HK := Lib.hid hk
      have hTl : ∀ b o, b < w.heap.size → (wr.iterAt w.heap.size s (p + q)).cell? ⟨b, o, none⟩ = wr.cell? ⟨b, o, none⟩ := fun b o hb => by
        unfold World.cell?; rw [Lib.iterAt_other _ _ _ _ _ (by show b ≠ w.heap.size; omega)]
      have hB2 : Below w.heap.size w (wr.iterAt w.heap.size s (p + q)) := hB.trans ⟨rfl, rfl, rfl, by rw [Lib.iterAt_size]; exact Nat.le_refl _, fun b hb => Lib.iterAt_other _ _ _ _ _ (by omega)⟩
      have hT2 := hT.up hB2
      have hit3 := hit2 (p + q)
      obtain ⟨W2, hW2⟩ : ∃ W2, wr.iterAt w.heap.size s (p + q) = W2 := ⟨_, rfl⟩
      rw [hW2] at hnx hB2 hT2 hit3
      have hpI : (p : Int) ≤ (s.size : Int) := by omega
      have HPOS := Lib.hid hpos
      clear hD hf hk hq hc hw hTl hW2 hit2 hB hit hpos
      cases fb <;> by_cases h1 : c = 65533 <;> by_cases h2 : 1 < q
      · have d1 : ((c : Int) != 65533) = false := by simp; omega
        have d2 : decide ((1 : Int) < (q : Int)) = true := by simp; omega
        have HN := Lib.hid (runes_next (kb := true) HI.out HST.out (by rw [← HF.out]; simp; omega))
        clear h1 h2
        go_wp2_with (go_at_call 59; refine (HD.out _ hT2).mono ?_; rintro en w5 ⟨rfl, hb5⟩)
        have hit5 := (hb5.block _ (Array.getElem?_eq_some_iff.1 hit3).1).trans hit3
        go_roundw
        case rel => exact ⟨n + 1, p + q, false, by go_num, rfl, hst, by omega, hit5, below_up hB2 hb5, HN⟩
        case measure => rw [HPOS.out, iterPos_of hit5]; omega
      · have d1 : ((c : Int) != 65533) = false := by simp; omega
        have d2 : decide ((1 : Int) < (q : Int)) = false := by simp; omega
        have HN := Lib.hid (runes_next (kb := false) HI.out HST.out (by rw [← HF.out]; simp; omega))
        clear h1 h2
        go_wp2_with (go_at_call 59; refine (HD.out _ hT2).mono ?_; rintro en w5 ⟨rfl, hb5⟩)
        have hit5 := (hb5.block _ (Array.getElem?_eq_some_iff.1 hit3).1).trans hit3
        go_roundw
        case rel => exact ⟨n + 1, p + q, false, by go_num, rfl, hst, by omega, hit5, below_up hB2 hb5, HN⟩
        case measure => rw [HPOS.out, iterPos_of hit5]; omega
      · have d1 : ((c : Int) != 65533) = true := by simp; omega
        have d2 : decide ((1 : Int) < (q : Int)) = true := by simp; omega
        have HN := Lib.hid (runes_next (kb := true) HI.out HST.out (by rw [← HF.out]; simp; omega))
        clear h1 h2
        go_wp2_with (go_at_call 59; refine (HD.out _ hT2).mono ?_; rintro en w5 ⟨rfl, hb5⟩)
        have hit5 := (hb5.block _ (Array.getElem?_eq_some_iff.1 hit3).1).trans hit3
        go_roundw
        case rel => exact ⟨n + 1, p + q, false, by go_num, rfl, hst, by omega, hit5, below_up hB2 hb5, HN⟩
        case measure => rw [HPOS.out, iterPos_of hit5]; omega
      · have d1 : ((c : Int) != 65533) = true := by simp; omega
        have d2 : decide ((1 : Int) < (q : Int)) = false := by simp; omega
        have HN := Lib.hid (runes_next (kb := true) HI.out HST.out (by rw [← HF.out]; simp; omega))
        clear h1 h2
        go_wp2_with (go_at_call 59; refine (HD.out _ hT2).mono ?_; rintro en w5 ⟨rfl, hb5⟩)
        have hit5 := (hb5.block _ (Array.getElem?_eq_some_iff.1 hit3).1).trans hit3
        go_roundw
        case rel => exact ⟨n + 1, p + q, false, by go_num, rfl, hst, by omega, hit5, below_up hB2 hb5, HN⟩
        case measure => rw [HPOS.out, iterPos_of hit5]; omega
      · have d1 : ((c : Int) != 65533) = false := by simp; omega
        have d2 : decide ((1 : Int) < (q : Int)) = true := by simp; omega
        have HN := Lib.hid (runes_next (kb := true) HI.out HST.out (by rw [← HF.out]; simp; omega))
        clear h1 h2
        go_wp2_with (go_at_call 59; refine (HD.out _ hT2).mono ?_; rintro en w5 ⟨rfl, hb5⟩)
        have hit5 := (hb5.block _ (Array.getElem?_eq_some_iff.1 hit3).1).trans hit3
        go_roundw
        case rel => exact ⟨n + 1, p + q, true, by go_num, rfl, hst, by omega, hit5, below_up hB2 hb5, HN⟩
        case measure => rw [HPOS.out, iterPos_of hit5]; omega
      · have d1 : ((c : Int) != 65533) = false := by simp; omega
        have d2 : decide ((1 : Int) < (q : Int)) = false := by simp; omega
        have HN := Lib.hid (runes_next (kb := false) HI.out HST.out (by rw [← HF.out]; simp; omega))
        clear h1 h2
        go_wp2_with (go_at_call 59; refine (HD.out _ hT2).mono ?_; rintro en w5 ⟨rfl, hb5⟩)
        have hit5 := (hb5.block _ (Array.getElem?_eq_some_iff.1 hit3).1).trans hit3
        go_roundw
        case rel => exact ⟨n + 1, p + q, false, by go_num, rfl, hst, by omega, hit5, below_up hB2 hb5, HN⟩
        case measure => rw [HPOS.out, iterPos_of hit5]; omega
      · have d1 : ((c : Int) != 65533) = true := by simp; omega
        have d2 : decide ((1 : Int) < (q : Int)) = true := by simp; omega
        have HN := Lib.hid (runes_next (kb := true) HI.out HST.out (by rw [← HF.out]; simp; omega))
        clear h1 h2
        go_wp2_with (go_at_call 59; refine (HD.out _ hT2).mono ?_; rintro en w5 ⟨rfl, hb5⟩)
        have hit5 := (hb5.block _ (Array.getElem?_eq_some_iff.1 hit3).1).trans hit3
        go_roundw
        case rel => exact ⟨n + 1, p + q, true, by go_num, rfl, hst, by omega, hit5, below_up hB2 hb5, HN⟩
        case measure => rw [HPOS.out, iterPos_of hit5]; omega
      · have d1 : ((c : Int) != 65533) = true := by simp; omega
        have d2 : decide ((1 : Int) < (q : Int)) = false := by simp; omega
        have HN := Lib.hid (runes_next (kb := true) HI.out HST.out (by rw [← HF.out]; simp; omega))
        clear h1 h2
        go_wp2_with (go_at_call 59; refine (HD.out _ hT2).mono ?_; rintro en w5 ⟨rfl, hb5⟩)
        have hit5 := (hb5.block _ (Array.getElem?_eq_some_iff.1 hit3).1).trans hit3
        go_roundw
        case rel => exact ⟨n + 1, p + q, true, by go_num, rfl, hst, by omega, hit5, below_up hB2 hb5, HN⟩
        case measure => rw [HPOS.out, iterPos_of hit5]; omega
    · have hnx := fun ty => Lib.run_next_end_at (P := Tryd.prog) wr w.heap.size s p ty hit hlt
      have he := runesAt_end s p hlt
      have HI2 := HI.out
      rw [he] at HI2
      have HI3 := Lib.hid HI2
      clear HI2 he
      go_wp2
      go_ret2
      exact ⟨by rw [← HR.out, HI3.out]; simp, hB⟩
end Go.Proofs.YtjenohodgpmchaaDoor

namespace Go.Proofs.YtjenohodgpmchaaDoor
open Go.RowKit Cb
set_option linter.unusedSimpArgs false
set_option linter.unusedVariables false
namespace Cb
mutual
/-- An item's bytes (of one that is right). -/
def bytesOf : It → List UInt8
  | .mk k n b s l => if k = 1 then headB 0 n else if k = 2 then headB 2 b.length ++ b else if k = 3 then headB 3 s.size ++ s.data.toList else if k = 5 then [UInt8.ofNat (244 + n).toNat] else if k = 6 then [246] else headB 4 l.length ++ bytesL l
def bytesL : List It → List UInt8
  | [] => []
  | x :: l => bytesOf x ++ bytesL l
end
mutual
def depth : It → Nat
  | .mk _ _ _ _ l => depthL l + 1
def depthL : List It → Nat
  | [] => 0
  | x :: l => max (depth x) (depthL l)
end
/-- No part that the kind does not name. -/
def bareB (x : It) : Bool := (x.k == 1 || x.k == 5 || x.n == 0) && ((x.k == 2 || x.b.length == 0) && ((x.k == 3 || x.s.size == 0) && (x.k == 4 || x.l.length == 0)))
/-- An item may be, its list's items aside. -/
def ownB (x : It) : Bool := decide (1 ≤ x.k ∧ x.k ≤ 6) && (bareB x && (decide (x.k ≠ 5 ∨ x.n ≤ 1) && (runes x.s).2))
mutual
def rightB : It → Bool
  | .mk k n b s l => ownB (.mk k n b s l) && rightL l
def rightL : List It → Bool
  | [] => true
  | x :: l => rightB x && rightL l
end
theorem rightB_eq (x : It) : rightB x = (ownB x && rightL x.l) := by cases x; rfl
theorem depth_eq (x : It) : depth x = depthL x.l + 1 := by cases x; rfl
theorem bytesOf_eq (x : It) : bytesOf x = if x.k = 1 then headB 0 x.n else if x.k = 2 then headB 2 x.b.length ++ x.b else if x.k = 3 then headB 3 x.s.size ++ x.s.data.toList else if x.k = 5 then [UInt8.ofNat (244 + x.n).toNat] else if x.k = 6 then [246] else headB 4 x.l.length ++ bytesL x.l := by cases x; rfl
theorem rightL_all : ∀ l : List It, rightL l = l.all rightB
  | [] => rfl
  | x :: l => by simp [rightL, rightL_all l]
theorem rightL_mem {l : List It} (h : rightL l = true) {x : It} (hx : x ∈ l) : rightB x = true := by
  rw [rightL_all, List.all_eq_true] at h; exact h x hx
theorem bytesL_eq : ∀ l : List It, bytesL l = (l.map bytesOf).flatten
  | [] => rfl
  | x :: l => by simp [bytesL, bytesL_eq l]
theorem bytesL_app : ∀ l m : List It, bytesL (l ++ m) = bytesL l ++ bytesL m
  | [], m => by simp [bytesL]
  | x :: l, m => by simp [bytesL, bytesL_app l m]
theorem depthL_app : ∀ l m : List It, depthL (l ++ m) = max (depthL l) (depthL m)
  | [], m => by simp [depthL]
  | x :: l, m => by simp only [List.cons_append, depthL, depthL_app l m]; omega
theorem depthL_mem : ∀ {l : List It} {x : It}, x ∈ l → depth x ≤ depthL l
  | y :: l, x, h => by
    simp only [depthL]
    rcases List.mem_cons.1 h with rfl | h
    · omega
    · have := depthL_mem h; omega
mutual
theorem depth_cnt : ∀ x : It, depth x ≤ cnt x
  | .mk k n b s l => by have := depthL_cnt l; simp only [depth, cnt]; omega
theorem depthL_cnt : ∀ l : List It, depthL l ≤ cntL l
  | [] => by simp [depthL]
  | x :: l => by have := depth_cnt x; have := depthL_cnt l; simp only [depthL, cntL]; omega
end
mutual
theorem bytes_le : ∀ x : It, (bytesOf x).length ≤ 9 * cnt x
  | .mk k n b s l => by
    have h := bytesL_le l
    have h0 := headB_len 0 n
    have h2 := headB_len 2 b.length
    have h3 := headB_len 3 s.size
    have h4 := headB_len 4 l.length
    have hs : s.data.toList.length = s.size := Array.length_toList
    simp only [bytesOf, cnt]
    repeat' split
    all_goals (try simp only [List.length_append, List.length_cons, List.length_nil, hs])
    all_goals omega
theorem bytesL_le : ∀ l : List It, (bytesL l).length ≤ 9 * cntL l
  | [] => by simp [bytesL]
  | x :: l => by have := bytes_le x; have := bytesL_le l; simp only [bytesL, cntL, List.length_append]; omega
end
theorem bytes_pos (x : It) : 1 ≤ (bytesOf x).length := by
  rw [bytesOf_eq]
  have h0 := headB_len 0 x.n
  have h2 := headB_len 2 x.b.length
  have h3 := headB_len 3 x.s.size
  have h4 := headB_len 4 x.l.length
  repeat' split
  all_goals (try simp only [List.length_append, List.length_cons, List.length_nil])
  all_goals omega
/-- Why an item may not be. -/
def chk (x : It) : Int := if rightB x = false then 2 else if 8 < depth x then 120 else if 65536 < (bytesOf x).length then 3 else 0
end Cb
end Go.Proofs.YtjenohodgpmchaaDoor
