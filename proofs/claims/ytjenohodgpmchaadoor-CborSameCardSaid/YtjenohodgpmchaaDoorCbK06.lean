/-
  OctetB: several texts in one (bundle.py).
-/
import Derived.Test.YtjenohodgpmchaaDoorCbK05
import Derived.Laws.Bits64b
namespace Go.Proofs.YtjenohodgpmchaaDoor
open Go.RowKit
set_option linter.unusedSimpArgs false
set_option linter.unusedVariables false

theorem slT_u8 : SlT Tryd.prog 22 5 1 1 := SlT.mk' Tryd.underlying22 (z := .int .u8 0) (by kernel_rfl) rfl (by decide)

/-! ### The plain law: a number's bytes, highest ahead -/
namespace Oct
def beB : Nat → Int → List UInt8
  | 0, _ => []
  | k + 1, n => beB k (n / 256) ++ [UInt8.ofNat (n % 256).toNat]
theorem beB_len (k : Nat) (n : Int) : (beB k n).length = k := by
  induction k generalizing n with
  | zero => rfl
  | succ k ih => simp [beB, ih]
/-- The number of bytes. -/
def beV (l : List UInt8) : Int := l.foldl (fun a b => a * 256 + (b.toNat : Int)) 0
theorem beV_snoc (l : List UInt8) (b : UInt8) : beV (l ++ [b]) = beV l * 256 + (b.toNat : Int) := by simp [beV]
theorem byte_mod (n : Int) : ((UInt8.ofNat (n % 256).toNat).toNat : Int) = n % 256 := by
  simp only [UInt8.toNat_ofNat']
  omega
theorem beV_lo (l : List UInt8) : 0 ≤ beV l := by
  suffices ∀ (a : Int), 0 ≤ a → 0 ≤ l.foldl (fun a b => a * 256 + (b.toNat : Int)) a from this 0 (by decide)
  induction l with
  | nil => intro a h; exact h
  | cons b l ih => intro a h; exact ih _ (by show 0 ≤ a * 256 + (b.toNat : Int); omega)
theorem beV_hi (l : List UInt8) : beV l < 256 ^ l.length := by
  suffices ∀ (l : List UInt8) (a : Int), 0 ≤ a → l.foldl (fun a b => a * 256 + (b.toNat : Int)) a < (a + 1) * 256 ^ l.length by
    have := this l 0 (by decide); simpa [beV] using this
  intro l
  induction l with
  | nil => intro a h; simp; omega
  | cons b l ih =>
    intro a h
    have hb : (b.toNat : Int) < 256 := by have := b.toNat_lt; omega
    have := ih (a * 256 + (b.toNat : Int)) (by omega)
    refine Int.lt_of_lt_of_le this ?_
    rw [List.length_cons, Int.pow_succ, Int.mul_comm (256 ^ l.length) 256, ← Int.mul_assoc]
    refine Int.mul_le_mul_of_nonneg_right (by omega) ?_
    exact Int.le_of_lt (Int.pow_pos (by decide))
theorem beV_beB (k : Nat) (n : Int) (h0 : 0 ≤ n) (h1 : n < 256 ^ k) : beV (beB k n) = n := by
  induction k generalizing n with
  | zero => simp [beB, beV]; simp at h1; omega
  | succ k ih =>
    rw [Int.pow_succ] at h1
    rw [beB, beV_snoc, byte_mod, ih (n / 256) (by omega) (by omega)]
    omega
theorem beB_beV (l : List UInt8) : beB l.length (beV l) = l := by
  suffices ∀ (k : Nat) (l : List UInt8), l.length = k → beB k (beV l) = l from this _ l rfl
  intro k
  induction k with
  | zero => intro l h; rw [List.eq_nil_of_length_eq_zero h]; rfl
  | succ k ih =>
    intro l h
    obtain ⟨l', b, rfl⟩ : ∃ l' b, l = l' ++ [b] := ⟨l.dropLast, l.getLast (by intro e; rw [e] at h; cases h), (List.dropLast_concat_getLast _).symm⟩
    have hl : l'.length = k := by simp at h; exact h
    have hb : (b.toNat : Int) < 256 := by have := b.toNat_lt; omega
    rw [beB, beV_snoc]
    have e1 : (beV l' * 256 + (b.toNat : Int)) / 256 = beV l' := by omega
    have e2 : ((beV l' * 256 + (b.toNat : Int)) % 256).toNat = b.toNat := by omega
    rw [e1, e2, ih l' hl]
    simp
/-- What Put answers: its bytes, its error. -/
def putB (n w : Int) : List UInt8 := if okW w && fitsB w n then beB w.toNat n else []
def putE (n w : Int) : Int := if okW w then (if fitsB w n then 0 else 4) else 2
end Oct

/-- One byte more, of a literal block. -/
theorem sl1 (w : World) (k : Nat) (hk : k = w.heap.size) (x : Value) (T : TypeId) : Sl (w.alloc (.cells #[x] T)) 1 (.slice (some ⟨k, 0, none⟩) 1 1) 1 [x] := by
  subst hk
  exact Sl.of_own (World.ownsRow_lit w #[x] 1 (size := 1) (e := T) (Nat.le_refl _) (by decide) rfl)

/-- A result that is bytes and an error. -/
def RetBy (base : Nat) (l : List UInt8) (er : Int) (w : World) (e : Ending) (w' : World) : Prop :=
  ∃ v, e = .returned (.tuple #[v, .int .i64 er]) ∧ w'.ownsRow base 5 1 v l.length (by8 l) ∧ Below w.heap.size w w'

theorem RetBy.of {base : Nat} {l l' : List UInt8} {er er' : Int} {v : Value} {w w' : World} (hl : l = l') (he : er = er') (ho : w'.ownsRow base 5 1 v l'.length (by8 l')) (hB : Below w.heap.size w w') :
    RetBy base l er w (.returned (.tuple #[v, .int .i64 er'])) w' := by subst hl he; exact ⟨v, rfl, ho, hB⟩

set_option maxHeartbeats 1000000 in
theorem put_bad_c (n wd : Int) (w : World) (hw : Oct.okW wd = false) :
    Calls Tryd.prog 74 #[.int .u64 n, .int .i64 wd] w (RetBy w.heap.size [] 2 w) := by
  have Hw := Lib.hid hw; clear hw
  go_enter Tryd.func74, Tryd.ntmps74
  go_wp2
  refine wp_scope_fwd 0 rfl ?_
  go_wp2_with (go_at_call 72; refine (is_c _ _).mono ?_; rw [Hw.out]; rintro e w1 ⟨rfl, hb⟩)
  go_step3
  go_wp2
  refine jump_fwd ?_
  go_wp2
  rw [jump_ret]
  go_ret2
  exact ⟨_, rfl, World.ownsRow_nil _ _ _ _, below_new hb⟩

theorem put_long_c (n wd : Int) (w : World) (h0 : 0 ≤ n) (h1 : n ≤ 18446744073709551615) (hw : Oct.okW wd = true) (hf : Oct.fitsB wd n = false) :
    Calls Tryd.prog 74 #[.int .u64 n, .int .i64 wd] w (RetBy w.heap.size [] 4 w) := by
  have Hw := Lib.hid hw
  have Hf := Lib.hid hf
  clear hf
  go_enter Tryd.func74, Tryd.ntmps74
  go_wp2
  refine wp_scope_fwd 0 rfl ?_
  go_wp2_with fail
  refine (is_c _ _).mono ?_
  rw [Hw.out]
  rintro e w1 ⟨rfl, hb⟩
  have a0 : w1.cell? ⟨w.heap.size, 0, none⟩ = some (.int .i64 wd) := cell_up hb (by simp [go_sem])
  have a1 : w1.cell? ⟨w.heap.size, 1, none⟩ = some (.int .u64 n) := cell_up hb (by simp [go_sem])
  have hb := below_new hb
  clear hw
  go_wp2_with fail
  refine (fits_c wd n _ Hw.out h0 h1).mono ?_
  rw [Hf.out]
  rintro e w2 ⟨rfl, hb2⟩
  go_wp2
  go_step3
  go_wp2
  refine jump_fwd ?_
  go_wp2
  rw [jump_ret]
  go_ret2
  exact ⟨_, rfl, World.ownsRow_nil _ _ _ _, below_up hb hb2⟩

namespace Oct
def pre (wd j : Nat) (n : Int) : List UInt8 := beB j (n / 256 ^ (wd - j))
theorem pre_zero (wd : Nat) (n : Int) : pre wd 0 n = [] := rfl
theorem pre_succ (wd j : Nat) (n : Int) (h : j < wd) : pre wd (j + 1) n = pre wd j n ++ [UInt8.ofNat (n / 256 ^ (wd - (j + 1)) % 256).toNat] := by
  unfold pre
  rw [beB]
  congr 2
  rw [Int.ediv_ediv_of_nonneg (Int.le_of_lt (Int.pow_pos (by decide))), ← Int.pow_succ]
  congr 2
  omega
theorem pre_all (wd : Nat) (n : Int) : pre wd wd n = beB wd n := by unfold pre; simp
theorem pre_len (wd j : Nat) (n : Int) : (pre wd j n).length = j := beB_len _ _
/-- The bytes grow by one: in the cells. -/
theorem pre_cells (wd j : Nat) (n m : Int) (h : j < wd) (hm : n / 256 ^ (wd - (j + 1)) % 256 = m) : by8 (pre wd j n) ++ [.int .u8 m] = by8 (pre wd (j + 1) n) := by
  rw [pre_succ wd j n h, by8_app]
  congr 1
  simp only [by8, List.map_cons, List.map_nil]
  rw [byte_mod, hm]
end Oct

set_option maxHeartbeats 1000000 in
theorem put_ok_c (n wd : Int) (w : World) (h0 : 0 ≤ n) (h1 : n ≤ 18446744073709551615) (hw : Oct.okW wd = true) (hf : Oct.fitsB wd n = true) :
    Calls Tryd.prog 74 #[.int .u64 n, .int .i64 wd] w (RetBy w.heap.size (Oct.beB wd.toNat n) 0 w) := by
  have Hw := Lib.hid hw
  have Hf := Lib.hid hf
  clear hf
  rcases Oct.okW_cases hw with rfl | rfl | rfl | rfl
  · clear hw
    go_enter Tryd.func74, Tryd.ntmps74
    go_wp2
    refine wp_scope_fwd 0 rfl ?_
    go_wp2_with fail
    refine (is_c _ _).mono ?_
    rw [Hw.out]
    rintro e w1 ⟨rfl, hb⟩
    have a0 : w1.cell? ⟨w.heap.size, 0, none⟩ = some (.int .i64 1) := cell_up hb (by simp [go_sem])
    have a1 : w1.cell? ⟨w.heap.size, 1, none⟩ = some (.int .u64 n) := cell_up hb (by simp [go_sem])
    have hb := below_new hb
    go_wp2_with fail
    refine (fits_c 1 n _ Hw.out h0 h1).mono ?_
    rw [Hf.out]
    rintro e w2 ⟨rfl, hb2⟩
    have hB := below_up hb hb2
    clear hb hb2 a0 a1
    go_wp2
    go_loopw [4, 7] (fun o i wr => ∃ j : Nat, j ≤ 1 ∧ i = .int .i64 (1 - 1 - (j : Int)) ∧ wr.ownsRow w.heap.size 5 1 o j (by8 (Oct.pre 1 j n)) ∧ Below w.heap.size w wr) (fun _ i _ => (intOf i + 1).toNat)
    case atStart => exact ⟨0, by decide, rfl, World.ownsRow_nil _ _ _ _, hB⟩
    case round =>
      obtain ⟨j, hj, rfl, ho, hB⟩ := hrel
      have hjs : j = 0 ∨ j = 1 := by omega
      rcases hjs with rfl | rfl
      · go_wp2_with (at_builtin; refine wpList_app rfl _ _ 22 rfl slT_u8 w.heap.size rfl (ho.alloc _) rfl (sl1 _ _ rfl _ _) (by intro u hu; simp at hu; subst hu; rfl) (by decide) (by decide) (by have := hB.size; simp; omega) ?_; intro o' w3 ho' hg' _)
        go_roundw
        case rel => exact ⟨1, by decide, by rfl, by rw [Oct.pre_cells 1 0 n _ (by decide) (by first | (simp; done) | (simp; omega))] at ho'; exact ho', grown_below (hB.alloc hB.size _) hg' (fun k hk => ((ho.lt k hk).1))⟩
        case measure => simp [intOf]
      · go_wp2
        rw [jump_ret]
        go_ret2
        exact ⟨_, rfl, by rw [Oct.beB_len]; rw [Oct.pre_all] at ho; exact ho, hB⟩
  · clear hw
    go_enter Tryd.func74, Tryd.ntmps74
    go_wp2
    refine wp_scope_fwd 0 rfl ?_
    go_wp2_with fail
    refine (is_c _ _).mono ?_
    rw [Hw.out]
    rintro e w1 ⟨rfl, hb⟩
    have a0 : w1.cell? ⟨w.heap.size, 0, none⟩ = some (.int .i64 2) := cell_up hb (by simp [go_sem])
    have a1 : w1.cell? ⟨w.heap.size, 1, none⟩ = some (.int .u64 n) := cell_up hb (by simp [go_sem])
    have hb := below_new hb
    go_wp2_with fail
    refine (fits_c 2 n _ Hw.out h0 h1).mono ?_
    rw [Hf.out]
    rintro e w2 ⟨rfl, hb2⟩
    have hB := below_up hb hb2
    clear hb hb2 a0 a1
    go_wp2
    go_loopw [4, 7] (fun o i wr => ∃ j : Nat, j ≤ 2 ∧ i = .int .i64 (2 - 1 - (j : Int)) ∧ wr.ownsRow w.heap.size 5 1 o j (by8 (Oct.pre 2 j n)) ∧ Below w.heap.size w wr) (fun _ i _ => (intOf i + 1).toNat)
    case atStart => exact ⟨0, by decide, rfl, World.ownsRow_nil _ _ _ _, hB⟩
    case round =>
      obtain ⟨j, hj, rfl, ho, hB⟩ := hrel
      have hjs : j = 0 ∨ j = 1 ∨ j = 2 := by omega
      rcases hjs with rfl | rfl | rfl
      · go_wp2_with (at_builtin; refine wpList_app rfl _ _ 22 rfl slT_u8 w.heap.size rfl (ho.alloc _) rfl (sl1 _ _ rfl _ _) (by intro u hu; simp at hu; subst hu; rfl) (by decide) (by decide) (by have := hB.size; simp; omega) ?_; intro o' w3 ho' hg' _)
        go_roundw
        case rel => exact ⟨1, by decide, by rfl, by rw [Oct.pre_cells 2 0 n _ (by decide) (by first | (simp; done) | (simp; omega))] at ho'; exact ho', grown_below (hB.alloc hB.size _) hg' (fun k hk => ((ho.lt k hk).1))⟩
        case measure => simp [intOf]
      · go_wp2_with (at_builtin; refine wpList_app rfl _ _ 22 rfl slT_u8 w.heap.size rfl (ho.alloc _) rfl (sl1 _ _ rfl _ _) (by intro u hu; simp at hu; subst hu; rfl) (by decide) (by decide) (by have := hB.size; simp; omega) ?_; intro o' w3 ho' hg' _)
        go_roundw
        case rel => exact ⟨2, by decide, by rfl, by rw [Oct.pre_cells 2 1 n _ (by decide) (by first | (simp; done) | (simp; omega))] at ho'; exact ho', grown_below (hB.alloc hB.size _) hg' (fun k hk => ((ho.lt k hk).1))⟩
        case measure => simp [intOf]
      · go_wp2
        rw [jump_ret]
        go_ret2
        exact ⟨_, rfl, by rw [Oct.beB_len]; rw [Oct.pre_all] at ho; exact ho, hB⟩
  · clear hw
    go_enter Tryd.func74, Tryd.ntmps74
    go_wp2
    refine wp_scope_fwd 0 rfl ?_
    go_wp2_with fail
    refine (is_c _ _).mono ?_
    rw [Hw.out]
    rintro e w1 ⟨rfl, hb⟩
    have a0 : w1.cell? ⟨w.heap.size, 0, none⟩ = some (.int .i64 4) := cell_up hb (by simp [go_sem])
    have a1 : w1.cell? ⟨w.heap.size, 1, none⟩ = some (.int .u64 n) := cell_up hb (by simp [go_sem])
    have hb := below_new hb
    go_wp2_with fail
    refine (fits_c 4 n _ Hw.out h0 h1).mono ?_
    rw [Hf.out]
    rintro e w2 ⟨rfl, hb2⟩
    have hB := below_up hb hb2
    clear hb hb2 a0 a1
    go_wp2
    go_loopw [4, 7] (fun o i wr => ∃ j : Nat, j ≤ 4 ∧ i = .int .i64 (4 - 1 - (j : Int)) ∧ wr.ownsRow w.heap.size 5 1 o j (by8 (Oct.pre 4 j n)) ∧ Below w.heap.size w wr) (fun _ i _ => (intOf i + 1).toNat)
    case atStart => exact ⟨0, by decide, rfl, World.ownsRow_nil _ _ _ _, hB⟩
    case round =>
      obtain ⟨j, hj, rfl, ho, hB⟩ := hrel
      have hjs : j = 0 ∨ j = 1 ∨ j = 2 ∨ j = 3 ∨ j = 4 := by omega
      rcases hjs with rfl | rfl | rfl | rfl | rfl
      · go_wp2_with (at_builtin; refine wpList_app rfl _ _ 22 rfl slT_u8 w.heap.size rfl (ho.alloc _) rfl (sl1 _ _ rfl _ _) (by intro u hu; simp at hu; subst hu; rfl) (by decide) (by decide) (by have := hB.size; simp; omega) ?_; intro o' w3 ho' hg' _)
        go_roundw
        case rel => exact ⟨1, by decide, by rfl, by rw [Oct.pre_cells 4 0 n _ (by decide) (by first | (simp; done) | (simp; omega))] at ho'; exact ho', grown_below (hB.alloc hB.size _) hg' (fun k hk => ((ho.lt k hk).1))⟩
        case measure => simp [intOf]
      · go_wp2_with (at_builtin; refine wpList_app rfl _ _ 22 rfl slT_u8 w.heap.size rfl (ho.alloc _) rfl (sl1 _ _ rfl _ _) (by intro u hu; simp at hu; subst hu; rfl) (by decide) (by decide) (by have := hB.size; simp; omega) ?_; intro o' w3 ho' hg' _)
        go_roundw
        case rel => exact ⟨2, by decide, by rfl, by rw [Oct.pre_cells 4 1 n _ (by decide) (by first | (simp; done) | (simp; omega))] at ho'; exact ho', grown_below (hB.alloc hB.size _) hg' (fun k hk => ((ho.lt k hk).1))⟩
        case measure => simp [intOf]
      · go_wp2_with (at_builtin; refine wpList_app rfl _ _ 22 rfl slT_u8 w.heap.size rfl (ho.alloc _) rfl (sl1 _ _ rfl _ _) (by intro u hu; simp at hu; subst hu; rfl) (by decide) (by decide) (by have := hB.size; simp; omega) ?_; intro o' w3 ho' hg' _)
        go_roundw
        case rel => exact ⟨3, by decide, by rfl, by rw [Oct.pre_cells 4 2 n _ (by decide) (by first | (simp; done) | (simp; omega))] at ho'; exact ho', grown_below (hB.alloc hB.size _) hg' (fun k hk => ((ho.lt k hk).1))⟩
        case measure => simp [intOf]
      · go_wp2_with (at_builtin; refine wpList_app rfl _ _ 22 rfl slT_u8 w.heap.size rfl (ho.alloc _) rfl (sl1 _ _ rfl _ _) (by intro u hu; simp at hu; subst hu; rfl) (by decide) (by decide) (by have := hB.size; simp; omega) ?_; intro o' w3 ho' hg' _)
        go_roundw
        case rel => exact ⟨4, by decide, by rfl, by rw [Oct.pre_cells 4 3 n _ (by decide) (by first | (simp; done) | (simp; omega))] at ho'; exact ho', grown_below (hB.alloc hB.size _) hg' (fun k hk => ((ho.lt k hk).1))⟩
        case measure => simp [intOf]
      · go_wp2
        rw [jump_ret]
        go_ret2
        exact ⟨_, rfl, by rw [Oct.beB_len]; rw [Oct.pre_all] at ho; exact ho, hB⟩
  · clear hw
    go_enter Tryd.func74, Tryd.ntmps74
    go_wp2
    refine wp_scope_fwd 0 rfl ?_
    go_wp2_with fail
    refine (is_c _ _).mono ?_
    rw [Hw.out]
    rintro e w1 ⟨rfl, hb⟩
    have a0 : w1.cell? ⟨w.heap.size, 0, none⟩ = some (.int .i64 8) := cell_up hb (by simp [go_sem])
    have a1 : w1.cell? ⟨w.heap.size, 1, none⟩ = some (.int .u64 n) := cell_up hb (by simp [go_sem])
    have hb := below_new hb
    go_wp2_with fail
    refine (fits_c 8 n _ Hw.out h0 h1).mono ?_
    rw [Hf.out]
    rintro e w2 ⟨rfl, hb2⟩
    have hB := below_up hb hb2
    clear hb hb2 a0 a1
    go_wp2
    go_loopw [4, 7] (fun o i wr => ∃ j : Nat, j ≤ 8 ∧ i = .int .i64 (8 - 1 - (j : Int)) ∧ wr.ownsRow w.heap.size 5 1 o j (by8 (Oct.pre 8 j n)) ∧ Below w.heap.size w wr) (fun _ i _ => (intOf i + 1).toNat)
    case atStart => exact ⟨0, by decide, rfl, World.ownsRow_nil _ _ _ _, hB⟩
    case round =>
      obtain ⟨j, hj, rfl, ho, hB⟩ := hrel
      have hjs : j = 0 ∨ j = 1 ∨ j = 2 ∨ j = 3 ∨ j = 4 ∨ j = 5 ∨ j = 6 ∨ j = 7 ∨ j = 8 := by omega
      rcases hjs with rfl | rfl | rfl | rfl | rfl | rfl | rfl | rfl | rfl
      · go_wp2_with (at_builtin; refine wpList_app rfl _ _ 22 rfl slT_u8 w.heap.size rfl (ho.alloc _) rfl (sl1 _ _ rfl _ _) (by intro u hu; simp at hu; subst hu; rfl) (by decide) (by decide) (by have := hB.size; simp; omega) ?_; intro o' w3 ho' hg' _)
        go_roundw
        case rel => exact ⟨1, by decide, by rfl, by rw [Oct.pre_cells 8 0 n _ (by decide) (by first | (simp; done) | (simp; omega))] at ho'; exact ho', grown_below (hB.alloc hB.size _) hg' (fun k hk => ((ho.lt k hk).1))⟩
        case measure => simp [intOf]
      · go_wp2_with (at_builtin; refine wpList_app rfl _ _ 22 rfl slT_u8 w.heap.size rfl (ho.alloc _) rfl (sl1 _ _ rfl _ _) (by intro u hu; simp at hu; subst hu; rfl) (by decide) (by decide) (by have := hB.size; simp; omega) ?_; intro o' w3 ho' hg' _)
        go_roundw
        case rel => exact ⟨2, by decide, by rfl, by rw [Oct.pre_cells 8 1 n _ (by decide) (by first | (simp; done) | (simp; omega))] at ho'; exact ho', grown_below (hB.alloc hB.size _) hg' (fun k hk => ((ho.lt k hk).1))⟩
        case measure => simp [intOf]
      · go_wp2_with (at_builtin; refine wpList_app rfl _ _ 22 rfl slT_u8 w.heap.size rfl (ho.alloc _) rfl (sl1 _ _ rfl _ _) (by intro u hu; simp at hu; subst hu; rfl) (by decide) (by decide) (by have := hB.size; simp; omega) ?_; intro o' w3 ho' hg' _)
        go_roundw
        case rel => exact ⟨3, by decide, by rfl, by rw [Oct.pre_cells 8 2 n _ (by decide) (by first | (simp; done) | (simp; omega))] at ho'; exact ho', grown_below (hB.alloc hB.size _) hg' (fun k hk => ((ho.lt k hk).1))⟩
        case measure => simp [intOf]
      · go_wp2_with (at_builtin; refine wpList_app rfl _ _ 22 rfl slT_u8 w.heap.size rfl (ho.alloc _) rfl (sl1 _ _ rfl _ _) (by intro u hu; simp at hu; subst hu; rfl) (by decide) (by decide) (by have := hB.size; simp; omega) ?_; intro o' w3 ho' hg' _)
        go_roundw
        case rel => exact ⟨4, by decide, by rfl, by rw [Oct.pre_cells 8 3 n _ (by decide) (by first | (simp; done) | (simp; omega))] at ho'; exact ho', grown_below (hB.alloc hB.size _) hg' (fun k hk => ((ho.lt k hk).1))⟩
        case measure => simp [intOf]
      · go_wp2_with (at_builtin; refine wpList_app rfl _ _ 22 rfl slT_u8 w.heap.size rfl (ho.alloc _) rfl (sl1 _ _ rfl _ _) (by intro u hu; simp at hu; subst hu; rfl) (by decide) (by decide) (by have := hB.size; simp; omega) ?_; intro o' w3 ho' hg' _)
        go_roundw
        case rel => exact ⟨5, by decide, by rfl, by rw [Oct.pre_cells 8 4 n _ (by decide) (by first | (simp; done) | (simp; omega))] at ho'; exact ho', grown_below (hB.alloc hB.size _) hg' (fun k hk => ((ho.lt k hk).1))⟩
        case measure => simp [intOf]
      · go_wp2_with (at_builtin; refine wpList_app rfl _ _ 22 rfl slT_u8 w.heap.size rfl (ho.alloc _) rfl (sl1 _ _ rfl _ _) (by intro u hu; simp at hu; subst hu; rfl) (by decide) (by decide) (by have := hB.size; simp; omega) ?_; intro o' w3 ho' hg' _)
        go_roundw
        case rel => exact ⟨6, by decide, by rfl, by rw [Oct.pre_cells 8 5 n _ (by decide) (by first | (simp; done) | (simp; omega))] at ho'; exact ho', grown_below (hB.alloc hB.size _) hg' (fun k hk => ((ho.lt k hk).1))⟩
        case measure => simp [intOf]
      · go_wp2_with (at_builtin; refine wpList_app rfl _ _ 22 rfl slT_u8 w.heap.size rfl (ho.alloc _) rfl (sl1 _ _ rfl _ _) (by intro u hu; simp at hu; subst hu; rfl) (by decide) (by decide) (by have := hB.size; simp; omega) ?_; intro o' w3 ho' hg' _)
        go_roundw
        case rel => exact ⟨7, by decide, by rfl, by rw [Oct.pre_cells 8 6 n _ (by decide) (by first | (simp; done) | (simp; omega))] at ho'; exact ho', grown_below (hB.alloc hB.size _) hg' (fun k hk => ((ho.lt k hk).1))⟩
        case measure => simp [intOf]
      · go_wp2_with (at_builtin; refine wpList_app rfl _ _ 22 rfl slT_u8 w.heap.size rfl (ho.alloc _) rfl (sl1 _ _ rfl _ _) (by intro u hu; simp at hu; subst hu; rfl) (by decide) (by decide) (by have := hB.size; simp; omega) ?_; intro o' w3 ho' hg' _)
        go_roundw
        case rel => exact ⟨8, by decide, by rfl, by rw [Oct.pre_cells 8 7 n _ (by decide) (by first | (simp; done) | (simp; omega))] at ho'; exact ho', grown_below (hB.alloc hB.size _) hg' (fun k hk => ((ho.lt k hk).1))⟩
        case measure => simp [intOf]
      · go_wp2
        rw [jump_ret]
        go_ret2
        exact ⟨_, rfl, by rw [Oct.beB_len]; rw [Oct.pre_all] at ho; exact ho, hB⟩

namespace Oct
theorem fitsB_lt {wd n : Int} (hf : fitsB wd n = true) : n < 256 ^ wd.toNat := by simpa [fitsB] using hf
end Oct
/-- octet.Put. -/
theorem put_c (n wd : Int) (w : World) (h0 : 0 ≤ n) (h1 : n ≤ 18446744073709551615) :
    Calls Tryd.prog 74 #[.int .u64 n, .int .i64 wd] w (RetBy w.heap.size (Oct.putB n wd) (Oct.putE n wd) w) := by
  unfold Oct.putB Oct.putE
  cases hw : Oct.okW wd with
  | false => exact put_bad_c n wd w hw
  | true =>
    cases hf : Oct.fitsB wd n with
    | false => exact put_long_c n wd w h0 h1 hw hf
    | true => exact put_ok_c n wd w h0 h1 hw hf
end Go.Proofs.YtjenohodgpmchaaDoor
