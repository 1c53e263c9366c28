/-
  OctetB, OctetC: several texts in one (bundle.py).
-/
import Derived.Test.YtpkonagjnfphkaaGreatDoorPmY02
import Derived.Laws.Bits64b
set_option linter.unusedSimpArgs false
set_option linter.unusedVariables false
set_option maxHeartbeats 1000000
namespace Go.Proofs.YtpkonagjnfphkaaGreatDoor
open Go.RowKit
theorem slT_u8 : SlT Tryz.prog 48 5 1 1 := SlT.mk' Tryz.underlying48 (z := .int .u8 0) (by kernel_rfl) rfl (by decide)
namespace Oct
def beB : Nat → Int → List UInt8
  | 0, _ => []
  | k + 1, n => beB k (n / 256) ++ [UInt8.ofNat (n % 256).toNat]
theorem beB_len (k : Nat) (n : Int) : (beB k n).length = k := by
  induction k generalizing n with
  | zero => rfl
  | succ k ih => simp [beB, ih]
def beV (l : List UInt8) : Int := l.foldl (fun a b => a * 256 + (b.toNat : Int)) 0
theorem beV_snoc (l : List UInt8) (b : UInt8) : beV (l ++ [b]) = beV l * 256 + (b.toNat : Int) := by simp [beV]
theorem byte_mod (n : Int) : ((UInt8.ofNat (n % 256).toNat).toNat : Int) = n % 256 := by
  simp only [UInt8.toNat_ofNat']; omega
theorem beV_lo (l : List UInt8) : 0 ≤ beV l := by
  suffices ∀ (a : Int), 0 ≤ a → 0 ≤ l.foldl (fun a b => a * 256 + (b.toNat : Int)) a from this 0 (by decide)
  induction l with
  | nil => intro a h; exact h
  | cons b l ih => intro a h; exact ih _ (by show 0 ≤ a * 256 + (b.toNat : Int); omega)
theorem beV_hi (l : List UInt8) : beV l < 256 ^ l.length := by
  suffices ∀ (l : List UInt8) (a : Int), 0 ≤ a → l.foldl (fun a b => a * 256 + (b.toNat : Int)) a < (a + 1) * 256 ^ l.length by
    have := this l 0 (by decide); simpa [beV] using this
  intro l
  induction l with
  | nil => intro a h; simp; omega
  | cons b l ih =>
    intro a h
    have hb : (b.toNat : Int) < 256 := by have := b.toNat_lt; omega
    have := ih (a * 256 + (b.toNat : Int)) (by omega); refine Int.lt_of_lt_of_le this ?_; rw [List.length_cons, Int.pow_succ, Int.mul_comm (256 ^ l.length) 256, ← Int.mul_assoc]; refine Int.mul_le_mul_of_nonneg_right (by omega) ?_; exact Int.le_of_lt (Int.pow_pos (by decide))
def putB (n w : Int) : List UInt8 := if okW w && fitsB w n then beB w.toNat n else []
def putE (n w : Int) : Int := if okW w then (if fitsB w n then 0 else 4) else 2
end Oct
theorem sl1 (w : World) (k : Nat) (hk : k = w.heap.size) (x : Value) (T : TypeId) : Sl (w.alloc (.cells #[x] T)) 1 (.slice (some ⟨k, 0, none⟩) 1 1) 1 [x] := by
  subst hk; exact Sl.of_own (World.ownsRow_lit w #[x] 1 (size := 1) (e := T) (Nat.le_refl _) (by decide) rfl)
def RetBy (base : Nat) (l : List UInt8) (er : Int) (w : World) (e : Ending) (w' : World) : Prop :=
  ∃ v, e = .returned (.tuple #[v, .int .i64 er]) ∧ w'.ownsRow base 5 1 v l.length (by8 l) ∧ Below w.heap.size w w'
theorem RetBy.of {base : Nat} {l l' : List UInt8} {er er' : Int} {v : Value} {w w' : World} (hl : l = l') (he : er = er') (ho : w'.ownsRow base 5 1 v l'.length (by8 l')) (hB : Below w.heap.size w w') :
    RetBy base l er w (.returned (.tuple #[v, .int .i64 er'])) w' := by subst hl he; exact ⟨v, rfl, ho, hB⟩
theorem put_bad_c (n wd : Int) (w : World) (hw : Oct.okW wd = false) :
    Calls Tryz.prog 93 #[.int .u64 n, .int .i64 wd] w (RetBy w.heap.size [] 2 w) := by
  have Hw := Lib.hid hw; clear hw; go_enter Tryz.func93, Tryz.ntmps93; go_wp2; refine wp_scope_fwd 0 rfl ?_
  go_wp2_with (go_at_call 118; refine (is_c _ _).mono ?_; rw [Hw.out]; rintro e w1 ⟨rfl, hb⟩)
  go_step3
  go_wp2; refine jump_fwd ?_; go_wp2; rw [jump_ret]
  go_ret2
  exact ⟨_, rfl, World.ownsRow_nil _ _ _ _, below_new hb⟩
theorem put_long_c (n wd : Int) (w : World) (h0 : 0 ≤ n) (h1 : n ≤ 18446744073709551615) (hw : Oct.okW wd = true) (hf : Oct.fitsB wd n = false) :
    Calls Tryz.prog 93 #[.int .u64 n, .int .i64 wd] w (RetBy w.heap.size [] 4 w) := by
  have Hw := Lib.hid hw; have Hf := Lib.hid hf; clear hf; go_enter Tryz.func93, Tryz.ntmps93; go_wp2; refine wp_scope_fwd 0 rfl ?_
  go_wp2_with fail
  refine (is_c _ _).mono ?_; rw [Hw.out]; rintro e w1 ⟨rfl, hb⟩; have a0 : w1.cell? ⟨w.heap.size, 0, none⟩ = some (.int .i64 wd) := cell_up hb (by simp [go_sem]); have a1 : w1.cell? ⟨w.heap.size, 1, none⟩ = some (.int .u64 n) := cell_up hb (by simp [go_sem]); have hb := below_new hb; clear hw
  go_wp2_with fail
  refine (fits_c wd n _ Hw.out h0 h1).mono ?_; rw [Hf.out]; rintro e w2 ⟨rfl, hb2⟩; go_wp2
  go_step3
  go_wp2; refine jump_fwd ?_; go_wp2; rw [jump_ret]
  go_ret2
  exact ⟨_, rfl, World.ownsRow_nil _ _ _ _, below_up hb hb2⟩
namespace Oct
def pre (wd j : Nat) (n : Int) : List UInt8 := beB j (n / 256 ^ (wd - j))
theorem pre_succ (wd j : Nat) (n : Int) (h : j < wd) : pre wd (j + 1) n = pre wd j n ++ [UInt8.ofNat (n / 256 ^ (wd - (j + 1)) % 256).toNat] := by
  unfold pre; rw [beB]
  congr 2
  rw [Int.ediv_ediv_of_nonneg (Int.le_of_lt (Int.pow_pos (by decide))), ← Int.pow_succ]
  congr 2
  omega
theorem pre_all (wd : Nat) (n : Int) : pre wd wd n = beB wd n := by unfold pre; simp
theorem pre_cells (wd j : Nat) (n m : Int) (h : j < wd) (hm : n / 256 ^ (wd - (j + 1)) % 256 = m) : by8 (pre wd j n) ++ [.int .u8 m] = by8 (pre wd (j + 1) n) := by
  rw [pre_succ wd j n h, by8_app]
  congr 1
  simp only [by8, List.map_cons, List.map_nil]; rw [byte_mod, hm]
end Oct
theorem put_ok_c (n wd : Int) (w : World) (h0 : 0 ≤ n) (h1 : n ≤ 18446744073709551615) (hw : Oct.okW wd = true) (hf : Oct.fitsB wd n = true) :
    Calls Tryz.prog 93 #[.int .u64 n, .int .i64 wd] w (RetBy w.heap.size (Oct.beB wd.toNat n) 0 w) := by
  have Hw := Lib.hid hw; have Hf := Lib.hid hf; clear hf; rcases Oct.okW_cases hw with rfl | rfl | rfl | rfl
  · clear hw
    go_enter Tryz.func93, Tryz.ntmps93; go_wp2; refine wp_scope_fwd 0 rfl ?_
    go_wp2_with fail
    refine (is_c _ _).mono ?_; rw [Hw.out]; rintro e w1 ⟨rfl, hb⟩; have a0 : w1.cell? ⟨w.heap.size, 0, none⟩ = some (.int .i64 1) := cell_up hb (by simp [go_sem]); have a1 : w1.cell? ⟨w.heap.size, 1, none⟩ = some (.int .u64 n) := cell_up hb (by simp [go_sem]); have hb := below_new hb
    go_wp2_with fail
    refine (fits_c 1 n _ Hw.out h0 h1).mono ?_; rw [Hf.out]; rintro e w2 ⟨rfl, hb2⟩; have hB := below_up hb hb2; clear hb hb2 a0 a1; go_wp2
    go_loopw [4, 7] (fun o i wr => ∃ j : Nat, j ≤ 1 ∧ i = .int .i64 (1 - 1 - (j : Int)) ∧ wr.ownsRow w.heap.size 5 1 o j (by8 (Oct.pre 1 j n)) ∧ Below w.heap.size w wr) (fun _ i _ => (intOf i + 1).toNat)
    case atStart => exact ⟨0, by decide, rfl, World.ownsRow_nil _ _ _ _, hB⟩
    case round =>
      obtain ⟨j, hj, rfl, ho, hB⟩ := hrel
      have hjs : j = 0 ∨ j = 1 := by omega
      rcases hjs with rfl | rfl
      · go_wp2_with (at_builtin; refine wpList_app rfl _ _ 48 rfl slT_u8 w.heap.size rfl (ho.alloc _) rfl (sl1 _ _ rfl _ _) (by intro u hu; simp at hu; subst hu; rfl) (by decide) (by decide) (by have := hB.size; simp; omega) ?_; intro o' w3 ho' hg' _)
        go_roundw
        case rel => exact ⟨1, by decide, by rfl, by rw [Oct.pre_cells 1 0 n _ (by decide) (by first | (simp; done) | (simp; omega))] at ho'; exact ho', grown_below (hB.alloc hB.size _) hg' (fun k hk => ((ho.lt k hk).1))⟩
        case measure => simp [intOf]
      · go_wp2
        rw [jump_ret]
        go_ret2
        exact ⟨_, rfl, by rw [Oct.beB_len]; rw [Oct.pre_all] at ho; exact ho, hB⟩
  · clear hw
    go_enter Tryz.func93, Tryz.ntmps93; go_wp2; refine wp_scope_fwd 0 rfl ?_
    go_wp2_with fail
    refine (is_c _ _).mono ?_; rw [Hw.out]; rintro e w1 ⟨rfl, hb⟩; have a0 : w1.cell? ⟨w.heap.size, 0, none⟩ = some (.int .i64 2) := cell_up hb (by simp [go_sem]); have a1 : w1.cell? ⟨w.heap.size, 1, none⟩ = some (.int .u64 n) := cell_up hb (by simp [go_sem]); have hb := below_new hb
    go_wp2_with fail
    refine (fits_c 2 n _ Hw.out h0 h1).mono ?_; rw [Hf.out]; rintro e w2 ⟨rfl, hb2⟩; have hB := below_up hb hb2; clear hb hb2 a0 a1; go_wp2
    go_loopw [4, 7] (fun o i wr => ∃ j : Nat, j ≤ 2 ∧ i = .int .i64 (2 - 1 - (j : Int)) ∧ wr.ownsRow w.heap.size 5 1 o j (by8 (Oct.pre 2 j n)) ∧ Below w.heap.size w wr) (fun _ i _ => (intOf i + 1).toNat)
    case atStart => exact ⟨0, by decide, rfl, World.ownsRow_nil _ _ _ _, hB⟩
    case round =>
      obtain ⟨j, hj, rfl, ho, hB⟩ := hrel
      have hjs : j = 0 ∨ j = 1 ∨ j = 2 := by omega
      rcases hjs with rfl | rfl | rfl
      · go_wp2_with (at_builtin; refine wpList_app rfl _ _ 48 rfl slT_u8 w.heap.size rfl (ho.alloc _) rfl (sl1 _ _ rfl _ _) (by intro u hu; simp at hu; subst hu; rfl) (by decide) (by decide) (by have := hB.size; simp; omega) ?_; intro o' w3 ho' hg' _)
        go_roundw
        case rel => exact ⟨1, by decide, by rfl, by rw [Oct.pre_cells 2 0 n _ (by decide) (by first | (simp; done) | (simp; omega))] at ho'; exact ho', grown_below (hB.alloc hB.size _) hg' (fun k hk => ((ho.lt k hk).1))⟩
        case measure => simp [intOf]
      · go_wp2_with (at_builtin; refine wpList_app rfl _ _ 48 rfl slT_u8 w.heap.size rfl (ho.alloc _) rfl (sl1 _ _ rfl _ _) (by intro u hu; simp at hu; subst hu; rfl) (by decide) (by decide) (by have := hB.size; simp; omega) ?_; intro o' w3 ho' hg' _)
        go_roundw
        case rel => exact ⟨2, by decide, by rfl, by rw [Oct.pre_cells 2 1 n _ (by decide) (by first | (simp; done) | (simp; omega))] at ho'; exact ho', grown_below (hB.alloc hB.size _) hg' (fun k hk => ((ho.lt k hk).1))⟩
        case measure => simp [intOf]
      · go_wp2
        rw [jump_ret]
        go_ret2
        exact ⟨_, rfl, by rw [Oct.beB_len]; rw [Oct.pre_all] at ho; exact ho, hB⟩
  · clear hw
    go_enter Tryz.func93, Tryz.ntmps93; go_wp2; refine wp_scope_fwd 0 rfl ?_
    go_wp2_with fail
    refine (is_c _ _).mono ?_; rw [Hw.out]; rintro e w1 ⟨rfl, hb⟩; have a0 : w1.cell? ⟨w.heap.size, 0, none⟩ = some (.int .i64 4) := cell_up hb (by simp [go_sem]); have a1 : w1.cell? ⟨w.heap.size, 1, none⟩ = some (.int .u64 n) := cell_up hb (by simp [go_sem]); have hb := below_new hb
    go_wp2_with fail
    refine (fits_c 4 n _ Hw.out h0 h1).mono ?_; rw [Hf.out]; rintro e w2 ⟨rfl, hb2⟩; have hB := below_up hb hb2; clear hb hb2 a0 a1; go_wp2
    go_loopw [4, 7] (fun o i wr => ∃ j : Nat, j ≤ 4 ∧ i = .int .i64 (4 - 1 - (j : Int)) ∧ wr.ownsRow w.heap.size 5 1 o j (by8 (Oct.pre 4 j n)) ∧ Below w.heap.size w wr) (fun _ i _ => (intOf i + 1).toNat)
    case atStart => exact ⟨0, by decide, rfl, World.ownsRow_nil _ _ _ _, hB⟩
    case round =>
      obtain ⟨j, hj, rfl, ho, hB⟩ := hrel
      have hjs : j = 0 ∨ j = 1 ∨ j = 2 ∨ j = 3 ∨ j = 4 := by omega
      rcases hjs with rfl | rfl | rfl | rfl | rfl
      · go_wp2_with (at_builtin; refine wpList_app rfl _ _ 48 rfl slT_u8 w.heap.size rfl (ho.alloc _) rfl (sl1 _ _ rfl _ _) (by intro u hu; simp at hu; subst hu; rfl) (by decide) (by decide) (by have := hB.size; simp; omega) ?_; intro o' w3 ho' hg' _)
        go_roundw
        case rel => exact ⟨1, by decide, by rfl, by rw [Oct.pre_cells 4 0 n _ (by decide) (by first | (simp; done) | (simp; omega))] at ho'; exact ho', grown_below (hB.alloc hB.size _) hg' (fun k hk => ((ho.lt k hk).1))⟩
        case measure => simp [intOf]
      · go_wp2_with (at_builtin; refine wpList_app rfl _ _ 48 rfl slT_u8 w.heap.size rfl (ho.alloc _) rfl (sl1 _ _ rfl _ _) (by intro u hu; simp at hu; subst hu; rfl) (by decide) (by decide) (by have := hB.size; simp; omega) ?_; intro o' w3 ho' hg' _)
        go_roundw
        case rel => exact ⟨2, by decide, by rfl, by rw [Oct.pre_cells 4 1 n _ (by decide) (by first | (simp; done) | (simp; omega))] at ho'; exact ho', grown_below (hB.alloc hB.size _) hg' (fun k hk => ((ho.lt k hk).1))⟩
        case measure => simp [intOf]
      · go_wp2_with (at_builtin; refine wpList_app rfl _ _ 48 rfl slT_u8 w.heap.size rfl (ho.alloc _) rfl (sl1 _ _ rfl _ _) (by intro u hu; simp at hu; subst hu; rfl) (by decide) (by decide) (by have := hB.size; simp; omega) ?_; intro o' w3 ho' hg' _)
        go_roundw
        case rel => exact ⟨3, by decide, by rfl, by rw [Oct.pre_cells 4 2 n _ (by decide) (by first | (simp; done) | (simp; omega))] at ho'; exact ho', grown_below (hB.alloc hB.size _) hg' (fun k hk => ((ho.lt k hk).1))⟩
        case measure => simp [intOf]
      · go_wp2_with (at_builtin; refine wpList_app rfl _ _ 48 rfl slT_u8 w.heap.size rfl (ho.alloc _) rfl (sl1 _ _ rfl _ _) (by intro u hu; simp at hu; subst hu; rfl) (by decide) (by decide) (by have := hB.size; simp; omega) ?_; intro o' w3 ho' hg' _)
        go_roundw
        case rel => exact ⟨4, by decide, by rfl, by rw [Oct.pre_cells 4 3 n _ (by decide) (by first | (simp; done) | (simp; omega))] at ho'; exact ho', grown_below (hB.alloc hB.size _) hg' (fun k hk => ((ho.lt k hk).1))⟩
        case measure => simp [intOf]
      · go_wp2
        rw [jump_ret]
        go_ret2
        exact ⟨_, rfl, by rw [Oct.beB_len]; rw [Oct.pre_all] at ho; exact ho, hB⟩
  · clear hw
    go_enter Tryz.func93, Tryz.ntmps93; go_wp2; refine wp_scope_fwd 0 rfl ?_
    go_wp2_with fail
    refine (is_c _ _).mono ?_; rw [Hw.out]; rintro e w1 ⟨rfl, hb⟩; have a0 : w1.cell? ⟨w.heap.size, 0, none⟩ = some (.int .i64 8) := cell_up hb (by simp [go_sem]); have a1 : w1.cell? ⟨w.heap.size, 1, none⟩ = some (.int .u64 n) := cell_up hb (by simp [go_sem]); have hb := below_new hb
    go_wp2_with fail
    refine (fits_c 8 n _ Hw.out h0 h1).mono ?_; rw [Hf.out]; rintro e w2 ⟨rfl, hb2⟩; have hB := below_up hb hb2; clear hb hb2 a0 a1; go_wp2
    go_loopw [4, 7] (fun o i wr => ∃ j : Nat, j ≤ 8 ∧ i = .int .i64 (8 - 1 - (j : Int)) ∧ wr.ownsRow w.heap.size 5 1 o j (by8 (Oct.pre 8 j n)) ∧ Below w.heap.size w wr) (fun _ i _ => (intOf i + 1).toNat)
    case atStart => exact ⟨0, by decide, rfl, World.ownsRow_nil _ _ _ _, hB⟩
    case round =>
      obtain ⟨j, hj, rfl, ho, hB⟩ := hrel
      have hjs : j = 0 ∨ j = 1 ∨ j = 2 ∨ j = 3 ∨ j = 4 ∨ j = 5 ∨ j = 6 ∨ j = 7 ∨ j = 8 := by omega
      rcases hjs with rfl | rfl | rfl | rfl | rfl | rfl | rfl | rfl | rfl
      · go_wp2_with (at_builtin; refine wpList_app rfl _ _ 48 rfl slT_u8 w.heap.size rfl (ho.alloc _) rfl (sl1 _ _ rfl _ _) (by intro u hu; simp at hu; subst hu; rfl) (by decide) (by decide) (by have := hB.size; simp; omega) ?_; intro o' w3 ho' hg' _)
        go_roundw
        case rel => exact ⟨1, by decide, by rfl, by rw [Oct.pre_cells 8 0 n _ (by decide) (by first | (simp; done) | (simp; omega))] at ho'; exact ho', grown_below (hB.alloc hB.size _) hg' (fun k hk => ((ho.lt k hk).1))⟩
        case measure => simp [intOf]
      · go_wp2_with (at_builtin; refine wpList_app rfl _ _ 48 rfl slT_u8 w.heap.size rfl (ho.alloc _) rfl (sl1 _ _ rfl _ _) (by intro u hu; simp at hu; subst hu; rfl) (by decide) (by decide) (by have := hB.size; simp; omega) ?_; intro o' w3 ho' hg' _)
        go_roundw
        case rel => exact ⟨2, by decide, by rfl, by rw [Oct.pre_cells 8 1 n _ (by decide) (by first | (simp; done) | (simp; omega))] at ho'; exact ho', grown_below (hB.alloc hB.size _) hg' (fun k hk => ((ho.lt k hk).1))⟩
        case measure => simp [intOf]
      · go_wp2_with (at_builtin; refine wpList_app rfl _ _ 48 rfl slT_u8 w.heap.size rfl (ho.alloc _) rfl (sl1 _ _ rfl _ _) (by intro u hu; simp at hu; subst hu; rfl) (by decide) (by decide) (by have := hB.size; simp; omega) ?_; intro o' w3 ho' hg' _)
        go_roundw
        case rel => exact ⟨3, by decide, by rfl, by rw [Oct.pre_cells 8 2 n _ (by decide) (by first | (simp; done) | (simp; omega))] at ho'; exact ho', grown_below (hB.alloc hB.size _) hg' (fun k hk => ((ho.lt k hk).1))⟩
        case measure => simp [intOf]
      · go_wp2_with (at_builtin; refine wpList_app rfl _ _ 48 rfl slT_u8 w.heap.size rfl (ho.alloc _) rfl (sl1 _ _ rfl _ _) (by intro u hu; simp at hu; subst hu; rfl) (by decide) (by decide) (by have := hB.size; simp; omega) ?_; intro o' w3 ho' hg' _)
        go_roundw
        case rel => exact ⟨4, by decide, by rfl, by rw [Oct.pre_cells 8 3 n _ (by decide) (by first | (simp; done) | (simp; omega))] at ho'; exact ho', grown_below (hB.alloc hB.size _) hg' (fun k hk => ((ho.lt k hk).1))⟩
        case measure => simp [intOf]
      · go_wp2_with (at_builtin; refine wpList_app rfl _ _ 48 rfl slT_u8 w.heap.size rfl (ho.alloc _) rfl (sl1 _ _ rfl _ _) (by intro u hu; simp at hu; subst hu; rfl) (by decide) (by decide) (by have := hB.size; simp; omega) ?_; intro o' w3 ho' hg' _)
        go_roundw
        case rel => exact ⟨5, by decide, by rfl, by rw [Oct.pre_cells 8 4 n _ (by decide) (by first | (simp; done) | (simp; omega))] at ho'; exact ho', grown_below (hB.alloc hB.size _) hg' (fun k hk => ((ho.lt k hk).1))⟩
        case measure => simp [intOf]
      · go_wp2_with (at_builtin; refine wpList_app rfl _ _ 48 rfl slT_u8 w.heap.size rfl (ho.alloc _) rfl (sl1 _ _ rfl _ _) (by intro u hu; simp at hu; subst hu; rfl) (by decide) (by decide) (by have := hB.size; simp; omega) ?_; intro o' w3 ho' hg' _)
        go_roundw
        case rel => exact ⟨6, by decide, by rfl, by rw [Oct.pre_cells 8 5 n _ (by decide) (by first | (simp; done) | (simp; omega))] at ho'; exact ho', grown_below (hB.alloc hB.size _) hg' (fun k hk => ((ho.lt k hk).1))⟩
        case measure => simp [intOf]
      · go_wp2_with (at_builtin; refine wpList_app rfl _ _ 48 rfl slT_u8 w.heap.size rfl (ho.alloc _) rfl (sl1 _ _ rfl _ _) (by intro u hu; simp at hu; subst hu; rfl) (by decide) (by decide) (by have := hB.size; simp; omega) ?_; intro o' w3 ho' hg' _)
        go_roundw
        case rel => exact ⟨7, by decide, by rfl, by rw [Oct.pre_cells 8 6 n _ (by decide) (by first | (simp; done) | (simp; omega))] at ho'; exact ho', grown_below (hB.alloc hB.size _) hg' (fun k hk => ((ho.lt k hk).1))⟩
        case measure => simp [intOf]
      · go_wp2_with (at_builtin; refine wpList_app rfl _ _ 48 rfl slT_u8 w.heap.size rfl (ho.alloc _) rfl (sl1 _ _ rfl _ _) (by intro u hu; simp at hu; subst hu; rfl) (by decide) (by decide) (by have := hB.size; simp; omega) ?_; intro o' w3 ho' hg' _)
        go_roundw
        case rel => exact ⟨8, by decide, by rfl, by rw [Oct.pre_cells 8 7 n _ (by decide) (by first | (simp; done) | (simp; omega))] at ho'; exact ho', grown_below (hB.alloc hB.size _) hg' (fun k hk => ((ho.lt k hk).1))⟩
        case measure => simp [intOf]
      · go_wp2
        rw [jump_ret]
        go_ret2
        exact ⟨_, rfl, by rw [Oct.beB_len]; rw [Oct.pre_all] at ho; exact ho, hB⟩
namespace Oct
theorem fitsB_lt {wd n : Int} (hf : fitsB wd n = true) : n < 256 ^ wd.toNat := by simpa [fitsB] using hf
end Oct
theorem put_c (n wd : Int) (w : World) (h0 : 0 ≤ n) (h1 : n ≤ 18446744073709551615) :
    Calls Tryz.prog 93 #[.int .u64 n, .int .i64 wd] w (RetBy w.heap.size (Oct.putB n wd) (Oct.putE n wd) w) := by
  unfold Oct.putB Oct.putE
  cases hw : Oct.okW wd with
  | false => exact put_bad_c n wd w hw
  | true =>
    cases hf : Oct.fitsB wd n with
    | false => exact put_long_c n wd w h0 h1 hw hf
    | true => exact put_ok_c n wd w h0 h1 hw hf
theorem putR_bad_c (n wd : Int) (w : World) (hw : Oct.okW wd = false) :
    Calls Tryz.prog 104 #[.int .u64 n, .int .i64 wd] w (RetBy w.heap.size [] 2 w) := by
  have Hw := Lib.hid hw; clear hw; go_enter Tryz.func104, Tryz.ntmps104
  go_wp2_with (go_at_call 128; refine (widthR_c _ _).mono ?_; rw [Hw.out]; rintro e w1 ⟨rfl, rfl⟩)
  go_ret2
  exact ⟨_, rfl, World.ownsRow_nil _ _ _ _, Below.refl _ _⟩
namespace Oct
def back (wd j : Nat) (n : Int) : List UInt8 := List.replicate (wd - j) 0 ++ beB j n
theorem beB_cons (k : Nat) (n : Int) : beB (k + 1) n = UInt8.ofNat (n / 256 ^ k % 256).toNat :: beB k n := by
  induction k generalizing n with
  | zero => simp [beB]
  | succ k ih =>
    rw [beB, ih (n / 256)]
    conv => rhs; rw [beB]
    rw [List.cons_append]
    congr 3
    rw [Int.ediv_ediv_of_nonneg (by decide), Int.mul_comm, ← Int.pow_succ]
theorem back_all (wd : Nat) (n : Int) : back wd wd n = beB wd n := by simp [back]
theorem back_set (wd j : Nat) (n m : Int) (h : j < wd) (hm : n / 256 ^ j % 256 = m) : (by8 (back wd j n)).set (wd - 1 - j) (.int .u8 m) = by8 (back wd (j + 1) n) := by
  have e : wd - j = (wd - 1 - j) + 1 := by omega
  have e2 : wd - (j + 1) = wd - 1 - j := by omega
  unfold back; rw [e, e2, beB_cons]; generalize hk : wd - 1 - j = k
  have hb : by8 (List.replicate (k + 1) 0 ++ beB j n) = by8 (List.replicate k 0) ++ (.int .u8 0 :: by8 (beB j n)) := by
    rw [List.replicate_succ', List.append_assoc, by8_app]; rfl
  rw [hb, List.set_append_right _ _ (by simp [by8_len]), by8_app]
  congr 1
  simp only [by8_len, List.length_replicate, Nat.sub_self, List.set_cons_zero]; show _ :: by8 (beB j n) = Value.int .u8 (((UInt8.ofNat (n / 256 ^ j % 256).toNat).toNat : Nat) : Int) :: by8 (beB j n); rw [byte_mod, hm]
end Oct
theorem putR_ok_c (n wd : Int) (w : World) (h0 : 0 ≤ n) (h1 : n ≤ 18446744073709551615) (hw : Oct.okW wd = true) :
    Calls Tryz.prog 104 #[.int .u64 n, .int .i64 wd] w (RetBy w.heap.size (Oct.putB n wd) (Oct.putE n wd) w) := by
  have Hw := Lib.hid hw; rcases Oct.okW_cases hw with rfl | rfl | rfl | rfl
  · clear hw
    have hmk : ∀ w : World, (Instr.makeSlice 48 (.int .i64 1) (.int .i64 1)).run Tryz.prog w = .ok (.slice (some ⟨w.heap.size, 0, none⟩) 1 1) (w.alloc (.cells #[.int .u8 0] 5)) := fun _ => by kernel_rfl
    have hown : (w.alloc (.cells #[.int .u8 0] 5)).ownsRow w.heap.size 5 1 (.slice (some ⟨w.heap.size, 0, none⟩) 1 1) 1 (by8 (Oct.back 1 0 n)) := World.ownsRow_lit w #[.int .u8 0] 1 (size := 1) (e := 5) (Nat.le_refl _) (by decide) rfl; go_enter Tryz.func104, Tryz.ntmps104
    go_wp2_with (go_at_call 128; refine (widthR_c _ _).mono ?_; rw [Hw.out]; rintro e w1 ⟨rfl, rfl⟩)
    have hB := below_alloc w (.cells #[.int .u8 0] 5)
    go_loopw [0, 7] (fun m i wr => ∃ j : Nat, j ≤ 1 ∧ i = .int .i64 (1 - 1 - (j : Int)) ∧ m = .int .u64 (n / 256 ^ j) ∧ wr.ownsRow w.heap.size 5 1 (.slice (some ⟨w.heap.size, 0, none⟩) 1 1) 1 (by8 (Oct.back 1 j n)) ∧ Below w.heap.size w wr) (fun _ i _ => (intOf i + 1).toNat)
    case atStart => exact ⟨0, by decide, rfl, by simp, hown, hB⟩
    case round =>
      obtain ⟨j, hj, rfl, rfl, ho, hB⟩ := hrel; clear hmk hown
      have hjs : j = 0 ∨ j = 1 := by omega
      rcases hjs with rfl | rfl
      · have hf := ho.frozenAt 0
        have hc := ho.cellAt 0 (by decide); simp only [Oct.back, by8, List.replicate, List.map_cons, List.map_append, List.cons_append, List.getElem?_cons_zero, List.getElem?_cons_succ, Nat.reduceSub] at hc; have hst := (ho.stored 0 (.int .u8 (n / 256 ^ 0 % 256))).1; rw [show (0 : Nat) = 1 - 1 - 0 from rfl, Oct.back_set 1 0 n _ (by decide) rfl] at hst; have Hst := Lib.hid hst; clear hst; go_wp2
        go_roundw
        case rel => exact ⟨1, by decide, by rfl, by first | (simp; done) | (simp; omega), by simpa using Hst.out, hB.setCell (Nat.le_refl _) _⟩
        case measure => simp [intOf]
      · cases hfit : Oct.fitsB 1 n with
        | true =>
          have hz := Oct.fitsB_lt hfit; simp at hz
          have hz2 : n / 256 ^ 1 = 0 := by simp; omega
          have Hz2 := Lib.hid hz2
          have hv : Oct.putB n 1 = Oct.beB 1 n := by unfold Oct.putB; rw [Hw.out, hfit]; rfl
          have he : Oct.putE n 1 = 0 := by unfold Oct.putE; rw [Hw.out, hfit]; rfl
          have Hv := Lib.hid hv; have He := Lib.hid he; clear hv he hfit hz; go_wp2
          go_ret2
          exact RetBy.of Hv.out He.out (by rw [Oct.beB_len]; rw [Oct.back_all] at ho; exact ho) hB
        | false =>
          have hz : ¬ n < 256 ^ (1 : Int).toNat := by simpa [Oct.fitsB] using hfit
          simp at hz
          have hz2 : 0 < n / 256 ^ 1 := by simp; omega
          have hv : Oct.putB n 1 = [] := by unfold Oct.putB; rw [Hw.out, hfit]; rfl
          have he : Oct.putE n 1 = 4 := by unfold Oct.putE; rw [Hw.out, hfit]; rfl
          have Hv := Lib.hid hv; have He := Lib.hid he; clear hv he hfit hz; go_wp2
          go_ret2
          exact RetBy.of Hv.out He.out (World.ownsRow_nil _ _ _ _) hB
  · clear hw
    have hmk : ∀ w : World, (Instr.makeSlice 48 (.int .i64 2) (.int .i64 2)).run Tryz.prog w = .ok (.slice (some ⟨w.heap.size, 0, none⟩) 2 2) (w.alloc (.cells #[.int .u8 0, .int .u8 0] 5)) := fun _ => by kernel_rfl
    have hown : (w.alloc (.cells #[.int .u8 0, .int .u8 0] 5)).ownsRow w.heap.size 5 1 (.slice (some ⟨w.heap.size, 0, none⟩) 2 2) 2 (by8 (Oct.back 2 0 n)) := World.ownsRow_lit w #[.int .u8 0, .int .u8 0] 2 (size := 1) (e := 5) (Nat.le_refl _) (by decide) rfl; go_enter Tryz.func104, Tryz.ntmps104
    go_wp2_with (go_at_call 128; refine (widthR_c _ _).mono ?_; rw [Hw.out]; rintro e w1 ⟨rfl, rfl⟩)
    have hB := below_alloc w (.cells #[.int .u8 0, .int .u8 0] 5)
    go_loopw [0, 7] (fun m i wr => ∃ j : Nat, j ≤ 2 ∧ i = .int .i64 (2 - 1 - (j : Int)) ∧ m = .int .u64 (n / 256 ^ j) ∧ wr.ownsRow w.heap.size 5 1 (.slice (some ⟨w.heap.size, 0, none⟩) 2 2) 2 (by8 (Oct.back 2 j n)) ∧ Below w.heap.size w wr) (fun _ i _ => (intOf i + 1).toNat)
    case atStart => exact ⟨0, by decide, rfl, by simp, hown, hB⟩
    case round =>
      obtain ⟨j, hj, rfl, rfl, ho, hB⟩ := hrel; clear hmk hown
      have hjs : j = 0 ∨ j = 1 ∨ j = 2 := by omega
      rcases hjs with rfl | rfl | rfl
      · have hf := ho.frozenAt 1
        have hc := ho.cellAt 1 (by decide); simp only [Oct.back, by8, List.replicate, List.map_cons, List.map_append, List.cons_append, List.getElem?_cons_zero, List.getElem?_cons_succ, Nat.reduceSub] at hc; have hst := (ho.stored 1 (.int .u8 (n / 256 ^ 0 % 256))).1; rw [show (1 : Nat) = 2 - 1 - 0 from rfl, Oct.back_set 2 0 n _ (by decide) rfl] at hst; have Hst := Lib.hid hst; clear hst; go_wp2
        go_roundw
        case rel => exact ⟨1, by decide, by rfl, by first | (simp; done) | (simp; omega), by simpa using Hst.out, hB.setCell (Nat.le_refl _) _⟩
        case measure => simp [intOf]
      · have hf := ho.frozenAt 0
        have hc := ho.cellAt 0 (by decide); simp only [Oct.back, by8, List.replicate, List.map_cons, List.map_append, List.cons_append, List.getElem?_cons_zero, List.getElem?_cons_succ, Nat.reduceSub] at hc; have hst := (ho.stored 0 (.int .u8 (n / 256 ^ 1 % 256))).1; rw [show (0 : Nat) = 2 - 1 - 1 from rfl, Oct.back_set 2 1 n _ (by decide) rfl] at hst; have Hst := Lib.hid hst; clear hst; go_wp2
        go_roundw
        case rel => exact ⟨2, by decide, by rfl, by first | (simp; done) | (simp; omega), by simpa using Hst.out, hB.setCell (Nat.le_refl _) _⟩
        case measure => simp [intOf]
      · cases hfit : Oct.fitsB 2 n with
        | true =>
          have hz := Oct.fitsB_lt hfit; simp at hz
          have hz2 : n / 256 ^ 2 = 0 := by simp; omega
          have Hz2 := Lib.hid hz2
          have hv : Oct.putB n 2 = Oct.beB 2 n := by unfold Oct.putB; rw [Hw.out, hfit]; rfl
          have he : Oct.putE n 2 = 0 := by unfold Oct.putE; rw [Hw.out, hfit]; rfl
          have Hv := Lib.hid hv; have He := Lib.hid he; clear hv he hfit hz; go_wp2
          go_ret2
          exact RetBy.of Hv.out He.out (by rw [Oct.beB_len]; rw [Oct.back_all] at ho; exact ho) hB
        | false =>
          have hz : ¬ n < 256 ^ (2 : Int).toNat := by simpa [Oct.fitsB] using hfit
          simp at hz
          have hz2 : 0 < n / 256 ^ 2 := by simp; omega
          have hv : Oct.putB n 2 = [] := by unfold Oct.putB; rw [Hw.out, hfit]; rfl
          have he : Oct.putE n 2 = 4 := by unfold Oct.putE; rw [Hw.out, hfit]; rfl
          have Hv := Lib.hid hv; have He := Lib.hid he; clear hv he hfit hz; go_wp2
          go_ret2
          exact RetBy.of Hv.out He.out (World.ownsRow_nil _ _ _ _) hB
  · clear hw
    have hmk : ∀ w : World, (Instr.makeSlice 48 (.int .i64 4) (.int .i64 4)).run Tryz.prog w = .ok (.slice (some ⟨w.heap.size, 0, none⟩) 4 4) (w.alloc (.cells #[.int .u8 0, .int .u8 0, .int .u8 0, .int .u8 0] 5)) := fun _ => by kernel_rfl
    have hown : (w.alloc (.cells #[.int .u8 0, .int .u8 0, .int .u8 0, .int .u8 0] 5)).ownsRow w.heap.size 5 1 (.slice (some ⟨w.heap.size, 0, none⟩) 4 4) 4 (by8 (Oct.back 4 0 n)) := World.ownsRow_lit w #[.int .u8 0, .int .u8 0, .int .u8 0, .int .u8 0] 4 (size := 1) (e := 5) (Nat.le_refl _) (by decide) rfl; go_enter Tryz.func104, Tryz.ntmps104
    go_wp2_with (go_at_call 128; refine (widthR_c _ _).mono ?_; rw [Hw.out]; rintro e w1 ⟨rfl, rfl⟩)
    have hB := below_alloc w (.cells #[.int .u8 0, .int .u8 0, .int .u8 0, .int .u8 0] 5)
    go_loopw [0, 7] (fun m i wr => ∃ j : Nat, j ≤ 4 ∧ i = .int .i64 (4 - 1 - (j : Int)) ∧ m = .int .u64 (n / 256 ^ j) ∧ wr.ownsRow w.heap.size 5 1 (.slice (some ⟨w.heap.size, 0, none⟩) 4 4) 4 (by8 (Oct.back 4 j n)) ∧ Below w.heap.size w wr) (fun _ i _ => (intOf i + 1).toNat)
    case atStart => exact ⟨0, by decide, rfl, by simp, hown, hB⟩
    case round =>
      obtain ⟨j, hj, rfl, rfl, ho, hB⟩ := hrel; clear hmk hown
      have hjs : j = 0 ∨ j = 1 ∨ j = 2 ∨ j = 3 ∨ j = 4 := by omega
      rcases hjs with rfl | rfl | rfl | rfl | rfl
      · have hf := ho.frozenAt 3
        have hc := ho.cellAt 3 (by decide); simp only [Oct.back, by8, List.replicate, List.map_cons, List.map_append, List.cons_append, List.getElem?_cons_zero, List.getElem?_cons_succ, Nat.reduceSub] at hc; have hst := (ho.stored 3 (.int .u8 (n / 256 ^ 0 % 256))).1; rw [show (3 : Nat) = 4 - 1 - 0 from rfl, Oct.back_set 4 0 n _ (by decide) rfl] at hst; have Hst := Lib.hid hst; clear hst; go_wp2
        go_roundw
        case rel => exact ⟨1, by decide, by rfl, by first | (simp; done) | (simp; omega), by simpa using Hst.out, hB.setCell (Nat.le_refl _) _⟩
        case measure => simp [intOf]
      · have hf := ho.frozenAt 2
        have hc := ho.cellAt 2 (by decide); simp only [Oct.back, by8, List.replicate, List.map_cons, List.map_append, List.cons_append, List.getElem?_cons_zero, List.getElem?_cons_succ, Nat.reduceSub] at hc; have hst := (ho.stored 2 (.int .u8 (n / 256 ^ 1 % 256))).1; rw [show (2 : Nat) = 4 - 1 - 1 from rfl, Oct.back_set 4 1 n _ (by decide) rfl] at hst; have Hst := Lib.hid hst; clear hst; go_wp2
        go_roundw
        case rel => exact ⟨2, by decide, by rfl, by first | (simp; done) | (simp; omega), by simpa using Hst.out, hB.setCell (Nat.le_refl _) _⟩
        case measure => simp [intOf]
      · have hf := ho.frozenAt 1
        have hc := ho.cellAt 1 (by decide); simp only [Oct.back, by8, List.replicate, List.map_cons, List.map_append, List.cons_append, List.getElem?_cons_zero, List.getElem?_cons_succ, Nat.reduceSub] at hc; have hst := (ho.stored 1 (.int .u8 (n / 256 ^ 2 % 256))).1; rw [show (1 : Nat) = 4 - 1 - 2 from rfl, Oct.back_set 4 2 n _ (by decide) rfl] at hst; have Hst := Lib.hid hst; clear hst; go_wp2
        go_roundw
        case rel => exact ⟨3, by decide, by rfl, by first | (simp; done) | (simp; omega), by simpa using Hst.out, hB.setCell (Nat.le_refl _) _⟩
        case measure => simp [intOf]
      · have hf := ho.frozenAt 0
        have hc := ho.cellAt 0 (by decide); simp only [Oct.back, by8, List.replicate, List.map_cons, List.map_append, List.cons_append, List.getElem?_cons_zero, List.getElem?_cons_succ, Nat.reduceSub] at hc; have hst := (ho.stored 0 (.int .u8 (n / 256 ^ 3 % 256))).1; rw [show (0 : Nat) = 4 - 1 - 3 from rfl, Oct.back_set 4 3 n _ (by decide) rfl] at hst; have Hst := Lib.hid hst; clear hst; go_wp2
        go_roundw
        case rel => exact ⟨4, by decide, by rfl, by first | (simp; done) | (simp; omega), by simpa using Hst.out, hB.setCell (Nat.le_refl _) _⟩
        case measure => simp [intOf]
      · cases hfit : Oct.fitsB 4 n with
        | true =>
          have hz := Oct.fitsB_lt hfit; simp at hz
          have hz2 : n / 256 ^ 4 = 0 := by simp; omega
          have Hz2 := Lib.hid hz2
          have hv : Oct.putB n 4 = Oct.beB 4 n := by unfold Oct.putB; rw [Hw.out, hfit]; rfl
          have he : Oct.putE n 4 = 0 := by unfold Oct.putE; rw [Hw.out, hfit]; rfl
          have Hv := Lib.hid hv; have He := Lib.hid he; clear hv he hfit hz; go_wp2
          go_ret2
          exact RetBy.of Hv.out He.out (by rw [Oct.beB_len]; rw [Oct.back_all] at ho; exact ho) hB
        | false =>
          have hz : ¬ n < 256 ^ (4 : Int).toNat := by simpa [Oct.fitsB] using hfit
          simp at hz
          have hz2 : 0 < n / 256 ^ 4 := by simp; omega
          have hv : Oct.putB n 4 = [] := by unfold Oct.putB; rw [Hw.out, hfit]; rfl
          have he : Oct.putE n 4 = 4 := by unfold Oct.putE; rw [Hw.out, hfit]; rfl
          have Hv := Lib.hid hv; have He := Lib.hid he; clear hv he hfit hz; go_wp2
          go_ret2
          exact RetBy.of Hv.out He.out (World.ownsRow_nil _ _ _ _) hB
  · clear hw
    have hmk : ∀ w : World, (Instr.makeSlice 48 (.int .i64 8) (.int .i64 8)).run Tryz.prog w = .ok (.slice (some ⟨w.heap.size, 0, none⟩) 8 8) (w.alloc (.cells #[.int .u8 0, .int .u8 0, .int .u8 0, .int .u8 0, .int .u8 0, .int .u8 0, .int .u8 0, .int .u8 0] 5)) := fun _ => by kernel_rfl
    have hown : (w.alloc (.cells #[.int .u8 0, .int .u8 0, .int .u8 0, .int .u8 0, .int .u8 0, .int .u8 0, .int .u8 0, .int .u8 0] 5)).ownsRow w.heap.size 5 1 (.slice (some ⟨w.heap.size, 0, none⟩) 8 8) 8 (by8 (Oct.back 8 0 n)) := World.ownsRow_lit w #[.int .u8 0, .int .u8 0, .int .u8 0, .int .u8 0, .int .u8 0, .int .u8 0, .int .u8 0, .int .u8 0] 8 (size := 1) (e := 5) (Nat.le_refl _) (by decide) rfl; go_enter Tryz.func104, Tryz.ntmps104
    go_wp2_with (go_at_call 128; refine (widthR_c _ _).mono ?_; rw [Hw.out]; rintro e w1 ⟨rfl, rfl⟩)
    have hB := below_alloc w (.cells #[.int .u8 0, .int .u8 0, .int .u8 0, .int .u8 0, .int .u8 0, .int .u8 0, .int .u8 0, .int .u8 0] 5)
    go_loopw [0, 7] (fun m i wr => ∃ j : Nat, j ≤ 8 ∧ i = .int .i64 (8 - 1 - (j : Int)) ∧ m = .int .u64 (n / 256 ^ j) ∧ wr.ownsRow w.heap.size 5 1 (.slice (some ⟨w.heap.size, 0, none⟩) 8 8) 8 (by8 (Oct.back 8 j n)) ∧ Below w.heap.size w wr) (fun _ i _ => (intOf i + 1).toNat)
    case atStart => exact ⟨0, by decide, rfl, by simp, hown, hB⟩
    case round =>
      obtain ⟨j, hj, rfl, rfl, ho, hB⟩ := hrel; clear hmk hown
      have hjs : j = 0 ∨ j = 1 ∨ j = 2 ∨ j = 3 ∨ j = 4 ∨ j = 5 ∨ j = 6 ∨ j = 7 ∨ j = 8 := by omega
      rcases hjs with rfl | rfl | rfl | rfl | rfl | rfl | rfl | rfl | rfl
      · have hf := ho.frozenAt 7
        have hc := ho.cellAt 7 (by decide); simp only [Oct.back, by8, List.replicate, List.map_cons, List.map_append, List.cons_append, List.getElem?_cons_zero, List.getElem?_cons_succ, Nat.reduceSub] at hc; have hst := (ho.stored 7 (.int .u8 (n / 256 ^ 0 % 256))).1; rw [show (7 : Nat) = 8 - 1 - 0 from rfl, Oct.back_set 8 0 n _ (by decide) rfl] at hst; have Hst := Lib.hid hst; clear hst; go_wp2
        go_roundw
        case rel => exact ⟨1, by decide, by rfl, by first | (simp; done) | (simp; omega), by simpa using Hst.out, hB.setCell (Nat.le_refl _) _⟩
        case measure => simp [intOf]
      · have hf := ho.frozenAt 6
        have hc := ho.cellAt 6 (by decide); simp only [Oct.back, by8, List.replicate, List.map_cons, List.map_append, List.cons_append, List.getElem?_cons_zero, List.getElem?_cons_succ, Nat.reduceSub] at hc; have hst := (ho.stored 6 (.int .u8 (n / 256 ^ 1 % 256))).1; rw [show (6 : Nat) = 8 - 1 - 1 from rfl, Oct.back_set 8 1 n _ (by decide) rfl] at hst; have Hst := Lib.hid hst; clear hst; go_wp2
        go_roundw
        case rel => exact ⟨2, by decide, by rfl, by first | (simp; done) | (simp; omega), by simpa using Hst.out, hB.setCell (Nat.le_refl _) _⟩
        case measure => simp [intOf]
      · have hf := ho.frozenAt 5
        have hc := ho.cellAt 5 (by decide); simp only [Oct.back, by8, List.replicate, List.map_cons, List.map_append, List.cons_append, List.getElem?_cons_zero, List.getElem?_cons_succ, Nat.reduceSub] at hc; have hst := (ho.stored 5 (.int .u8 (n / 256 ^ 2 % 256))).1; rw [show (5 : Nat) = 8 - 1 - 2 from rfl, Oct.back_set 8 2 n _ (by decide) rfl] at hst; have Hst := Lib.hid hst; clear hst; go_wp2
        go_roundw
        case rel => exact ⟨3, by decide, by rfl, by first | (simp; done) | (simp; omega), by simpa using Hst.out, hB.setCell (Nat.le_refl _) _⟩
        case measure => simp [intOf]
      · have hf := ho.frozenAt 4
        have hc := ho.cellAt 4 (by decide); simp only [Oct.back, by8, List.replicate, List.map_cons, List.map_append, List.cons_append, List.getElem?_cons_zero, List.getElem?_cons_succ, Nat.reduceSub] at hc; have hst := (ho.stored 4 (.int .u8 (n / 256 ^ 3 % 256))).1; rw [show (4 : Nat) = 8 - 1 - 3 from rfl, Oct.back_set 8 3 n _ (by decide) rfl] at hst; have Hst := Lib.hid hst; clear hst; go_wp2
        go_roundw
        case rel => exact ⟨4, by decide, by rfl, by first | (simp; done) | (simp; omega), by simpa using Hst.out, hB.setCell (Nat.le_refl _) _⟩
        case measure => simp [intOf]
      · have hf := ho.frozenAt 3
        have hc := ho.cellAt 3 (by decide); simp only [Oct.back, by8, List.replicate, List.map_cons, List.map_append, List.cons_append, List.getElem?_cons_zero, List.getElem?_cons_succ, Nat.reduceSub] at hc; have hst := (ho.stored 3 (.int .u8 (n / 256 ^ 4 % 256))).1; rw [show (3 : Nat) = 8 - 1 - 4 from rfl, Oct.back_set 8 4 n _ (by decide) rfl] at hst; have Hst := Lib.hid hst; clear hst; go_wp2
        go_roundw
        case rel => exact ⟨5, by decide, by rfl, by first | (simp; done) | (simp; omega), by simpa using Hst.out, hB.setCell (Nat.le_refl _) _⟩
        case measure => simp [intOf]
      · have hf := ho.frozenAt 2
        have hc := ho.cellAt 2 (by decide); simp only [Oct.back, by8, List.replicate, List.map_cons, List.map_append, List.cons_append, List.getElem?_cons_zero, List.getElem?_cons_succ, Nat.reduceSub] at hc; have hst := (ho.stored 2 (.int .u8 (n / 256 ^ 5 % 256))).1; rw [show (2 : Nat) = 8 - 1 - 5 from rfl, Oct.back_set 8 5 n _ (by decide) rfl] at hst; have Hst := Lib.hid hst; clear hst; go_wp2
        go_roundw
        case rel => exact ⟨6, by decide, by rfl, by first | (simp; done) | (simp; omega), by simpa using Hst.out, hB.setCell (Nat.le_refl _) _⟩
        case measure => simp [intOf]
      · have hf := ho.frozenAt 1
        have hc := ho.cellAt 1 (by decide); simp only [Oct.back, by8, List.replicate, List.map_cons, List.map_append, List.cons_append, List.getElem?_cons_zero, List.getElem?_cons_succ, Nat.reduceSub] at hc; have hst := (ho.stored 1 (.int .u8 (n / 256 ^ 6 % 256))).1; rw [show (1 : Nat) = 8 - 1 - 6 from rfl, Oct.back_set 8 6 n _ (by decide) rfl] at hst; have Hst := Lib.hid hst; clear hst; go_wp2
        go_roundw
        case rel => exact ⟨7, by decide, by rfl, by first | (simp; done) | (simp; omega), by simpa using Hst.out, hB.setCell (Nat.le_refl _) _⟩
        case measure => simp [intOf]
      · have hf := ho.frozenAt 0
        have hc := ho.cellAt 0 (by decide); simp only [Oct.back, by8, List.replicate, List.map_cons, List.map_append, List.cons_append, List.getElem?_cons_zero, List.getElem?_cons_succ, Nat.reduceSub] at hc; have hst := (ho.stored 0 (.int .u8 (n / 256 ^ 7 % 256))).1; rw [show (0 : Nat) = 8 - 1 - 7 from rfl, Oct.back_set 8 7 n _ (by decide) rfl] at hst; have Hst := Lib.hid hst; clear hst; go_wp2
        go_roundw
        case rel => exact ⟨8, by decide, by rfl, by first | (simp; done) | (simp; omega), by simpa using Hst.out, hB.setCell (Nat.le_refl _) _⟩
        case measure => simp [intOf]
      · have hfit : Oct.fitsB 8 n = true := by simp [Oct.fitsB]; omega
        have hz2 : n / 256 ^ 8 = 0 := by simp; omega
        have hv : Oct.putB n 8 = Oct.beB 8 n := by unfold Oct.putB; rw [Hw.out, hfit]; rfl
        have he : Oct.putE n 8 = 0 := by unfold Oct.putE; rw [Hw.out, hfit]; rfl
        have Hv := Lib.hid hv; have He := Lib.hid he; clear hv he hfit; go_wp2
        go_ret2
        exact RetBy.of Hv.out He.out (by rw [Oct.beB_len]; rw [Oct.back_all] at ho; exact ho) hB
theorem putR_c (n wd : Int) (w : World) (h0 : 0 ≤ n) (h1 : n ≤ 18446744073709551615) :
    Calls Tryz.prog 104 #[.int .u64 n, .int .i64 wd] w (RetBy w.heap.size (Oct.putB n wd) (Oct.putE n wd) w) := by
  cases hw : Oct.okW wd with
  | false =>
    have hv : Oct.putB n wd = [] := by unfold Oct.putB; rw [hw]; rfl
    have he : Oct.putE n wd = 2 := by unfold Oct.putE; rw [hw]; rfl
    rw [hv, he]; exact putR_bad_c n wd w hw
  | true => exact putR_ok_c n wd w h0 h1 hw
end Go.Proofs.YtpkonagjnfphkaaGreatDoor
