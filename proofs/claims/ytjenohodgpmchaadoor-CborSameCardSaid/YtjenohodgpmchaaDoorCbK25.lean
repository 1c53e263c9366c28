/-
  CbHd, CbHe: several texts in one (bundle.py).
-/
import Derived.Test.YtjenohodgpmchaaDoorCbK24
import Derived.Test.YtjenohodgpmchaaDoorCbK09
import Derived.Test.YtjenohodgpmchaaDoorCbK15
import Derived.Test.YtjenohodgpmchaaDoorCbK16
namespace Go.Proofs.YtjenohodgpmchaaDoor
open Go.RowKit Cb
set_option linter.unusedSimpArgs false
set_option linter.unusedVariables false
namespace Cb
/-- A head's number, and how many bytes it has; the bytes behind the first one. -/
def headN (low : Nat) (r : List UInt8) : Option (Int × Nat) :=
  if low < 24 then some ((low : Int), 1) else if 28 ≤ low then none else if r.length < 2 ^ (low - 24) then none else some (Oct.getV (r.take (2 ^ (low - 24))), 1 + 2 ^ (low - 24))
def headOk (b : List UInt8) (m n : Int) (k : Nat) : Bool := Oct.beginsB b (headB m n) && decide ((headB m n).length = k)
/-- A head: its major, its number, how many bytes. -/
def headP (b : List UInt8) : Option (Int × Int × Nat) :=
  match b with
  | [] => none
  | f :: r => match headN (f.toNat % 32) r with
    | none => none
    | some (n, k) => if headOk b ((f.toNat / 32 : Nat) : Int) n k then some (((f.toNat / 32 : Nat) : Int), n, k) else none
end Cb
theorem wrap_i64 {x : Int} (h0 : -9223372036854775808 ≤ x) (h1 : x ≤ 9223372036854775807) : IntKind.i64.wrap x = x := by
  have hs : IntKind.i64.signed = true := rfl
  simp [IntKind.wrap, go_sem, hs]
  split <;> omega
theorem enters_headC : Enters Tryd.prog 58 := enters_of Tryd.func58 (by kernel_rfl) rfl
theorem enters_begins : Enters Tryd.prog 43 := enters_of Tryd.func43 (by kernel_rfl) rfl
theorem enters_must : Enters Tryd.prog 31 := enters_of Tryd.func31 (by kernel_rfl) rfl
/-- What reading a head tells. -/
def HdE (b : List UInt8) (w : World) (D : Nat) (en : Ending) (w' : World) : Prop :=
  But (fun k => k = D) w w' ∧ match headP b with
    | none => en = .panicked (gup 121)
    | some (m, n, k) => en = .returned (.tuple #[.int .i64 m, .int .u64 n]) ∧ ∃ v', RdAt w' D v' (b.drop k)
set_option maxHeartbeats 4000000 in
set_option maxRecDepth 100000 in
theorem hd_low (w : World) (D : Nat) (v : Value) (f : UInt8) (r : List UInt8) (h : RdAt w D v (f :: r)) (hbl : (f :: r).length ≤ 1000000) (hl : f.toNat % 32 < 24) :
    Calls Tryd.prog 45 #[.pointer (some ⟨D, 0, none⟩)] w (HdE (f :: r) w D) := by
  obtain ⟨a, c, rfl⟩ := h.sl.len
  have c0 := h.box.cell (i := 0) (v := .slice a (f :: r).length c) rfl
  have hty := take_yes w D _ (f :: r) 1 h (by simp) hbl
  have hF := f.toNat_lt
  have hsl := h.sl
  have hfar := h.far
  have HP := Lib.hid (show headP (f :: r) = if headOk (f :: r) ((f.toNat / 32 : Nat) : Int) ((f.toNat % 32 : Nat) : Int) 1 then some (((f.toNat / 32 : Nat) : Int), ((f.toNat % 32 : Nat) : Int), 1) else none by
    simp only [headP, headN, if_pos hl])
  have hone : headB ((f.toNat : Int) / 32) ((f.toNat : Int) % 32) = [f] := by
    rw [headB_small (by omega), show ((f.toNat : Int) / 32 * 32 + (f.toNat : Int) % 32).toNat = f.toNat by omega]
    simp
  have hz : Oct.beginsB (f :: r) (headB ((f.toNat : Int) / 32) ((f.toNat : Int) % 32)) = true := by rw [hone]; simp [Oct.beginsB]
  have hel : (headB ((f.toNat : Int) / 32) ((f.toNat : Int) % 32)).length = 1 := by rw [hone]; rfl
  have hok : headOk (f :: r) ((f.toNat : Int) / 32) ((f.toNat : Int) % 32) 1 = true := by unfold headOk; rw [hz, hel]; rfl
  clear hone
  rw [show (f :: r).take 1 = [f] by simp, show (f :: r).drop 1 = r by simp] at hty
  have hdm : ((f.toNat / 32 : Nat) : Int) = (f.toNat : Int) / 32 := by omega
  have hdn : ((f.toNat % 32 : Nat) : Int) = (f.toNat : Int) % 32 := by omega
  rw [hdm, hdn] at HP
  rw [hok, if_pos rfl] at HP
  clear hok
  have HDR := Lib.hid (show (f :: r).drop 1 = r by simp)
  have hrl : (f :: r).length = r.length + 1 := by simp
  generalize hX : f :: r = b at *
  generalize hL : b.length = L at *
  go_enter Tryd.func45, Tryd.ntmps45
  go_wp2_with (first
    | (go_at_call 44; refine hty.mono ?_; rintro en w1 ⟨u, v', rfl, ho, hR, hb⟩; obtain ⟨au, cu, rfl⟩ := own_slice ho; obtain ⟨g, off, rfl, hcu⟩ := (Sl.of_own ho).cellAt (k := 0) (by decide) (by decide); simp only [Nat.add_zero] at hcu; rw [show (by8 [f])[0]? = some (.int .u8 f.toNat) from rfl] at hcu))
  have hfar2 : L = 0 ∨ ∀ k, (Value.slice a L c).ownBlock = some k → ¬ k = D := hfar.imp id fun h k hk => Nat.ne_of_lt (h k hk)
  have hslO := hsl.but hb hfar2
  obtain ⟨ar, cr, hvr⟩ := hR.sl.len
  subst hvr
  have hcR := hR.box.cell (i := 0) rfl
  have HR := Lib.hid hR
  have HB := Lib.hid hb
  have hM0 : 0 ≤ (f.toNat : Int) / 32 := by omega
  have hM7 : (f.toNat : Int) / 32 ≤ 7 := by omega
  have hN0 : 0 ≤ (f.toNat : Int) % 32 := by omega
  have hN1 : (f.toNat : Int) % 32 ≤ 18446744073709551615 := by omega
  generalize (f.toNat : Int) / 32 = M at *
  generalize (f.toNat : Int) % 32 = N at *
  generalize hLR : r.length = LR at *
  have HRL := Lib.hid hrl
  clear hrl hLR hL hX
  refine wp_region_pi [(0, false), (1, false), (2, false), (3, true), (4, true), (5, false), (6, false), (7, false), (8, false), (9, false), (10, false), (11, false), (12, false), (13, false), (14, false), (15, false), (16, true), (17, false), (18, false), (19, false), (20, true)] (by kernel_rfl) (by kernel_rfl) (by kernel_rfl) rfl (fun _ _ d _ _ h => by cases d <;> exact h) (fun Wd hBd => ?_)
  try simp only [Act.put, List.getElem_toArray, List.getElem_cons_zero, List.getElem_cons_succ, List.setIfInBounds_toArray, List.set_cons_zero, List.set_cons_succ]
  have c1 : ∀ w', Below Wd.heap.size Wd w' → w'.cell? ⟨D, 0, none⟩ = some (.slice ar LR cr) := fun w' h => cell_up h (cell_up hBd hcR)
  refine pi_q (v := ?_) rfl (by rfl) ?_ ?_
  rotate_left
  · intro w' hBw'
    first | (go_simp; done) | (go_simp; with_reducible rfl)
  try simp only [Act.put, List.getElem_toArray, List.getElem_cons_zero, List.getElem_cons_succ, List.setIfInBounds_toArray, List.set_cons_zero, List.set_cons_succ]
  refine pi_q (v := ?_) rfl (by rfl) ?_ ?_
  rotate_left
  · intro w' hBw'
    first | (go_simp; done) | (go_simp; with_reducible rfl)
  try simp only [Act.put, List.getElem_toArray, List.getElem_cons_zero, List.getElem_cons_succ, List.setIfInBounds_toArray, List.set_cons_zero, List.set_cons_succ]
  refine pi_q (v := ?_) rfl (by rfl) ?_ ?_
  rotate_left
  · intro w' hBw'
    first | (go_simp; done) | (go_simp; with_reducible rfl)
  try simp only [Act.put, List.getElem_toArray, List.getElem_cons_zero, List.getElem_cons_succ, List.setIfInBounds_toArray, List.set_cons_zero, List.set_cons_succ]
  refine pi_call rfl (by rfl) ((head_c M N Wd hM0 hM7 hN0 hN1)) enters_headC (by rfl) (by kernel_rfl) ?_
  rintro en wN ⟨v1, rfl, ho1, hb1⟩
  obtain ⟨a1, c1', rfl⟩ := own_slice ho1
  have c1 : ∀ w', Below wN.heap.size wN w' → w'.cell? ⟨D, 0, none⟩ = some (.slice ar LR cr) := fun w' h => c1 w' (below_up hb1 h)
  have hslW := (hslO.up hBd).up hb1
  refine ⟨_, rfl, hb1, ?_⟩
  try simp only [Act.put, List.getElem_toArray, List.getElem_cons_zero, List.getElem_cons_succ, List.setIfInBounds_toArray, List.set_cons_zero, List.set_cons_succ]
  refine pi_call rfl (by rfl) ((begins_c _ (headB M N) _ _ _ _ _ hslW (Sl.of_own ho1) (by omega))) enters_begins (by rfl) (by kernel_rfl) ?_
  rintro en wN ⟨rfl, hb2⟩
  rw [hz]
  have c1 : ∀ w', Below wN.heap.size wN w' → w'.cell? ⟨D, 0, none⟩ = some (.slice ar LR cr) := fun w' h => c1 w' (below_up hb2 h)
  refine ⟨_, rfl, hb2, ?_⟩
  try simp only [Act.put, List.getElem_toArray, List.getElem_cons_zero, List.getElem_cons_succ, List.setIfInBounds_toArray, List.set_cons_zero, List.set_cons_succ]
  refine pi_q (v := ?_) rfl (by rfl) ?_ ?_
  rotate_left
  · intro w' hBw'
    first | (go_simp; done) | (go_simp; with_reducible rfl)
  try simp only [Act.put, List.getElem_toArray, List.getElem_cons_zero, List.getElem_cons_succ, List.setIfInBounds_toArray, List.set_cons_zero, List.set_cons_succ]
  refine pi_q (v := ?_) rfl (by rfl) ?_ ?_
  rotate_left
  · intro w' hBw'
    first | (go_simp; done) | (go_simp; with_reducible rfl)
  try simp only [Act.put, List.getElem_toArray, List.getElem_cons_zero, List.getElem_cons_succ, List.setIfInBounds_toArray, List.set_cons_zero, List.set_cons_succ]
  refine pi_q (v := ?_) rfl (by rfl) ?_ ?_
  rotate_left
  · intro w' hBw'
    first | (go_simp; done) | (go_simp; with_reducible rfl)
  try simp only [Act.put, List.getElem_toArray, List.getElem_cons_zero, List.getElem_cons_succ, List.setIfInBounds_toArray, List.set_cons_zero, List.set_cons_succ]
  refine pi_q (v := ?_) rfl (by rfl) ?_ ?_
  rotate_left
  · intro w' hBw'
    first | (go_simp; done) | (go_simp; with_reducible rfl)
  try simp only [Act.put, List.getElem_toArray, List.getElem_cons_zero, List.getElem_cons_succ, List.setIfInBounds_toArray, List.set_cons_zero, List.set_cons_succ]
  refine pi_q (v := ?_) rfl (by rfl) ?_ ?_
  rotate_left
  · intro w' hBw'
    first | (go_simp; done) | (go_simp; with_reducible rfl)
  try simp only [Act.put, List.getElem_toArray, List.getElem_cons_zero, List.getElem_cons_succ, List.setIfInBounds_toArray, List.set_cons_zero, List.set_cons_succ]
  refine pi_q (v := ?_) rfl (by rfl) ?_ ?_
  rotate_left
  · intro w' hBw'
    first | (go_simp; done) | (go_simp; with_reducible rfl)
  try simp only [Act.put, List.getElem_toArray, List.getElem_cons_zero, List.getElem_cons_succ, List.setIfInBounds_toArray, List.set_cons_zero, List.set_cons_succ]
  refine pi_q (v := ?_) rfl (by rfl) ?_ ?_
  rotate_left
  · intro w' hBw'
    first | (go_simp; done) | (go_simp; with_reducible rfl)
  try simp only [Act.put, List.getElem_toArray, List.getElem_cons_zero, List.getElem_cons_succ, List.setIfInBounds_toArray, List.set_cons_zero, List.set_cons_succ]
  refine pi_q (v := ?_) rfl (by rfl) ?_ ?_
  rotate_left
  · intro w' hBw'
    first | (go_simp; done) | (go_simp; with_reducible rfl)
  try simp only [Act.put, List.getElem_toArray, List.getElem_cons_zero, List.getElem_cons_succ, List.setIfInBounds_toArray, List.set_cons_zero, List.set_cons_succ]
  refine pi_q (v := .int .i64 (1 : Int)) rfl (by rfl) (fun w' hBw' => by have hrl := HRL.out; go_simp; rw [wrap_i64 (by omega) (by omega)]; omega) ?_
  try simp only [Act.put, List.getElem_toArray, List.getElem_cons_zero, List.getElem_cons_succ, List.setIfInBounds_toArray, List.set_cons_zero, List.set_cons_succ]
  refine pi_q (v := ?_) rfl (by rfl) ?_ ?_
  rotate_left
  · intro w' hBw'
    first | (go_simp; done) | (go_simp; with_reducible rfl)
  try simp only [Act.put, List.getElem_toArray, List.getElem_cons_zero, List.getElem_cons_succ, List.setIfInBounds_toArray, List.set_cons_zero, List.set_cons_succ]
  refine pi_q (v := ?_) rfl (by rfl) ?_ ?_
  rotate_left
  · intro w' hBw'
    first | (go_simp; done) | (go_simp; with_reducible rfl)
  try simp only [Act.put, List.getElem_toArray, List.getElem_cons_zero, List.getElem_cons_succ, List.setIfInBounds_toArray, List.set_cons_zero, List.set_cons_succ]
  refine pi_call rfl (by rfl) ((head_c M N _ hM0 hM7 hN0 hN1)) enters_headC (by rfl) (by kernel_rfl) ?_
  rintro en wN ⟨v3, rfl, ho3, hb3⟩
  obtain ⟨a3, c3', rfl⟩ := own_slice ho3
  refine ⟨_, rfl, hb3, ?_⟩
  try simp only [Act.put, List.getElem_toArray, List.getElem_cons_zero, List.getElem_cons_succ, List.setIfInBounds_toArray, List.set_cons_zero, List.set_cons_succ]
  refine pi_q (v := ?_) rfl (by rfl) ?_ ?_
  rotate_left
  · intro w' hBw'
    first | (go_simp; done) | (go_simp; with_reducible rfl)
  try simp only [Act.put, List.getElem_toArray, List.getElem_cons_zero, List.getElem_cons_succ, List.setIfInBounds_toArray, List.set_cons_zero, List.set_cons_succ]
  refine pi_q (v := .bool true) rfl (by rfl) (fun w' hBw' => by have hrl := HRL.out; go_simp; try omega) ?_
  try simp only [Act.put, List.getElem_toArray, List.getElem_cons_zero, List.getElem_cons_succ, List.setIfInBounds_toArray, List.set_cons_zero, List.set_cons_succ]
  refine pi_q (v := ?_) rfl (by rfl) ?_ ?_
  rotate_left
  · intro w' hBw'
    first | (go_simp; done) | (go_simp; with_reducible rfl)
  try simp only [Act.put, List.getElem_toArray, List.getElem_cons_zero, List.getElem_cons_succ, List.setIfInBounds_toArray, List.set_cons_zero, List.set_cons_succ]
  refine pi_call rfl (by rfl) ((must_yes 121 _)) enters_must (by rfl) (by kernel_rfl) ?_
  rintro en wN ⟨rfl, rfl⟩
  refine ⟨_, rfl, (Below.refl _ _), ?_⟩
  try simp only [Act.put, List.getElem_toArray, List.getElem_cons_zero, List.getElem_cons_succ, List.setIfInBounds_toArray, List.set_cons_zero, List.set_cons_succ]
  refine pi_nil ?_
  go_wp2
  have hbw := below_up (below_up (below_up hBd hb1) hb2) hb3
  have hfin : HdE b w D (.returned (.tuple #[.int .i64 M, .int .u64 N])) wN := by
    refine ⟨HB.out.trans (But.of_below hbw), ?_⟩
    rw [HP.out]
    exact ⟨rfl, _, by rw [HDR.out]; exact HR.out.up hbw⟩
  go_ret2
  exact hfin
end Go.Proofs.YtjenohodgpmchaaDoor

namespace Go.Proofs.YtjenohodgpmchaaDoor
open Go.RowKit Cb
set_option linter.unusedSimpArgs false
set_option linter.unusedVariables false
set_option maxRecDepth 100000 in
theorem hd_nil (w : World) (D : Nat) (v : Value) (h : RdAt w D v []) :
    Calls Tryd.prog 45 #[.pointer (some ⟨D, 0, none⟩)] w (HdE [] w D) := by
  obtain ⟨a, c, rfl⟩ := h.sl.len
  have c0 := h.box.cell (i := 0) (v := .slice a 0 c) rfl
  have hty := take_no w D _ [] 1 h (by simp) (by simp)
  go_enter Tryd.func45, Tryd.ntmps45
  go_wp2_with (go_at_call 44; refine hty.mono ?_; rintro en w1 ⟨rfl, rfl⟩)
  exact ⟨rfl, But.refl _ _, rfl⟩
set_option maxRecDepth 100000 in
theorem hd_far (w : World) (D : Nat) (v : Value) (f : UInt8) (r : List UInt8) (h : RdAt w D v (f :: r)) (hbl : (f :: r).length ≤ 1000000) (hl : 28 ≤ f.toNat % 32) :
    Calls Tryd.prog 45 #[.pointer (some ⟨D, 0, none⟩)] w (HdE (f :: r) w D) := by
  obtain ⟨a, c, rfl⟩ := h.sl.len
  have c0 := h.box.cell (i := 0) (v := .slice a (f :: r).length c) rfl
  have hty := take_yes w D _ (f :: r) 1 h (by simp) hbl
  have hF := f.toNat_lt
  have HP := Lib.hid (show headP (f :: r) = none by
    simp only [headP, headN, if_neg (show ¬ f.toNat % 32 < 24 by omega), if_pos hl])
  rw [show (f :: r).take 1 = [f] by simp, show (f :: r).drop 1 = r by simp] at hty
  have hd1 : decide (24 ≤ (f.toNat : Int) % 32) = true := decide_eq_true (by omega)
  have hd2 : decide ((f.toNat : Int) % 32 < 28) = false := decide_eq_false (by omega)
  have hi1 : (24 : Int) ≤ (f.toNat : Int) % 32 := by omega
  have hi2 : ¬ (f.toNat : Int) % 32 < 28 := by omega
  generalize hX : f :: r = b at *
  generalize hL : b.length = L at *
  go_enter Tryd.func45, Tryd.ntmps45
  go_wp2_with (first
    | (go_at_call 44; refine hty.mono ?_; rintro en w1 ⟨u, v', rfl, ho, hR, hb⟩; obtain ⟨au, cu, rfl⟩ := own_slice ho; obtain ⟨g, off, rfl, hcu⟩ := (Sl.of_own ho).cellAt (k := 0) (by decide) (by decide); simp only [Nat.add_zero] at hcu; rw [show (by8 [f])[0]? = some (.int .u8 f.toNat) from rfl] at hcu)
    | (go_at_call 31; with_reducible refine (must_no _ _).mono ?_; rintro en w6 ⟨rfl, rfl⟩))
  exact ⟨rfl, hb, by rw [HP.out]⟩
set_option maxHeartbeats 1000000 in
set_option maxRecDepth 100000 in
theorem hd_short0 (w : World) (D : Nat) (v : Value) (f : UInt8) (r : List UInt8) (h : RdAt w D v (f :: r)) (hbl : (f :: r).length ≤ 1000000) (hl : f.toNat % 32 = 24) (hs : r.length < 1) :
    Calls Tryd.prog 45 #[.pointer (some ⟨D, 0, none⟩)] w (HdE (f :: r) w D) := by
  obtain ⟨a, c, rfl⟩ := h.sl.len
  have c0 := h.box.cell (i := 0) (v := .slice a (f :: r).length c) rfl
  have hty := take_yes w D _ (f :: r) 1 h (by simp) hbl
  have hF := f.toNat_lt
  have HP := Lib.hid (show headP (f :: r) = none by
    simp only [headP, headN, hl, show ¬ (24 < 24) by decide, show ¬ (28 ≤ 24) by decide, if_false, show 2 ^ (24 - 24) = 1 by decide, if_pos hs])
  rw [show (f :: r).take 1 = [f] by simp, show (f :: r).drop 1 = r by simp, show ((1 : Nat) : Int) = 1 from rfl] at hty
  have hN : (f.toNat : Int) % 32 = 24 := by omega
  have hrl : r.length ≤ 1000000 := by simp at hbl; omega
  have HS := Lib.hid hs
  clear hs hl
  generalize hX : f :: r = b at *
  generalize hL : b.length = L at *
  go_enter Tryd.func45, Tryd.ntmps45
  go_wp2_with (first
    | (go_at_call 44; with_reducible refine hty.mono ?_; rintro en w1 ⟨u, v', rfl, ho, hR, hb⟩; obtain ⟨au, cu, rfl⟩ := own_slice ho; obtain ⟨g, off, rfl, hcu⟩ := (Sl.of_own ho).cellAt (k := 0) (by decide) (by decide); simp only [Nat.add_zero] at hcu; rw [show (by8 [f])[0]? = some (.int .u8 f.toNat) from rfl] at hcu; have htn := take_no w1 D _ r 1 hR (by have := HS.out; omega) hrl; have c1 := hR.box.cell (i := 0) rfl)
    | (go_at_call 44; with_reducible refine htn.mono ?_; rintro en w2 ⟨rfl, rfl⟩)
    | (go_at_call 31; with_reducible refine (must_yes _ _).mono ?_; rintro en w6 ⟨rfl, rfl⟩))
  exact ⟨rfl, hb, by rw [HP.out]⟩
set_option maxHeartbeats 1000000 in
set_option maxRecDepth 100000 in
theorem hd_short1 (w : World) (D : Nat) (v : Value) (f : UInt8) (r : List UInt8) (h : RdAt w D v (f :: r)) (hbl : (f :: r).length ≤ 1000000) (hl : f.toNat % 32 = 25) (hs : r.length < 2) :
    Calls Tryd.prog 45 #[.pointer (some ⟨D, 0, none⟩)] w (HdE (f :: r) w D) := by
  obtain ⟨a, c, rfl⟩ := h.sl.len
  have c0 := h.box.cell (i := 0) (v := .slice a (f :: r).length c) rfl
  have hty := take_yes w D _ (f :: r) 1 h (by simp) hbl
  have hF := f.toNat_lt
  have HP := Lib.hid (show headP (f :: r) = none by
    simp only [headP, headN, hl, show ¬ (25 < 24) by decide, show ¬ (28 ≤ 25) by decide, if_false, show 2 ^ (25 - 24) = 2 by decide, if_pos hs])
  rw [show (f :: r).take 1 = [f] by simp, show (f :: r).drop 1 = r by simp, show ((1 : Nat) : Int) = 1 from rfl] at hty
  have hN : (f.toNat : Int) % 32 = 25 := by omega
  have hrl : r.length ≤ 1000000 := by simp at hbl; omega
  have HS := Lib.hid hs
  clear hs hl
  generalize hX : f :: r = b at *
  generalize hL : b.length = L at *
  go_enter Tryd.func45, Tryd.ntmps45
  go_wp2_with (first
    | (go_at_call 44; with_reducible refine hty.mono ?_; rintro en w1 ⟨u, v', rfl, ho, hR, hb⟩; obtain ⟨au, cu, rfl⟩ := own_slice ho; obtain ⟨g, off, rfl, hcu⟩ := (Sl.of_own ho).cellAt (k := 0) (by decide) (by decide); simp only [Nat.add_zero] at hcu; rw [show (by8 [f])[0]? = some (.int .u8 f.toNat) from rfl] at hcu; have htn := take_no w1 D _ r 2 hR (by have := HS.out; omega) hrl; have c1 := hR.box.cell (i := 0) rfl)
    | (go_at_call 44; with_reducible refine htn.mono ?_; rintro en w2 ⟨rfl, rfl⟩)
    | (go_at_call 31; with_reducible refine (must_yes _ _).mono ?_; rintro en w6 ⟨rfl, rfl⟩))
  exact ⟨rfl, hb, by rw [HP.out]⟩
set_option maxHeartbeats 1000000 in
set_option maxRecDepth 100000 in
theorem hd_short2 (w : World) (D : Nat) (v : Value) (f : UInt8) (r : List UInt8) (h : RdAt w D v (f :: r)) (hbl : (f :: r).length ≤ 1000000) (hl : f.toNat % 32 = 26) (hs : r.length < 4) :
    Calls Tryd.prog 45 #[.pointer (some ⟨D, 0, none⟩)] w (HdE (f :: r) w D) := by
  obtain ⟨a, c, rfl⟩ := h.sl.len
  have c0 := h.box.cell (i := 0) (v := .slice a (f :: r).length c) rfl
  have hty := take_yes w D _ (f :: r) 1 h (by simp) hbl
  have hF := f.toNat_lt
  have HP := Lib.hid (show headP (f :: r) = none by
    simp only [headP, headN, hl, show ¬ (26 < 24) by decide, show ¬ (28 ≤ 26) by decide, if_false, show 2 ^ (26 - 24) = 4 by decide, if_pos hs])
  rw [show (f :: r).take 1 = [f] by simp, show (f :: r).drop 1 = r by simp, show ((1 : Nat) : Int) = 1 from rfl] at hty
  have hN : (f.toNat : Int) % 32 = 26 := by omega
  have hrl : r.length ≤ 1000000 := by simp at hbl; omega
  have HS := Lib.hid hs
  clear hs hl
  generalize hX : f :: r = b at *
  generalize hL : b.length = L at *
  go_enter Tryd.func45, Tryd.ntmps45
  go_wp2_with (first
    | (go_at_call 44; with_reducible refine hty.mono ?_; rintro en w1 ⟨u, v', rfl, ho, hR, hb⟩; obtain ⟨au, cu, rfl⟩ := own_slice ho; obtain ⟨g, off, rfl, hcu⟩ := (Sl.of_own ho).cellAt (k := 0) (by decide) (by decide); simp only [Nat.add_zero] at hcu; rw [show (by8 [f])[0]? = some (.int .u8 f.toNat) from rfl] at hcu; have htn := take_no w1 D _ r 4 hR (by have := HS.out; omega) hrl; have c1 := hR.box.cell (i := 0) rfl)
    | (go_at_call 44; with_reducible refine htn.mono ?_; rintro en w2 ⟨rfl, rfl⟩)
    | (go_at_call 31; with_reducible refine (must_yes _ _).mono ?_; rintro en w6 ⟨rfl, rfl⟩))
  exact ⟨rfl, hb, by rw [HP.out]⟩
set_option maxHeartbeats 1000000 in
set_option maxRecDepth 100000 in
theorem hd_short3 (w : World) (D : Nat) (v : Value) (f : UInt8) (r : List UInt8) (h : RdAt w D v (f :: r)) (hbl : (f :: r).length ≤ 1000000) (hl : f.toNat % 32 = 27) (hs : r.length < 8) :
    Calls Tryd.prog 45 #[.pointer (some ⟨D, 0, none⟩)] w (HdE (f :: r) w D) := by
  obtain ⟨a, c, rfl⟩ := h.sl.len
  have c0 := h.box.cell (i := 0) (v := .slice a (f :: r).length c) rfl
  have hty := take_yes w D _ (f :: r) 1 h (by simp) hbl
  have hF := f.toNat_lt
  have HP := Lib.hid (show headP (f :: r) = none by
    simp only [headP, headN, hl, show ¬ (27 < 24) by decide, show ¬ (28 ≤ 27) by decide, if_false, show 2 ^ (27 - 24) = 8 by decide, if_pos hs])
  rw [show (f :: r).take 1 = [f] by simp, show (f :: r).drop 1 = r by simp, show ((1 : Nat) : Int) = 1 from rfl] at hty
  have hN : (f.toNat : Int) % 32 = 27 := by omega
  have hrl : r.length ≤ 1000000 := by simp at hbl; omega
  have HS := Lib.hid hs
  clear hs hl
  generalize hX : f :: r = b at *
  generalize hL : b.length = L at *
  go_enter Tryd.func45, Tryd.ntmps45
  go_wp2_with (first
    | (go_at_call 44; with_reducible refine hty.mono ?_; rintro en w1 ⟨u, v', rfl, ho, hR, hb⟩; obtain ⟨au, cu, rfl⟩ := own_slice ho; obtain ⟨g, off, rfl, hcu⟩ := (Sl.of_own ho).cellAt (k := 0) (by decide) (by decide); simp only [Nat.add_zero] at hcu; rw [show (by8 [f])[0]? = some (.int .u8 f.toNat) from rfl] at hcu; have htn := take_no w1 D _ r 8 hR (by have := HS.out; omega) hrl; have c1 := hR.box.cell (i := 0) rfl)
    | (go_at_call 44; with_reducible refine htn.mono ?_; rintro en w2 ⟨rfl, rfl⟩)
    | (go_at_call 31; with_reducible refine (must_yes _ _).mono ?_; rintro en w6 ⟨rfl, rfl⟩))
  exact ⟨rfl, hb, by rw [HP.out]⟩
end Go.Proofs.YtjenohodgpmchaaDoor
