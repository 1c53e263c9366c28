/-
  Contracts: rises, once; all of the three.
-/
import Derived.Test.YthlgoclidgfejaaTraceB
import Derived.Test.YthlgoclidgfejaaPi
namespace Go.Proofs.Ythlgoclidgfejaa
open Go.RowKit Trc
set_option linter.unusedSimpArgs false
set_option linter.unusedVariables false

namespace Trc
/-- Not ahead of the last. -/
def risesB (l : List Ev) (e : Ev) : Bool := match l.getLast? with | none => true | some p => decide (p.at_ ≤ e.at_)
def sameB (e o : Ev) : Bool := saysB o && decide (o.name = e.name)
def onceB (l : List Ev) (e : Ev) : Bool := !saysB e || (e.name.node == 0 || !(l.any (sameB e)))
end Trc

set_option maxRecDepth 100000 in
theorem rises_c (e : Ev) (l : List Ev) (v : Value) (n : Nat) (w : World) (hv : Sl w 16 v n (l.flatMap evC)) : Calls Try.prog 20 #[evV e, v] w (Ret (.bool (risesB l e)) w) := by
  have hln := Sl.recs (cells := evC) (sz := 16) (fun _ => rfl) (by decide) hv
  have hmx := hv.n_max
  obtain ⟨a, c, rfl⟩ := hv.len
  by_cases h0 : n = 0
  · subst h0
    have hl : l = [] := List.eq_nil_of_length_eq_zero hln
    subst hl
    clear hv hln
    go_enter Try.func20, Try.ntmps20
    go_wp2
    refine wp_region_abv (by kernel_rfl) (by kernel_rfl) ?_
    repeat (go_big_quiet_step (fail))
    refine wpQuiet_nil ?_
    rintro _ ⟨t, rfl⟩
    go_wp2
    go_ret
    exact ⟨rfl, below_up (below_alloc _ _) t.prop⟩
  · have hlt : n - 1 < l.length := by omega
    obtain ⟨b, off, rfl, hr⟩ := hv.rec_at (cells := evC) (sz := 16) (fun _ => rfl) (k := n - 1) (by omega) hlt
    have hlast : l.getLast? = some l[n - 1] := by
      rw [List.getLast?_eq_getElem?, hln]
      exact List.getElem?_eq_getElem hlt
    have hR : risesB l e = decide ((l[n - 1]).at_ ≤ e.at_) := by unfold risesB; rw [hlast]
    have hc := hr 1 (.int .u64 (l[n - 1]).at_) rfl
    rw [hR]
    generalize l[n - 1] = p at *
    have hbl : b < w.heap.size := World.block_lt_of_cell? w _ hc
    obtain ⟨m, rfl⟩ : ∃ m, n = m + 1 := ⟨n - 1, by omega⟩
    simp only [Nat.add_sub_cancel] at hc
    have hc1 := cell_up (below_alloc w (.cells (evA e) 63)) hc
    have hc2 : (w.alloc (.cells (evA e) 63)).cell? ⟨w.heap.size, 1, none⟩ = some (.int .u64 e.at_) := by simp [go_sem]
    have hz : ((m : Int) + 1 == 0) = false := by rw [beq_eq_false_iff_ne]; omega
    clear hr hlast hR hv hln hlt hc h0
    go_enter Try.func20, Try.ntmps20
    go_wp2
    refine wp_region_abv (by kernel_rfl) (by kernel_rfl) ?_
    have C1 : ∀ t : Abv (w.alloc (.cells (evA e) 63)), t.val.cell? ⟨b, off + m * 16 + 1, none⟩ = some (.int .u64 p.at_) := fun t => t.cell _ _ hc1
    have C2 : ∀ t : Abv (w.alloc (.cells (evA e) 63)), t.val.cell? ⟨w.heap.size, 1, none⟩ = some (.int .u64 e.at_) := fun t => t.cell _ _ hc2
    repeat (go_big_quiet_step (fail))
    refine wpQuiet_nil ?_
    rintro _ ⟨t, rfl⟩
    go_wp2
    go_ret
    exact ⟨rfl, below_up (below_alloc _ _) t.prop⟩

set_option maxRecDepth 100000 in
theorem once1_c (e o : Ev) (b : Nat) (w : World) (hr : w.rangeAt b 0 (evC e)) : Calls Try.prog 37 #[evV o, .pointer (some ⟨b, 0, none⟩)] w (Ret (.bool (sameB e o)) w) := by
  have h5 := hr 5 _ rfl
  have h6 := hr 6 _ rfl
  have h7 := hr 7 _ rfl
  have h8 := hr 8 _ rfl
  simp only [Nat.zero_add] at h5 h6 h7 h8
  have hB := below_alloc w (.cells (evA o) 48)
  cases hs : saysB o with
  | false =>
    have hR : sameB e o = false := by unfold sameB; rw [hs]; rfl
    rw [hR]
    clear hR
    go_enter Try.func37, Try.ntmps37
    go_wp2_with (go_at_call 35; refine (saysT_c o _).mono ?_; rw [hs]; rintro e w1 ⟨rfl, hb⟩)
    go_ret
    exact ⟨rfl, below_up hB hb⟩
  | true =>
    have hR : sameB e o = decide (o.name = e.name) := by unfold sameB; rw [hs]; rfl
    rw [hR]
    have HR := Lib.hid (show decide (o.name = e.name) = (decide (o.name.node = e.name.node) && (decide (o.name.service = e.name.service) && (decide (o.name.time = e.name.time) && decide (o.name.seq = e.name.seq)))) by
      rw [Bool.eq_iff_iff]; simp [Nm.ext_iff])
    clear hR
    go_enter Try.func37, Try.ntmps37
    go_wp2_with (go_at_call 35; refine (saysT_c o _).mono ?_; rw [hs]; rintro e w1 ⟨rfl, hb⟩; have hb' := below_up hB hb; have h5 := cell_up hb' h5; have h6 := cell_up hb' h6; have h7 := cell_up hb' h7; have h8 := cell_up hb' h8; have g := fun (j : Nat) (u : Value) (h : (w.alloc (.cells (evA o) 48)).cell? ⟨w.heap.size, j, none⟩ = some u) => cell_up hb h; have g5 := g 5 _ (by simp [go_sem]; rfl); have g6 := g 6 _ (by simp [go_sem]; rfl); have g7 := g 7 _ (by simp [go_sem]; rfl); have g8 := g 8 _ (by simp [go_sem]; rfl); clear g)
    all_goals
      go_ret
      refine ⟨retB ?_, below_up hB hb⟩
      rw [HR.out]
      simp_all

theorem enters_once1 : Enters Try.prog 37 := enters_of Try.func37 (by kernel_rfl) rfl

set_option maxRecDepth 100000 in
theorem once_c (e : Ev) (l : List Ev) (v : Value) (n : Nat) (w : World) (hv : Sl w 16 v n (l.flatMap evC)) : Calls Try.prog 21 #[evV e, v] w (Ret (.bool (onceB l e)) w) := by
  have hmf : ∀ (fn : Fn) (first cap : Array Value) (w : World), (Instr.makeFunc fn first cap).run Try.prog w = .ok (.func fn first cap) w := fun _ _ _ _ => rfl
  have hmx := hv.n_max
  have hB := below_alloc w (.cells (evA e) 63)
  have hr := rangeAt_new w (evC e) 63 (0, 0)
  cases hs : saysB e with
  | false =>
    have hR : onceB l e = true := by unfold onceB; rw [hs]; rfl
    rw [hR]
    clear hR
    go_enter Try.func21, Try.ntmps21
    go_wp2_with (go_at_call 35; refine (saysT_c e _).mono ?_; rw [hs]; rintro e w1 ⟨rfl, hb⟩)
    go_ret
    exact ⟨rfl, below_up hB hb⟩
  | true =>
    cases hn : (e.name.node == 0) with
    | true =>
      have hR : onceB l e = true := by unfold onceB; rw [hs, hn]; rfl
      rw [hR]
      clear hR
      go_enter Try.func21, Try.ntmps21
      go_wp2_with (go_at_call 35; refine (saysT_c e _).mono ?_; rw [hs]; rintro e w1 ⟨rfl, hb⟩; have h5 := rangeAt_up hb hr 5 _ rfl; simp only [Nat.zero_add] at h5)
      go_ret
      exact ⟨rfl, below_up hB hb⟩
    | false =>
      have hR : onceB l e = !(l.any (sameB e)) := by unfold onceB; rw [hs, hn]; rfl
      rw [hR]
      clear hR
      go_enter Try.func21, Try.ntmps21
      go_wp2_with (first
        | (go_at_call 35; refine (saysT_c e _).mono ?_; rw [hs]; rintro e w1 ⟨rfl, hb⟩; have h5 := rangeAt_up hb hr 5 _ rfl; simp only [Nat.zero_add] at h5)
        | (go_at_call 36; refine (containsE_c l v n _ (hv.up (below_up hB hb)) hmx _ enters_once1 #[.pointer (some ⟨w.heap.size, 0, none⟩)] (sameB e) (fun x _ w2 hb2 => Calls.cast rfl (once1_c e x w.heap.size w2 (rangeAt_up hb2 (rangeAt_up hb hr))))).mono ?_; rintro e w3 ⟨rfl, hb3⟩))
      go_ret
      exact ⟨rfl, below_up hB (below_up hb hb3)⟩
end Go.Proofs.Ythlgoclidgfejaa
