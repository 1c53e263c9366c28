/-
  The reference: its disk; contracts of Arm and Read.
-/
import Derived.Test.YtekpjbablcoahaaDiskNA
import Derived.Test.YtekpjbablcoahaaPtApp
namespace Go.Proofs.Ytekpjbablcoahaa
open Go.RowKit Go.Maps Dk
set_option linter.unusedSimpArgs false
set_option linter.unusedVariables false

/-- A sector's bytes as a string. -/
abbrev strV (s : Sec) : Value := .string ⟨s.1.toArray⟩
abbrev rpC (p : Int × Sec) : List Value := [.int .i64 p.1, strV p.2]
/-- The document's disk. -/
structure Dk.RDisk where
  L : List Sec
  W : List (Int × Sec)
  armed : Int
/-- Its value in a world. -/
structure RefAt (w : World) (v : Value) (r : RDisk) : Prop where
  ex : ∃ lv wv, v = .agg #[lv, wv, .int .i64 r.armed] ∧ Sl w 1 lv r.L.length (r.L.map strV) ∧ Sl w 2 wv r.W.length (r.W.flatMap rpC)
theorem RefAt.up {w w' : World} {v : Value} {r : RDisk} (h : RefAt w v r) (hb : Below w.heap.size w w') : RefAt w' v r := by
  obtain ⟨lv, wv, h1, h2, h3⟩ := h.ex
  exact ⟨lv, wv, h1, h2.up hb, h3.up hb⟩
theorem RefAt.mk' {w : World} {lv wv : Value} {r : RDisk} (h2 : Sl w 1 lv r.L.length (r.L.map strV)) (h3 : Sl w 2 wv r.W.length (r.W.flatMap rpC)) : RefAt w (.agg #[lv, wv, .int .i64 r.armed]) r := ⟨lv, wv, rfl, h2, h3⟩
/-- A call gives a disk. -/
def Dk.GivesR (r : RDisk) (w : World) (en : Ending) (w' : World) : Prop := ∃ v, en = .returned v ∧ RefAt w' v r ∧ Below w.heap.size w w'
theorem str_info : (Try.prog.info? 47).map (·.size) = some 3 := by kernel_rfl

set_option maxRecDepth 100000 in
theorem rArm_c (n : Int) (r : RDisk) (v : Value) (w : World) (h : RefAt w v r) : Calls Try.prog 47 #[v, .int .i64 n] w (GivesR ⟨r.L, r.W, max (-1) n⟩ w) := by
  obtain ⟨lv, wv, rfl, hl, hw⟩ := h.ex
  obtain ⟨la, lc, rfl⟩ := hl.len
  obtain ⟨wa, wc, rfl⟩ := hw.len
  by_cases h1 : -1 < n
  · have hmax : ∀ ts t w, (Builtin.max_ ts t #[.int .i64 (-1), .int .i64 n]).run Try.prog w = .ok (.int .i64 n) w := fun ts t w => by rw [run_max_int2, if_pos h1]
    rw [show max (-1) n = n by omega]
    clear h1
    go_enter Try.func47, Try.ntmps47
    go_wp2
    refine bodyPost_ret (v := .agg #[.slice la r.L.length lc, .slice wa r.W.length wc, .int .i64 n]) (by simp [results, Try.results47, go_sem]) rfl ⟨_, rfl, RefAt.mk' (r := ⟨r.L, r.W, n⟩) (hl.up ?_) (hw.up ?_), ?_⟩
    all_goals (repeat (first | exact Below.refl _ _ | refine Below.setCell ?_ (by simp <;> omega) _ | refine Below.alloc ?_ (by simp <;> omega) _))
  · have hmax : ∀ ts t w, (Builtin.max_ ts t #[.int .i64 (-1), .int .i64 n]).run Try.prog w = .ok (.int .i64 (-1)) w := fun ts t w => by rw [run_max_int2, if_neg h1]
    rw [show max (-1) n = -1 by omega]
    clear h1
    go_enter Try.func47, Try.ntmps47
    go_wp2
    refine bodyPost_ret (v := .agg #[.slice la r.L.length lc, .slice wa r.W.length wc, .int .i64 (-1)]) (by simp [results, Try.results47, go_sem]) rfl ⟨_, rfl, RefAt.mk' (r := ⟨r.L, r.W, (-1)⟩) (hl.up ?_) (hw.up ?_), ?_⟩
    all_goals (repeat (first | exact Below.refl _ _ | refine Below.setCell ?_ (by simp <;> omega) _ | refine Below.alloc ?_ (by simp <;> omega) _))

/-- The last of W that is of sector k, or s. -/
def Dk.lastOf (k : Int) (W : List (Int × Sec)) (s : Sec) : Sec := W.foldl (fun s p => if p.1 = k then p.2 else s) s
theorem Dk.lastOf_take {k : Int} {W : List (Int × Sec)} {s : Sec} {j : Nat} (hj : j < W.length) : lastOf k (W.take (j + 1)) s = if W[j].1 = k then W[j].2 else lastOf k (W.take j) s := by
  unfold lastOf; rw [List.take_succ_eq_append_getElem hj, List.foldl_append]; rfl
theorem Dk.readF_last (d : Disk) (k : Int) : readF d k = lastOf k d.W (lie d.E k) := by
  unfold readF lastF lastOf
  obtain ⟨left, many, E, W⟩ := d
  simp only
  generalize lie E k = s
  have : ∀ (V : List (Int × Sec)), (if (match V.find? (fun p : Int × Sec => decide (p.1 = k)) with | some p => (p, true) | none => (((0 : Int), zsec), false)).2 = true then (match V.find? (fun p : Int × Sec => decide (p.1 = k)) with | some p => (p, true) | none => (((0 : Int), zsec), false)).1.2 else s) = V.foldr (fun p s => if p.1 = k then p.2 else s) s := by
    intro V
    induction V with
    | nil => rfl
    | cons p r ih =>
      rw [List.foldr_cons, List.find?_cons]
      by_cases hp : p.1 = k
      · simp [hp]
      · rw [show decide (p.1 = k) = false by simp [hp], if_neg hp]
        exact ih
  refine (this W.reverse).trans ?_
  rw [List.foldr_reverse]

set_option maxHeartbeats 1000000 in
set_option maxRecDepth 100000 in
theorem rRead_c (k : Nat) (r : RDisk) (hk : k < r.L.length) (v : Value) (w : World) (h : RefAt w v r) : Calls Try.prog 48 #[v, .int .i64 (k : Int)] w (Ret (strV (lastOf (k : Int) r.W r.L[k])) w) := by
  obtain ⟨lv, wv, rfl, hl, hw⟩ := h.ex
  have hln := hl.n_max
  have hwn := hw.n_max
  obtain ⟨la, lc, rfl⟩ := hl.len
  obtain ⟨wa, wc, rfl⟩ := hw.len
  obtain ⟨lb, lo, rfl, hc⟩ := hl.cellAt (k := k) (by omega) (by omega)
  rw [List.getElem?_map, List.getElem?_eq_getElem hk] at hc
  simp only [Option.map_some] at hc
  have hb := below_alloc w (.cells #[.slice (some ⟨lb, lo, none⟩) r.L.length lc, .slice wa r.W.length wc, .int .i64 r.armed] 47)
  have hc1 := cell_up hb hc
  have hw1 := hw.up hb
  have hki : (k : Int) < (r.L.length : Int) := by omega
  have HB := Lib.hid hb
  clear hb hc hw h
  go_enter Try.func48, Try.ntmps48
  go_wp2
  go_loop [5, 6] (fun s i => ∃ j : Nat, j ≤ r.W.length ∧ i = .int .i64 j ∧ s = strV (lastOf (k : Int) (r.W.take j) r.L[k])) (fun _ i => r.W.length - (intOf i).toNat)
  case atStart => exact ⟨0, Nat.zero_le _, rfl, rfl⟩
  case round =>
    obtain ⟨j, hj, rfl, rfl⟩ := hrel
    by_cases hlt : j < r.W.length
    · obtain ⟨b, off, rfl, hr⟩ := hw1.rec_at (cells := rpC) (sz := 2) (fun _ => rfl) hlt hlt
      have HT := Lib.hid (lastOf_take (k := (k : Int)) (s := r.L[k]) hlt)
      generalize r.W[j] = p at *
      obtain ⟨pa, ps⟩ := p
      have c0 := hr 0 (.int .i64 pa) rfl
      have c1 := hr 1 (strV ps) rfl
      simp only [Nat.add_zero] at c0
      have hjn : (j : Int) < (r.W.length : Int) := by omega
      clear hr
      by_cases he : pa = (k : Int)
      · have Hs : lastOf (k : Int) (r.W.take (j + 1)) r.L[k] = ps := by rw [HT.out, if_pos he]
        have HS := Lib.hid Hs
        have hd : (pa == (k : Int)) = true := by simp [he]
        have hd2 : decide (pa = (k : Int)) = true := decide_eq_true he
        clear he Hs
        go_wp2
        all_goals
          go_round
          case rel => exact ⟨j + 1, by omega, by go_num, by rw [HS.out]⟩
          case measure => simp [intOf]; omega
      · have Hs : lastOf (k : Int) (r.W.take (j + 1)) r.L[k] = lastOf (k : Int) (r.W.take j) r.L[k] := by rw [HT.out, if_neg he]
        have HS := Lib.hid Hs
        have hd : (pa == (k : Int)) = false := by simp [he]
        have hd2 : decide (pa = (k : Int)) = false := decide_eq_false he
        clear he Hs
        go_wp2
        all_goals
          go_round
          case rel => exact ⟨j + 1, by omega, by go_num, by rw [HS.out]⟩
          case measure => simp [intOf]; omega
    · obtain rfl : j = r.W.length := by omega
      have HT := Lib.hid (List.take_length (l := r.W))
      go_wp2
      go_ret
      exact ⟨rfl, HB.out⟩
end Go.Proofs.Ytekpjbablcoahaa
