/-
  FormatUint at base 10; a number's text.
-/
import Derived.Test.YtpfgepgjpnekdaaDoorNmLay
import Derived.Test.YtpfgepgjpnekdaaDoorNmCut
import Derived.Test.YtpfgepgjpnekdaaDoorRow
import Derived.Lib.ItoaMem
import Derived.Lib.AppendIntMem
import Derived.BigCall
import Derived.BigGuard
namespace Go.Proofs.YtpfgepgjpnekdaaDoor
open Go.RowKit Go.Sort Go.Lib
set_option linter.unusedSimpArgs false
set_option linter.unusedVariables false

abbrev strV (l : List UInt8) : Value := .string ⟨l.toArray⟩
theorem tab_up {P : Program} {w w' : World} {name : String} {k : IntKind} {zs : List Int} (h : Lib.TabIs P w name k zs) (hb : Below w.heap.size w w') : Lib.TabIs P w' name k zs := by
  unfold Lib.TabIs World.var? at *
  cases hg : P.globalNamed name with
  | none => simp [hg] at h
  | some g =>
    simp only [hg, Option.bind_some] at h ⊢
    cases hw : w.heap[g]? with
    | none => rw [hw] at h; cases h
    | some o =>
      rw [hb.block _ (Array.getElem?_eq_some_iff.1 hw).1]
      exact h
/-- What the rows lay: the table of powers, and the two errors of strconv. -/
structure NmT (w : World) : Prop where
  pow : Lib.TabIs Tryd.prog w "internal/strconv.uint64pow10" .u64 Lib.pow10Tab
  syn : ∃ v, w.cell? ⟨0, 0, none⟩ = some v ∧ (v = .nilIface ∨ ∃ te pe, v = .iface te pe)
  rng : ∃ v, w.cell? ⟨1, 0, none⟩ = some v ∧ (v = .nilIface ∨ ∃ te pe, v = .iface te pe)
theorem NmT.up {w w' : World} (h : NmT w) (hb : Below w.heap.size w w') : NmT w' := by
  obtain ⟨v1, h1, k1⟩ := h.syn
  obtain ⟨v2, h2, k2⟩ := h.rng
  exact ⟨tab_up h.pow hb, ⟨v1, cell_up hb h1, k1⟩, ⟨v2, cell_up hb h2, k2⟩⟩
theorem small_c (i : Nat) (h : i < 100) (w : World) : Calls Tryd.prog 109 #[.int .i64 i] w fun e w' => e = .returned (strV (Lib.decDigits i)) ∧ w' = w := Any.internal_strconv_small lays283 i h w
theorem numDigits_c (u : Nat) (h1 : 1 ≤ u) (h2 : u < 18446744073709551616) (w : World) (htab : Lib.TabIs Tryd.prog w "internal/strconv.uint64pow10" .u64 Lib.pow10Tab) :
    Calls Tryd.prog 110 #[.int .u64 u] w fun e w' => e = .returned (.int .i64 (Lib.nDigits u)) ∧ w' = w := Any.internal_strconv_numDigits laysM284 u h1 h2 w htab
theorem fin_pos0 (w : World) (o : Obj) (dk : Array UInt8) (k : Nat) : ∃ os, (putRow (fun (b : UInt8) => Value.int .u8 (b.toNat : Int)) (w.alloc o) w.heap.size 0 dk).drewN k = grow (w.drewN k) os := by
  rw [alloc_eq_grow]
  obtain ⟨os', _, e⟩ := putRow_grow_new (fun (b : UInt8) => Value.int .u8 (b.toNat : Int)) w #[o] w.heap.size 0 dk (Nat.le_refl _)
  exact ⟨os', by rw [e]; rfl⟩
set_option maxHeartbeats 4000000 in
set_option maxRecDepth 100000 in
theorem ifmtU_c (u : Nat) (hu64 : u < 18446744073709551616) (w : World) (hT : NmT w) : Calls Tryd.prog 95 #[.int .u64 u, .int .i64 10] w (Ret (strV (Lib.decDigits u)) w) := by
  by_cases hs : u < 100
  · have hd : decide ((u : Int) < 100) = true := by simp; omega
    go_enter Tryd.func95, Tryd.ntmps95
    go_wp2_with (go_at_call 109; refine (small_c u hs _).mono ?_; rintro e w' ⟨rfl, rfl⟩)
    go_ret
    exact ⟨rfl, Below.refl _ _⟩
  · have hu1 : 1 ≤ u := by omega
    have hd : decide ((u : Int) < 100) = false := by simp; omega
    have hnd20 : Lib.nDigits u ≤ 20 := by have := Lib.numDigits_eq u hu1 hu64; split at this <;> omega
    have hal : Tryd.prog.arrayLen 147 = 24 := by kernel_rfl
    have htab := hT.pow
    have hsl1 : ∀ W, (Instr.sliceAt 147 (.pointer (some ⟨w.heap.size, 0, none⟩)) none (some (.int .i64 (Lib.nDigits u : Int))) none).run Tryd.prog W = .ok (.slice (some ⟨w.heap.size, 0, none⟩) (Lib.nDigits u) 24) W := fun W => by
      rw [run_sliceAt_array_h W 147 ⟨w.heap.size, 0, none⟩ (by kernel_rfl) .i64 (Lib.nDigits u : Int) (by omega) (by rw [hal]; omega)]
      go_simp
    have hH0 := Lib.holds_zero0 w 147 (Lib.nDigits u) (by omega)
    have hfmt : Calls Tryd.prog 111 _ _ _ := Any.internal_strconv_formatBase10 lays285 w.heap.size 0 24 u (Array.replicate (Lib.nDigits u) 0) (w.alloc (.cells Lib.zeros24 147)) hH0 (by rw [Array.size_replicate]; exact Lib.lt_pow_nDigits u) hu64 (by rw [Array.size_replicate]; omega)
    rw [Array.size_replicate] at hfmt
    have HH0 := Lib.hid hH0
    clear hH0 hal hT
    go_enter Tryd.func95, Tryd.ntmps95
    go_wp2_with (go_at_call 110; refine (numDigits_c u hu1 hu64 _ (Lib.tabIs_alloc htab _)).mono ?_; rintro e w' ⟨rfl, rfl⟩)
    go_at_call 111
    refine hfmt.mono ?_
    rintro e w' ⟨rfl, k, v', dk, rfl, hF⟩
    have hcv : (convert 45 9 (.slice (some ⟨w.heap.size, 0, none⟩) (Lib.nDigits u) 24)).run Tryd.prog ((putRow (fun (b : UInt8) => Value.int .u8 (b.toNat : Int)) (w.alloc (.cells Lib.zeros24 147)) w.heap.size 0 dk).drewN k) = .ok (.string ⟨(Lib.decDigits u).toArray⟩) ((putRow (fun (b : UInt8) => Value.int .u8 (b.toNat : Int)) (w.alloc (.cells Lib.zeros24 147)) w.heap.size 0 dk).drewN k) := by
      have h := run_convert_bytes_back (P := Tryd.prog) ((putRow (fun (b : UInt8) => Value.int .u8 (b.toNat : Int)) (w.alloc (.cells Lib.zeros24 147)) w.heap.size 0 dk).drewN k) 45 9 5 ⟨w.heap.size, 0, none⟩ 24 (Lib.decDigits u) Tryd.underlying45 Tryd.underlying5 Tryd.underlying9 (fun j hj => by
        rw [Lib.row_is_numeral hF j hj, Lib.add_plain, World.cell?_drewN]
        exact cell?_putRow (fun (b : UInt8) => Value.int .u8 (b.toNat : Int)) _ w.heap.size 0 _ dk HH0.out (by rw [hF.size, Array.size_replicate]) j (by rw [hF.size]; rw [Lib.decDigits_length] at hj; exact hj))
      rw [Lib.decDigits_length] at h
      exact h
    go_wp2
    go_ret
    obtain ⟨os, eo⟩ := fin_pos0 w (.cells Lib.zeros24 147) dk k
    exact ⟨rfl, by rw [eo]; exact Lib.below_grow _ _ (Nat.le_refl _) _ _⟩
set_option maxRecDepth 100000 in
theorem fmtU_c (u : Nat) (hu64 : u < 18446744073709551616) (w : World) (hT : NmT w) : Calls Tryd.prog 82 #[.int .u64 u, .int .i64 10] w (Ret (strV (Lib.decDigits u)) w) := by
  go_enter Tryd.func82, Tryd.ntmps82
  go_wp2_with (go_at_call 95; refine (ifmtU_c u hu64 _ hT).mono ?_; rintro e w' ⟨rfl, hb⟩)
  go_ret
  exact ⟨rfl, hb⟩
set_option maxRecDepth 100000 in
theorem num64_c (u : Nat) (hu64 : u < 18446744073709551616) (w : World) (hT : NmT w) : Calls Tryd.prog 53 #[.int .u64 u] w (Ret (strV (Lib.decDigits u)) w) := by
  go_enter Tryd.func53, Tryd.ntmps53
  go_wp2_with (go_at_call 82; refine (fmtU_c u hu64 _ hT).mono ?_; rintro e w' ⟨rfl, hb⟩)
  go_ret
  exact ⟨rfl, hb⟩
set_option maxRecDepth 100000 in
theorem num32_c (u : Nat) (hu : u < 4294967296) (w : World) (hT : NmT w) : Calls Tryd.prog 54 #[.int .u32 u] w (Ret (strV (Lib.decDigits u)) w) := by
  have w1 : IntKind.u64.wrap (u : Int) = (u : Int) := by rw [IntKind.wrap_u64]; omega
  go_enter Tryd.func54, Tryd.ntmps54
  go_wp2_with (go_at_call 82; refine (fmtU_c u (by omega) _ hT).mono ?_; rintro e w' ⟨rfl, hb⟩)
  go_ret
  exact ⟨rfl, hb⟩
end Go.Proofs.YtpfgepgjpnekdaaDoor
