/-
  PrimaryHolds, PrimaryHoldsL, PrimaryHoldsRow: several texts in one (bundle.py).
-/
import Derived.Test.YtpkonagjnfphkaaGreatDoorPmH39
import Derived.Test.YtpkonagjnfphkaaGreatDoorPmH40
import Derived.Test.YtpkonagjnfphkaaGreatDoorRows
import Derived.Test.YtpkonagjnfphkaaGreatDoorPmH01
import Derived.Test.YtpkonagjnfphkaaGreatDoorPmH37
import Derived.SizedLaws
import Derived.Test.YtpkonagjnfphkaaGreatDoorTie
import Derived.Test.YtpkonagjnfphkaaGreatDoorCards
import Derived.Lib.LaidIn
import Derived.Lib.LaidU8T
import Derived.Deep.DeepHandedRow
import Derived.Deep.DeepWitnessRowRef
import Derived.PinnedBridge
import Derived.ProofKit
import Derived.SevenTiedAt
namespace Go.Proofs.YtpkonagjnfphkaaGreatDoor
open Go.RowKit Trc Cb
set_option linter.unusedSimpArgs false
set_option linter.unusedVariables false
theorem by8_put (l : List UInt8) (i : Nat) (x : UInt8) : (by8 l).set i (.int .u8 (x.toNat : Int)) = by8 (l.set i x) := by
  unfold by8
  rw [List.map_set]
theorem bits_turn (x d : UInt8) (j : Nat) (hj : j < 8) (hd : d.toNat = x.toNat ^^^ 2 ^ j) : bits .xor .u8 (x.toNat : Int) (2 ^ j % 256 : Int) = (d.toNat : Int) := by
  rw [hd, show (2 : Int) ^ j = ((2 ^ j : Nat) : Int) by simp]
  have hp : 2 ^ j < 256 := Nat.pow_lt_pow_right (m := j) (n := 8) (by decide) hj
  have hx := x.toNat_lt
  have hxx : x.toNat ^^^ 2 ^ j < 2 ^ 8 := Nat.xor_lt_two_pow hx hp
  generalize x.toNat = a at *
  generalize 2 ^ j = b at *
  rw [show ((b : Nat) : Int) % 256 = b by omega]
  have h1 : (BitVec.ofInt 8 (a : Int)).toNat = a := by
    rw [BitVec.ofInt_natCast, BitVec.toNat_ofNat]; exact Nat.mod_eq_of_lt (by omega)
  have h2 : (BitVec.ofInt 8 (b : Int)).toNat = b := by
    rw [BitVec.ofInt_natCast, BitVec.toNat_ofNat]; exact Nat.mod_eq_of_lt (by omega)
  show IntKind.u8.wrap ((BitVec.ofInt 8 (a : Int) ^^^ BitVec.ofInt 8 (b : Int)).toNat : Int) = _
  rw [BitVec.toNat_xor, h1, h2, IntKind.wrap_u8]
  omega
theorem Prm.decPr_err {b : List UInt8} {e : Int} (h : Prm.decPr b = .error e) : e ≠ 0 := by
  unfold Prm.decPr at h
  split at h
  · rename_i e' he
    cases h
    have := Prm.decP_error he
    omega
  · split at h
    · cases h; decide
    · split at h
      · cases h
      · cases h; decide
set_option maxRecDepth 100000 in
theorem run_prNe (a0 : Int) (a1 : Int) (a2 a3 a4 a5 a6 a7 a8 a9 a10 : Int) (w : World) : (binOp BinOp.neq 28 (.agg #[.int .u32 a0, .int .i64 a1, .int .u32 a2, .int .u32 a3, .int .u32 a4, .int .u32 a5, .int .u32 a6, .int .u32 a7, .int .u64 a8, .int .u32 a9, .int .u64 a10]) (.agg #[.int .u32 a0, .int .i64 a1, .int .u32 a2, .int .u32 a3, .int .u32 a4, .int .u32 a5, .int .u32 a6, .int .u32 a7, .int .u64 a8, .int .u32 a9, .int .u64 a10])).run Tryz.prog w = .ok (.bool false) w := by
  simp [go_sem]
set_option maxRecDepth 100000 in
theorem run_prEq (a0 : Int) (a1 : Int) (a2 a3 a4 a5 a6 a7 a8 a9 a10 : Int) (w : World) : (binOp BinOp.eql 28 (.agg #[.int .u32 a0, .int .i64 a1, .int .u32 a2, .int .u32 a3, .int .u32 a4, .int .u32 a5, .int .u32 a6, .int .u32 a7, .int .u64 a8, .int .u32 a9, .int .u64 a10]) (.agg #[.int .u32 a0, .int .i64 a1, .int .u32 a2, .int .u32 a3, .int .u32 a4, .int .u32 a5, .int .u32 a6, .int .u32 a7, .int .u64 a8, .int .u32 a9, .int .u64 a10])).run Tryz.prog w = .ok (.bool true) w := by
  simp [go_sem]
set_option maxHeartbeats 4000000 in
set_option maxRecDepth 100000 in
theorem primaryHolds_law (p : Prm.Pr) (hp : p.Ok) (bit : Int) (hbt : -9223372036854775808 ≤ bit ∧ bit ≤ 9223372036854775807) (w : World) (hT : Tabs w) : Calls Tryz.prog 7 #[prV p, .int .i64 bit] w (Ret (.bool true) w) := by
  have X0 : RowAt (w.alloc (.cells (prC p).toArray 28)) w.heap.size #[.int .u32 p.flags, .int .i64 p.sum, .int .u32 p.toN, .int .u32 p.toS, .int .u32 p.srN, .int .u32 p.srS, .int .u32 p.rpN, .int .u32 p.rpS, .int .u64 p.time, .int .u32 p.seq, .int .u64 p.life] 28 := RowAt.new w (prC p).toArray 28
  have D0 := below_alloc w (.cells (prC p).toArray 28)
  have hen := prEncode_c p hp (w.alloc (.cells (prC p).toArray 28)) (hT.up D0)
  have HT := Lib.hid hT
  clear hT
  have x0 := X0.cell (i := 0) rfl
  have x1 := X0.cell (i := 1) rfl
  have x2 := X0.cell (i := 2) rfl
  have x3 := X0.cell (i := 3) rfl
  have x4 := X0.cell (i := 4) rfl
  have x5 := X0.cell (i := 5) rfl
  have x6 := X0.cell (i := 6) rfl
  have x7 := X0.cell (i := 7) rfl
  have x8 := X0.cell (i := 8) rfl
  have x9 := X0.cell (i := 9) rfl
  have x10 := X0.cell (i := 10) rfl
  by_cases hk : Prm.okPr p = true
  rotate_left
  · have hk2 : Prm.okPr p = false := by simpa using hk
    clear hk
    go_enter Tryz.func7, Tryz.ntmps7
    go_wp2_with fail
    refine hen.mono ?_
    rintro en w1 ⟨hb1, _, hno⟩
    have hno := hno hk2
    subst hno
    have D1 := below_up D0 hb1
    clear hb1 hk2 hen
    go_wp2_with (first
      | (go_at_call 12; with_reducible refine (prNum_c _ _).mono ?_; rintro en wn ⟨rfl, rfl⟩)
      | (go_at_call 8; refine (prWorks_c _ (HT.out.up D1)).mono ?_; rintro en wz ⟨rfl, hbz⟩))
    go_ret
    exact ⟨rfl, below_up D1 hbz⟩
  have HK := Lib.hid hk
  have HP := Lib.hid hp
  have HDE := Lib.hid (Prm.dec_enc hk hp)
  have hl := Prm.enc_len hp hk
  clear hk hp
  go_enter Tryz.func7, Tryz.ntmps7
  go_wp2_with fail
  refine hen.mono ?_
  rintro en w1 ⟨hb1, hyes, _⟩
  obtain ⟨v1, rfl, ho⟩ := hyes HK.out
  clear hyes hen
  obtain ⟨l, hle⟩ : ∃ l, Prm.encPr p = l := ⟨_, rfl⟩
  have HLE := Lib.hid hle
  rw [hle] at ho hl HDE
  clear hle
  obtain ⟨q1, c1, rfl⟩ := own_slice ho
  obtain ⟨n, hn⟩ : ∃ n, l.length = n := ⟨_, rfl⟩
  have HN := Lib.hid hn
  rw [hn] at ho hl ⊢
  have s1 := Sl.of_own ho
  have D1 := below_up D0 hb1
  have X1 := X0.below hb1
  clear hn X0
  clear x0 x1 x2 x3 x4 x5 x6 x7 x8 x9 x10
  have hs1 := hb1.size
  rw [World.size_alloc] at hs1
  have HS1 := Lib.hid hs1
  have HG := Lib.hid (fun (k : Nat) (hk : (Value.slice q1 n c1).ownBlock = some k) => (own_of_some ho hk).2)
  clear hb1
  go_wp2_with (first
    | (go_at_call 12; with_reducible refine (prNum_c _ _).mono ?_; rintro en wn ⟨rfl, rfl⟩))
  have hde := prDecode_c l (.slice q1 n c1) w1 (by rw [HN.out]; exact s1) (HT.out.up D1)
  unfold PDecE at hde
  rw [HDE.out] at hde
  refine hde.mono ?_
  clear hde
  rintro en w2 ⟨hb2, rfl⟩
  have Q2 : RowAt (w2.alloc (.cells (prC p).toArray 28)) w2.heap.size #[.int .u32 p.flags, .int .i64 p.sum, .int .u32 p.toN, .int .u32 p.toS, .int .u32 p.srN, .int .u32 p.srS, .int .u32 p.rpN, .int .u32 p.rpS, .int .u64 p.time, .int .u32 p.seq, .int .u64 p.life] 28 := RowAt.new w2 (prC p).toArray 28
  have hb3 := below_up hb2 (below_alloc w2 (.cells (prC p).toArray 28))
  have D3 := below_up D1 hb3
  have X3 := X1.below hb3
  have ho3 := own_up ho hb3
  have s3 := s1.up hb3
  have hs2 := hb2.size
  clear s1 X1 ho hb2 hb3
  have x0 := X3.cell (i := 0) rfl
  have x1 := X3.cell (i := 1) rfl
  have x2 := X3.cell (i := 2) rfl
  have x3 := X3.cell (i := 3) rfl
  have x4 := X3.cell (i := 4) rfl
  have x5 := X3.cell (i := 5) rfl
  have x6 := X3.cell (i := 6) rfl
  have x7 := X3.cell (i := 7) rfl
  have x8 := X3.cell (i := 8) rfl
  have x9 := X3.cell (i := 9) rfl
  have x10 := X3.cell (i := 10) rfl
  have y0 := Q2.cell (i := 0) rfl
  have y1 := Q2.cell (i := 1) rfl
  have y2 := Q2.cell (i := 2) rfl
  have y3 := Q2.cell (i := 3) rfl
  have y4 := Q2.cell (i := 4) rfl
  have y5 := Q2.cell (i := 5) rfl
  have y6 := Q2.cell (i := 6) rfl
  have y7 := Q2.cell (i := 7) rfl
  have y8 := Q2.cell (i := 8) rfl
  have y9 := Q2.cell (i := 9) rfl
  have y10 := Q2.cell (i := 10) rfl
  have hne := run_prNe (p.flags : Int) p.sum p.toN p.toS p.srN p.srS p.rpN p.rpS p.time p.seq p.life
  by_cases hs : p.sum = 0
  · have hs1 : (p.sum == 0) = true := by simpa using hs
    clear hs
    go_wp2_with (first
      | (go_at_call 12; with_reducible refine (prNum_c _ _).mono ?_; rintro en wn ⟨rfl, rfl⟩)
      | (go_at_call 8; refine (prWorks_c _ (HT.out.up D3)).mono ?_; rintro en wz ⟨rfl, hbz⟩))
    go_ret
    exact ⟨rfl, below_up D3 hbz⟩
  have hs1 : (p.sum == 0) = false := by simpa using hs
  have hmul : IntKind.i64.wrap (8 * (n : Int)) = 8 * (n : Int) := by rw [IntKind.wrap_i64]; omega
  by_cases h0 : bit < 0
  · go_wp2_with (first
      | (go_at_call 12; with_reducible refine (prNum_c _ _).mono ?_; rintro en wn ⟨rfl, rfl⟩)
      | (go_at_call 8; refine (prWorks_c _ (HT.out.up D3)).mono ?_; rintro en wz ⟨rfl, hbz⟩))
    go_ret
    exact ⟨rfl, below_up D3 hbz⟩
  by_cases h1 : (8 : Int) * (n : Int) ≤ bit
  · go_wp2_with (first
      | (go_at_call 12; with_reducible refine (prNum_c _ _).mono ?_; rintro en wn ⟨rfl, rfl⟩)
      | (go_at_call 8; refine (prWorks_c _ (HT.out.up D3)).mono ?_; rintro en wz ⟨rfl, hbz⟩))
    go_ret
    exact ⟨rfl, below_up D3 hbz⟩
  obtain ⟨B, rfl⟩ : ∃ B : Nat, bit = B := ⟨bit.toNat, by omega⟩
  have hB8 : B / 8 < n := by omega
  have hli : B / 8 < l.length := by rw [HN.out]; exact hB8
  obtain ⟨g, rfl, hg0, hgw⟩ := own_some ho3 (by omega)
  have hcb := ho3.cellAt (B / 8) (by omega)
  have hx : (by8 l)[B / 8]? = some (.int .u8 ((l[B / 8]).toNat : Int)) := by
    unfold by8; rw [List.getElem?_map, List.getElem?_eq_getElem hli]; rfl
  rw [hx] at hcb
  have hfb := ho3.frozenAt (B / 8)
  obtain ⟨x, hxe⟩ : ∃ x, l[B / 8] = x := ⟨_, rfl⟩
  rw [hxe] at hcb
  obtain ⟨d, hd⟩ : ∃ d : UInt8, d.toNat = x.toNat ^^^ 2 ^ (B % 8) := ⟨UInt8.ofNat (x.toNat ^^^ 2 ^ (B % 8)), by
    rw [UInt8.toNat_ofNat']
    exact Nat.mod_eq_of_lt (Nat.xor_lt_two_pow (n := 8) x.toNat_lt (Nat.pow_lt_pow_right (by decide) (Nat.mod_lt _ (by decide))))⟩
  have hst := (ho3.stored (B / 8) (.int .u8 (d.toNat : Int))).1
  rw [by8_put] at hst
  obtain ⟨e, hno⟩ := Prm.dec_flip HK.out hs (B / 8) d (by rw [HLE.out]; exact hli) (by simp only [HLE.out]; rw [hxe, hd]; exact Sum.one_bit x (Nat.mod_lt _ (by decide)))
  rw [HLE.out] at hno
  have Hst := Lib.hid hst
  have Hno := Lib.hid hno
  have hbits := bits_turn x d (B % 8) (Nat.mod_lt _ (by decide)) hd
  have bT : But (fun k => k = g) (w2.alloc (.cells (prC p).toArray 28)) ((w2.alloc (.cells (prC p).toArray 28)).setCell ⟨g, B / 8, none⟩ (.int .u8 (d.toNat : Int))) := But.setCell _ _ _ (.inl rfl)
  have hgs := own_of_some ho3 (k := g) rfl
  have hgl : w.heap.size < g := by have := hgs.1; rw [World.size_alloc] at this; omega
  have hgq : g ≠ w2.heap.size := by have := HG.out g rfl; omega
  have D4 := D3.trans (bT.below (fun k e => by omega) D3.size)
  have HX4 := Lib.hid ((bT.same _ X3.lt (by omega)).trans X3)
  have Q4 : RowAt _ w2.heap.size #[.int .u32 p.flags, .int .i64 p.sum, .int .u32 p.toN, .int .u32 p.toS, .int .u32 p.srN, .int .u32 p.srS, .int .u32 p.rpN, .int .u32 p.rpS, .int .u64 p.time, .int .u32 p.seq, .int .u64 p.life] 28 := (bT.same _ Q2.lt (fun e => hgq e.symm)).trans Q2
  have HQ4 := Lib.hid Q4
  have HD4 := Lib.hid D4
  clear hst hno hxe hd bT D4 Q4 X3 Q2 ho3 s3 hs hx D3
  go_wp2_with (first
    | (go_at_call 12; with_reducible refine (prNum_c _ _).mono ?_; rintro en wn ⟨rfl, rfl⟩))
  have hde := prDecode_c (l.set (B / 8) d) _ _ (by rw [List.length_set, HN.out]; exact Sl.of_own Hst.out) (HT.out.up HD4.out)
  unfold PDecE at hde
  rw [Hno.out] at hde
  refine hde.mono ?_
  clear hde
  rintro en w5 ⟨hb5, rfl⟩
  have D5 := below_up HD4.out hb5
  have Q5 := HQ4.out.below hb5
  have hs5 := hb5.size
  have hep := Prm.decPr_err Hno.out
  have hs45 : w.heap.size < w2.heap.size := by have := HS1.out; omega
  clear hb5 HX4 HQ4 HD4 Hst Hno hcb hfb hbits
  have y0 := Q5.cell (i := 0) rfl
  have y1 := Q5.cell (i := 1) rfl
  have y2 := Q5.cell (i := 2) rfl
  have y3 := Q5.cell (i := 3) rfl
  have y4 := Q5.cell (i := 4) rfl
  have y5 := Q5.cell (i := 5) rfl
  have y6 := Q5.cell (i := 6) rfl
  have y7 := Q5.cell (i := 7) rfl
  have y8 := Q5.cell (i := 8) rfl
  have y9 := Q5.cell (i := 9) rfl
  have y10 := Q5.cell (i := 10) rfl
  have f0 := Q5.fz 0
  have f1 := Q5.fz 1
  have f2 := Q5.fz 2
  have f3 := Q5.fz 3
  have f4 := Q5.fz 4
  have f5 := Q5.fz 5
  have f6 := Q5.fz 6
  have f7 := Q5.fz 7
  have f8 := Q5.fz 8
  have f9 := Q5.fz 9
  have f10 := Q5.fz 10
  obtain ⟨Q6, b6⟩ := row11 Q5 (.int .u32 0) (.int .i64 0) (.int .u32 0) (.int .u32 0) (.int .u32 0) (.int .u32 0) (.int .u32 0) (.int .u32 0) (.int .u64 0) (.int .u32 0) (.int .u64 0)
  have z0 := Q6.cell (i := 0) rfl
  have z1 := Q6.cell (i := 1) rfl
  have z2 := Q6.cell (i := 2) rfl
  have z3 := Q6.cell (i := 3) rfl
  have z4 := Q6.cell (i := 4) rfl
  have z5 := Q6.cell (i := 5) rfl
  have z6 := Q6.cell (i := 6) rfl
  have z7 := Q6.cell (i := 7) rfl
  have z8 := Q6.cell (i := 8) rfl
  have z9 := Q6.cell (i := 9) rfl
  have z10 := Q6.cell (i := 10) rfl
  have hb6 := D5.trans (b6.below (fun k e => by omega) D5.size)
  have HQ6 := Lib.hid hb6
  have he1 : (e != 0) = true := by rw [bne_iff_ne]; exact hep
  have heq := run_prEq 0 0 0 0 0 0 0 0 0 0 0
  clear hep b6 Q6 Q5 hb6
  go_wp2_with (first
    | (go_at_call 12; with_reducible refine (prNum_c _ _).mono ?_; rintro en wn ⟨rfl, rfl⟩)
    | (go_at_call 8; refine (prWorks_c _ (HT.out.up HQ6.out)).mono ?_; rintro en wz ⟨rfl, hbz⟩))
  go_ret
  exact ⟨rfl, below_up HQ6.out hbz⟩
end Go.Proofs.YtpkonagjnfphkaaGreatDoor

namespace Go.Proofs.YtpkonagjnfphkaaGreatDoor
open Go.RowKit Trc Cb
theorem primaryHolds_l (a0 : Int) (h0 : (Lit.int .u32 a0).wf = true) (a1 : Int) (h1 : (Lit.int .i64 a1).wf = true) (a2 : Int) (h2 : (Lit.int .u32 a2).wf = true) (a3 : Int) (h3 : (Lit.int .u32 a3).wf = true) (a4 : Int) (h4 : (Lit.int .u32 a4).wf = true) (a5 : Int) (h5 : (Lit.int .u32 a5).wf = true) (a6 : Int) (h6 : (Lit.int .u32 a6).wf = true) (a7 : Int) (h7 : (Lit.int .u32 a7).wf = true) (a8 : Int) (h8 : (Lit.int .u64 a8).wf = true) (a9 : Int) (h9 : (Lit.int .u32 a9).wf = true) (a10 : Int) (h10 : (Lit.int .u64 a10).wf = true) (b : Int) (hb : (Lit.int .i64 b).wf = true) (w : World) (hT : Tabs w) : Calls Tryz.prog 7 #[.agg #[.int .u32 a0, .int .i64 a1, .int .u32 a2, .int .u32 a3, .int .u32 a4, .int .u32 a5, .int .u32 a6, .int .u32 a7, .int .u64 a8, .int .u32 a9, .int .u64 a10], .int .i64 b] w (Ret (.bool true) w) := by
  obtain ⟨p, hp, e⟩ := pr_of a0 h0 a1 h1 a2 h2 a3 h3 a4 h4 a5 h5 a6 h6 a7 h7 a8 h8 a9 h9 a10 h10
  rw [e]
  exact primaryHolds_law p hp b (pr_int hb) w hT
end Go.Proofs.YtpkonagjnfphkaaGreatDoor

namespace Go.Proofs.YtpkonagjnfphkaaGreatDoor.primaryHoldsRow
open Go.ChangeShapes Go.WideShapes Go.ChangeAt Go.RowKit
open Go.ChangeMaps (open_string shut_string)
set_option linter.unusedVariables false

theorem own : ownKnob Tryz.prog.godebug = none := by kernel_rfl
theorem laidOut : laidOutB Tryz.prog = true := by kernel_rfl

open Go.Lib
/-- Where the witness's own objects lie. -/
noncomputable def low : Nat := (World.holding Tryz.prog default ⟨#[], #[], []⟩).heap.size
/-- A world that meets the condition: the settled one, the variables laid. -/
noncomputable def laidWorld (os : Os) : World :=
  let w0 := World.holding Tryz.prog os ⟨#[], #[], []⟩
  let put (h : Array Obj) (g : Nat) (cs : Array Value) : Array Obj := h.modify g fun
    | .cells _ t frozen => .cells cs t frozen
    | o => o
  let h1 := put w0.heap 1 ((List.range 16).flatMap fun i => [Value.int .u8 (Lib.accLo i), Value.int .u8 (Lib.accHi i)]).toArray
  let h2 := put h1 0 (Lib.firstTab.map fun z => Value.int .u8 z).toArray
  { w0 with heap := h2 }
theorem laid_met (os : Os) (args : Array Value) : laidMet Tryz.prog Rows.primaryHoldsRow.laid ((laidWorld os).forCall (fun _ _ => 0) ⟨#[], args, []⟩).memory :=
  (LaidIn.of_run (l := [("unicode/utf8.acceptRanges", Rows.laid_unicode_utf8_acceptRanges), ("unicode/utf8.first", Rows.laid_unicode_utf8_first)]) [1, 0] 8 (by kernel_rfl) (by kernel_rfl) (by kernel_rfl) (by kernel_rfl)).met
theorem witness_row (os : Os) {H : Type} (enc : TypeId × Value → H) :
    (OpenSpec.ofChange Rows.primaryHoldsSpec).preRow enc Tryz.prog Tryz.f7 Rows.primaryHoldsRow.domain false Rows.primaryHoldsRow.laid ((laidWorld os).forCall (fun _ _ => 0) ⟨#[], #[.agg #[.int .u32 0, .int .i64 0, .int .u32 0, .int .u32 0, .int .u32 0, .int .u32 0, .int .u32 0, .int .u32 0, .int .u64 0, .int .u32 0, .int .u64 0], .int .i64 0], []⟩).memory #[.agg #[.int .u32 0, .int .i64 0, .int .u32 0, .int .u32 0, .int .u32 0, .int .u32 0, .int .u32 0, .int .u32 0, .int .u64 0, .int .u32 0, .int .u64 0], .int .i64 0] := by
  have hw : (DataW.whole enc Tryz.prog ((laidWorld os).forCall (fun _ _ => 0) ⟨#[], #[.agg #[.int .u32 0, .int .i64 0, .int .u32 0, .int .u32 0, .int .u32 0, .int .u32 0, .int .u32 0, .int .u32 0, .int .u64 0, .int .u32 0, .int .u64 0], .int .i64 0], []⟩).memory Tryz.f7.params.toList (OpenSpec.ofChange Rows.primaryHoldsSpec).vars false (#[.agg #[.int .u32 0, .int .i64 0, .int .u32 0, .int .u32 0, .int .u32 0, .int .u32 0, .int .u32 0, .int .u32 0, .int .u64 0, .int .u32 0, .int .u64 0], .int .i64 0] : Array Value).toList 8).map (fun x => (x.1, x.2.1)) =
      some ([.agg [.lit (.int .u32 0), .lit (.int .i64 0), .agg [.lit (.int .u32 0), .lit (.int .u32 0)], .agg [.lit (.int .u32 0), .lit (.int .u32 0)], .agg [.lit (.int .u32 0), .lit (.int .u32 0)], .lit (.int .u64 0), .lit (.int .u32 0), .lit (.int .u64 0)], .lit (.int .i64 0)], []) := by kernel_rfl
  obtain ⟨⟨x1, x2, x3⟩, hx, hx1⟩ := Option.map_eq_some_iff.1 hw
  simp only [Prod.mk.injEq] at hx1
  obtain ⟨rfl, rfl⟩ := hx1
  exact OpenSpec.preRow_of_cond 8 hx (by kernel_rfl) (fun k hk => by cases hk) (by kernel_rfl) (laid_met os _)

set_option maxRecDepth 100000 in
theorem lifted (os : Os) (started : os.Started) (H : Type) (enc : TypeId × Value → H) :
    ReturnsInHanded {} Tryz.checked os 7 .any ((OpenSpec.ofChange Rows.primaryHoldsSpec).preRow enc Tryz.prog Tryz.f7 Rows.primaryHoldsRow.domain false Rows.primaryHoldsRow.laid) (Rows.primaryHoldsSpec.post enc Tryz.prog Tryz.f7 false true false false) := by
  refine returnsInHanded_of_row (C := Tryz.checked) (s := OpenSpec.ofChange Rows.primaryHoldsSpec) (F := fun _ _ _ => 0) own started (by kernel_rfl) Tryz.func7
    (witness_row_atRef (enc := enc) (C := Tryz.checked) false (laidWorld os) #[.agg #[.int .u32 0, .int .i64 0, .int .u32 0, .int .u32 0, .int .u32 0, .int .u32 0, .int .u32 0, .int .u32 0, .int .u64 0, .int .u32 0, .int .u64 0], .int .i64 0] rfl (by kernel_rfl) (by kernel_rfl) (by kernel_rfl) (witness_row os enc)) ?_
  intro W base args ds gs before hval0 hW hcnd _ hsz0 hL hshp _
  have hsz : (DataW.weightsEach Tryz.prog (Tryz.f7.params.toList ++ Rows.primaryHoldsSpec.plain.varTypes Tryz.prog) (ds ++ gs)).all (· ≤ reachBytes) = true := hsz0
  have hval : ∀ (j : Nat) t v, Tryz.f7.params[j]? = some t → args[j]? = some v → Value.okWide Tryz.prog W .any base t v := hval0
  have hT : Tabs W :=
    utf8Tabs_of_readsT (ρ := lays197_ren) { lays197 with } ⟨by kernel_rfl, by kernel_rfl, by kernel_rfl, by kernel_rfl, by kernel_rfl, by kernel_rfl, by kernel_rfl⟩
      (by have := Lib.laidMet.reads hL (n := "unicode/utf8.first") (d := Rows.laid_unicode_utf8_first) ((.tail _ (.head _))); exact Pinned.utf8First_eq ▸ this) (by have := Lib.laidMet.reads hL (n := "unicode/utf8.acceptRanges") (d := Rows.laid_unicode_utf8_acceptRanges) (.head _); rwa [show (Rows.laid_unicode_utf8_acceptRanges : DataW Unit) = acceptData by kernel_rfl] at this)
  have hW' := hW
  obtain ⟨p, q, hA0, hV, rfl, hfz, hnd⟩ := hW
  have hA : DataW.TrodAll enc Tryz.prog W 0 (fun _ => true) true Tryz.f7.params.toList args.toList ds p := hA0
  rw [Tryz.params7] at hA hval hsz
  obtain ⟨v0, vs0, d0, ds0, p0, q0, hargs, rfl, rfl, h0, r0⟩ := trodAll_cons hA
  obtain ⟨v1, vs1, d1, ds1, p1, q1, rfl, rfl, rfl, h1, r1⟩ := trodAll_cons r0
  obtain ⟨rfl, rfl, rfl⟩ := trodAll_nil r1
  obtain rfl : args = #[v0, v1] := by cases args; simp_all
  obtain ⟨rfl, rfl⟩ := trodVars_none hV
  have k0 := h0
  have lt0 : ∀ x ∈ p0, x.block < W.heap.size := by obtain ⟨m, hm⟩ := k0; exact DataW.trod_lt m _ _ _ hm
  have k1 := h1
  have lt1 : ∀ x ∈ p1, x.block < W.heap.size := by obtain ⟨m, hm⟩ := k1; exact DataW.trod_lt m _ _ _ hm
  obtain ⟨cs0, rfl, hsz0⟩ : ∃ cs, v0 = .agg cs ∧ cs.size = 11 := by
    have := hval 0 28 v0 rfl rfl
    simp only [Value.okWide, Tryz.underlying28] at this
    obtain ⟨cs, h1, h2, _⟩ := this
    exact ⟨cs, h1, h2.trans (by kernel_rfl)⟩
  obtain ⟨fu0, hf0⟩ := h0
  obtain ⟨_, hl0⟩ := trod_leaves 12 _ _ _ _ [22, 23, 22, 22, 22, 22, 22, 22, 26, 22, 26] hf0 (by kernel_rfl)
  obtain ⟨l0⟩ := cs0
  obtain ⟨c0_0, e0_0, L0_0⟩ := hl0 0 _ rfl
  obtain ⟨p0, rfl, wp0⟩ := Leaf.int Tryz.underlying22 L0_0
  obtain ⟨c0_1, e0_1, L0_1⟩ := hl0 1 _ rfl
  obtain ⟨p1, rfl, wp1⟩ := Leaf.int Tryz.underlying23 L0_1
  obtain ⟨c0_2, e0_2, L0_2⟩ := hl0 2 _ rfl
  obtain ⟨p2, rfl, wp2⟩ := Leaf.int Tryz.underlying22 L0_2
  obtain ⟨c0_3, e0_3, L0_3⟩ := hl0 3 _ rfl
  obtain ⟨p3, rfl, wp3⟩ := Leaf.int Tryz.underlying22 L0_3
  obtain ⟨c0_4, e0_4, L0_4⟩ := hl0 4 _ rfl
  obtain ⟨p4, rfl, wp4⟩ := Leaf.int Tryz.underlying22 L0_4
  obtain ⟨c0_5, e0_5, L0_5⟩ := hl0 5 _ rfl
  obtain ⟨p5, rfl, wp5⟩ := Leaf.int Tryz.underlying22 L0_5
  obtain ⟨c0_6, e0_6, L0_6⟩ := hl0 6 _ rfl
  obtain ⟨p6, rfl, wp6⟩ := Leaf.int Tryz.underlying22 L0_6
  obtain ⟨c0_7, e0_7, L0_7⟩ := hl0 7 _ rfl
  obtain ⟨p7, rfl, wp7⟩ := Leaf.int Tryz.underlying22 L0_7
  obtain ⟨c0_8, e0_8, L0_8⟩ := hl0 8 _ rfl
  obtain ⟨p8, rfl, wp8⟩ := Leaf.int Tryz.underlying26 L0_8
  obtain ⟨c0_9, e0_9, L0_9⟩ := hl0 9 _ rfl
  obtain ⟨p9, rfl, wp9⟩ := Leaf.int Tryz.underlying22 L0_9
  obtain ⟨c0_10, e0_10, L0_10⟩ := hl0 10 _ rfl
  obtain ⟨p10, rfl, wp10⟩ := Leaf.int Tryz.underlying26 L0_10
  obtain rfl : l0 = [.int .u32 p0, .int .i64 p1, .int .u32 p2, .int .u32 p3, .int .u32 p4, .int .u32 p5, .int .u32 p6, .int .u32 p7, .int .u64 p8, .int .u32 p9, .int .u64 p10] := by
    refine List.ext_getElem? fun i => ?_
    match i with
    | 0 => simpa [Value.cells] using e0_0
    | 1 => simpa [Value.cells] using e0_1
    | 2 => simpa [Value.cells] using e0_2
    | 3 => simpa [Value.cells] using e0_3
    | 4 => simpa [Value.cells] using e0_4
    | 5 => simpa [Value.cells] using e0_5
    | 6 => simpa [Value.cells] using e0_6
    | 7 => simpa [Value.cells] using e0_7
    | 8 => simpa [Value.cells] using e0_8
    | 9 => simpa [Value.cells] using e0_9
    | 10 => simpa [Value.cells] using e0_10
    | i + 11 => rw [List.getElem?_eq_none (by simp at hsz0; omega), List.getElem?_eq_none (by simp)]
  obtain ⟨bit, rfl, _, _, wbit⟩ := open_int Tryz.underlying3 (hval 1 3 v1 rfl rfl) h1
  clear hA0 hval0
  refine (primaryHolds_l p0 wp0 p1 wp1 p2 wp2 p3 wp3 p4 wp4 p5 wp5 p6 wp6 p7 wp7 p8 wp8 p9 wp9 p10 wp10 bit wbit W hT).mono fun e W' ⟨he, bel⟩ => ?_
  subst he
  exact ⟨_, rfl, _, _, _, [], _, [], hW', trodAll_mk1 (shut_bool Tryz.underlying4 _), (trodAll_cons_mk (Below.trod laidOut (by kernel_rfl) (of_decide_eq_true (by kernel_rfl)) k0 bel lt0) (trodAll_cons_mk (Below.trod laidOut (by kernel_rfl) (of_decide_eq_true (by kernel_rfl)) k1 bel lt1) trodAll_mk0)), rfl, bel.frame _, fun h => by cases h⟩

theorem over : Rows.primaryHoldsRow.holds Tryz.pinned (OpenSpec.ofChange Rows.primaryHoldsSpec) :=
  OpenClaim.holds_of_wide 7 Tryz.f7 rfl rfl rfl rfl rfl rfl rfl ⟨rfl, rfl, rfl, rfl, rfl⟩ rfl rfl rfl rfl rfl (by kernel_rfl) Tryz.func7 (by kernel_rfl)
    (of_decide_eq_true (by kernel_rfl)) (by unfold Func.isWrapper; first | (rw [if_pos (by decide +kernel)]; kernel_rfl) | (rw [if_neg (by decide +kernel)]; exact ⟨rfl, rfl⟩))
    (fun os started H enc _ => by rw [OpenClaim.pre_eq_preRow]; exact lifted os started H enc)

theorem proved : Rows.PrimaryHoldsCardSaid :=
  Claim7.holds_tied_plain_at .later [] [.data, .pinned] true (true, "470b2c42ec1d750a811b4303a4b82cb10a471d475c6c98540e3c9cb4d197a111") true
    over (fun _ h => by cases h) (by kernel_rfl) (fun _ h => by cases h) primaryHolds_row_tie rfl ⟨rfl, rfl⟩ (by kernel_rfl) rfl
    (fun f fn hf hfn => by
      obtain rfl : f = 7 := Option.some.inj ((show Tryz.prog.funcNamed "packsaddle/packsaddlelaw06.PrimaryHolds" = some 7 by kernel_rfl).symm.trans hf) |>.symm
      obtain rfl : fn = Tryz.f7 := (Option.some.inj (Tryz.func7.symm.trans hfn)).symm
      exact ⟨by kernel_rfl, fun j t ht => by
        rw [Tryz.params7] at ht
        have h3 : t ∈ [28, 3] := by
          have := List.mem_of_getElem? (by simpa using ht : ([28, 3] : List TypeId)[j]? = some t)
          exact this
        simp only [List.mem_cons, List.not_mem_nil, or_false] at h3
        rcases h3 with rfl | rfl
        · exact (show Tryz.prog.wantsStandIn 28 = false by kernel_rfl)
        · exact (show Tryz.prog.wantsStandIn 3 = false by kernel_rfl)⟩)
    (by kernel_rfl)
#print axioms proved
end Go.Proofs.YtpkonagjnfphkaaGreatDoor.primaryHoldsRow
