/-
  The walk of SumHolds: true, whatever the input; nothing that was there has turned.
-/
import Derived.Test.YtinohligpncpiaaSumW
import Derived.Test.YtinohligpncpiaaSumP
import Derived.Test.YtinohligpncpiaaOpenB
namespace Go.Proofs.Ytinohligpncpiaa
open Go.RowKit
set_option linter.unusedSimpArgs false
set_option linter.unusedVariables false

theorem by8_set (l : List UInt8) (i : Nat) (x : UInt8) : (by8 l).set i (.int .u8 (x.toNat : Int)) = by8 (l.set i x) := by
  unfold by8
  rw [List.map_set]
theorem bits_flip (x d : UInt8) (j : Nat) (hj : j < 8) (hd : d.toNat = x.toNat ^^^ 2 ^ j) : bits .xor .u8 (x.toNat : Int) (2 ^ j % 256 : Int) = (d.toNat : Int) := by
  rw [hd, show (2 : Int) ^ j = ((2 ^ j : Nat) : Int) by simp]
  have hp : 2 ^ j < 256 := Nat.pow_lt_pow_right (m := j) (n := 8) (by decide) hj
  have hx := x.toNat_lt
  have hxx : x.toNat ^^^ 2 ^ j < 2 ^ 8 := Nat.xor_lt_two_pow hx hp
  generalize x.toNat = a at *
  generalize 2 ^ j = b at *
  rw [show ((b : Nat) : Int) % 256 = b by omega]
  have h1 : (BitVec.ofInt 8 (a : Int)).toNat = a := by
    rw [BitVec.ofInt_natCast, BitVec.toNat_ofNat]; exact Nat.mod_eq_of_lt (by omega)
  have h2 : (BitVec.ofInt 8 (b : Int)).toNat = b := by
    rw [BitVec.ofInt_natCast, BitVec.toNat_ofNat]; exact Nat.mod_eq_of_lt (by omega)
  show IntKind.u8.wrap ((BitVec.ofInt 8 (a : Int) ^^^ BitVec.ofInt 8 (b : Int)).toNat : Int) = _
  rw [BitVec.toNat_xor, h1, h2, IntKind.wrap_u8]
  omega

set_option maxHeartbeats 4000000 in
set_option maxRecDepth 100000 in
theorem sumHolds_1 (l : List UInt8) (v : Value) (n : Nat) (bit : Int) (w : World) (hv : Sl w 1 v n (by8 l)) (hn : n ≤ 140737488351232) :
    Calls Try.prog 5 #[.bool false, v, .int .i64 bit] w (Ret (.bool true) w) := by
  have hln := hv.n_len
  obtain ⟨a, c, rfl⟩ := hv.len
  have Hq := Lib.hid (show (Sum.sealB 1 l).length = n + 2 by rw [Sum.seal_len (by decide), hln]; rfl)
  go_enter Try.func5, Try.ntmps5
  go_wp2_with fail
  refine (seal_c 1 (by decide) l _ _ n _ hv (by omega)).mono ?_
  rw [Hq.out]
  rintro e w1 ⟨v1, rfl, ho, hb⟩
  have s1 := Sl.of_own ho
  have hv1 := hv.up hb
  obtain ⟨a1, c1, rfl⟩ := own_slice ho
  obtain ⟨g, rfl, hg0, hgw⟩ := own_some ho (by omega)
  go_wp2_with fail
  refine (open_all 1 (by decide) (Sum.sealB 1 l) _ _ _ _ s1 (by omega)).mono ?_
  rintro e w2 ⟨hb2, h⟩
  rcases h with ⟨_, v2, rfl, s2, far2⟩ | ⟨hno, _⟩
  case inr => rw [Sum.open_seal (by decide)] at hno; cases hno
  rw [Sum.cut_seal (by decide), hln] at s2
  rw [Sum.cut_seal (by decide), hln] at far2
  obtain ⟨a2, c2, rfl⟩ := s2.len
  have hB := below_up hb hb2
  have ho2 := own_up ho hb2
  have hv2 := hv1.up hb2
  have hsz1 := hb.size
  have Hb1 := Lib.hid hb2.size
  clear s1 ho hv1 hb hb2
  by_cases hg : (2000 : Int) < (n : Int)
  · go_wp2_with (go_at_call 6; refine (sumWorks_c _).mono ?_; rintro e w7 ⟨rfl, hb⟩)
    go_ret
    exact ⟨rfl, below_up hB hb⟩
  by_cases hg2 : bit < 0
  · go_wp2_with (go_at_call 6; refine (sumWorks_c _).mono ?_; rintro e w7 ⟨rfl, hb⟩)
    go_ret
    exact ⟨rfl, below_up hB hb⟩
  by_cases hg3 : (8 : Int) * ((n : Int) + 2) ≤ bit
  · have hwr : IntKind.i64.wrap ((8 : Int) * ((n : Int) + 2)) = (8 : Int) * ((n : Int) + 2) := by rw [IntKind.wrap_i64]; omega
    go_wp2_with (go_at_call 6; refine (sumWorks_c _).mono ?_; rintro e w7 ⟨rfl, hb⟩)
    go_ret
    exact ⟨rfl, below_up hB hb⟩
  obtain ⟨B, rfl⟩ : ∃ B : Nat, bit = B := ⟨bit.toNat, by omega⟩
  have hB8 : B / 8 < n + 2 := by omega
  have hli : B / 8 < (Sum.sealB 1 l).length := by rw [Hq.out]; exact hB8
  have hcb := ho2.cellAt (B / 8) (by omega)
  have hx : (by8 (Sum.sealB 1 l))[B / 8]? = some (.int .u8 (((Sum.sealB 1 l)[B / 8]).toNat : Int)) := by
    unfold by8; rw [List.getElem?_map, List.getElem?_eq_getElem hli]; rfl
  rw [hx] at hcb
  have hfb := ho2.frozenAt (B / 8)
  obtain ⟨x, hxe⟩ : ∃ x, (Sum.sealB 1 l)[B / 8] = x := ⟨_, rfl⟩
  rw [hxe] at hcb
  obtain ⟨d, hd⟩ : ∃ d : UInt8, d.toNat = x.toNat ^^^ 2 ^ (B % 8) := ⟨UInt8.ofNat (x.toNat ^^^ 2 ^ (B % 8)), by
    rw [UInt8.toNat_ofNat']
    exact Nat.mod_eq_of_lt (Nat.xor_lt_two_pow (n := 8) x.toNat_lt (Nat.pow_lt_pow_right (by decide) (Nat.mod_lt _ (by decide))))⟩
  have hst := (ho2.stored (B / 8) (.int .u8 (d.toNat : Int))).1
  rw [by8_set] at hst
  have hno := Sum.open_flip (k := 1) (by decide) l (B / 8) d hli (by rw [hxe, hd]; exact Sum.one_bit x (Nat.mod_lt _ (by decide)))
  have Hst := Lib.hid hst
  have Hno := Lib.hid hno
  have hbits := bits_flip x d (B % 8) (Nat.mod_lt _ (by decide)) hd
  have HB3 := hB.setCell (p := ⟨g, B / 8, none⟩) hg0 (.int .u8 (d.toNat : Int))
  have hv3 := hv2.but (But.setCell (O := (· = g)) w2 ⟨g, B / 8, none⟩ (.int .u8 (d.toNat : Int)) (.inl rfl)) ((hv.blk (by decide)).imp_right fun h k hk => by have := h k hk; omega)
  have s3 := s2.but (But.setCell (O := (· = g)) w2 ⟨g, B / 8, none⟩ (.int .u8 (d.toNat : Int)) (.inl rfl)) (far2.imp_right fun h k hk => by have := h k hk; omega)
  clear hst hno hx hxe hd
  go_wp2_with fail
  refine (open_all 1 (by decide) _ _ _ _ _ (Sl.of_own Hst.out) (by omega)).mono ?_
  rintro e w4 ⟨hb4, h⟩
  rcases h with ⟨hyes, _⟩ | ⟨_, rfl⟩
  case inl => rw [Hno.out] at hyes; cases hyes
  have hB4 := below_up HB3 hb4
  have t1 : (convert 23 9 (.slice a n c)).run Try.prog w4 = .ok (.string ⟨l.toArray⟩) w4 := run_str Try.underlying23 Try.underlying5 Try.underlying9 (hv3.up hb4)
  have t2 : (convert 23 9 (.slice a2 n c2)).run Try.prog w4 = .ok (.string ⟨l.toArray⟩) w4 := run_str Try.underlying23 Try.underlying5 Try.underlying9 (s3.up hb4)
  clear s2 s3 hv2 hv3 Hst Hno
  go_wp2_with (first
    | (go_at_call 10; refine (sumNum_c _ _).mono ?_; rintro e w9 ⟨rfl, rfl⟩)
    | (go_at_call 6; refine (sumWorks_c _).mono ?_; rintro e w10 ⟨rfl, hb10⟩))
  go_ret
  exact ⟨rfl, below_up hB4 hb10⟩

set_option maxHeartbeats 4000000 in
set_option maxRecDepth 100000 in
theorem sumHolds_2 (l : List UInt8) (v : Value) (n : Nat) (bit : Int) (w : World) (hv : Sl w 1 v n (by8 l)) (hn : n ≤ 140737488351232) :
    Calls Try.prog 5 #[.bool true, v, .int .i64 bit] w (Ret (.bool true) w) := by
  have hln := hv.n_len
  obtain ⟨a, c, rfl⟩ := hv.len
  have Hq := Lib.hid (show (Sum.sealB 2 l).length = n + 4 by rw [Sum.seal_len (by decide), hln]; rfl)
  go_enter Try.func5, Try.ntmps5
  go_wp2_with fail
  refine (seal_c 2 (by decide) l _ _ n _ hv (by omega)).mono ?_
  rw [Hq.out]
  rintro e w1 ⟨v1, rfl, ho, hb⟩
  have s1 := Sl.of_own ho
  have hv1 := hv.up hb
  obtain ⟨a1, c1, rfl⟩ := own_slice ho
  obtain ⟨g, rfl, hg0, hgw⟩ := own_some ho (by omega)
  go_wp2_with fail
  refine (open_all 2 (by decide) (Sum.sealB 2 l) _ _ _ _ s1 (by omega)).mono ?_
  rintro e w2 ⟨hb2, h⟩
  rcases h with ⟨_, v2, rfl, s2, far2⟩ | ⟨hno, _⟩
  case inr => rw [Sum.open_seal (by decide)] at hno; cases hno
  rw [Sum.cut_seal (by decide), hln] at s2
  rw [Sum.cut_seal (by decide), hln] at far2
  obtain ⟨a2, c2, rfl⟩ := s2.len
  have hB := below_up hb hb2
  have ho2 := own_up ho hb2
  have hv2 := hv1.up hb2
  have hsz1 := hb.size
  have Hb1 := Lib.hid hb2.size
  clear s1 ho hv1 hb hb2
  by_cases hg : (2000 : Int) < (n : Int)
  · go_wp2_with (go_at_call 6; refine (sumWorks_c _).mono ?_; rintro e w7 ⟨rfl, hb⟩)
    go_ret
    exact ⟨rfl, below_up hB hb⟩
  by_cases hg2 : bit < 0
  · go_wp2_with (go_at_call 6; refine (sumWorks_c _).mono ?_; rintro e w7 ⟨rfl, hb⟩)
    go_ret
    exact ⟨rfl, below_up hB hb⟩
  by_cases hg3 : (8 : Int) * ((n : Int) + 4) ≤ bit
  · have hwr : IntKind.i64.wrap ((8 : Int) * ((n : Int) + 4)) = (8 : Int) * ((n : Int) + 4) := by rw [IntKind.wrap_i64]; omega
    go_wp2_with (go_at_call 6; refine (sumWorks_c _).mono ?_; rintro e w7 ⟨rfl, hb⟩)
    go_ret
    exact ⟨rfl, below_up hB hb⟩
  obtain ⟨B, rfl⟩ : ∃ B : Nat, bit = B := ⟨bit.toNat, by omega⟩
  have hB8 : B / 8 < n + 4 := by omega
  have hli : B / 8 < (Sum.sealB 2 l).length := by rw [Hq.out]; exact hB8
  have hcb := ho2.cellAt (B / 8) (by omega)
  have hx : (by8 (Sum.sealB 2 l))[B / 8]? = some (.int .u8 (((Sum.sealB 2 l)[B / 8]).toNat : Int)) := by
    unfold by8; rw [List.getElem?_map, List.getElem?_eq_getElem hli]; rfl
  rw [hx] at hcb
  have hfb := ho2.frozenAt (B / 8)
  obtain ⟨x, hxe⟩ : ∃ x, (Sum.sealB 2 l)[B / 8] = x := ⟨_, rfl⟩
  rw [hxe] at hcb
  obtain ⟨d, hd⟩ : ∃ d : UInt8, d.toNat = x.toNat ^^^ 2 ^ (B % 8) := ⟨UInt8.ofNat (x.toNat ^^^ 2 ^ (B % 8)), by
    rw [UInt8.toNat_ofNat']
    exact Nat.mod_eq_of_lt (Nat.xor_lt_two_pow (n := 8) x.toNat_lt (Nat.pow_lt_pow_right (by decide) (Nat.mod_lt _ (by decide))))⟩
  have hst := (ho2.stored (B / 8) (.int .u8 (d.toNat : Int))).1
  rw [by8_set] at hst
  have hno := Sum.open_flip (k := 2) (by decide) l (B / 8) d hli (by rw [hxe, hd]; exact Sum.one_bit x (Nat.mod_lt _ (by decide)))
  have Hst := Lib.hid hst
  have Hno := Lib.hid hno
  have hbits := bits_flip x d (B % 8) (Nat.mod_lt _ (by decide)) hd
  have HB3 := hB.setCell (p := ⟨g, B / 8, none⟩) hg0 (.int .u8 (d.toNat : Int))
  have hv3 := hv2.but (But.setCell (O := (· = g)) w2 ⟨g, B / 8, none⟩ (.int .u8 (d.toNat : Int)) (.inl rfl)) ((hv.blk (by decide)).imp_right fun h k hk => by have := h k hk; omega)
  have s3 := s2.but (But.setCell (O := (· = g)) w2 ⟨g, B / 8, none⟩ (.int .u8 (d.toNat : Int)) (.inl rfl)) (far2.imp_right fun h k hk => by have := h k hk; omega)
  clear hst hno hx hxe hd
  go_wp2_with fail
  refine (open_all 2 (by decide) _ _ _ _ _ (Sl.of_own Hst.out) (by omega)).mono ?_
  rintro e w4 ⟨hb4, h⟩
  rcases h with ⟨hyes, _⟩ | ⟨_, rfl⟩
  case inl => rw [Hno.out] at hyes; cases hyes
  have hB4 := below_up HB3 hb4
  have t1 : (convert 23 9 (.slice a n c)).run Try.prog w4 = .ok (.string ⟨l.toArray⟩) w4 := run_str Try.underlying23 Try.underlying5 Try.underlying9 (hv3.up hb4)
  have t2 : (convert 23 9 (.slice a2 n c2)).run Try.prog w4 = .ok (.string ⟨l.toArray⟩) w4 := run_str Try.underlying23 Try.underlying5 Try.underlying9 (s3.up hb4)
  clear s2 s3 hv2 hv3 Hst Hno
  go_wp2_with (first
    | (go_at_call 10; refine (sumNum_c _ _).mono ?_; rintro e w9 ⟨rfl, rfl⟩)
    | (go_at_call 6; refine (sumWorks_c _).mono ?_; rintro e w10 ⟨rfl, hb10⟩))
  go_ret
  exact ⟨rfl, below_up hB4 hb10⟩

theorem sumHolds_all (long : Bool) (l : List UInt8) (v : Value) (n : Nat) (bit : Int) (w : World) (hv : Sl w 1 v n (by8 l)) (hn : n ≤ 140737488351232) :
    Calls Try.prog 5 #[.bool long, v, .int .i64 bit] w (Ret (.bool true) w) := by
  cases long
  · exact sumHolds_1 l v n bit w hv hn
  · exact sumHolds_2 l v n bit w hv hn
end Go.Proofs.Ytinohligpncpiaa
