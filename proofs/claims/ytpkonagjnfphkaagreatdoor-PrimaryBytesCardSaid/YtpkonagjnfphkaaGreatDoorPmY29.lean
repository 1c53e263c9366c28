/-
  PrH, PrJ: several texts in one (bundle.py).
-/
import Derived.Test.YtpkonagjnfphkaaGreatDoorPmY28
import Derived.Test.YtpkonagjnfphkaaGreatDoorPmY07
set_option linter.unusedSimpArgs false
set_option linter.unusedVariables false
set_option maxRecDepth 100000
set_option maxHeartbeats 4000000
namespace Go.Proofs.YtpkonagjnfphkaaGreatDoor
open Go.RowKit Trc Cb
theorem it_list {w : World} {L : List It} {rows : List Rw} {v : Value} (hl : Sl w 5 v L.length (rows.flatMap rwC)) (hI : ItsR (fun j => j < w.heap.size) w L rows) : ItR (fun j => j < w.heap.size) w (lI L) (rL v) := by
  unfold ItR; exact ⟨rfl, rfl, rfl, ⟨by omega, by omega⟩, ⟨Sl.nil _ _, .inl rfl⟩, rows, slS_of hl (by decide) (fun _ h => h), hI⟩
structure Prm.Wr (x : It) : Prop where
  c : chk x = 0
  n : cnt x ≤ 1000000
  k : kwB x
theorem enters_prWith : Enters Tryz.prog 90 := enters_of Tryz.func90 (by kernel_rfl) rfl
theorem prSealed1 (L : List It) (rows : List Rw) (la : Option Addr) (lc : Nat) (w : World) (hl : Sl w 5 (.slice la L.length lc) L.length (rows.flatMap rwC)) (hI : ItsR (fun j => j < w.heap.size) w L rows) (hL : L.length ≤ 100000)
    (hz : Prm.Wr (Prm.zeroIt 1 L)) (hs : Prm.Wr (Prm.sealIt 1 L)) (hT : Tabs w) : Calls Tryz.prog 44 #[.int .i64 1, .slice la L.length lc] w (Byt (Prm.sealIt 1 L) w) := by
  obtain ⟨bl, hbl⟩ : ∃ bl, bl = Oct.putB (Sum.sumN 1 (bytesOf (Prm.zeroIt 1 L))) (Sum.wd 1) := ⟨_, rfl⟩
  have hpe : Oct.putE ((Sum.sumN 1 (bytesOf (Prm.zeroIt 1 L)) : Nat) : Int) 2 = 0 := by
    have h1 := Sum.put_all (k := 1) (by decide) (bytesOf (Prm.zeroIt 1 L)); have h2 := Sum.sumN_in (k := 1) (by decide) (bytesOf (Prm.zeroIt 1 L)); unfold Oct.putE
    rw [show Oct.okW (2 : Int) = true from rfl, show Oct.fitsB (2 : Int) ((Sum.sumN 1 (bytesOf (Prm.zeroIt 1 L)) : Nat) : Int) = true by
      unfold Oct.fitsB; rw [decide_eq_true_eq]; exact Sum.pow_up h2]
    rfl
  have hblen : bl.length = 2 := by rw [hbl]; exact Prm.put_len (k := 1) _ (by decide)
  rw [show Prm.sealIt 1 L = lI (L ++ [Prm.bI bl]) by unfold Prm.sealIt; rw [if_neg (by decide), hbl]] at hs ⊢
  have hmf : ∀ (fn : Fn) (first cap : Array Value) (w : World), (Instr.makeFunc fn first cap).run Tryz.prog w = .ok (.func fn first cap) w := fun _ _ _ _ => rfl
  have hz0 : (List.replicate 2 (0 : UInt8)).length = 2 := rfl; have hzl : Prm.zeroIt 1 L = lI (L ++ [Prm.bI (List.replicate 2 0)]) := rfl; have D0 := below_alloc w (.cells #[.slice la L.length lc] 59); have c0 : (w.alloc (.cells #[.slice la L.length lc] 59)).cell? ⟨w.heap.size, 0, none⟩ = some (.slice la L.length lc) := cell_new _ _ _; have hent := enters_prWith; unfold Enters at hent
  have hsum : Sum.sumN 1 (bytesOf (Prm.zeroIt 1 L)) < 4294967296 := by
    have h := Sum.sumN_in (k := 1) (by decide) (bytesOf (Prm.zeroIt 1 L)); have e : 256 ^ Sum.wd 1 = 65536 := rfl; omega
  have HL := Lib.hid hl; have HI := Lib.hid hI; have HZ := Lib.hid hz; have HS := Lib.hid hs; have HT := Lib.hid hT; have HBL := Lib.hid hbl; have HPE := Lib.hid hpe; have HLEN := Lib.hid hblen; have HZL := Lib.hid hzl; clear hl hI hz hs hT hbl hpe hblen hzl; obtain ⟨zb, hzb⟩ : ∃ zb, zb = bytesOf (Prm.zeroIt 1 L) := ⟨_, rfl⟩; rw [← hzb] at HBL HPE hsum; have HZB := Lib.hid hzb; clear hzb; obtain ⟨sn, hsn⟩ : ∃ sn, sn = Sum.sumN 1 zb := ⟨_, rfl⟩; rw [← hsn] at HBL HPE hsum; have HSN := Lib.hid hsn; clear hsn
  have hwr : IntKind.u64.wrap (sn : Int) = sn := by rw [IntKind.wrap_u64]; omega
  have HSM := Lib.hid hsum; clear hsum; have HWD := Lib.hid (fun (W : World) => show Calls Tryz.prog 50 #[.int .i64 1] W (Ret (.tuple #[.int .i64 2, .int .i64 0]) W) from suwidth_c 1 (by decide) W); go_enter Tryz.func44, Tryz.ntmps44
  have hmk : ∀ w : World, (Instr.makeSlice 48 (.int .i64 2) (.int .i64 2)).run Tryz.prog w = .ok (.slice (some ⟨w.heap.size, 0, none⟩) 2 2) (w.alloc (.cells #[.int .u8 0, .int .u8 0] 5)) := fun _ => by kernel_rfl
  go_wp2_with (first
    | (go_at_call 50; refine (HWD.out _).mono ?_; rintro en w1 ⟨rfl, hb1⟩))
  have Da := below_alloc w1 (.cells #[.int .u8 0, .int .u8 0] 5); have D1 := below_up (below_up D0 hb1) Da; have c1 := cell_up Da (cell_up hb1 c0)
  have hz1 : SlS (fun k => k < (w1.alloc (.cells #[.int .u8 0, .int .u8 0] 5)).heap.size) (w1.alloc (.cells #[.int .u8 0, .int .u8 0] 5)) 1 (.slice (some ⟨w1.heap.size, 0, none⟩) 2 2) 2 (by8 (List.replicate 2 0)) :=
    slS_of (Sl.of_own (World.ownsRow_lit w1 #[.int .u8 0, .int .u8 0] 2 (size := 1) (e := 5) (Nat.le_refl _) (by decide) rfl)) (by decide) (fun _ h => h)
  have hw1 := prWith_c L rows w.heap.size la lc (some ⟨w1.heap.size, 0, none⟩) 2 (List.replicate 2 0) _ c1 (HL.out.up D1) ((HI.out.up D1).monoP (fun k e => Nat.lt_of_lt_of_le e D1.size)) hz1 HZ.out.c HZ.out.n HZ.out.k hL (HT.out.up D1); refine hw1.mono ?_; rintro en w2 ⟨v2, rfl, ho2, hb2⟩
  have ho3 : w2.ownsRow (w1.alloc (.cells #[.int .u8 0, .int .u8 0] 5)).heap.size 5 1 v2 zb.length (by8 zb) := by rw [HZB.out]; exact ho2
  obtain ⟨p2, c2, rfl⟩ := own_slice ho3
  have hzl : zb.length ≤ 9000000 := by have h1 := Prm.bytes_le (Prm.zeroIt 1 L); have h2 := HZ.out.n; rw [HZB.out]; omega
  have Db := below_alloc w2 (.cells #[.slice p2 zb.length c2] 48); have D2 := below_up (below_up D1 hb2) Db; have hs2 := susumOf_c 1 (by decide) [zb] [.slice p2 zb.length c2] (some ⟨w2.heap.size, 0, none⟩) 1 1 _ (suslB1 w2 zb _ zb.length (Sl.of_own ho3) 48 _ rfl) (by decide) (by intro l h; simp at h; subst h; omega); simp only [List.flatten_cons, List.flatten_nil, List.append_nil] at hs2; rw [← HSN.out] at hs2; have HS2 := Lib.hid hs2; have HO3 := Lib.hid ho3; have c2' := cell_up Db (cell_up hb2 c1); have HDD := Lib.hid D2; clear hs2 ho2 ho3 hw1 hz1 c1 c0 hb2 Db Da D1 hb1 hzl; generalize zb.length = zn at *
  go_wp2_with fail
  refine HS2.out.mono ?_; rintro en w3 ⟨rfl, hb3⟩; have c3 := cell_up hb3 c2'; have D3 := below_up HDD.out hb3; have hpu := put_c (sn : Int) 2 w3 (by omega) (by have := HSM.out; omega); rw [HPE.out, show Oct.putB (sn : Int) 2 = bl from HBL.out.symm] at hpu; have HPU := Lib.hid hpu; clear hpu c2' hb3
  go_wp2_with fail
  refine HPU.out.mono ?_; rintro en w4 ⟨v4, rfl, ho4, hb4⟩; obtain ⟨p4, c4, rfl⟩ := own_slice ho4; have D4 := below_up D3 hb4; have c4' := cell_up hb4 c3; have hw4 := prWith_c L rows w.heap.size la lc p4 c4 bl w4 c4' (HL.out.up D4) ((HI.out.up D4).monoP (fun k e => Nat.lt_of_lt_of_le e D4.size)) (slS_of (Sl.of_own ho4) (by decide) (fun _ h => h)) HS.out.c HS.out.n HS.out.k hL (HT.out.up D4); have HW4 := Lib.hid hw4; clear hw4 ho4 hb4 c3 c4'; generalize hbn : bl.length = bn at *; have HBN := Lib.hid hbn; clear hbn
  go_wp2_with fail
  refine HW4.out.mono ?_; rintro en w5 ⟨v5, rfl, ho5, hb5⟩; have HO5 := Lib.hid ho5; clear ho5; go_wp2; go_ret; exact ⟨_, rfl, own_down HO5.out D4.size, below_up D4 hb5⟩
theorem prSealed2 (L : List It) (rows : List Rw) (la : Option Addr) (lc : Nat) (w : World) (hl : Sl w 5 (.slice la L.length lc) L.length (rows.flatMap rwC)) (hI : ItsR (fun j => j < w.heap.size) w L rows) (hL : L.length ≤ 100000)
    (hz : Prm.Wr (Prm.zeroIt 2 L)) (hs : Prm.Wr (Prm.sealIt 2 L)) (hT : Tabs w) : Calls Tryz.prog 44 #[.int .i64 2, .slice la L.length lc] w (Byt (Prm.sealIt 2 L) w) := by
  obtain ⟨bl, hbl⟩ : ∃ bl, bl = Oct.putB (Sum.sumN 2 (bytesOf (Prm.zeroIt 2 L))) (Sum.wd 2) := ⟨_, rfl⟩
  have hpe : Oct.putE ((Sum.sumN 2 (bytesOf (Prm.zeroIt 2 L)) : Nat) : Int) 4 = 0 := by
    have h1 := Sum.put_all (k := 2) (by decide) (bytesOf (Prm.zeroIt 2 L)); have h2 := Sum.sumN_in (k := 2) (by decide) (bytesOf (Prm.zeroIt 2 L)); unfold Oct.putE
    rw [show Oct.okW (4 : Int) = true from rfl, show Oct.fitsB (4 : Int) ((Sum.sumN 2 (bytesOf (Prm.zeroIt 2 L)) : Nat) : Int) = true by
      unfold Oct.fitsB; rw [decide_eq_true_eq]; exact Sum.pow_up h2]
    rfl
  have hblen : bl.length = 4 := by rw [hbl]; exact Prm.put_len (k := 2) _ (by decide)
  rw [show Prm.sealIt 2 L = lI (L ++ [Prm.bI bl]) by unfold Prm.sealIt; rw [if_neg (by decide), hbl]] at hs ⊢
  have hmf : ∀ (fn : Fn) (first cap : Array Value) (w : World), (Instr.makeFunc fn first cap).run Tryz.prog w = .ok (.func fn first cap) w := fun _ _ _ _ => rfl
  have hz0 : (List.replicate 4 (0 : UInt8)).length = 4 := rfl; have hzl : Prm.zeroIt 2 L = lI (L ++ [Prm.bI (List.replicate 4 0)]) := rfl; have D0 := below_alloc w (.cells #[.slice la L.length lc] 59); have c0 : (w.alloc (.cells #[.slice la L.length lc] 59)).cell? ⟨w.heap.size, 0, none⟩ = some (.slice la L.length lc) := cell_new _ _ _; have hent := enters_prWith; unfold Enters at hent
  have hsum : Sum.sumN 2 (bytesOf (Prm.zeroIt 2 L)) < 4294967296 := by
    have h := Sum.sumN_in (k := 2) (by decide) (bytesOf (Prm.zeroIt 2 L)); have e : 256 ^ Sum.wd 2 = 4294967296 := rfl; omega
  have HL := Lib.hid hl; have HI := Lib.hid hI; have HZ := Lib.hid hz; have HS := Lib.hid hs; have HT := Lib.hid hT; have HBL := Lib.hid hbl; have HPE := Lib.hid hpe; have HLEN := Lib.hid hblen; have HZL := Lib.hid hzl; clear hl hI hz hs hT hbl hpe hblen hzl; obtain ⟨zb, hzb⟩ : ∃ zb, zb = bytesOf (Prm.zeroIt 2 L) := ⟨_, rfl⟩; rw [← hzb] at HBL HPE hsum; have HZB := Lib.hid hzb; clear hzb; obtain ⟨sn, hsn⟩ : ∃ sn, sn = Sum.sumN 2 zb := ⟨_, rfl⟩; rw [← hsn] at HBL HPE hsum; have HSN := Lib.hid hsn; clear hsn
  have hwr : IntKind.u64.wrap (sn : Int) = sn := by rw [IntKind.wrap_u64]; omega
  have HSM := Lib.hid hsum; clear hsum; have HWD := Lib.hid (fun (W : World) => show Calls Tryz.prog 50 #[.int .i64 2] W (Ret (.tuple #[.int .i64 4, .int .i64 0]) W) from suwidth_c 2 (by decide) W); go_enter Tryz.func44, Tryz.ntmps44
  have hmk : ∀ w : World, (Instr.makeSlice 48 (.int .i64 4) (.int .i64 4)).run Tryz.prog w = .ok (.slice (some ⟨w.heap.size, 0, none⟩) 4 4) (w.alloc (.cells #[.int .u8 0, .int .u8 0, .int .u8 0, .int .u8 0] 5)) := fun _ => by kernel_rfl
  go_wp2_with (first
    | (go_at_call 50; refine (HWD.out _).mono ?_; rintro en w1 ⟨rfl, hb1⟩))
  have Da := below_alloc w1 (.cells #[.int .u8 0, .int .u8 0, .int .u8 0, .int .u8 0] 5); have D1 := below_up (below_up D0 hb1) Da; have c1 := cell_up Da (cell_up hb1 c0)
  have hz1 : SlS (fun k => k < (w1.alloc (.cells #[.int .u8 0, .int .u8 0, .int .u8 0, .int .u8 0] 5)).heap.size) (w1.alloc (.cells #[.int .u8 0, .int .u8 0, .int .u8 0, .int .u8 0] 5)) 1 (.slice (some ⟨w1.heap.size, 0, none⟩) 4 4) 4 (by8 (List.replicate 4 0)) :=
    slS_of (Sl.of_own (World.ownsRow_lit w1 #[.int .u8 0, .int .u8 0, .int .u8 0, .int .u8 0] 4 (size := 1) (e := 5) (Nat.le_refl _) (by decide) rfl)) (by decide) (fun _ h => h)
  have hw1 := prWith_c L rows w.heap.size la lc (some ⟨w1.heap.size, 0, none⟩) 4 (List.replicate 4 0) _ c1 (HL.out.up D1) ((HI.out.up D1).monoP (fun k e => Nat.lt_of_lt_of_le e D1.size)) hz1 HZ.out.c HZ.out.n HZ.out.k hL (HT.out.up D1); refine hw1.mono ?_; rintro en w2 ⟨v2, rfl, ho2, hb2⟩
  have ho3 : w2.ownsRow (w1.alloc (.cells #[.int .u8 0, .int .u8 0, .int .u8 0, .int .u8 0] 5)).heap.size 5 1 v2 zb.length (by8 zb) := by rw [HZB.out]; exact ho2
  obtain ⟨p2, c2, rfl⟩ := own_slice ho3
  have hzl : zb.length ≤ 9000000 := by have h1 := Prm.bytes_le (Prm.zeroIt 2 L); have h2 := HZ.out.n; rw [HZB.out]; omega
  have Db := below_alloc w2 (.cells #[.slice p2 zb.length c2] 48); have D2 := below_up (below_up D1 hb2) Db; have hs2 := susumOf_c 2 (by decide) [zb] [.slice p2 zb.length c2] (some ⟨w2.heap.size, 0, none⟩) 1 1 _ (suslB1 w2 zb _ zb.length (Sl.of_own ho3) 48 _ rfl) (by decide) (by intro l h; simp at h; subst h; omega); simp only [List.flatten_cons, List.flatten_nil, List.append_nil] at hs2; rw [← HSN.out] at hs2; have HS2 := Lib.hid hs2; have HO3 := Lib.hid ho3; have c2' := cell_up Db (cell_up hb2 c1); have HDD := Lib.hid D2; clear hs2 ho2 ho3 hw1 hz1 c1 c0 hb2 Db Da D1 hb1 hzl; generalize zb.length = zn at *
  go_wp2_with fail
  refine HS2.out.mono ?_; rintro en w3 ⟨rfl, hb3⟩; have c3 := cell_up hb3 c2'; have D3 := below_up HDD.out hb3; have hpu := put_c (sn : Int) 4 w3 (by omega) (by have := HSM.out; omega); rw [HPE.out, show Oct.putB (sn : Int) 4 = bl from HBL.out.symm] at hpu; have HPU := Lib.hid hpu; clear hpu c2' hb3
  go_wp2_with fail
  refine HPU.out.mono ?_; rintro en w4 ⟨v4, rfl, ho4, hb4⟩; obtain ⟨p4, c4, rfl⟩ := own_slice ho4; have D4 := below_up D3 hb4; have c4' := cell_up hb4 c3; have hw4 := prWith_c L rows w.heap.size la lc p4 c4 bl w4 c4' (HL.out.up D4) ((HI.out.up D4).monoP (fun k e => Nat.lt_of_lt_of_le e D4.size)) (slS_of (Sl.of_own ho4) (by decide) (fun _ h => h)) HS.out.c HS.out.n HS.out.k hL (HT.out.up D4); have HW4 := Lib.hid hw4; clear hw4 ho4 hb4 c3 c4'; generalize hbn : bl.length = bn at *; have HBN := Lib.hid hbn; clear hbn
  go_wp2_with fail
  refine HW4.out.mono ?_; rintro en w5 ⟨v5, rfl, ho5, hb5⟩; have HO5 := Lib.hid ho5; clear ho5; go_wp2; go_ret; exact ⟨_, rfl, own_down HO5.out D4.size, below_up D4 hb5⟩
theorem prSealed0 (L : List It) (rows : List Rw) (la : Option Addr) (lc : Nat) (w : World) (hl : Sl w 5 (.slice la L.length lc) L.length (rows.flatMap rwC)) (hI : ItsR (fun j => j < w.heap.size) w L rows)
    (hs : Prm.Wr (lI L)) (hT : Tabs w) : Calls Tryz.prog 44 #[.int .i64 0, .slice la L.length lc] w (Byt (lI L) w) := by
  have D0 := below_alloc w (.cells #[.slice la L.length lc] 59); have c0 : (w.alloc (.cells #[.slice la L.length lc] 59)).cell? ⟨w.heap.size, 0, none⟩ = some (.slice la L.length lc) := cell_new _ _ _; have HWD := Lib.hid (fun (W : World) => show Calls Tryz.prog 50 #[.int .i64 0] W (Ret (.tuple #[.int .i64 0, .int .i64 0]) W) from suwidth_c 0 (by decide) W); have HIT := Lib.hid (it_list hl hI); have HS := Lib.hid hs; have HT := Lib.hid hT; clear hl hI hs hT; go_enter Tryz.func44, Tryz.ntmps44
  go_wp2_with (first
    | (go_at_call 50; refine (HWD.out _).mono ?_; rintro en w1 ⟨rfl, hb1⟩; have D1 := below_up D0 hb1; have c1 := cell_up hb1 c0)
    | (go_at_call 86; refine (prList_c _ _ _ _).mono ?_; rintro en w2 ⟨rfl, hb2⟩; have D2 := below_up D1 hb2)
    | (go_at_call 89; refine (prWritten_c (fun k => k < w2.heap.size) _ _ w2 ((HIT.out.up D2).mono (fun k e => Nat.lt_of_lt_of_le e D2.size)) HS.out.n HS.out.k (HT.out.up D2) (fun k hk => hk) HS.out.c).mono ?_; rintro en w3 ⟨v3, rfl, ho3, hb3⟩))
  go_ret; exact ⟨_, rfl, own_down ho3 D2.size, below_up D2 hb3⟩
theorem prSealed_c (k : Nat) (hk : k ≤ 2) (L : List It) (rows : List Rw) (la : Option Addr) (lc : Nat) (w : World) (hl : Sl w 5 (.slice la L.length lc) L.length (rows.flatMap rwC)) (hI : ItsR (fun j => j < w.heap.size) w L rows) (hL : L.length ≤ 100000)
    (hz : Prm.Wr (Prm.zeroIt k L)) (hs : Prm.Wr (Prm.sealIt k L)) (hT : Tabs w) : Calls Tryz.prog 44 #[.int .i64 k, .slice la L.length lc] w (Byt (Prm.sealIt k L) w) := by
  rcases (show k = 0 ∨ k = 1 ∨ k = 2 by omega) with rfl | rfl | rfl
  · exact prSealed0 L rows la lc w hl hI hs hT
  · exact prSealed1 L rows la lc w hl hI hL hz hs hT
  · exact prSealed2 L rows la lc w hl hI hL hz hs hT
def prGs : List FuncId := [75, 77, 79, 81, 83, 84, 85, 88]
theorem prParts_c (w : World) : Calls Tryz.prog 43 #[] w (Ret (.agg #[.func (.func 75) #[] #[], .func (.func 77) #[] #[], .func (.func 79) #[] #[], .func (.func 81) #[] #[], .func (.func 83) #[] #[], .func (.func 84) #[] #[], .func (.func 85) #[] #[], .func (.func 88) #[] #[]]) w) := by
  go_enter Tryz.func43, Tryz.ntmps43; go_wp2; refine bodyPost_ret (v := .agg #[.func (.func 75) #[] #[], .func (.func 77) #[] #[], .func (.func 79) #[] #[], .func (.func 81) #[] #[], .func (.func 83) #[] #[], .func (.func 84) #[] #[], .func (.func 85) #[] #[], .func (.func 88) #[] #[]]) (by simp [results, Tryz.results43, go_sem]) rfl ?_; exact ⟨rfl, below_alloc _ _⟩
theorem enters_prPart1 : Enters Tryz.prog 75 := enters_of Tryz.func75 (by kernel_rfl) rfl
theorem enters_prPart2 : Enters Tryz.prog 77 := enters_of Tryz.func77 (by kernel_rfl) rfl
theorem enters_prPart3 : Enters Tryz.prog 79 := enters_of Tryz.func79 (by kernel_rfl) rfl
theorem enters_prPart4 : Enters Tryz.prog 81 := enters_of Tryz.func81 (by kernel_rfl) rfl
theorem enters_prPart5 : Enters Tryz.prog 83 := enters_of Tryz.func83 (by kernel_rfl) rfl
theorem enters_prPart6 : Enters Tryz.prog 84 := enters_of Tryz.func84 (by kernel_rfl) rfl
theorem enters_prPart7 : Enters Tryz.prog 85 := enters_of Tryz.func85 (by kernel_rfl) rfl
theorem enters_prPart8 : Enters Tryz.prog 88 := enters_of Tryz.func88 (by kernel_rfl) rfl
theorem prGs_enter : ∀ g ∈ prGs, Enters Tryz.prog g := by
  intro g hg; simp only [prGs, List.mem_cons, List.not_mem_nil, or_false] at hg; rcases hg with rfl | rfl | rfl | rfl | rfl | rfl | rfl | rfl
  · exact enters_prPart1
  · exact enters_prPart2
  · exact enters_prPart3
  · exact enters_prPart4
  · exact enters_prPart5
  · exact enters_prPart6
  · exact enters_prPart7
  · exact enters_prPart8
theorem prGs_call (p : Prm.Pr) (hp : p.Ok) (hk : Prm.okPr p = true) (i : Nat) (hi : i < prGs.length) (hi' : i < (Prm.prL p).length) (w1 : World) : Calls Tryz.prog prGs[i] #[prV p] w1 (MadeE (Prm.prL p)[i] w1) := by
  have h8 : i < 8 := hi; rcases (show i = 0 ∨ i = 1 ∨ i = 2 ∨ i = 3 ∨ i = 4 ∨ i = 5 ∨ i = 6 ∨ i = 7 by omega) with rfl | rfl | rfl | rfl | rfl | rfl | rfl | rfl
  · exact prPart1_c p hp hk w1
  · exact prPart2_c p hp hk w1
  · exact prPart3_c p hp hk w1
  · exact prPart4_c p hp hk w1
  · exact prPart5_c p hp hk w1
  · exact prPart6_c p hp hk w1
  · exact prPart7_c p hp w1
  · exact prPart8_c p hp hk w1
theorem enters_prEnc1 : Enters Tryz.prog 41 := enters_of Tryz.func41 (by kernel_rfl) rfl
theorem enters_prCaught : Enters Tryz.prog 40 := enters_of Tryz.func40 (by kernel_rfl) rfl
theorem prEnc1_c (o : Nat) (v : Value) (w : World) (hc : w.cell? ⟨o, 0, none⟩ = some v) (hz : w.frozen? ⟨o, 0, none⟩ = false) : Calls Tryz.prog 41 #[.pointer (some ⟨o, 0, none⟩)] w fun en w' => en = .returned (.tuple #[]) ∧ w' = w.setCell ⟨o, 0, none⟩ (.slice none 0 0) := by
  go_enter Tryz.func41, Tryz.ntmps41; go_wp2
  go_end0
  exact ⟨rfl, rfl⟩
theorem prEnc_door {R : Ending → World → Prop} (O E : Nat) (e : Int) (v : Value) (W : World) (hO : RowAt W O #[v] 48) (hE : RowAt W E #[.int .i64 0] 33) (hne : O ≠ E) (u0 u1 u4 u5 u6 u7 u8 u9 u10 u11 u12 u13 u14 u15 u16 : Value)
    (hR : ∀ W', But (fun k => k = O ∨ k = E) W W' → R (.returned (.tuple #[.slice none 0 0, .int .i64 e])) W') :
    Leaves Tryz.prog Tryz.f22 #[u0, u1, .pointer (some ⟨O, 0, none⟩), .pointer (some ⟨E, 0, none⟩), u4, u5, u6, u7, u8, u9, u10, u11, u12, u13, u14, u15, u16] R [{ target := .fn (.func 40) #[], args := #[.pointer (some ⟨E, 0, none⟩), .func (.func 41) #[] #[.pointer (some ⟨O, 0, none⟩)]] }] (.panicking (gup e)) W := by
  have c0 := hE.cell (i := 0) rfl; have f0 := hE.fz 0; have b1 : But (fun k => k = O ∨ k = E) W (W.setCell ⟨E, 0, none⟩ (.int .i64 e)) := But.setCell _ _ _ (.inl (.inr rfl)); have hO1 : RowAt (W.setCell ⟨E, 0, none⟩ (.int .i64 e)) O #[v] 48 := ((But.setCell (O := fun k => k = E) W ⟨E, 0, none⟩ (.int .i64 e) (.inl rfl)).same _ hO.lt hne).trans hO; have hE1 := hE.set 0 (.int .i64 e); have b2 : But (fun k => k = O ∨ k = E) (W.setCell ⟨E, 0, none⟩ (.int .i64 e)) ((W.setCell ⟨E, 0, none⟩ (.int .i64 e)).setCell ⟨O, 0, none⟩ (.slice none 0 0)) := But.setCell _ _ _ (.inl (.inl rfl)); have hO2 := hO1.set 0 (.slice none 0 0); have hE2 : RowAt ((W.setCell ⟨E, 0, none⟩ (.int .i64 e)).setCell ⟨O, 0, none⟩ (.slice none 0 0)) E _ _ := ((But.setCell (O := fun k => k = O) (W.setCell ⟨E, 0, none⟩ (.int .i64 e)) ⟨O, 0, none⟩ (.slice none 0 0) (.inl rfl)).same _ hE1.lt (fun h => hne h.symm)).trans hE1
  have r1 := hO2.cell (i := 0) rfl; have r2 := hE2.cell (i := 0) rfl; have hfin := hR _ (b1.trans b2); refine leaves_cons (f := 40) (args := #[.pointer (some ⟨E, 0, none⟩), .func (.func 41) #[] #[.pointer (some ⟨O, 0, none⟩)]]) (by simp) (by have := enters_prCaught; unfold Enters at this; simp [go_sem, invoke, this]) ?_; refine (prCaught_gup E e 0 41 #[.pointer (some ⟨O, 0, none⟩)] enters_prEnc1 W c0 f0 (prEnc1_c O v _ (hO1.cell (i := 0) rfl) (hO1.fz 0))).mono ?_; rintro en u' w'' ⟨rfl, rfl, rfl⟩
  simpa [Leaves, settle, results, Tryz.results22, go_sem, r1, r2] using hfin
def PEncE (p : Prm.Pr) (w : World) (en : Ending) (w' : World) : Prop := Below w.heap.size w w' ∧ (Prm.okPr p = true → ∃ v, en = .returned (.tuple #[v, .int .i64 0]) ∧ w'.ownsRow w.heap.size 5 1 v (Prm.encPr p).length (by8 (Prm.encPr p))) ∧ (Prm.okPr p = false → en = .returned (.tuple #[.slice none 0 0, .int .i64 2]))
theorem prEncode_c (p : Prm.Pr) (hp : p.Ok) (w : World) (hT : Tabs w) : Calls Tryz.prog 22 #[prV p] w (PEncE p w) := by
  have hmf : ∀ (fn : Fn) (first cap : Array Value) (w : World), (Instr.makeFunc fn first cap).run Tryz.prog w = .ok (.func fn first cap) w := fun _ _ _ _ => rfl
  obtain ⟨W0, hW0⟩ : ∃ W0, ((w.alloc (.cells (prC p).toArray 28)).alloc (.cells #[.slice none 0 0] 48)).alloc (.cells #[.int .i64 0] 33) = W0 := ⟨_, rfl⟩
  have X0 : RowAt W0 w.heap.size (prC p).toArray 28 := by rw [← hW0]; exact ((RowAt.new w _ _).below (below_alloc _ _)).below (below_alloc _ _)
  have XO : RowAt W0 (w.heap.size + 1) #[.slice none 0 0] 48 := by
    have h := (RowAt.new (w.alloc (.cells (prC p).toArray 28)) #[.slice none 0 0] 48).below (below_alloc _ (.cells #[.int .i64 0] 33)); rw [hW0, World.size_alloc] at h; exact h
  have XE : RowAt W0 (w.heap.size + 1 + 1) #[.int .i64 0] 33 := by
    have h := RowAt.new ((w.alloc (.cells (prC p).toArray 28)).alloc (.cells #[.slice none 0 0] 48)) #[.int .i64 0] 33; rw [hW0, World.size_alloc, World.size_alloc] at h; exact h
  have hB0 : Below w.heap.size w W0 := by rw [← hW0]; exact ((below_alloc w _).alloc (by simp) _).alloc (by simp; omega) _
  have hz0 : W0.heap.size = w.heap.size + 3 := by rw [← hW0]; simp
  have hck := prCheck_c p hp W0; have x0 := X0.cell (i := 0) rfl; have x1 := X0.cell (i := 1) rfl; have x2 := X0.cell (i := 2) rfl; have x3 := X0.cell (i := 3) rfl; have x4 := X0.cell (i := 4) rfl; have x5 := X0.cell (i := 5) rfl; have x6 := X0.cell (i := 6) rfl; have x7 := X0.cell (i := 7) rfl; have x8 := X0.cell (i := 8) rfl; have x9 := X0.cell (i := 9) rfl; have x10 := X0.cell (i := 10) rfl; by_cases hk : Prm.okPr p = true
  · obtain ⟨hkf, hks, hkt, hkr, hktm, hkl⟩ := Prm.okPr_parts hk
    obtain ⟨k, hkS⟩ : ∃ k : Nat, (k : Int) = p.sum := ⟨p.sum.toNat, by omega⟩
    have hk2 : k ≤ 2 := by omega
    have hkn : p.sum.toNat = k := by omega
    have h1 := Prm.chk_zeroPr hp hks.1 k; have h2 := Prm.chk_sealPr hp hks.1 k; have HWZ := Lib.hid (show Prm.Wr (Prm.zeroIt k (Prm.prL p)) from ⟨h1.1, by omega, h1.2.1.k⟩); have HWS := Lib.hid (show Prm.Wr (Prm.sealIt k (Prm.prL p)) from ⟨h2.1, by omega, h2.2.1.k⟩); have HEN := Lib.hid (show Prm.encPr p = bytesOf (Prm.sealIt k (Prm.prL p)) by unfold Prm.encPr; rw [hkn]); rw [hk] at hck; have HK := Lib.hid hk; have HP := Lib.hid hp; have HCK := Lib.hid hck; have HX0 := Lib.hid X0; have HXO := Lib.hid XO; have HXE := Lib.hid XE; have HB0 := Lib.hid hB0; have HZ0 := Lib.hid hz0; have HT := Lib.hid hT; have HKS := Lib.hid hkS; have HK2 := Lib.hid hk2; clear hk hp hck X0 XO XE hB0 hz0 hT hkf hks hkt hkr hktm hkl h1 h2 hkn hkS hk2
    go_enter_defers Tryz.func22, Tryz.ntmps22
    go_wp2_with (first
      | (go_at_call 23; refine HCK.out.mono ?_; rintro en w1 ⟨rfl, hb1⟩)
      | (go_at_call 42; with_reducible refine (prMust_yes _ _).mono ?_; rintro en wn ⟨rfl, rfl⟩)
      | (go_at_call 43; refine (prParts_c _).mono ?_; rintro en w3 ⟨rfl, hb3⟩))
    have D3 := below_up hb1 hb3; have D4 := below_up D3 (below_alloc w3 (.cells #[.func (.func 75) #[] #[], .func (.func 77) #[] #[], .func (.func 79) #[] #[], .func (.func 81) #[] #[], .func (.func 83) #[] #[], .func (.func 84) #[] #[], .func (.func 85) #[] #[], .func (.func 88) #[] #[]] 82)); have A4 := RowAt.new w3 #[.func (.func 75) #[] #[], .func (.func 77) #[] #[], .func (.func 79) #[] #[], .func (.func 81) #[] #[], .func (.func 83) #[] #[], .func (.func 84) #[] #[], .func (.func 85) #[] #[], .func (.func 88) #[] #[]] 82
    refine wp_onlyN (wp_region_pt (fun j => j = w.heap.size + 1 ∨ j = w.heap.size + 1 + 1) (.q 0 (.q 1 (.q 2 (.q 3 (.c 4 (.c 5 (.c 6 (.c 7 .done)))))))) (by kernel_rfl) (by kernel_rfl) (by kernel_rfl) (by decide) onlyN_panic (fun Wd hBd => ?_))
    try simp only [zq]
    have D5 := below_up D4 hBd; have A5 := A4.below hBd; have X5 := HX0.out.below D5; have x1' := X5.cell (i := 1) (v := .int .i64 (k : Int)) (by rw [HKS.out]; rfl); have hsl : Sl Wd 1 (.slice (some ⟨w3.heap.size, 0, none⟩) 8 8) 8 (prGs.flatMap prFn) := ⟨rfl, .inr ⟨w3.heap.size, 0, 8, rfl, Nat.le_refl _, by decide, fun j u hj => by rw [Nat.zero_add]; exact A5.cell (by simpa [prGs] using hj)⟩⟩; refine zt rfl (by rfl) ?_; refine ztg rfl (by rfl) (fun w' hBw' => hBw'.cell x1' (by omega)) ?_; refine zt rfl (by rfl) ?_; refine zt rfl (by rfl) ?_
    refine zc fun K hK => ?_
    go_simp; refine (prMade_c p (Prm.prL p) prGs w.heap.size _ 8 _ hsl rfl (by decide) X5 prGs_enter (prGs_call p HP.out HK.out)).mono ?_; rintro en w6 ⟨v6, rows, rfl, ho6, hi6, hb6⟩; obtain ⟨p6, c6, rfl⟩ := own_slice ho6; refine hK.out _ _ (But.of_below hb6) ?_; clear hK K
    try simp only [zq]
    refine zc fun K hK => ?_
    go_simp; have D6 := below_up D5 hb6; refine (prSealed_c k HK2.out (Prm.prL p) rows p6 c6 w6 (Sl.of_own ho6) (hi6.monoP (fun j e => e.2)) (by show 8 ≤ 100000; decide) HWZ.out HWS.out ((HT.out.up HB0.out).up D6)).mono ?_; rintro en w7 ⟨v7, rfl, ho7, hb7⟩; obtain ⟨p7, c7, rfl⟩ := own_slice ho7; refine hK.out _ _ (But.of_below hb7) ?_; clear hK K
    try simp only [zq]
    have D7 := below_up D6 hb7; have zo := (HXO.out.below D7).cell (i := 0) rfl; have fo := (HXO.out.below D7).fz 0; have ze := (HXE.out.below D7).cell (i := 0) rfl; have fe := (HXE.out.below D7).fz 0
    refine zc fun K hK => ?_
    go_simp; refine hK.out _ _ (But.setCell _ _ _ (.inl (.inl rfl))) ?_; clear hK K
    try simp only [zq]
    refine zc fun K hK => ?_
    go_simp; refine hK.out _ _ (But.setCell _ _ _ (.inl (.inr rfl))) ?_; clear hK K
    try simp only [zq]
    refine pt_doneN ?_; have HDD := Lib.hid D7; have hO6 := HXO.out.below D7; have hE6 := HXE.out.below D7; have ho8 := ho7; have HH := Lib.hid (And.intro hO6 (And.intro hE6 ho8)); clear hO6 hE6 ho8 ho7; go_wp2; obtain ⟨hO6, hE6, ho8⟩ := HH.out; have s1' : But (fun j => j = w.heap.size + 1 ∨ j = w.heap.size + 1 + 1) w7 (w7.setCell ⟨w.heap.size + 1, 0, none⟩ (.slice p7 (bytesOf (Prm.sealIt k (Prm.prL p))).length c7)) := But.setCell _ _ _ (.inl (.inl rfl)); have s2' : But (fun j => j = w.heap.size + 1 ∨ j = w.heap.size + 1 + 1) _ ((w7.setCell ⟨w.heap.size + 1, 0, none⟩ (.slice p7 (bytesOf (Prm.sealIt k (Prm.prL p))).length c7)).setCell ⟨w.heap.size + 1 + 1, 0, none⟩ (.int .i64 0)) := But.setCell _ _ _ (.inl (.inr rfl)); have hO7 := hO6.set 0 (.slice p7 (bytesOf (Prm.sealIt k (Prm.prL p))).length c7); have hO8 : RowAt ((w7.setCell ⟨w.heap.size + 1, 0, none⟩ (.slice p7 (bytesOf (Prm.sealIt k (Prm.prL p))).length c7)).setCell ⟨w.heap.size + 1 + 1, 0, none⟩ (.int .i64 0)) (w.heap.size + 1) _ _ := ((But.setCell (O := fun j => j = w.heap.size + 1 + 1) _ ⟨w.heap.size + 1 + 1, 0, none⟩ (.int .i64 0) (.inl rfl)).same _ hO7.lt (by omega)).trans hO7
    have hE7 : RowAt (w7.setCell ⟨w.heap.size + 1, 0, none⟩ (.slice p7 (bytesOf (Prm.sealIt k (Prm.prL p))).length c7)) (w.heap.size + 1 + 1) _ _ := ((But.setCell (O := fun j => j = w.heap.size + 1) w7 ⟨w.heap.size + 1, 0, none⟩ (.slice p7 (bytesOf (Prm.sealIt k (Prm.prL p))).length c7) (.inl rfl)).same _ hE6.lt (by omega)).trans hE6; have hE8 := hE7.set 0 (.int .i64 0); have r1 := hO8.cell (i := 0) rfl; have r2 := hE8.cell (i := 0) rfl; have hbw := below_up HB0.out HDD.out
    have hfin : PEncE p w (.returned (.tuple #[.slice p7 (bytesOf (Prm.sealIt k (Prm.prL p))).length c7, .int .i64 0])) ((w7.setCell ⟨w.heap.size + 1, 0, none⟩ (.slice p7 (bytesOf (Prm.sealIt k (Prm.prL p))).length c7)).setCell ⟨w.heap.size + 1 + 1, 0, none⟩ (.int .i64 0)) := by
      refine ⟨hbw.trans ((s1'.trans s2').below (fun j e => by omega) hbw.size), fun _ => ⟨_, rfl, ?_⟩, fun h => absurd HK.out (by rw [h]; decide)⟩; rw [HEN.out]
      have hs6 : w.heap.size + 3 ≤ w6.heap.size := by have h1 := D6.size; have h2 := HZ0.out; omega
      exact own_down (own_but ho8 (s1'.trans s2') (fun j hj h => by have := (own_of_some ho8 hj).1; omega)) (by omega)
    refine (show Leaves Tryz.prog Tryz.f22 _ (PEncE p w) _ .returning _ from ?_); refine leaves_cons (f := 40) (args := #[.pointer (some ⟨w.heap.size + 1 + 1, 0, none⟩), .func (.func 41) #[] #[.pointer (some ⟨w.heap.size + 1, 0, none⟩)]]) (by simp) (by have := enters_prCaught; unfold Enters at this; simp [go_sem, invoke, this]) ?_; refine (prCaught_idle ⟨w.heap.size + 1 + 1, 0, none⟩ 41 #[.pointer (some ⟨w.heap.size + 1, 0, none⟩)] _).mono ?_; rintro en u' w'' ⟨rfl, rfl, rfl⟩
    simpa [Leaves, settle, results, Tryz.results22, go_sem, r1, r2] using hfin
  · have hkf : Prm.okPr p = false := by simpa using hk
    rw [hkf] at hck; have HK := Lib.hid hkf; have HCK := Lib.hid hck; have HXO := Lib.hid XO; have HXE := Lib.hid XE; have HB0 := Lib.hid hB0; clear hk hp hck X0 XO XE hB0 hz0 hT hkf
    go_enter_defers Tryz.func22, Tryz.ntmps22
    go_wp2_with (first
      | (go_at_call 23; refine HCK.out.mono ?_; rintro en w1 ⟨rfl, hb1⟩)
      | (go_at_call 42; with_reducible refine (prMust_no _ _).mono ?_; rintro en wn ⟨rfl, rfl⟩))
    refine prEnc_door _ _ 2 _ w1 (HXO.out.below hb1) (HXE.out.below hb1) (by omega) _ _ _ _ _ _ _ _ _ _ _ _ _ _ _ (fun W' hb => ⟨?_, (fun h => by rw [HK.out] at h; cases h), fun _ => rfl⟩); exact (below_up HB0.out hb1).trans (hb.below (fun k e => by omega) (below_up HB0.out hb1).size)
end Go.Proofs.YtpkonagjnfphkaaGreatDoor
