/-
  PrimaryBytes, PrimaryBytesL, PrimaryBytesRow: several texts in one (bundle.py).
-/
import Derived.Test.YtpkonagjnfphkaaGreatDoorPmY40
import Derived.Test.YtpkonagjnfphkaaGreatDoorPmY12
import Derived.Test.YtpkonagjnfphkaaGreatDoorRows
import Derived.Test.YtpkonagjnfphkaaGreatDoorPmY01
import Derived.Test.YtpkonagjnfphkaaGreatDoorPmY28
import Derived.SizedLaws
import Derived.Test.YtpkonagjnfphkaaGreatDoorTie
import Derived.Test.YtpkonagjnfphkaaGreatDoorCards
import Derived.Lib.LaidIn
import Derived.Lib.LaidU8T
import Derived.Deep.DeepHandedRow
import Derived.Deep.DeepWitnessRowRef
import Derived.PinnedBridge
import Derived.ProofKit
import Derived.SevenTiedAt
set_option linter.unusedSimpArgs false
set_option linter.unusedVariables false
set_option maxRecDepth 100000
set_option maxHeartbeats 4000000
namespace Go.Proofs.YtpkonagjnfphkaaGreatDoor
open Go.RowKit Trc Cb
theorem prLitSl (W : World) (l : List UInt8) (hl : l.length ≤ 1000) : Sl (W.alloc (.cells (by8 l).toArray 5)) 1 (.slice (some ⟨W.heap.size, 0, none⟩) l.length l.length) l.length (by8 l) := by
  refine ⟨by simp [by8], .inr ⟨_, 0, l.length, rfl, Nat.le_refl _, by simp only [maxLen]; omega, fun j u hj => ?_⟩⟩; rw [Nat.zero_add]; exact (RowAt.new W _ _).cell (by simpa using hj)
theorem run_prNe2 (a0 : Int) (a1 : Int) (a2 a3 a4 a5 a6 a7 a8 a9 a10 : Int) (w : World) : (binOp BinOp.neq 28 (.agg #[.int .u32 a0, .int .i64 a1, .int .u32 a2, .int .u32 a3, .int .u32 a4, .int .u32 a5, .int .u32 a6, .int .u32 a7, .int .u64 a8, .int .u32 a9, .int .u64 a10]) (.agg #[.int .u32 a0, .int .i64 a1, .int .u32 a2, .int .u32 a3, .int .u32 a4, .int .u32 a5, .int .u32 a6, .int .u32 a7, .int .u64 a8, .int .u32 a9, .int .u64 a10])).run Tryz.prog w = .ok (.bool false) w := by
  simp [go_sem]
theorem Prm.decPr_err2 {b : List UInt8} {e : Int} (h : Prm.decPr b = .error e) : e ≠ 0 := by
  unfold Prm.decPr at h; split at h
  · rename_i e' he
    cases h; have := Prm.decP_error he; omega
  · split at h
    · cases h; decide
    · split at h
      · cases h
      · cases h; decide
theorem primaryBytes_law (b : List UInt8) (v : Value) (L : Nat) (w0 : World) (hv : Sl w0 1 v L (by8 b)) (hL : b.length = L) (hT : Tabs w0) : Calls Tryz.prog 5 #[v] w0 (Ret (.bool true) w0) := by
  obtain ⟨a, c, rfl⟩ := hv.len; have HT0 := Lib.hid hT; have S0 := Lib.hid hv; have hmx := hv.n_max; clear hv hT; by_cases hlong : 2000 < L
  · have hd : decide ((2000 : Int) < (L : Int)) = true := decide_eq_true (by omega)
    go_enter Tryz.func5, Tryz.ntmps5
    go_wp2_with (go_at_call 8; refine (prWorks_c _ HT0.out).mono ?_; rintro en wz ⟨rfl, hbz⟩)
    go_ret; exact ⟨rfl, hbz⟩
  have hd : decide ((2000 : Int) < (L : Int)) = false := decide_eq_false (by omega); go_enter Tryz.func5, Tryz.ntmps5
  go_wp2_with (first
    | (at_builtin; refine wpList_app rfl _ _ 48 rfl slT_u8 w0.heap.size rfl (own_up ho1 (below_alloc w1 (.cells #[.int .u8 77] 5))) rfl (prLitSl w1 [77] (by decide)) (one_by8 _) (by simp only [maxLen, List.length_cons, List.length_nil]; omega) (by simp only [List.length_cons, List.length_nil]; omega) (by rw [World.size_alloc]; have := hb1.size; omega) ?_; intro v2 w2 ho2 hg2 _; have hb2 := grown_below (hb1.alloc hb1.size (.cells #[.int .u8 77] 5)) hg2 (fun q hq => (own_of_some ho1 hq).1); obtain ⟨g, cap, cur, rfl, hgb, hrow, hnc, hcm, hcs, htk⟩ := own_row ho2 (by simp); simp only [List.length_cons, List.length_nil, Nat.zero_add] at hnc htk; have hcap : L ≤ cap := by omega)
    | (at_builtin; refine wpList_app rfl _ _ 48 rfl slT_u8 w0.heap.size rfl (World.ownsRow_lit w0 #[] 0 (Nat.le_refl _) (by decide) rfl) rfl (S0.out.up (below_alloc w0 (.cells #[] 5))) (one_by8 _) (by simp only [maxLen]; omega) (by omega) (by rw [World.size_alloc]; omega) ?_; intro v1 w1 ho1 hg1 _; rw [Nat.zero_add, List.nil_append] at ho1; have hb1 := grown_below (below_alloc w0 (.cells #[] 5)) hg1 (fun q hq => by have : w0.heap.size = q := Option.some.inj hq; omega); obtain ⟨p1, c1, rfl⟩ := own_slice ho1)
    | fail)
  have HB := Lib.hid hb2; have M := Lib.hid hrow
  have S1 : RowKit.Hid (Sl w2 1 (.slice (some ⟨g, 0, none⟩) L cap) L (by8 b)) := Lib.hid ⟨by rw [by8_len, hL, Nat.mul_one], .inr ⟨g, 0, cap, rfl, hcap, hcm, fun j u hj => by
    have hjl : j < L := by have := (List.getElem?_eq_some_iff.1 hj).1; rwa [by8_len, hL] at this
    rw [Nat.zero_add]; refine hrow.cell ?_; have h1 := congrArg (fun l : List Value => l[j]?) htk; simp only [Nat.mul_one] at h1; rw [List.getElem?_take_of_lt (by omega), List.getElem?_append_left (by rw [by8_len, hL]; exact hjl), Array.getElem?_toList] at h1
    rw [h1]; exact hj⟩⟩
  replace S0 := Lib.hid (S0.out.up hb2)
  have HC77 : RowKit.Hid (cur[L]? = some (.int .u8 77)) := Lib.hid (by
    have h1 := congrArg (fun l : List Value => l[L]?) htk; simp only [Nat.mul_one] at h1; rw [List.getElem?_take_of_lt (by omega), List.getElem?_append_right (by rw [by8_len, hL]; exact Nat.le_refl _), Array.getElem?_toList, by8_len, hL, Nat.sub_self] at h1
    exact h1)
  have HCAP := Lib.hid (show L + 1 ≤ cap by omega); clear ho1 hg1 ho2 hg2 hb1 hb2 htk hrow hgb; have hd1 := prDecode_c b (.slice (some ⟨g, 0, none⟩) L cap) w2 (by rw [hL]; exact S1.out) (HT0.out.up HB.out); unfold PDecE at hd1
  have hd2 := fun W (hs : Sl W 1 (.slice a L c) L (by8 b)) => rDecodePr_c b (.slice a L c) W (by rw [hL]; exact hs)
  unfold PDecE at hd2
  cases hp : Prm.decPr b with
  | error e =>
    simp only [hp] at hd1 hd2; have HD2 := Lib.hid hd2; have hep : e ≠ 0 := Prm.decPr_err2 hp
    have he1 : (e != 0) = true := by rw [bne_iff_ne]; exact hep
    have hee : (e != e) = false := by simp
    clear hep; clear hd2 hp; refine hd1.mono ?_; clear hd1; rintro en w3 ⟨hb3, rfl⟩; replace HB := Lib.hid (below_up HB.out hb3); replace S0 := Lib.hid (S0.out.up hb3); replace S1 := Lib.hid (S1.out.up hb3); replace M := Lib.hid (M.out.below hb3)
    go_wp2_with fail
    obtain ⟨w4, hw4⟩ : ∃ X, w3.alloc (.cells #[.int .u32 0, .int .i64 0, .int .u32 0, .int .u32 0, .int .u32 0, .int .u32 0, .int .u32 0, .int .u32 0, .int .u64 0, .int .u32 0, .int .u64 0] 28) = X := ⟨_, rfl⟩
    have hq4 : Below w3.heap.size w3 w4 := by rw [← hw4]; exact below_alloc _ _
    have N4 : RowAt w4 w3.heap.size #[.int .u32 0, .int .i64 0, .int .u32 0, .int .u32 0, .int .u32 0, .int .u32 0, .int .u32 0, .int .u32 0, .int .u64 0, .int .u32 0, .int .u64 0] 28 := by rw [← hw4]; exact RowAt.new w3 _ _
    replace HB := Lib.hid (below_up HB.out hq4); replace S0 := Lib.hid (S0.out.up hq4); replace S1 := Lib.hid (S1.out.up hq4); replace M := Lib.hid (M.out.below hq4); rw [hw4]; clear hw4 hb3 hq4; refine (HD2.out w4 S0.out).mono ?_; rintro en w5 ⟨hb5, rfl⟩; replace N4 := N4.below hb5; replace HB := Lib.hid (below_up HB.out hb5); replace S0 := Lib.hid (S0.out.up hb5); replace S1 := Lib.hid (S1.out.up hb5); replace M := Lib.hid (M.out.below hb5); have hq6 := below_alloc w5 (.cells #[.int .u32 0, .int .i64 0, .int .u32 0, .int .u32 0, .int .u32 0, .int .u32 0, .int .u32 0, .int .u32 0, .int .u64 0, .int .u32 0, .int .u64 0] 28); have N6 := RowAt.new w5 #[.int .u32 0, .int .i64 0, .int .u32 0, .int .u32 0, .int .u32 0, .int .u32 0, .int .u32 0, .int .u32 0, .int .u64 0, .int .u32 0, .int .u64 0] 28; replace N4 := N4.below hq6; replace HB := Lib.hid (below_up HB.out hq6)
    replace S0 := Lib.hid (S0.out.up hq6); replace S1 := Lib.hid (S1.out.up hq6); replace M := Lib.hid (M.out.below hq6); clear hb5 hq6 HD2; have x0 := N4.cell (i := 0) rfl; have x1 := N4.cell (i := 1) rfl; have x2 := N4.cell (i := 2) rfl; have x3 := N4.cell (i := 3) rfl; have x4 := N4.cell (i := 4) rfl; have x5 := N4.cell (i := 5) rfl; have x6 := N4.cell (i := 6) rfl; have x7 := N4.cell (i := 7) rfl; have x8 := N4.cell (i := 8) rfl; have x9 := N4.cell (i := 9) rfl; have x10 := N4.cell (i := 10) rfl; have y0 := N6.cell (i := 0) rfl; have y1 := N6.cell (i := 1) rfl; have y2 := N6.cell (i := 2) rfl; have y3 := N6.cell (i := 3) rfl; have y4 := N6.cell (i := 4) rfl; have y5 := N6.cell (i := 5) rfl; have y6 := N6.cell (i := 6) rfl; have y7 := N6.cell (i := 7) rfl; have y8 := N6.cell (i := 8) rfl; have y9 := N6.cell (i := 9) rfl; have y10 := N6.cell (i := 10) rfl; have hne := run_prNe2 0 0 0 0 0 0 0 0 0 0 0
    have hc1 : (convert 48 9 (.slice (some ⟨g, 0, none⟩) L cap)).run Tryz.prog (w5.alloc (.cells #[.int .u32 0, .int .i64 0, .int .u32 0, .int .u32 0, .int .u32 0, .int .u32 0, .int .u32 0, .int .u32 0, .int .u64 0, .int .u32 0, .int .u64 0] 28)) = .ok (.string ⟨b.toArray⟩) (w5.alloc (.cells #[.int .u32 0, .int .i64 0, .int .u32 0, .int .u32 0, .int .u32 0, .int .u32 0, .int .u32 0, .int .u32 0, .int .u64 0, .int .u32 0, .int .u64 0] 28)) := run_str Tryz.underlying48 Tryz.underlying5 Tryz.underlying9 S1.out; have hc2 : (convert 48 9 (.slice a L c)).run Tryz.prog (w5.alloc (.cells #[.int .u32 0, .int .i64 0, .int .u32 0, .int .u32 0, .int .u32 0, .int .u32 0, .int .u32 0, .int .u32 0, .int .u64 0, .int .u32 0, .int .u64 0] 28)) = .ok (.string ⟨b.toArray⟩) (w5.alloc (.cells #[.int .u32 0, .int .i64 0, .int .u32 0, .int .u32 0, .int .u32 0, .int .u32 0, .int .u32 0, .int .u32 0, .int .u64 0, .int .u32 0, .int .u64 0] 28)) := run_str Tryz.underlying48 Tryz.underlying5 Tryz.underlying9 S0.out
    have hcut := fun (kh : IntKind) (w' : World) => run_cut_h (P := Tryz.prog) slT_u8 (some ⟨g, 0, none⟩) L cap (L + 1) kh HCAP.out w'
    have hwl : IntKind.i64.wrap ((L : Int) + 1) = (L : Int) + 1 := by rw [IntKind.wrap_i64]; omega
    have m77 := M.out.cell HC77.out
    have hl1 : (L : Int) < (L : Int) + 1 := by omega
    go_wp2_with (first
      | (go_at_call 12; with_reducible refine (prNum_c _ _).mono ?_; rintro en wn ⟨rfl, rfl⟩)
      | (go_at_call 8; refine (prWorks_c _ (HT0.out.up HB.out)).mono ?_; rintro en wz ⟨rfl, hbz⟩))
    go_ret; exact ⟨rfl, below_up HB.out hbz⟩
  | ok p =>
    simp only [hp] at hd1 hd2; have HD2 := Lib.hid hd2; obtain ⟨hen, hok, hpo⟩ := Prm.enc_dec hp; have HEN := Lib.hid (And.intro hen (And.intro hok hpo)); clear hen hok hpo; clear hd2 hp; refine hd1.mono ?_; clear hd1; rintro en w3 ⟨hb3, rfl⟩; replace HB := Lib.hid (below_up HB.out hb3); replace S0 := Lib.hid (S0.out.up hb3); replace S1 := Lib.hid (S1.out.up hb3); replace M := Lib.hid (M.out.below hb3)
    go_wp2_with fail
    obtain ⟨w4, hw4⟩ : ∃ X, w3.alloc (.cells (prC p).toArray 28) = X := ⟨_, rfl⟩
    have hq4 : Below w3.heap.size w3 w4 := by rw [← hw4]; exact below_alloc _ _
    have N4 : RowAt w4 w3.heap.size #[.int .u32 p.flags, .int .i64 p.sum, .int .u32 p.toN, .int .u32 p.toS, .int .u32 p.srN, .int .u32 p.srS, .int .u32 p.rpN, .int .u32 p.rpS, .int .u64 p.time, .int .u32 p.seq, .int .u64 p.life] 28 := by rw [← hw4]; exact RowAt.new w3 _ _
    replace HB := Lib.hid (below_up HB.out hq4); replace S0 := Lib.hid (S0.out.up hq4); replace S1 := Lib.hid (S1.out.up hq4); replace M := Lib.hid (M.out.below hq4); rw [hw4]; clear hw4 hb3 hq4; refine (HD2.out w4 S0.out).mono ?_; rintro en w5 ⟨hb5, rfl⟩; replace N4 := N4.below hb5; replace HB := Lib.hid (below_up HB.out hb5); replace S0 := Lib.hid (S0.out.up hb5); replace S1 := Lib.hid (S1.out.up hb5); replace M := Lib.hid (M.out.below hb5); obtain ⟨w6, hw6⟩ : ∃ X, w5.alloc (.cells (prC p).toArray 28) = X := ⟨_, rfl⟩
    have hq6 : Below w5.heap.size w5 w6 := by rw [← hw6]; exact below_alloc _ _
    have N6 : RowAt w6 w5.heap.size #[.int .u32 p.flags, .int .i64 p.sum, .int .u32 p.toN, .int .u32 p.toS, .int .u32 p.srN, .int .u32 p.srS, .int .u32 p.rpN, .int .u32 p.rpS, .int .u64 p.time, .int .u32 p.seq, .int .u64 p.life] 28 := by rw [← hw6]; exact RowAt.new w5 _ _
    replace N4 := N4.below hq6; replace HB := Lib.hid (below_up HB.out hq6); replace S0 := Lib.hid (S0.out.up hq6); replace S1 := Lib.hid (S1.out.up hq6); replace M := Lib.hid (M.out.below hq6); clear hb5 hq6 HD2; have x0 := N4.cell (i := 0) rfl; have x1 := N4.cell (i := 1) rfl; have x2 := N4.cell (i := 2) rfl; have x3 := N4.cell (i := 3) rfl; have x4 := N4.cell (i := 4) rfl; have x5 := N4.cell (i := 5) rfl; have x6 := N4.cell (i := 6) rfl; have x7 := N4.cell (i := 7) rfl; have x8 := N4.cell (i := 8) rfl; have x9 := N4.cell (i := 9) rfl; have x10 := N4.cell (i := 10) rfl; have y0 := N6.cell (i := 0) rfl; have y1 := N6.cell (i := 1) rfl; have y2 := N6.cell (i := 2) rfl; have y3 := N6.cell (i := 3) rfl; have y4 := N6.cell (i := 4) rfl; have y5 := N6.cell (i := 5) rfl; have y6 := N6.cell (i := 6) rfl; have y7 := N6.cell (i := 7) rfl; have y8 := N6.cell (i := 8) rfl; have y9 := N6.cell (i := 9) rfl
    have y10 := N6.cell (i := 10) rfl; have hne := run_prNe2 (p.flags : Int) (p.sum : Int) (p.toN : Int) (p.toS : Int) (p.srN : Int) (p.srS : Int) (p.rpN : Int) (p.rpS : Int) (p.time : Int) (p.seq : Int) (p.life : Int); have hc1 : (convert 48 9 (.slice (some ⟨g, 0, none⟩) L cap)).run Tryz.prog w6 = .ok (.string ⟨b.toArray⟩) w6 := run_str Tryz.underlying48 Tryz.underlying5 Tryz.underlying9 S1.out; have hc2 : (convert 48 9 (.slice a L c)).run Tryz.prog w6 = .ok (.string ⟨b.toArray⟩) w6 := run_str Tryz.underlying48 Tryz.underlying5 Tryz.underlying9 S0.out
    have hcut := fun (kh : IntKind) (w' : World) => run_cut_h (P := Tryz.prog) slT_u8 (some ⟨g, 0, none⟩) L cap (L + 1) kh HCAP.out w'
    have hwl : IntKind.i64.wrap ((L : Int) + 1) = (L : Int) + 1 := by rw [IntKind.wrap_i64]; omega
    have m77 := M.out.cell HC77.out
    have hl1 : (L : Int) < (L : Int) + 1 := by omega
    go_wp2_with (first
      | (go_at_call 12; with_reducible refine (prNum_c _ _).mono ?_; rintro en wn ⟨rfl, rfl⟩))
    clear hw6 hc1 hcut hwl m77 hl1 hne hc2 x0 y0 x1 y1 x2 y2 x3 y3 x4 y4 x5 y5 x6 y6 x7 y7 x8 y8 x9 y9 x10 y10; refine (prEncode_c p HEN.out.2.2 w6 (HT0.out.up HB.out)).mono ?_; rintro en w7 ⟨hb7, hyes, _⟩; obtain ⟨v7, rfl, ho7⟩ := hyes HEN.out.2.1; rw [HEN.out.1, hL] at ho7; obtain ⟨p7, c7, rfl⟩ := own_slice ho7; have S7 := Sl.of_own ho7; have B7 := below_up HB.out hb7; have S07 := S0.out.up hb7; have hc1 : (convert 48 9 (.slice p7 L c7)).run Tryz.prog w7 = .ok (.string ⟨b.toArray⟩) w7 := run_str Tryz.underlying48 Tryz.underlying5 Tryz.underlying9 S7; have hc2 : (convert 48 9 (.slice a L c)).run Tryz.prog w7 = .ok (.string ⟨b.toArray⟩) w7 := run_str Tryz.underlying48 Tryz.underlying5 Tryz.underlying9 S07; clear ho7 hb7 hyes S7 S07
    go_wp2_with (first
      | (go_at_call 12; with_reducible refine (prNum_c _ _).mono ?_; rintro en wn ⟨rfl, rfl⟩)
      | (go_at_call 8; refine (prWorks_c _ (HT0.out.up B7)).mono ?_; rintro en wz ⟨rfl, hbz⟩))
    go_ret; exact ⟨rfl, below_up B7 hbz⟩
end Go.Proofs.YtpkonagjnfphkaaGreatDoor
namespace Go.Proofs.YtpkonagjnfphkaaGreatDoor
open Go.RowKit Trc Cb
theorem primaryBytes_l (b : List UInt8) (v : Value) (n : Nat) (w : World) (hv : Sl w 1 v n (by8 b)) (hT : Tabs w) : Calls Tryz.prog 5 #[v] w (Ret (.bool true) w) :=
  primaryBytes_law b v n w hv hv.n_len hT
end Go.Proofs.YtpkonagjnfphkaaGreatDoor
namespace Go.Proofs.YtpkonagjnfphkaaGreatDoor.primaryBytesRow
open Go.ChangeShapes Go.WideShapes Go.ChangeAt Go.RowKit
open Go.ChangeMaps (open_string shut_string)
theorem own : ownKnob Tryz.prog.godebug = none := by kernel_rfl
theorem laidOut : laidOutB Tryz.prog = true := by kernel_rfl
open Go.Lib
noncomputable def low : Nat := (World.holding Tryz.prog default ⟨#[], #[], []⟩).heap.size
noncomputable def laidWorld (os : Os) : World :=
  let w0 := World.holding Tryz.prog os ⟨#[], #[], []⟩
  let put (h : Array Obj) (g : Nat) (cs : Array Value) : Array Obj := h.modify g fun
    | .cells _ t frozen => .cells cs t frozen
    | o => o
  let h1 := put w0.heap 1 ((List.range 16).flatMap fun i => [Value.int .u8 (Lib.accLo i), Value.int .u8 (Lib.accHi i)]).toArray
  let h2 := put h1 0 (Lib.firstTab.map fun z => Value.int .u8 z).toArray
  { w0 with heap := h2 }
theorem laid_met (os : Os) (args : Array Value) : laidMet Tryz.prog Rows.primaryBytesRow.laid ((laidWorld os).forCall (fun _ _ => 0) ⟨#[], args, []⟩).memory :=
  (LaidIn.of_run (l := [("unicode/utf8.acceptRanges", Rows.laid_unicode_utf8_acceptRanges), ("unicode/utf8.first", Rows.laid_unicode_utf8_first)]) [1, 0] 8 (by kernel_rfl) (by kernel_rfl) (by kernel_rfl) (by kernel_rfl)).met
theorem witness_row (os : Os) {H : Type} (enc : TypeId × Value → H) :
    (OpenSpec.ofChange Rows.primaryBytesSpec).preRow enc Tryz.prog Tryz.f5 Rows.primaryBytesRow.domain false Rows.primaryBytesRow.laid ((laidWorld os).forCall (fun _ _ => 0) ⟨#[], #[.slice none 0 0], []⟩).memory #[.slice none 0 0] := by
  have hw : (DataW.whole enc Tryz.prog ((laidWorld os).forCall (fun _ _ => 0) ⟨#[], #[.slice none 0 0], []⟩).memory Tryz.f5.params.toList (OpenSpec.ofChange Rows.primaryBytesSpec).vars false (#[.slice none 0 0] : Array Value).toList 8).map (fun x => (x.1, x.2.1)) =
      some ([.nil], []) := by kernel_rfl
  obtain ⟨⟨x1, x2, x3⟩, hx, hx1⟩ := Option.map_eq_some_iff.1 hw; simp only [Prod.mk.injEq] at hx1; obtain ⟨rfl, rfl⟩ := hx1; exact OpenSpec.preRow_of_cond 8 hx (by kernel_rfl) (fun k hk => by cases hk) (by kernel_rfl) (laid_met os _)
theorem lifted (os : Os) (started : os.Started) (H : Type) (enc : TypeId × Value → H) :
    ReturnsInHanded {} Tryz.checked os 5 .any ((OpenSpec.ofChange Rows.primaryBytesSpec).preRow enc Tryz.prog Tryz.f5 Rows.primaryBytesRow.domain false Rows.primaryBytesRow.laid) (Rows.primaryBytesSpec.post enc Tryz.prog Tryz.f5 false true false false) := by
  refine returnsInHanded_of_row (C := Tryz.checked) (s := OpenSpec.ofChange Rows.primaryBytesSpec) (F := fun _ _ _ => 0) own started (by kernel_rfl) Tryz.func5
    (witness_row_atRef (enc := enc) (C := Tryz.checked) false (laidWorld os) #[.slice none 0 0] rfl (by kernel_rfl) (by kernel_rfl) (by kernel_rfl) (witness_row os enc)) ?_
  intro W base args ds gs before hval0 hW hcnd _ hsz0 hL hshp _; have hsz : (DataW.weightsEach Tryz.prog (Tryz.f5.params.toList ++ Rows.primaryBytesSpec.plain.varTypes Tryz.prog) (ds ++ gs)).all (· ≤ reachBytes) = true := hsz0; have hval : ∀ (j : Nat) t v, Tryz.f5.params[j]? = some t → args[j]? = some v → Value.okWide Tryz.prog W .any base t v := hval0
  have hT : Tabs W :=
    utf8Tabs_of_readsT (ρ := lays197_ren) { lays197 with } ⟨by kernel_rfl, by kernel_rfl, by kernel_rfl, by kernel_rfl, by kernel_rfl, by kernel_rfl, by kernel_rfl⟩
      (by have := Lib.laidMet.reads hL (n := "unicode/utf8.first") (d := Rows.laid_unicode_utf8_first) ((.tail _ (.head _))); exact Pinned.utf8First_eq ▸ this) (by have := Lib.laidMet.reads hL (n := "unicode/utf8.acceptRanges") (d := Rows.laid_unicode_utf8_acceptRanges) (.head _); rwa [show (Rows.laid_unicode_utf8_acceptRanges : DataW Unit) = acceptData by kernel_rfl] at this)
  have hW' := hW; obtain ⟨p, q, hA0, hV, rfl, hfz, hnd⟩ := hW; have hA : DataW.TrodAll enc Tryz.prog W 0 (fun _ => true) true Tryz.f5.params.toList args.toList ds p := hA0; rw [Tryz.params5] at hA hval hsz; obtain ⟨v0, vs0, d0, ds0, p0, q0, hargs, rfl, rfl, h0, r0⟩ := trodAll_cons hA; obtain ⟨rfl, rfl, rfl⟩ := trodAll_nil r0
  obtain rfl : args = #[v0] := by cases args; simp_all
  obtain ⟨rfl, rfl⟩ := trodVars_none hV; have k0 := h0
  have lt0 : ∀ x ∈ p0, x.block < W.heap.size := by obtain ⟨m, hm⟩ := k0; exact DataW.trod_lt m _ _ _ hm
  obtain ⟨a0, len0, cap0, rfl⟩ := okWide_slice Tryz.underlying48 (hval 0 48 v0 rfl rfl); obtain ⟨fu0, hf0⟩ := h0; obtain ⟨a0', len0', cap0', vs0', hcs0, sl0, lf0, nl0⟩ := open_flat (ls := [5]) (sz := 1) Tryz.underlying48 (by kernel_rfl) rfl (by kernel_rfl) (by decide) hf0; simp only [Value.cells, List.cons.injEq, Value.slice.injEq, and_true] at hcs0; obtain ⟨rfl, rfl, rfl⟩ := hcs0
  have bd0 : len0 * 1 ≤ 140737488351232 := by
    rcases nl0 with ⟨_, h⟩ | ⟨es, sp, h, h'⟩
    · rw [h]; decide
    · have := sized_slice hsz (j := 0) (t := 48) (e := 5) rfl (congrArg some h) Tryz.underlying48
      rw [show Tryz.prog.bytesOf 5 = 1 by kernel_rfl] at this; simp only [reachBytes] at this; omega
  clear hA0 hval0; obtain ⟨b, rfl⟩ := bytes_of Tryz.underlying5 sl0 lf0
  refine (primaryBytes_l b _ _ W sl0 hT).mono fun e W' ⟨he, bel⟩ => ?_
  subst he; exact ⟨_, rfl, _, _, _, [], _, [], hW', trodAll_mk1 (shut_bool Tryz.underlying4 _), (trodAll_cons_mk (Below.trod laidOut (by kernel_rfl) (of_decide_eq_true (by kernel_rfl)) k0 bel lt0) trodAll_mk0), rfl, bel.frame _, fun h => by cases h⟩
theorem over : Rows.primaryBytesRow.holds Tryz.pinned (OpenSpec.ofChange Rows.primaryBytesSpec) :=
  OpenClaim.holds_of_wide 5 Tryz.f5 rfl rfl rfl rfl rfl rfl rfl ⟨rfl, rfl, rfl, rfl, rfl⟩ rfl rfl rfl rfl rfl (by kernel_rfl) Tryz.func5 (by kernel_rfl)
    (of_decide_eq_true (by kernel_rfl)) (by unfold Func.isWrapper; first | (rw [if_pos (by decide +kernel)]; kernel_rfl) | (rw [if_neg (by decide +kernel)]; exact ⟨rfl, rfl⟩))
    (fun os started H enc _ => by rw [OpenClaim.pre_eq_preRow]; exact lifted os started H enc)
theorem proved : Rows.PrimaryBytesCardSaid :=
  Claim7.holds_tied_plain_at .later [] [.data, .pinned] true (true, "470b2c42ec1d750a811b4303a4b82cb10a471d475c6c98540e3c9cb4d197a111") true
    over (fun _ h => by cases h) (by kernel_rfl) (fun _ h => by cases h) primaryBytes_row_tie rfl ⟨rfl, rfl⟩ (by kernel_rfl) rfl
    (fun f fn hf hfn => by
      obtain rfl : f = 5 := Option.some.inj ((show Tryz.prog.funcNamed "packsaddle/packsaddlelaw06.PrimaryBytes" = some 5 by kernel_rfl).symm.trans hf) |>.symm; obtain rfl : fn = Tryz.f5 := (Option.some.inj (Tryz.func5.symm.trans hfn)).symm
      exact ⟨by kernel_rfl, fun j t ht => by
        rw [Tryz.params5] at ht
        have h3 : t ∈ [48] := by
          have := List.mem_of_getElem? (by simpa using ht : ([48] : List TypeId)[j]? = some t); exact this
        simp only [List.mem_cons, List.not_mem_nil, or_false] at h3; rcases h3 with rfl
        · exact (show Tryz.prog.wantsStandIn 48 = false by kernel_rfl)⟩)
    (by kernel_rfl)
#print axioms proved
end Go.Proofs.YtpkonagjnfphkaaGreatDoor.primaryBytesRow
