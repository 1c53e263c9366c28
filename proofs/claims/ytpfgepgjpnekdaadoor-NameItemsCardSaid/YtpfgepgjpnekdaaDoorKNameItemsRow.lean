/-
  NameItems, NameItemsRow: several texts in one (bundle.py).
-/
import Derived.Test.YtpfgepgjpnekdaaDoorNmI38
import Derived.Test.YtpfgepgjpnekdaaDoorNmI39
import Derived.Test.YtpfgepgjpnekdaaDoorNmI40
import Derived.Test.YtpfgepgjpnekdaaDoorRows
import Derived.Test.YtpfgepgjpnekdaaDoorNmI02
import Derived.SizedLaws
import Derived.Test.YtpfgepgjpnekdaaDoorTie
import Derived.Test.YtpfgepgjpnekdaaDoorCards
import Derived.Lib.LaidIn
import Derived.Lib.LaidU8T
import Derived.Deep.DeepHandedRow
import Derived.Deep.DeepWitnessRowRef
import Derived.PinnedBridge
import Derived.ProofKit
import Derived.SevenTiedAt
namespace Go.Proofs.YtpfgepgjpnekdaaDoor
open Go.RowKit Trc Cb
set_option linter.unusedSimpArgs false
set_option linter.unusedVariables false
def fewC : Nat → Nat
  | 0 => 0
  | d + 1 => 201 + 5 * fewC d
theorem few_cnt : ∀ (d : Nat) (x : It), fewB d x = true → cnt x ≤ fewC d := by
  intro d
  induction d with
  | zero => intro x h; cases h
  | succ d ih =>
    intro x h
    unfold fewB at h
    simp only [Bool.and_eq_true, decide_eq_true_eq, List.all_eq_true] at h
    obtain ⟨h1, h2, h3, h4⟩ := h
    have hl : ∀ l : List It, (∀ y ∈ l, fewB d y = true) → cntL l ≤ l.length * fewC d := by
      intro l
      induction l with
      | nil => intro _; simp [cntL]
      | cons y l il =>
        intro hy
        have a := ih y (hy y (by simp))
        have b := il (fun z hz => hy z (by simp [hz]))
        simp only [cntL, List.length_cons]
        rw [Nat.add_mul, Nat.one_mul]
        omega
    have := hl x.l h4
    have h5 : x.l.length * fewC d ≤ 5 * fewC d := Nat.mul_le_mul_right _ h1
    rw [cnt_sum]
    show _ ≤ 201 + 5 * fewC d
    omega
theorem few_small {x : It} (h : fewB 4 x = true) : cnt x ≤ 1000000 := Nat.le_trans (few_cnt 4 x h) (by decide)
set_option maxHeartbeats 2000000 in
set_option maxRecDepth 100000 in
theorem nameItems_law (x : It) (r : Rw) (w : World) (hx : ItR (fun k => k < w.heap.size) w x r) (hT : NmT w) : Calls Tryd.prog 7 #[rwV r] w (Ret (.bool true) w) := by
  obtain ⟨k1, n1, ba1, bn1, bc1, s1, la1, ln1, lc1, rfl⟩ := hx.shape
  have D0 := below_alloc w (.cells (rwC ⟨k1, n1, .slice ba1 bn1 bc1, s1, .slice la1 ln1 lc1⟩).toArray 48)
  have X0 := RowAt.new w (rwC ⟨k1, n1, .slice ba1 bn1 bc1, s1, .slice la1 ln1 lc1⟩).toArray 48
  have HT := Lib.hid hT
  have hfw := few_c (fun k => k < w.heap.size) 4 x ⟨k1, n1, .slice ba1 bn1 bc1, s1, .slice la1 ln1 lc1⟩ _ (by decide) (hx.up D0)
  have HFW := Lib.hid hfw
  have HX := Lib.hid hx
  have HSM := Lib.hid (fun h : fewB 4 x = true => few_small h)
  have x0 := X0.cell (i := 0) rfl
  have x1 := X0.cell (i := 1) rfl
  have x2 := X0.cell (i := 2) rfl
  have x3 := X0.cell (i := 3) rfl
  have x4 := X0.cell (i := 4) rfl
  clear hfw hx hT
  go_enter Tryd.func7, Tryd.ntmps7
  go_wp2_with fail
  refine HFW.out.mono ?_
  rintro en w1 ⟨rfl, hb1⟩
  have D1 := below_up D0 hb1
  clear HFW
  cases hf : fewB 4 x
  · go_wp2_with (first
      | (go_at_call 9; refine (nmWorks_c _ (HT.out.up D1)).mono ?_; rintro en w7 ⟨rfl, hb7⟩))
    go_ret
    exact ⟨rfl, below_up D1 hb7⟩
  · have hc := HSM.out hf
    have HOF := Lib.hid (fun (W : World) (h : ItR (fun k => k < W.heap.size) W x ⟨k1, n1, .slice ba1 bn1 bc1, s1, .slice la1 ln1 lc1⟩) => show Calls Tryd.prog 28 #[rwV ⟨k1, n1, .slice ba1 bn1 bc1, s1, .slice la1 ln1 lc1⟩] W (Ret (ofV x) W) from of_c x ⟨k1, n1, .slice ba1 bn1 bc1, s1, .slice la1 ln1 lc1⟩ W h hc)
    have HNF := Lib.hid (fun (W : World) (h : ItR (fun k => k < W.heap.size) W x ⟨k1, n1, .slice ba1 bn1 bc1, s1, .slice la1 ln1 lc1⟩) => show Calls Tryd.prog 22 #[rwV ⟨k1, n1, .slice ba1 bn1 bc1, s1, .slice la1 ln1 lc1⟩] W (Ret (nofV x) W) from nof_c x ⟨k1, n1, .slice ba1 bn1 bc1, s1, .slice la1 ln1 lc1⟩ W h hc)
    have HRO := Lib.hid (fun (W : World) (h : ItR (fun k => k < W.heap.size) W x ⟨k1, n1, .slice ba1 bn1 bc1, s1, .slice la1 ln1 lc1⟩) => show Calls Tryd.prog 32 #[rwV ⟨k1, n1, .slice ba1 bn1 bc1, s1, .slice la1 ln1 lc1⟩] W (Ret (rofV x) W) from rOf_c x ⟨k1, n1, .slice ba1 bn1 bc1, s1, .slice la1 ln1 lc1⟩ W h hc)
    have HRN := Lib.hid (fun (W : World) (h : ItR (fun k => k < W.heap.size) W x ⟨k1, n1, .slice ba1 bn1 bc1, s1, .slice la1 ln1 lc1⟩) => show Calls Tryd.prog 33 #[rwV ⟨k1, n1, .slice ba1 bn1 bc1, s1, .slice la1 ln1 lc1⟩] W (Ret (rnofV x) W) from rNameOf_c x ⟨k1, n1, .slice ba1 bn1 bc1, s1, .slice la1 ln1 lc1⟩ W h hc)
    clear HSM hc hf
    have X1 := X0.below hb1
    have hx1 := HX.out.up D1
    clear x0 x1 x2 x3 x4 hb1 D0 X0
    unfold ofV at HOF
    unfold nofV at HNF
    unfold rofV at HRO
    unfold rnofV at HRN
    generalize hok : okE x = ok at *
    generalize hok2 : okN x = ok2 at *
    clear hok hok2
    generalize (if ok = true then ofA x else 0) = A at *
    generalize (if ok = true then ofB x else 0) = B at *
    generalize (if ok2 = true then naN x else 0) = N at *
    generalize (if ok2 = true then naM x else 0) = M at *
    generalize (if ok2 = true then naT x else 0) = T at *
    generalize (if ok2 = true then naS x else 0) = S at *
    obtain ⟨E1, hE1⟩ : ∃ E1 : Int, E1 = (if ok = true then 0 else 130) := ⟨_, rfl⟩
    obtain ⟨E2, hE2⟩ : ∃ E2 : Int, E2 = (if ok2 = true then 0 else 130) := ⟨_, rfl⟩
    rw [← hE1] at HOF
    rw [← hE2] at HNF
    have HE1 := Lib.hid hE1
    have HE2 := Lib.hid hE2
    clear hE1 hE2
    have x0 := X1.cell (i := 0) rfl
    have x1 := X1.cell (i := 1) rfl
    have x2 := X1.cell (i := 2) rfl
    have x3 := X1.cell (i := 3) rfl
    have x4 := X1.cell (i := 4) rfl
    go_wp2_with fail
    refine (HOF.out w1 (hx1.mono (fun k e => Nat.lt_of_lt_of_le e D1.size))).mono ?_
    rintro en w2 ⟨rfl, hb2⟩
    have E2 := below_up hb2 (below_alloc w2 (.cells #[.int .u32 A, .int .u32 B] 25))
    have D2 := below_up D1 E2
    have Y2 := RowAt.new w2 #[.int .u32 A, .int .u32 B] 25
    have X2 := X1.below E2
    have hx2 := hx1.up E2
    clear x0 x1 x2 x3 x4 hb2 E2 X1 hx1 HOF D1
    have x0 := X2.cell (i := 0) rfl
    have x1 := X2.cell (i := 1) rfl
    have x2 := X2.cell (i := 2) rfl
    have x3 := X2.cell (i := 3) rfl
    have x4 := X2.cell (i := 4) rfl
    go_wp2_with fail
    refine (HNF.out _ (hx2.mono (fun k e => Nat.lt_of_lt_of_le e D2.size))).mono ?_
    rintro en w3 ⟨rfl, hb3⟩
    have E3 := below_up hb3 (below_alloc w3 (.cells #[.int .u32 N, .int .u32 M, .int .u64 T, .int .u32 S] 31))
    have D3 := below_up D2 E3
    have Z3 := RowAt.new w3 #[.int .u32 N, .int .u32 M, .int .u64 T, .int .u32 S] 31
    have Y3 := Y2.below E3
    have X3 := X2.below E3
    have hx3 := hx2.up E3
    clear x0 x1 x2 x3 x4 hb3 E3 X2 hx2 HNF D2 Y2
    have x0 := X3.cell (i := 0) rfl
    have x1 := X3.cell (i := 1) rfl
    have x2 := X3.cell (i := 2) rfl
    have x3 := X3.cell (i := 3) rfl
    have x4 := X3.cell (i := 4) rfl
    go_wp2_with fail
    refine (HRO.out _ (hx3.mono (fun k e => Nat.lt_of_lt_of_le e D3.size))).mono ?_
    rintro en w4 ⟨rfl, hb4⟩
    have E4 := below_up hb4 (below_alloc w4 (.cells #[.int .u32 A, .int .u32 B] 25))
    have D4 := below_up D3 E4
    have U4 := RowAt.new w4 #[.int .u32 A, .int .u32 B] 25
    have Z4 := Z3.below E4
    have Y4 := Y3.below E4
    have X4 := X3.below E4
    have hx4 := hx3.up E4
    clear x0 x1 x2 x3 x4 hb4 E4 X3 hx3 HRO D3 Y3 Z3
    have x0 := X4.cell (i := 0) rfl
    have x1 := X4.cell (i := 1) rfl
    have x2 := X4.cell (i := 2) rfl
    have x3 := X4.cell (i := 3) rfl
    have x4 := X4.cell (i := 4) rfl
    go_wp2_with fail
    refine (HRN.out _ (hx4.mono (fun k e => Nat.lt_of_lt_of_le e D4.size))).mono ?_
    rintro en w5 ⟨rfl, hb5⟩
    have E5 := below_up hb5 (below_alloc w5 (.cells #[.int .u32 N, .int .u32 M, .int .u64 T, .int .u32 S] 31))
    have D5 := below_up D4 E5
    have V5 := RowAt.new w5 #[.int .u32 N, .int .u32 M, .int .u64 T, .int .u32 S] 31
    have U5 := U4.below E5
    have Z5 := Z4.below E5
    have Y5 := Y4.below E5
    clear x0 x1 x2 x3 x4 hb5 E5 X4 hx4 HRN D4 Y4 Z4 U4
    obtain ⟨w6, hw6⟩ : ∃ w6, w6 = w5.alloc (.cells #[.int .u32 N, .int .u32 M, .int .u64 T, .int .u32 S] 31) := ⟨_, rfl⟩
    rw [← hw6] at *
    have HW6 := Lib.hid hw6
    clear hw6
    have u0 := U5.cell (i := 0) rfl
    have u1 := U5.cell (i := 1) rfl
    have z0 := Z5.cell (i := 0) rfl
    have z1 := Z5.cell (i := 1) rfl
    have z2 := Z5.cell (i := 2) rfl
    have z3 := Z5.cell (i := 3) rfl
    have y0 := Y5.cell (i := 0) rfl
    have y1 := Y5.cell (i := 1) rfl
    have v0 := V5.cell (i := 0) rfl
    have v1 := V5.cell (i := 1) rfl
    have v2 := V5.cell (i := 2) rfl
    have v3 := V5.cell (i := 3) rfl
    clear U5 Z5 Y5 V5
    cases ok <;> cases ok2
    · obtain rfl : E1 = 130 := HE1.out
      obtain rfl : E2 = 130 := HE2.out
      go_wp2_with (first
        | (go_at_call 14; with_reducible refine (numL_c _ _).mono ?_; rintro en wn ⟨rfl, rfl⟩)
        | (go_at_call 9; refine (nmWorks_c _ (HT.out.up D5)).mono ?_; rintro en w7 ⟨rfl, hb7⟩))
      go_ret
      exact ⟨rfl, below_up D5 hb7⟩
    · obtain rfl : E1 = 130 := HE1.out
      obtain rfl : E2 = 0 := HE2.out
      go_wp2_with (first
        | (go_at_call 14; with_reducible refine (numL_c _ _).mono ?_; rintro en wn ⟨rfl, rfl⟩)
        | (go_at_call 9; refine (nmWorks_c _ (HT.out.up D5)).mono ?_; rintro en w7 ⟨rfl, hb7⟩))
      go_ret
      exact ⟨rfl, below_up D5 hb7⟩
    · obtain rfl : E1 = 0 := HE1.out
      obtain rfl : E2 = 130 := HE2.out
      go_wp2_with (first
        | (go_at_call 14; with_reducible refine (numL_c _ _).mono ?_; rintro en wn ⟨rfl, rfl⟩)
        | (go_at_call 9; refine (nmWorks_c _ (HT.out.up D5)).mono ?_; rintro en w7 ⟨rfl, hb7⟩))
      go_ret
      exact ⟨rfl, below_up D5 hb7⟩
    · obtain rfl : E1 = 0 := HE1.out
      obtain rfl : E2 = 0 := HE2.out
      go_wp2_with (first
        | (go_at_call 14; with_reducible refine (numL_c _ _).mono ?_; rintro en wn ⟨rfl, rfl⟩)
        | (go_at_call 9; refine (nmWorks_c _ (HT.out.up D5)).mono ?_; rintro en w7 ⟨rfl, hb7⟩))
      go_ret
      exact ⟨rfl, below_up D5 hb7⟩
end Go.Proofs.YtpfgepgjpnekdaaDoor

namespace Go.Proofs.YtpfgepgjpnekdaaDoor.nameItemsRow
open Go.ChangeShapes Go.WideShapes Go.ChangeAt Go.RowKit
open Go.ChangeMaps (open_string shut_string)
set_option linter.unusedVariables false

theorem own : ownKnob Tryd.prog.godebug = none := by kernel_rfl
theorem laidOut : laidOutB Tryd.prog = true := by kernel_rfl

open Go.Lib
/-- Where the witness's own objects lie. -/
noncomputable def low : Nat := (World.holding Tryd.prog default ⟨#[], #[], []⟩).heap.size
/-- A world that meets the condition: the settled one, the variables laid. -/
noncomputable def laidWorld (os : Os) : World :=
  let w0 := World.holding Tryd.prog os ⟨#[.cells #[.string ⟨#[118, 97, 108, 117, 101, 32, 111, 117, 116, 32, 111, 102, 32, 114, 97, 110, 103, 101]⟩] 167, .cells #[.string ⟨#[105, 110, 118, 97, 108, 105, 100, 32, 115, 121, 110, 116, 97, 120]⟩] 167], #[], []⟩
  let put (h : Array Obj) (g : Nat) (cs : Array Value) : Array Obj := h.modify g fun
    | .cells _ t frozen => .cells cs t frozen
    | o => o
  let h1 := put w0.heap 3 (cellsD Rows.laid_math_bits_deBruijn32tab)
  let h2 := put h1 4 (cellsD Rows.laid_math_bits_deBruijn64tab)
  let h3 := put h2 2 (cellsD Rows.laid_internal_strconv_uint64pow10)
  let h4 := put h3 1 #[.iface 165 (.pointer (some ⟨low + 0, 0, none⟩))]
  let h5 := put h4 0 #[.iface 165 (.pointer (some ⟨low + 1, 0, none⟩))]
  { w0 with heap := h5 }
theorem laid_met (os : Os) (args : Array Value) : laidMet Tryd.prog Rows.nameItemsRow.laid ((laidWorld os).forCall (fun _ _ => 0) ⟨#[], args, []⟩).memory :=
  (LaidIn.of_run (l := [("math/bits.deBruijn32tab", Rows.laid_math_bits_deBruijn32tab), ("math/bits.deBruijn64tab", Rows.laid_math_bits_deBruijn64tab), ("internal/strconv.uint64pow10", Rows.laid_internal_strconv_uint64pow10), ("strconv.ErrRange", Rows.laid_strconv_ErrRange), ("strconv.ErrSyntax", Rows.laid_strconv_ErrSyntax)]) [3, 4, 2, 1, low + 0, 0, low + 1] 8 (by kernel_rfl) (by kernel_rfl) (by kernel_rfl) (by kernel_rfl)).met
theorem witness_row (os : Os) {H : Type} (enc : TypeId × Value → H) :
    (OpenSpec.ofChange Rows.nameItemsSpec).preRow enc Tryd.prog Tryd.f7 Rows.nameItemsRow.domain false Rows.nameItemsRow.laid ((laidWorld os).forCall (fun _ _ => 0) ⟨#[], #[.agg #[.int .i64 0, .int .u64 0, .slice none 0 0, .string ⟨#[]⟩, .slice none 0 0]], []⟩).memory #[.agg #[.int .i64 0, .int .u64 0, .slice none 0 0, .string ⟨#[]⟩, .slice none 0 0]] := by
  have hw : (DataW.whole enc Tryd.prog ((laidWorld os).forCall (fun _ _ => 0) ⟨#[], #[.agg #[.int .i64 0, .int .u64 0, .slice none 0 0, .string ⟨#[]⟩, .slice none 0 0]], []⟩).memory Tryd.f7.params.toList (OpenSpec.ofChange Rows.nameItemsSpec).vars false (#[.agg #[.int .i64 0, .int .u64 0, .slice none 0 0, .string ⟨#[]⟩, .slice none 0 0]] : Array Value).toList 8).map (fun x => (x.1, x.2.1)) =
      some ([.agg [.lit (.int .i64 0), .lit (.int .u64 0), .nil, .lit (.string []), .nil]], []) := by kernel_rfl
  obtain ⟨⟨x1, x2, x3⟩, hx, hx1⟩ := Option.map_eq_some_iff.1 hw
  simp only [Prod.mk.injEq] at hx1
  obtain ⟨rfl, rfl⟩ := hx1
  exact OpenSpec.preRow_of_cond 8 hx (by kernel_rfl) (fun k hk => by cases hk) (by kernel_rfl) (laid_met os _)

set_option maxRecDepth 100000 in
theorem lifted (os : Os) (started : os.Started) (H : Type) (enc : TypeId × Value → H) :
    ReturnsInHanded {} Tryd.checked os 7 .any ((OpenSpec.ofChange Rows.nameItemsSpec).preRow enc Tryd.prog Tryd.f7 Rows.nameItemsRow.domain false Rows.nameItemsRow.laid) (Rows.nameItemsSpec.post enc Tryd.prog Tryd.f7 false true false false) := by
  refine returnsInHanded_of_row (C := Tryd.checked) (s := OpenSpec.ofChange Rows.nameItemsSpec) (F := fun _ _ _ => 0) own started (by kernel_rfl) Tryd.func7
    (witness_row_atRef (enc := enc) (C := Tryd.checked) false (laidWorld os) #[.agg #[.int .i64 0, .int .u64 0, .slice none 0 0, .string ⟨#[]⟩, .slice none 0 0]] rfl (by kernel_rfl) (by kernel_rfl) (by kernel_rfl) (witness_row os enc)) ?_
  intro W base args ds gs before hval0 hW hcnd _ hsz0 hL hshp _
  have hsz : (DataW.weightsEach Tryd.prog (Tryd.f7.params.toList ++ Rows.nameItemsSpec.plain.varTypes Tryd.prog) (ds ++ gs)).all (· ≤ reachBytes) = true := hsz0
  have hval : ∀ (j : Nat) t v, Tryd.f7.params[j]? = some t → args[j]? = some v → Value.okWide Tryd.prog W .any base t v := hval0
  have hN : NmT W := nmT_of (show (Rows.laid_internal_strconv_uint64pow10 : DataW Unit) = Lib.tabData .u64 Lib.pow10Tab by kernel_rfl)
    (Lib.laidMet.reads hL (n := "internal/strconv.uint64pow10") (d := Rows.laid_internal_strconv_uint64pow10) ((.tail _ (.tail _ (.head _)))))
    (Lib.laidMet.reads hL (n := "strconv.ErrRange") (d := Rows.laid_strconv_ErrRange) ((.tail _ (.tail _ (.tail _ (.head _))))))
    (Lib.laidMet.reads hL (n := "strconv.ErrSyntax") (d := Rows.laid_strconv_ErrSyntax) ((.tail _ (.tail _ (.tail _ (.tail _ (.head _)))))))
  have hW' := hW
  obtain ⟨p, q, hA0, hV, rfl, hfz, hnd⟩ := hW
  have hA : DataW.TrodAll enc Tryd.prog W 0 (fun _ => true) true Tryd.f7.params.toList args.toList ds p := hA0
  rw [Tryd.params7] at hA hval hsz
  obtain ⟨v0, vs0, d0, ds0, p0, q0, hargs, rfl, rfl, h0, r0⟩ := trodAll_cons hA
  obtain ⟨rfl, rfl, rfl⟩ := trodAll_nil r0
  obtain rfl : args = #[v0] := by cases args; simp_all
  obtain ⟨rfl, rfl⟩ := trodVars_none hV
  have k0 := h0
  have lt0 : ∀ x ∈ p0, x.block < W.heap.size := by obtain ⟨m, hm⟩ := k0; exact DataW.trod_lt m _ _ _ hm
  obtain ⟨cs0, rfl, hsz0⟩ : ∃ cs, v0 = .agg cs ∧ cs.size = 5 := by
    have := hval 0 48 v0 rfl rfl
    simp only [Value.okWide, Tryd.underlying48] at this
    obtain ⟨cs, h1, h2, _⟩ := this
    exact ⟨cs, h1, h2.trans (by kernel_rfl)⟩
  obtain ⟨fu0, hf0⟩ := h0
  obtain ⟨x, rx, hc0, hI0, hz0, hk0⟩ := open_item _ _ _ hf0 (fun n hn => of_decide_eq_true (List.all_eq_true.1 hsz _ (DataW.weights_mem_each (j := 0) (t := 48) rfl rfl _ hn)))
  obtain ⟨l0⟩ := cs0
  obtain rfl : l0 = rwC rx := hc0
  clear hA0 hval0
  refine (nameItems_law x rx W hI0 hN).mono fun e W' ⟨he, bel⟩ => ?_
  subst he
  exact ⟨_, rfl, _, _, _, [], _, [], hW', trodAll_mk1 (shut_bool Tryd.underlying4 _), (trodAll_cons_mk (Below.trod laidOut (by kernel_rfl) (of_decide_eq_true (by kernel_rfl)) k0 bel lt0) trodAll_mk0), rfl, bel.frame _, fun h => by cases h⟩

theorem over : Rows.nameItemsRow.holds Tryd.pinned (OpenSpec.ofChange Rows.nameItemsSpec) :=
  OpenClaim.holds_of_wide 7 Tryd.f7 rfl rfl rfl rfl rfl rfl rfl ⟨rfl, rfl, rfl, rfl, rfl⟩ rfl rfl rfl rfl rfl (by kernel_rfl) Tryd.func7 (by kernel_rfl)
    (of_decide_eq_true (by kernel_rfl)) (by unfold Func.isWrapper; first | (rw [if_pos (by decide +kernel)]; kernel_rfl) | (rw [if_neg (by decide +kernel)]; exact ⟨rfl, rfl⟩))
    (fun os started H enc _ => by rw [OpenClaim.pre_eq_preRow]; exact lifted os started H enc)

theorem proved : Rows.NameItemsCardSaid :=
  Claim7.holds_tied_plain_at .later [] [.data, .data, .data, .sentinel, .sentinel] true (true, "039c7d746be2dc5819f6c862a3894bd3633ef9a7dee4d63b774f1987880c1757") true
    over (fun _ h => by cases h) (by kernel_rfl) (fun _ h => by cases h) nameItems_row_tie rfl ⟨rfl, rfl⟩ (by kernel_rfl) rfl
    (fun f fn hf hfn => by
      obtain rfl : f = 7 := Option.some.inj ((show Tryd.prog.funcNamed "packsaddle/packsaddlelaw05.NameItems" = some 7 by kernel_rfl).symm.trans hf) |>.symm
      obtain rfl : fn = Tryd.f7 := (Option.some.inj (Tryd.func7.symm.trans hfn)).symm
      exact ⟨by kernel_rfl, fun j t ht => by
        rw [Tryd.params7] at ht
        have h3 : t ∈ [48] := by
          have := List.mem_of_getElem? (by simpa using ht : ([48] : List TypeId)[j]? = some t)
          exact this
        simp only [List.mem_cons, List.not_mem_nil, or_false] at h3
        rcases h3 with rfl
        · exact (show Tryd.prog.wantsStandIn 48 = false by kernel_rfl)⟩)
    (by kernel_rfl)
#print axioms proved
end Go.Proofs.YtpfgepgjpnekdaaDoor.nameItemsRow
