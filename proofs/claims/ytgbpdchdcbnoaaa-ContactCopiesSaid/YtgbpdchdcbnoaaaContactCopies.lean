/-
  ContactCopies: the walk.
-/
import Derived.Test.YtgbpdchdcbnoaaaContactPlays
import Derived.Test.YtgbpdchdcbnoaaaPtM
namespace Go.Proofs.Ytgbpdchdcbnoaaa
open Go.RowKit Vol
set_option linter.unusedSimpArgs false
set_option linter.unusedVariables false
attribute [local go_sem] Oper.semAt_some

abbrev twC (x0 x1 : Ac) : List Value := [.int .i64 x0.what, .int .i64 x0.n, .int .u32 x0.c.from_, .int .u32 x0.c.to, .int .u64 x0.c.a, .int .u64 x0.c.b, .int .u64 x0.c.r, .int .u64 x0.at_, .int .i64 x1.what, .int .i64 x1.n, .int .u32 x1.c.from_, .int .u32 x1.c.to, .int .u64 x1.c.a, .int .u64 x1.c.b, .int .u64 x1.c.r, .int .u64 x1.at_]
theorem twC_0 (x0 x1 : Ac) : ∀ j, j < (acC x0).length → (acC x0)[j]? = (twC x0 x1)[0 + j]? := by
  intro j hj
  simp only [List.length_cons, List.length_nil] at hj
  match j, hj with
  | 0, _ => rfl
  | 1, _ => rfl
  | 2, _ => rfl
  | 3, _ => rfl
  | 4, _ => rfl
  | 5, _ => rfl
  | 6, _ => rfl
  | 7, _ => rfl
theorem twC_1 (x0 x1 : Ac) : ∀ j, j < (acC x1).length → (acC x1)[j]? = (twC x0 x1)[8 + j]? := by
  intro j hj
  simp only [List.length_cons, List.length_nil] at hj
  match j, hj with
  | 0, _ => rfl
  | 1, _ => rfl
  | 2, _ => rfl
  | 3, _ => rfl
  | 4, _ => rfl
  | 5, _ => rfl
  | 6, _ => rfl
  | 7, _ => rfl
/-- The law's own first two blocks: the two calls, the result. -/
structure OwI (w wr : World) (x0 x1 : Ac) : Prop where
  below : Below w.heap.size w wr
  two : RowAt wr w.heap.size (twC x0 x1).toArray 54
  res : RowAt wr (w.heap.size + 1) #[.bool false] 4
theorem OwI.up {w wr w2 : World} {x0 x1 : Ac} (h : OwI w wr x0 x1) (hb : Below wr.heap.size wr w2) : OwI w w2 x0 x1 := ⟨below_up h.below hb, h.two.below hb, h.res.below hb⟩
theorem OwI.but {w wr w2 : World} {x0 x1 : Ac} (h : OwI w wr x0 x1) {O : Nat → Prop} (hb : But O wr w2) (hO : ∀ j, O j → w.heap.size + 1 < j) : OwI w w2 x0 x1 :=
  ⟨h.below.trans (hb.below (fun j e => by have := hO j e; omega) h.below.size), h.two.but hb (fun e => by have := hO _ e; omega), h.res.but hb (fun e => by have := hO _ e; omega)⟩

theorem AllAt.past {w w' : World} {C H n : Nat} {v : Value} {L : List Ct} {rs : Array Value} {T : TypeId} (h : AllAt w C v n L) (hr : RowAt w H rs T) (hs : rs.size < 5) (hb : But (· = H) w w') (hne : C ≠ H) : AllAt w' C v n L :=
  ⟨hb.cell h.var hne, h.sl.past hr hs hb⟩
theorem AllAt.up {w w' : World} {C n : Nat} {v : Value} {L : List Ct} (h : AllAt w C v n L) (hb : Below w.heap.size w w') : AllAt w' C v n L := ⟨cell_up hb h.var, h.sl.up hb⟩
/-- Both plans behind the last two calls. -/
structure CpW (w W : World) (B B2 C T6 T10 T12 : Nat) (v3 v4 vv s6 s10 s12 : Value) (L L1 L2 : List Ct) (x0 x1 : Ac) : Prop where
  own : OwI w W x0 x1
  p1 : PlanAt W B v3 L1
  p2 : PlanAt W B2 v4 L2
  all : AllAt W C vv L.length L
  r6 : RowAt W T6 #[s6] 47
  r10 : RowAt W T10 #[s10] 47
  r12 : RowAt W T12 #[s12] 47
  l6 : Sl W 5 s6 L.length (L.flatMap ctC)
  l10 : Sl W 5 s10 L1.length (L1.flatMap ctC)
  l12 : Sl W 5 s12 L2.length (L2.flatMap ctC)
theorem CpW.up {w W W' : World} {B B2 C T6 T10 T12 : Nat} {v3 v4 vv s6 s10 s12 : Value} {L L1 L2 : List Ct} {x0 x1 : Ac} (h : CpW w W B B2 C T6 T10 T12 v3 v4 vv s6 s10 s12 L L1 L2 x0 x1) (hb : Below W.heap.size W W') : CpW w W' B B2 C T6 T10 T12 v3 v4 vv s6 s10 s12 L L1 L2 x0 x1 :=
  ⟨h.own.up hb, h.p1.below hb, h.p2.below hb, h.all.up hb, h.r6.below hb, h.r10.below hb, h.r12.below hb, h.l6.up hb, h.l10.up hb, h.l12.up hb⟩

set_option maxHeartbeats 8000000 in
set_option maxRecDepth 100000 in
theorem contactCopies_c (l : List Ac) (x0 x1 : Ac) (v : Value) (n : Nat) (w : World) (hv : Sl w 8 v n (l.flatMap acC)) (hn : n ≤ 30) (hwf : ∀ a ∈ l, a.c.Wf) (hx0 : x0.c.Wf) (hx1 : x1.c.Wf) :
    Calls Try.prog 7 #[v, .agg (twC x0 x1).toArray] w (Ret (.bool true) w) := by
  have Hln := Lib.hid (Sl.recs (cells := acC) (sz := 8) (fun _ => rfl) (by decide) hv)
  obtain ⟨a, c, rfl⟩ := hv.len
  have hle : ¬ (30 : Int) < (n : Int) := by omega
  have HWF := Lib.hid hwf
  clear hwf
  have O0 : OwI w ((w.alloc (.cells (twC x0 x1).toArray 54)).alloc (.cells #[.bool false] 4)) x0 x1 := by
    have h2 := RowAt.new (w.alloc (.cells (twC x0 x1).toArray 54)) #[.bool false] 4
    rw [World.size_alloc] at h2
    exact ⟨(below_alloc w _).alloc (by simp) _, (RowAt.new w _ _).below (below_alloc _ _), h2⟩
  refine (callsIn_wide (n := 3)).1 ?_
  refine callsIn_of_wp_marks Try.func7 rfl trivial ?_ rfl
  simp only [Try.ntmps7, List.size_toArray, List.length_cons, List.length_nil, Nat.reduceAdd, Nat.reduceSub, Array.replicate_succ, Array.replicate_zero, List.push_toArray, List.append_toArray, List.nil_append, List.cons_append]
  have he : ∀ (f : FuncId) (caps : Array Value) (w : World), (binOp BinOp.eql 56 (.func (.func f) #[] caps) .nilFunc).run Try.prog w = .ok (.bool false) w := fun _ _ _ => by kernel_rfl
  refine wpIn_wide.2 ?_
  go_wp2_with (go_at_call 12; refine (pNew_c _).mono ?_; rintro en w1 ⟨rfl, hP1, hb1⟩)
  have I0 : PlI w (w1.alloc (.cells #[.slice none 0 0] 47)) (w.heap.size + 1 + 1) w1.heap.size (.slice none 0 0) (.slice none 0 0) [] :=
    ⟨below_up (below_up O0.below hb1) (below_alloc _ _), by have := hP1.below (below_alloc w1 (.cells #[.slice none 0 0] 47)); simpa using this, RowAt.new _ _ _, Sl.nil _ _, PInv.nil, by simp, by omega, (below_up O0.below hb1).size, by have := hP1.var.lt; simp at this; omega⟩
  have O1 := (O0.up hb1).up (below_alloc w1 (.cells #[.slice none 0 0] 47))
  have hw1l : w.heap.size + 1 + 1 < w1.heap.size := by have := hP1.var.lt; simpa using this
  clear hP1 hb1 O0
  go_loopw [7] (fun i wr => ∃ (k : Nat) (vv u : Value) (L : List Ct), k ≤ n ∧ i = .int .i64 k ∧ PlI w wr (w.heap.size + 1 + 1) w1.heap.size vv u L ∧ OwI w wr x0 x1) (fun i _ => n - (intOf i).toNat)
  case atStart => exact ⟨0, _, _, _, Nat.zero_le _, rfl, I0, O1⟩
  case round =>
    clear I0 O1
    obtain ⟨k, vv, u, L, hk, rfl, I, OI⟩ := hrel
    obtain ⟨au, cu, rfl⟩ := I.want.len
    have hTl := I.p.lt
    have hBl := I.plan.var.lt
    have hlw := I.lowT
    have hne := I.ne
    by_cases hlt : k < n
    · have hltI : (k : Int) < (n : Int) := by omega
      have hlt' : k < l.length := by rw [Hln.out]; exact hlt
      obtain ⟨b, off, rfl, hr0⟩ := hv.rec_at (cells := acC) (sz := 8) (fun _ => rfl) hlt hlt'
      have hr := rangeAt_up I.below hr0
      have hb0 : b < w.heap.size := World.block_lt_of_cell? w ⟨b, off + k * 8 + 0, none⟩ (hr0 0 _ rfl)
      have hw1 := HWF.out l[k] (List.getElem_mem hlt')
      generalize l[k] = x at *
      go_wp2
      refine wp_onlyN (wp_region_pt (fun i => i = w.heap.size + 1 + 1 ∨ i = w1.heap.size) (.q 0 (.q 2 (.q 3 (.q 4 (.q 5 (.c 1 (.c 6 (.q 7 (.q 8 (.q 9 (.c 10 .done))))))))))) (by kernel_rfl) (by kernel_rfl) (by kernel_rfl) (by decide) onlyN_panic (fun Wd hBd => ?_))
      try simp only [Act.put, List.getElem_toArray, List.getElem_cons_zero, List.getElem_cons_succ, List.setIfInBounds_toArray, List.set_cons_zero, List.set_cons_succ]
      have I2 := I.up hBd
      have OI2 := OI.up hBd
      have hz2 := hBd.size
      have hr2 := rangeAt_up hBd hr
      have cu5 : Wd.cell? ⟨w1.heap.size, 0, none⟩ = some (.slice au L.length cu) := I2.p.cell (i := 0) rfl
      refine pt_q (v := ?_) rfl (by rfl) ?_ ?_
      rotate_left
      · intro w' hBw'
        first | (go_simp; done) | (go_simp; with_reducible rfl)
      try simp only [Act.put, List.getElem_toArray, List.getElem_cons_zero, List.getElem_cons_succ, List.setIfInBounds_toArray, List.set_cons_zero, List.set_cons_succ]
      refine pt_q (v := ?_) rfl (by rfl) ?_ ?_
      rotate_left
      · intro w' hBw'
        first | (go_simp; done) | (go_simp; with_reducible rfl)
      try simp only [Act.put, List.getElem_toArray, List.getElem_cons_zero, List.getElem_cons_succ, List.setIfInBounds_toArray, List.set_cons_zero, List.set_cons_succ]
      refine pt_q (v := ?_) rfl (by rfl) ?_ ?_
      rotate_left
      · intro w' hBw'
        first | (go_simp; done) | (go_simp; with_reducible rfl)
      try simp only [Act.put, List.getElem_toArray, List.getElem_cons_zero, List.getElem_cons_succ, List.setIfInBounds_toArray, List.set_cons_zero, List.set_cons_succ]
      refine pt_q (v := ?_) rfl (by rfl) ?_ ?_
      rotate_left
      · intro w' hBw'
        first | (go_simp; done) | (go_simp; with_reducible rfl)
      try simp only [Act.put, List.getElem_toArray, List.getElem_cons_zero, List.getElem_cons_succ, List.setIfInBounds_toArray, List.set_cons_zero, List.set_cons_succ]
      refine pt_load rfl (by rfl) 51 (.tmp 34) rfl b (off + k * 8) rfl (acC x) _ hr2 (by omega) Try.underlying51 rfl (by kernel_rfl) ?_
      try simp only [Act.put, List.getElem_toArray, List.getElem_cons_zero, List.getElem_cons_succ, List.setIfInBounds_toArray, List.set_cons_zero, List.set_cons_succ]
      refine pt_c ?_
      refine pt_step rfl (by rfl) (fun K hK => ?_)
      go_simp
      refine hK.out _ _ (But.refl _ _) ?_
      clear hK K
      try simp only [Act.put, List.getElem_toArray, List.getElem_cons_zero, List.getElem_cons_succ, List.setIfInBounds_toArray, List.set_cons_zero, List.set_cons_succ]
      refine pt_c ?_
      refine pt_step rfl (by rfl) (fun K hK => ?_)
      go_simp
      refine (act_c x hw1 _ I2.plan I2.want I2.inv (Nat.le_trans I2.len (by decide))).mono ?_
      rintro en w6 ⟨v', u', rfl, hp6, hs6, hb6⟩
      refine hK.out _ _ (hb6.mono fun _ _ e => .inl e) ?_
      clear hK K
      try simp only [Act.put, List.getElem_toArray, List.getElem_cons_zero, List.getElem_cons_succ, List.setIfInBounds_toArray, List.set_cons_zero, List.set_cons_succ]
      obtain ⟨a6, c6, rfl⟩ := hs6.len
      have hR6 := I2.p.but hb6 (by omega)
      refine pt_q (v := ?_) rfl (by rfl) ?_ ?_
      rotate_left
      · intro w' hBw'
        first | (go_simp; done) | (go_simp; with_reducible rfl)
      try simp only [Act.put, List.getElem_toArray, List.getElem_cons_zero, List.getElem_cons_succ, List.setIfInBounds_toArray, List.set_cons_zero, List.set_cons_succ]
      refine pt_q (v := ?_) rfl (by rfl) ?_ ?_
      rotate_left
      · intro w' hBw'
        first | (go_simp; done) | (go_simp; with_reducible rfl)
      try simp only [Act.put, List.getElem_toArray, List.getElem_cons_zero, List.getElem_cons_succ, List.setIfInBounds_toArray, List.set_cons_zero, List.set_cons_succ]
      refine pt_q (v := ?_) rfl (by rfl) ?_ ?_
      rotate_left
      · intro w' hBw'
        first | (go_simp; done) | (go_simp; with_reducible rfl)
      try simp only [Act.put, List.getElem_toArray, List.getElem_cons_zero, List.getElem_cons_succ, List.setIfInBounds_toArray, List.set_cons_zero, List.set_cons_succ]
      refine pt_c ?_
      refine pt_put_row rfl (by rfl) 47 _ _ rfl w1.heap.size [.slice a6 (stepA L x).length c6] rfl rfl hR6 rfl (by kernel_rfl) rfl (.inr rfl) (fun wA hRA hbA => ?_)
      try simp only [Act.put, List.getElem_toArray, List.getElem_cons_zero, List.getElem_cons_succ, List.setIfInBounds_toArray, List.set_cons_zero, List.set_cons_succ]
      refine pt_doneN ?_
      have J := PlI.next I2 hb6 hp6 hs6 (I.inv.step x) (stepA_len x I.len) hbA hRA
      have OJ := (OI2.but hb6 (fun j e => by omega)).but hbA (fun j e => by omega)
      go_wp2
      go_roundw
      case rel => exact ⟨k + 1, _, _, _, by omega, by go_num, J, OJ⟩
      case measure => simp [intOf]; omega
    · obtain rfl : k = n := by omega
      have hTR := Lib.hid True.intro
      have c6 := I.p.cell (i := 0) (v := .slice au L.length cu) rfl
      have hL := Nat.le_trans I.len (show 256 ≤ 100000 by decide)
      go_wp2_with (first
        | (go_at_call 22; refine (pCopy_c _ I.plan hL).mono ?_; rintro en w2 ⟨B2, v2, rfl, hP2, hB2, _, hb2⟩; have I2 := I.up hb2; have OI2 := OI.up hb2)
        | (go_at_call 23; refine (pAll_c _ I2.plan).mono ?_; rintro en w3 ⟨rfl, rfl⟩; have hb3 := below_alloc w2 (.cells #[vv] 65); have I3 := I2.up hb3; have OI3 := OI2.up hb3; have P3 := hP2.below hb3; have A3 : AllAt (w2.alloc (.cells #[vv] 65)) w2.heap.size vv L.length L := ⟨cell_new _ _ _, I2.plan.sl.up hb3⟩; have c3 := I3.p.cell (i := 0) (v := .slice au L.length cu) rfl)
        | (refine wpList_load_mid rfl 51 (.tmp 46) rfl w.heap.size 0 rfl (acC x0) _ (rangeAt_sub OI3.two.range 0 0 rfl (twC_0 x0 x1)) Try.underlying51 rfl (by kernel_rfl) ?_)
        | (go_at_call 19; have Tz := hTR; clear Tz hTR; refine (act_c x0 hx0 _ I3.plan I3.want I3.inv hL).mono ?_; rintro en w6 ⟨v3, u3, rfl, hp6, hs6, hb6⟩; obtain ⟨a3, cc3, rfl⟩ := hs6.len; have hz6 := hb6.size; simp only [World.size_alloc] at hz6; have c63 := ((I3.p.but hb6 (by omega)).below (below_alloc w6 (.cells #[.slice a3 (stepA L x0).length cc3] 47))).cell (i := 0) (v := .slice au L.length cu) rfl; have OI6 := (OI3.but hb6 (fun j e => by omega)).up (below_alloc w6 (.cells #[.slice a3 (stepA L x0).length cc3] 47)); have P6 := (P3.past I3.plan.var (by simp) hb6 (by omega)).below (below_alloc w6 (.cells #[.slice a3 (stepA L x0).length cc3] 47)); have W6 := (I3.want.past I3.plan.var (by simp) hb6).up (below_alloc w6 (.cells #[.slice a3 (stepA L x0).length cc3] 47)))
        | (refine wpList_load_mid rfl 51 (.tmp 54) rfl w.heap.size 8 rfl (acC x1) _ (rangeAt_sub OI6.two.range 8 8 rfl (twC_1 x0 x1)) Try.underlying51 rfl (by kernel_rfl) ?_)
        | (go_at_call 19; refine (act_c x1 hx1 _ P6 W6 I3.inv hL).mono ?_; rintro en w8 ⟨v4, u4, rfl, hp8, hs8, hb8⟩; obtain ⟨a4, cc4, rfl⟩ := hs8.len))
      have hBB2 : ¬ w.heap.size + 1 + 1 = B2 := by omega
      have hT62 : ¬ w1.heap.size = B2 := by omega
      have hz2 := hb2.size
      have hB2l := hP2.var.lt
      have hz8 := hb8.size
      simp only [World.size_alloc] at hz8
      have VV : CpW w (w8.alloc (.cells #[.slice a4 (stepA L x1).length cc4] 47)) (w.heap.size + 1 + 1) B2 w2.heap.size w1.heap.size w6.heap.size w8.heap.size v3 v4 vv (.slice au L.length cu) (.slice a3 (stepA L x0).length cc3) (.slice a4 (stepA L x1).length cc4) L (stepA L x0) (stepA L x1) x0 x1 := by
        have hb12 := below_alloc w8 (.cells #[.slice a4 (stepA L x1).length cc4] 47)
        have hb10 := below_alloc w6 (.cells #[.slice a3 (stepA L x0).length cc3] 47)
        have r10 := RowAt.new w6 #[.slice a3 (stepA L x0).length cc3] 47
        refine ⟨(OI6.but hb8 (fun j e => by omega)).up hb12, ((hp6.below hb10).past P6.var (by simp) hb8 hBB2).below hb12, hp8.below hb12, ?_, (((I3.p.but hb6 (by omega)).below hb10).but hb8 hT62).below hb12, (r10.but hb8 (by omega)).below hb12, RowAt.new _ _ _, (W6.past P6.var (by simp) hb8).up hb12, ((hs6.up hb10).past P6.var (by simp) hb8).up hb12, hs8.up hb12⟩
        exact ((((A3.past I3.plan.var (by simp) hb6 (by omega)).up hb10).past P6.var (by simp) hb8 (by omega)).up hb12)
      have hzr : (w8.alloc (.cells #[.slice a4 (stepA L x1).length cc4] 47)).heap.size = w8.heap.size + 1 := by simp
      obtain ⟨wr2, hwr2⟩ : ∃ W, w8.alloc (.cells #[.slice a4 (stepA L x1).length cc4] 47) = W := ⟨_, rfl⟩
      rw [hwr2] at VV hzr ⊢
      have hL1 := stepA_len x0 I.len
      have hL2 := stepA_len x1 I.len
      clear hwr2 hp8 hs8 hb8 hp6 hs6 hb6 OI6 P6 W6 I3 OI3 P3 A3 I2 OI2 hP2 c6 c3 c63 hb2 hb3
      have HV := Lib.hid VV
      have hCl := World.block_lt_of_cell? wr2 _ VV.all.var
      have hbl := VV.all.sl.blk (by decide)
      have hA2 := VV.all.but (O := fun _ => False) (But.of_below (below_alloc wr2 (.cells #[.int .i64 0] 3))) (fun h => h) (.inr fun _ _ h => h)
      have hw8l : w.heap.size + 1 < w8.heap.size := by omega
      clear VV
      refine wpIn_wide.1 (wp_range (n := 3) (S := fun q => q = w2.heap.size ∨ (0 < L.length ∧ vv.ownBlock = some q)) (gf := 55) (lb := #[.pointer (some ⟨w2.heap.size, 0, none⟩)]) rfl enters_all1
        (all1_x L _ L.length vv _ _ hA2 ⟨.inl rfl, (Nat.eq_zero_or_pos L.length).elim .inl fun h => .inr fun k hk => .inr ⟨h, hk⟩⟩) (Below.refl _ _) (fun _ => rfl)
        (fun q => q = wr2.heap.size) (fun k h => by simp only [World.size_alloc]; omega) ?hS
        (fun q G W3 => CtR wr2 q G W3)
        (fun q a' G W3 => (∃ VB, a' = { tmps := #[.slice a k c, .agg (twC x0 x1).toArray, undef, .pointer (some ⟨w.heap.size, 0, none⟩), .pointer (some ⟨w.heap.size + 1, 0, none⟩), .pointer (some ⟨w.heap.size + 1 + 1, 0, none⟩), .pointer (some ⟨w1.heap.size, 0, none⟩), .int .i64 k, .pointer (some ⟨B2, 0, none⟩), .func (.func 55) #[] #[.pointer (some ⟨w2.heap.size, 0, none⟩)], .pointer (some ⟨w6.heap.size, 0, none⟩), .bool true, .pointer (some ⟨w8.heap.size, 0, none⟩), .bool true, .pointer (some ⟨w8.heap.size + 1, 0, none⟩), undef, .pointer (some ⟨VB, 0, none⟩), undef, .slice a k c, .int .i64 k, .bool false, undef, .pointer (some ⟨w.heap.size + 1 + 1, 0, none⟩), .int .i64 k, .slice a k c, .int .i64 k, .bool false, u27, u28, u29, u30, u31, u32, u33, u34, u35, u36, u37, u38, .pointer (some ⟨w.heap.size + 1 + 1, 0, none⟩), .pointer (some ⟨B2, 0, none⟩), .pointer (some ⟨w.heap.size + 1 + 1, 0, none⟩), .func (.func 55) #[] #[.pointer (some ⟨w2.heap.size, 0, none⟩)], .tuple #[.agg #[.slice a3 (stepA L x0).length cc3], .bool true], .pointer (some ⟨w.heap.size + 1 + 1, 0, none⟩), .agg #[.slice au L.length cu], .pointer (some ⟨w.heap.size, 0, none⟩), .agg (acC x0).toArray, .tuple #[.agg #[.slice a3 (stepA L x0).length cc3], .bool true], .agg #[.slice a3 (stepA L x0).length cc3], .bool true, .tuple #[.agg #[.slice a4 (stepA L x1).length cc4], .bool true], .pointer (some ⟨B2, 0, none⟩), .agg #[.slice au L.length cu], .pointer (some ⟨w.heap.size, 8, none⟩), .agg (acC x1).toArray, .tuple #[.agg #[.slice a4 (stepA L x1).length cc4], .bool true], .agg #[.slice a4 (stepA L x1).length cc4], .bool true, .func (.func 55) #[] #[.pointer (some ⟨w2.heap.size, 0, none⟩)], .bool false, .func (.func 55) #[] #[.pointer (some ⟨w2.heap.size, 0, none⟩)], .int .i64 q, ctV (ctAt L q), undef, undef, undef, undef, undef, undef, undef, undef, undef, undef, undef, undef, undef, undef, undef, undef, undef, undef, undef, undef, undef, undef, undef, undef, undef, undef, undef, undef, undef, undef, undef, undef, undef, undef, undef, undef, undef, undef, undef, undef, undef, undef, undef, undef, undef, undef, undef, undef, undef, undef, undef, undef, undef, undef, undef, undef, undef, undef, undef, undef, undef, undef, undef, undef, undef, undef], defers := [] } ∧ RowAt W3 VB (ctC (ctAt L q)).toArray 27 ∧ G VB) ∧ CtR wr2 q G W3)
        (fun c q G W3 => False)
        ?abI ?abM ?abX (CtR.start wr2) ?assign ?body ?done (fun D c q G W hD hGD hq h => h.elim))
      case hS =>
        rintro q (rfl | ⟨hp, hq⟩)
        · exact ⟨by simp only [World.size_alloc]; omega, by omega⟩
        · rcases hbl with h | h
          · omega
          · have := h q hq; exact ⟨by simp only [World.size_alloc]; omega, by omega⟩
      case abI => exact fun q G A B h hb => CtR.abide (by simp only [World.size_alloc]; omega) G A B h hb
      case abM =>
        rintro q a' G A B ⟨⟨VB, ha, hV, hG⟩, h⟩ hb
        exact ⟨⟨VB, ha, (hb.same VB hV.lt (fun e => e.2 hG)).trans hV, hG⟩, CtR.abide (by simp only [World.size_alloc]; omega) G A B h hb⟩
      case abX => exact fun c q G A B h hb => h.elim
      case assign =>
        intro l2 q G W3 K3 hq hi hK3
        simp only [allArgs]
        gi_wp2
        refine hK3 _ _ (But.alloc _ _) ⟨⟨_, rfl, RowAt.new _ _ _, .inr ⟨Nat.le_refl _, by simp⟩⟩, ?_⟩
        exact CtR.alloc hi _
      case body =>
        rintro l2 q a' G W3 hq hl2 _ hGl ⟨⟨VB, rfl, hVB0, hGV⟩, hR⟩
        have V3 := HV.out.up hR.below
        obtain ⟨b, off, rfl, hr⟩ := V3.l6.rec_at (cells := ctC) (sz := 5) (fun _ => rfl) hq hq
        have hstep := hR.step
        rw [hzr] at hstep
        have Hstep := Lib.hid hstep
        simp only [ctAt_get hq] at hVB0 ⊢
        have hle2 : ¬ L.length ≤ q := by omega
        have hk2 : (q : Int) ≤ 100000 := by omega
        have hkl : (q : Int) < (L.length : Int) := by omega
        generalize L[q] = e at *
        have hVB : RowAt W3.drew VB (ctC e).toArray 27 := hVB0
        have hr3 : W3.drew.rangeAt b (off + q * 5) (ctC e) := hr
        have p3 : W3.cell? ⟨w1.heap.size, 0, none⟩ = some (.slice (some ⟨b, off, none⟩) L.length cu) := V3.r6.cell (i := 0) rfl
        have a1 : W3.cell? ⟨w8.heap.size + 1, 0, none⟩ = some (.int .i64 q) := hzr ▸ hR.cnt.cell (i := 0) rfl
        have f1 : W3.frozen? ⟨w8.heap.size + 1, 0, none⟩ = false := hzr ▸ hR.cnt.fz 0
        clear hR V3 hr hVB0 hstep hzr
        gi_wp2
        refine wpIn_round_tail 13 mixes (by kernel_rfl) (by kernel_rfl) ?_
        simp only [List.take_succ_cons, List.take_zero, List.drop_succ_cons, List.drop_zero]
        still_step
        still_step
        still_step
        still_step
        still_step
        still_step
        still_step
        still_step
        still_step
        still_step
        refine still_load rfl 27 (.tmp 73) rfl b (off + q * 5) rfl (ctC e) _ hr3 Try.underlying27 rfl (by kernel_rfl) ?_
        try simp only [Act.put, List.getElem_toArray, List.getElem_cons_zero, List.getElem_cons_succ, List.setIfInBounds_toArray, List.set_cons_zero, List.set_cons_succ]
        refine still_load rfl 27 (.tmp 16) rfl VB 0 rfl (ctC e) _ hVB.range Try.underlying27 rfl (by kernel_rfl) ?_
        try simp only [Act.put, List.getElem_toArray, List.getElem_cons_zero, List.getElem_cons_succ, List.setIfInBounds_toArray, List.set_cons_zero, List.set_cons_succ]
        refine still_val rfl (exec_ctneq (e := e) rfl rfl rfl _) ?_
        try simp only [Act.put, List.getElem_toArray, List.getElem_cons_zero, List.getElem_cons_succ, List.setIfInBounds_toArray, List.set_cons_zero, List.set_cons_succ]
        refine wpStill_nil ?_
        gi_wp2
        exact ⟨Hstep.out.1, Hstep.out.2⟩
      case done =>
        rintro D G W3 hD hGD hR hKD
        have V3 := HV.out.up hR.below
        have cnt3 : RowAt W3 (w8.heap.size + 1) #[.int .i64 (L.length : Nat)] 3 := hzr ▸ hR.cnt
        have hDl : w.heap.size ≤ D := by simp only [World.size_alloc] at hD; omega
        obtain ⟨Sb, hSb⟩ : ∃ b, decide (stepA L x0 = stepA L x1) = b := ⟨_, rfl⟩
        have hrs := fun wz h1 h2 => rSame_c (stepA L x0) (stepA L x1) (.slice a3 (stepA L x0).length cc3) (.slice a4 (stepA L x1).length cc4) (stepA L x0).length (stepA L x1).length wz h1 h2
        have hp1 := fun wz h1 h2 => pSame_c (B1 := w.heap.size + 1 + 1) (B2 := B2) (v1 := v3) (v2 := v4) (L1 := stepA L x0) (L2 := stepA L x1) wz h1 h2
        have hp2 := fun wz h1 h2 => pSame_c (B1 := B2) (B2 := w.heap.size + 1 + 1) (v1 := v4) (v2 := v3) (L1 := stepA L x1) (L2 := stepA L x0) wz h1 h2
        rw [show decide (stepA L x1 = stepA L x0) = Sb by rw [← hSb]; exact decide_eq_decide.2 eq_comm] at hp2
        rw [hSb] at hrs hp1
        have HRS := Lib.hid hrs
        have HP1 := Lib.hid hp1
        have HP2 := Lib.hid hp2
        have c10 := V3.r10.cell (i := 0) (v := .slice a3 (stepA L x0).length cc3) rfl
        have c12 := V3.r12.cell (i := 0) (v := .slice a4 (stepA L x1).length cc4) rfl
        have t1 := Lib.hid True.intro
        have s1 := Lib.hid True.intro
        have s2 := Lib.hid True.intro
        clear hSb hrs hp1 hp2 hR hzr
        go_wp2_with (first
          | (go_at_call 24; refine (HRS.out _ V3.l10 V3.l12).mono ?_; rintro en w10 ⟨rfl, hb10⟩; have V10 := V3.up hb10; have cn := (cnt3.below hb10).cell (i := 0) (v := .int .i64 (L.length : Nat)) rfl; have cl := V10.r6.cell (i := 0) (v := .slice au L.length cu) rfl; have cx := V10.r10.cell (i := 0) (v := .slice a3 (stepA L x0).length cc3) rfl)
          | (refine wpList_loadG rfl 51 (.tmp 97) rfl w.heap.size 0 rfl (acC x0) _ (rangeAt_sub V10.own.two.range 0 0 rfl (twC_0 x0 x1)) Try.underlying51 rfl (by kernel_rfl) ?_)
          | (go_at_call 20; have Tz := t1; clear Tz t1; refine (is_c 1 x0 _ V10.p1 V10.l10 (Nat.le_trans hL1 (by decide))).mono ?_; rintro en w11 ⟨rfl, hb11⟩; have V11 := V10.up hb11; have cy := V11.r12.cell (i := 0) (v := .slice a4 (stepA L x1).length cc4) rfl)
          | (refine wpList_loadG rfl 51 (.tmp 104) rfl w.heap.size 8 rfl (acC x1) _ (rangeAt_sub V11.own.two.range 8 8 rfl (twC_1 x0 x1)) Try.underlying51 rfl (by kernel_rfl) ?_)
          | (go_at_call 20; refine (is_c 2 x1 _ V11.p2 V11.l12 (Nat.le_trans hL2 (by decide))).mono ?_; rintro en w12 ⟨rfl, hb12⟩; have V12 := V11.up hb12)
          | (go_at_call 16; have Tz := s1; clear Tz s1; refine (HP1.out _ V12.p1 V12.p2).mono ?_; rintro en w13 ⟨rfl, hb13⟩; have V13 := V12.up hb13)
          | (go_at_call 16; have Tz := s2; clear Tz s2; refine (HP2.out _ V13.p2 V13.p1).mono ?_; rintro en w14 ⟨rfl, hb14⟩; have V14 := V13.up hb14)
          | (go_at_call 16; refine (nSame_c _ V14.p1).mono ?_; rintro en w15 ⟨rfl, rfl⟩)
          | (go_at_call 11; refine (cWorks_c _).mono ?_; rintro en w16 ⟨rfl, hb16⟩; have V16 := V14.up hb16; have rc := V16.own.res.cell (i := 0) (v := .bool false) rfl; have rf := V16.own.res.fz 0))
        have hx4 := V16.own.res.set 0 (.bool true)
        have hbE : Below W3.heap.size W3 w16 := below_up (below_up (below_up (below_up (below_up hb10 hb11) hb12) hb13) hb14) hb16
        have hm : w16.heap[D]? = some (.deferred (some [])) := (hbE.block D (Array.getElem?_eq_some_iff.1 hKD).1).trans hKD
        have hne : D ≠ w.heap.size + 1 := fun e => by have h1 := V16.own.res; rw [← e] at h1; unfold RowAt at h1; rw [hm] at h1; cases h1
        refine leaves_marks [D] _ (by simp) (fun D2 hD2 => ?_) (fun w9 hb9 => ?_)
        · obtain rfl : D2 = D := by simpa using hD2
          exact (Below.heap_setCell w16 ⟨w.heap.size + 1, 0, none⟩ (.bool true) D2 (by simpa using hne)).trans hm
        · have hne2 : w.heap.size + 1 ∉ [D] := fun h => hne (List.mem_singleton.1 h).symm
          have hx5 : RowAt w9 (w.heap.size + 1) #[.bool true] 4 := (hb9.same _ hx4.lt hne2).trans hx4
          have hx5c := hx5.cell (i := 0) (v := .bool true) rfl
          refine ⟨.bool true, by simp [results, Try.results7, go_sem, hx5c], rfl, ?_⟩
          have hB3 := V16.own.below.setCell (show w.heap.size ≤ (⟨w.heap.size + 1, 0, none⟩ : Addr).block by simp) (.bool true)
          exact hB3.trans (hb9.below (fun D2 hD2 => (List.mem_singleton.1 hD2).symm ▸ hDl) hB3.size)

theorem contactCopies_big (v : Value) (n : Nat) (x0 x1 : Ac) (w : World) (cs : List Value) (hv : Sl w 8 v n cs) (hn : 30 < n) : Calls Try.prog 7 #[v, .agg (twC x0 x1).toArray] w (Ret (.bool true) w) := by
  obtain ⟨a, c, rfl⟩ := hv.len
  have hle : (30 : Int) < (n : Int) := by omega
  have O0 : OwI w ((w.alloc (.cells (twC x0 x1).toArray 54)).alloc (.cells #[.bool false] 4)) x0 x1 := by
    have h2 := RowAt.new (w.alloc (.cells (twC x0 x1).toArray 54)) #[.bool false] 4
    rw [World.size_alloc] at h2
    exact ⟨(below_alloc w _).alloc (by simp) _, (RowAt.new w _ _).below (below_alloc _ _), h2⟩
  go_enter Try.func7, Try.ntmps7
  go_wp2_with (go_at_call 11; refine (cWorks_c _).mono ?_; rintro en wx ⟨rfl, hbx⟩; have O1 := O0.up hbx; have rc := O1.res.cell (i := 0) (v := .bool false) rfl; have rf := O1.res.fz 0)
  have hx4 := O1.res.set 0 (.bool true)
  have hx5c := hx4.cell (i := 0) (v := .bool true) rfl
  exact bodyPost_ret (v := .bool true) (by simp [results, Try.results7, go_sem, hx5c]) rfl ⟨rfl, O1.below.setCell (show w.heap.size ≤ (⟨w.heap.size + 1, 0, none⟩ : Addr).block by simp) (.bool true)⟩

theorem ct_wf {c0 c1 c2 c3 c4 : Int} (w0 : (Lit.int .u32 c0).wf = true) (w1 : (Lit.int .u32 c1).wf = true) (w2 : (Lit.int .u64 c2).wf = true) (w3 : (Lit.int .u64 c3).wf = true) (w4 : (Lit.int .u64 c4).wf = true) : (Ct.mk c0 c1 c2 c3 c4).Wf := by
  simp [Lit.wf, IntKind.min, IntKind.max, IntKind.signed, IntKind.bits] at w0 w1 w2 w3 w4
  exact ⟨by show 0 ≤ c0; omega, by show c0 ≤ _; omega, by show 0 ≤ c1; omega, by show c1 ≤ _; omega, by show 0 ≤ c2; omega, by show 0 ≤ c3; omega, by show 0 ≤ c4; omega⟩
theorem contactCopies_law {H : Type} {enc : TypeId × Value → H} {w : World} {base : Nat} {spare : Nat → Bool} {held : Bool} {v : Value} {n : Nat} {vs : List Value} (x0 x1 : Ac) (h0 : x0.c.Wf) (h1 : x1.c.Wf) (hs : Sl w 8 v n vs)
    (hl : ∀ i, i < n → ∀ (j : Nat) (U : TypeId), acTs[j]? = some U → ∃ c, vs[i * 8 + j]? = some c ∧ Leaf enc Try.prog w base spare held U c) : Calls Try.prog 7 #[v, .agg (twC x0 x1).toArray] w (Ret (.bool true) w) := by
  by_cases hn : 30 < n
  · exact contactCopies_big v n x0 x1 w vs hs hn
  · obtain ⟨l, rfl, hwf⟩ := acs_of hs hl
    exact contactCopies_c l x0 x1 v n w hs (by omega) hwf h0 h1
end Go.Proofs.Ytgbpdchdcbnoaaa
