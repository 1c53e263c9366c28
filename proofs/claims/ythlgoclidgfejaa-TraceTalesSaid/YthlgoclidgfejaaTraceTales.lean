/-
  TraceTales: the walk.
-/
import Derived.Test.YthlgoclidgfejaaTraceP
import Derived.Test.YthlgoclidgfejaaTRf
import Derived.Test.YthlgoclidgfejaaTKs
import Derived.Test.YthlgoclidgfejaaBrk
import Derived.Test.YthlgoclidgfejaaTurn
import Derived.Test.YthlgoclidgfejaaEq7
import Derived.Laws.StructEq
namespace Go.Proofs.Ythlgoclidgfejaa
open Go.RowKit Go.Maps Srt Trc
set_option linter.unusedSimpArgs false
set_option linter.unusedVariables false
attribute [local go_sem] Oper.semAt_some

theorem nms_len (l : List Ev) : (nmsOf l).length ≤ l.length := by
  refine snoc_ind (p := fun l => (nmsOf l).length ≤ l.length) (Nat.le_refl 0) (fun l x ih => ?_) l
  rw [nmsOf_snoc, nmsStep]
  split
  · simp; omega
  · simp; omega
theorem sorted_ex {α : Type} {lt : α → α → Bool} (h : TO lt) (L : List α) : ∃ W, W.Perm L ∧ Sorted lt W := by
  refine ⟨L.mergeSort (fun a b => !lt b a), List.mergeSort_perm _ _, ?_⟩
  have := List.pairwise_mergeSort (le := fun a b => !lt b a) (fun a b c h1 h2 => by
    simp only [Bool.not_eq_true'] at *
    exact h.trans _ _ _ h1 h2) (fun a b => by
    cases hb : lt b a with
    | false => rfl
    | true => have := h.asym _ _ hb; simp [this]) L
  exact this.imp (fun h => by simpa using h)
theorem pos_sorted {W : List WN} {l : List Ev} (hwf : ∀ e ∈ l, e.name.wf) (hp : (W.map (·.1)).Perm (nmsOf l)) (hs : Sorted (ltc wnCmp) W) {W2 : List WN} (hp2 : W2.Perm (wns (pos (nmsOf l)) (pos_wf hwf))) (hs2 : Sorted (ltc wnCmp) W2) : pos (W.map (·.1)) = W2.map (·.1) := by
  have e1 : pos (W.map (·.1)) = (W.filter fun y => decide (0 < y.1.node)).map (·.1) := by unfold pos; rw [List.filter_map]; rfl
  have s1 : Sorted (ltc wnCmp) (W.filter fun y => decide (0 < y.1.node)) := List.Pairwise.filter _ hs
  have p1 : ((W.filter fun y => decide (0 < y.1.node)).map (·.1)).Perm (W2.map (·.1)) := by
    rw [← e1]
    have h2 := hp2.map (fun y : WN => y.1)
    rw [wns_val] at h2
    exact (hp.filter _).trans h2.symm
  rw [e1, unique wnTO s1 hs2 (wn_perm p1)]
set_option maxRecDepth 100000 in
theorem of_c (x : Nm) (l : List Ev) (v : Value) (n : Nat) (w : World) (hv : Sl w 16 v n (l.flatMap evC)) (hn : n ≤ 4096) (hwf : ∀ e ∈ l, e.name.wf) (hx : x.wf) :
    Calls Try.prog 13 #[nmV x, v] w (Ret (.tuple #[.agg (ofC x l).toArray, .int .i64 (ofE x l)]) w) := by
  by_cases hin : x ∈ nmsOf l
  · have h0 := evsOf_some hin
    rw [show ofC x l = tlOf l x from if_neg h0, show ofE x l = 0 from if_neg h0]
    exact of_in x l v n w hv hn hwf hx hin
  · have h0 := evsOf_none hin
    rw [show ofC x l = zeroTale from if_pos h0, show ofE x l = 5 from if_pos h0]
    exact of_out x l v n w hv hn hwf hx hin
theorem ofC_row (x : Nm) (l : List Ev) : ∃ nn s c g f la d, ofC x l = rowT nn s c g f la d := by
  by_cases h0 : evsOf x l = []
  · exact ⟨⟨0, 0, 0, 0⟩, 0, 0, fun _ => 0, 0, 0, 0, if_pos h0⟩
  · exact ⟨x, _, _, _, _, _, _, (if_neg h0).trans (tlC_row _ _ _)⟩
set_option maxRecDepth 100000 in
theorem eq7_9 (w : World) (a b c d e f g : Int) : (Op.equalIn 9999 30 (.agg #[.int .i64 a, .int .i64 b, .int .i64 c, .int .i64 d, .int .i64 e, .int .i64 f, .int .i64 g]) (.agg #[.int .i64 a, .int .i64 b, .int .i64 c, .int .i64 d, .int .i64 e, .int .i64 f, .int .i64 g])).run Try.prog w = .ok true w := by
  have hi : Try.prog.info? 3 = some Try.t3 := by kernel_rfl
  have hc : Try.prog.cellsOf 3 = 1 := by kernel_rfl
  have he := Try.underlying3
  rw [show (9999 : Nat) = 9998 + 1 from rfl, run_equalIn_array w _ _ _ Try.underlying30 hi, hc]
  have hs : ∀ x : Int, (Op.equalIn 9998 3 (.int .i64 x) (.int .i64 x)).run Try.prog w = .ok true w := fun x => by
    rw [show (9998 : Nat) = 9997 + 1 from rfl, run_equalIn_int w 9997 3 .i64 .i64 _ _ he]; simp
  simp [Op.eqItems, List.range, List.range.loop, part, isAgg, run_underlying he, hs]
set_option maxRecDepth 100000 in
theorem exec_tlne {ρ : Operand → Value} {o : Oper} {x y : Operand} {t : TypeId} (ho : o.op = .binOp .neq 51 x y t) {nn : Nm} {s c : Int} {g : Int → Nat} {f la d : Int} (hx : ρ x = .agg (rowT nn s c g f la d).toArray) (hy : ρ y = .agg (rowT nn s c g f la d).toArray) (w : World) :
    (execOp ρ o).run Try.prog w = .ok (.value (.bool false)) w := by
  unfold execOp
  simp only [ho, hx, hy]
  have h7 := fun (w : World) => eq7_9 w (g 0) (g 1) (g 2) (g 3) (g 4) (g 5) (g 6)
  simp [go_sem, h7]
/-- The law's own first blocks: the name, how many, the result. -/
structure OwT (w wr : World) (x : Nm) (many : Int) : Prop where
  below : Below w.heap.size w wr
  nm : RowAt wr w.heap.size (nmC x).toArray 39
  num : RowAt wr (w.heap.size + 1) #[.int .i64 many] 3
  res : RowAt wr (w.heap.size + 1 + 1) #[.bool false] 4
theorem OwT.up {w wr w2 : World} {x : Nm} {many : Int} (h : OwT w wr x many) (hb : Below wr.heap.size wr w2) : OwT w w2 x many := ⟨below_up h.below hb, h.nm.below hb, h.num.below hb, h.res.below hb⟩
theorem OwT.start (w : World) (x : Nm) (many : Int) : OwT w (((w.alloc (.cells (nmC x).toArray 39)).alloc (.cells #[.int .i64 many] 3)).alloc (.cells #[.bool false] 4)) x many := by
  have h1 := RowAt.new (w.alloc (.cells (nmC x).toArray 39)) #[.int .i64 many] 3
  rw [World.size_alloc] at h1
  have h2 := RowAt.new ((w.alloc (.cells (nmC x).toArray 39)).alloc (.cells #[.int .i64 many] 3)) #[.bool false] 4
  rw [World.size_alloc, World.size_alloc] at h2
  exact ⟨((below_alloc w _).alloc (by simp) _).alloc (by simp; omega) _, ((RowAt.new w _ _).alloc _).alloc _, h1.alloc _, h2⟩
set_option maxHeartbeats 1000000 in
set_option maxRecDepth 100000 in
theorem traceTales_big (v : Value) (n : Nat) (x : Nm) (many : Int) (w : World) (cs : List Value) (hv : Sl w 16 v n cs) (hn : 60 < n) :
    Calls Try.prog 5 #[v, nmV x, .int .i64 many] w (Ret (.bool true) w) := by
  obtain ⟨a, c, rfl⟩ := hv.len
  have hle : (60 : Int) < (n : Int) := by omega
  have O1 := OwT.start w x many
  go_enter Try.func5, Try.ntmps5
  go_wp2_with (go_at_call 6; refine (works_c _).mono ?_; rintro en wx ⟨rfl, hbx⟩; have O2 := O1.up hbx; have hx3c := O2.res.cell (i := 0) rfl; have hx3f := O2.res.fz 0)
  have hx4 := O2.res.set 0 (.bool true)
  have hx5c := RowAt.cell (i := 0) (v := .bool true) hx4 rfl
  exact bodyPost_ret (v := .bool true) (by simp [results, Try.results5, go_sem, hx5c]) rfl ⟨rfl, O2.below.setCell (show w.heap.size ≤ (⟨w.heap.size + 1 + 1, 0, none⟩ : Addr).block by simp; omega) (.bool true)⟩
/-- The k-th. -/
def nmAt (P : List Nm) (k : Nat) : Nm := P.getD k ⟨0, 0, 0, 0⟩
theorem tlArgs_at (l : List Ev) (P : List Nm) (k : Nat) : tlArgs l P k = #[.agg (tlOf l (nmAt P k)).toArray] := rfl
/-- A variable in block C holds a slice of tales. -/
structure WaAt (w : World) (C : Nat) (v : Value) (n : Nat) (l : List Ev) (P : List Nm) : Prop where
  var : w.cell? ⟨C, 0, none⟩ = some v
  sl : Sl w 16 v n (P.flatMap (tlOf l))
theorem WaAt.up {w w' : World} {C : Nat} {v : Value} {n : Nat} {l : List Ev} {P : List Nm} (h : WaAt w C v n l P) (hb : Below w.heap.size w w') : WaAt w' C v n l P := ⟨cell_up hb h.var, h.sl.up hb⟩
set_option maxHeartbeats 8000000 in
set_option maxRecDepth 100000 in
theorem traceTales_c (l : List Ev) (v : Value) (n : Nat) (x : Nm) (many : Int) (w : World) (hv : Sl w 16 v n (l.flatMap evC)) (hn : n ≤ 60) (hwf : ∀ e ∈ l, e.name.wf) (hx : x.wf) :
    Calls Try.prog 5 #[v, nmV x, .int .i64 many] w (Ret (.bool true) w) := by
  obtain ⟨a, c, rfl⟩ := hv.len
  have hle : ¬ (60 : Int) < (n : Int) := by omega
  have O1 := OwT.start w x many
  have hv1 := hv.up O1.below
  have hl := Sl.recs (cells := evC) (sz := 16) (fun _ => rfl) (by decide) hv
  obtain ⟨W, hWp, hWs⟩ := sorted_ex wnTO (wns (nmsOf l) (fun y hy => by obtain ⟨e, he, rfl⟩ := (nmsOf_mem l y).1 hy; exact hwf e he))
  replace hWp : (W.map (·.1)).Perm (nmsOf l) := by have := hWp.map (fun y : WN => y.1); rwa [wns_val] at this
  have he : ∀ (f : FuncId) (caps : Array Value) (w : World), (binOp BinOp.eql 59 (.func (.func f) #[] caps) .nilFunc).run Try.prog w = .ok (.bool false) w := fun _ _ _ => by kernel_rfl
  obtain ⟨nn, s, cc, g, f, la, d, hrow⟩ := ofC_row x l
  obtain ⟨eo, heo⟩ : ∃ eo, ofE x l = eo := ⟨_, rfl⟩
  have hof := fun w1 hs => of_c x l (.slice a n c) n w1 hs (by omega) hwf hx
  have hrof := fun w1 hs => rOf_c x l (.slice a n c) n w1 hs (by omega)
  have hrt := fun w1 hs => rTales_c l (.slice a n c) n w1 hs (by omega) hwf
  have hta := fun w1 hs => trTales_c l (.slice a n c) n w1 hs (by omega) hwf
  simp only [hrow, heo] at hof hrof
  have HOF := Lib.hid hof
  have HROF := Lib.hid hrof
  have HRT := Lib.hid hrt
  have HTA := Lib.hid hta
  have HWP := Lib.hid hWp
  have HWS := Lib.hid hWs
  have HL := Lib.hid hl
  have HX := Lib.hid hx
  clear hof hrof hrt hta hWp hWs hrow heo hl hx
  refine (callsIn_wide (n := 3)).1 ?_
  refine callsIn_of_wp_marks Try.func5 rfl trivial ?_ rfl
  simp only [Try.ntmps5, List.size_toArray, List.length_cons, List.length_nil, Nat.reduceAdd, Nat.reduceSub, Array.replicate_succ, Array.replicate_zero, List.push_toArray, List.append_toArray, List.nil_append, List.cons_append]
  refine wpIn_wide.2 ?_
  go_wp2_with (first
    | (refine wpList_load_mid rfl 39 (.tmp 4) rfl w.heap.size 0 rfl (nmC x) _ (by first | exact O1.nm.range | exact O3.nm.range) Try.underlying39 rfl (by kernel_rfl) ?_)
    | (go_at_call 13; go_loud (refine (HOF.out _ hv1).mono ?_; rintro en w1 ⟨rfl, hb1⟩; have R1 := RowAt.new w1 (rowT nn s cc g f la d).toArray 51; have O3 := (O1.up hb1).up (below_alloc w1 (.cells (rowT nn s cc g f la d).toArray 51)); have hv3 := hv.up O3.below; clear O1 hv1 hb1))
    | (go_at_call 14; go_loud (refine (HROF.out _ hv3).mono ?_; rintro en w2 ⟨rfl, hb2⟩; have R2 := RowAt.new w2 (rowT nn s cc g f la d).toArray 51; have hb3 := below_up hb2 (below_alloc w2 (.cells (rowT nn s cc g f la d).toArray 51)); have O5 := O3.up hb3; have Q1 := R1.below hb3; have hv5 := hv.up O5.below; clear O3 hv3 hb2 hb3 R1))
    | (go_at_call 15; go_loud (refine (HRT.out _ hv5).mono ?_; rintro en w3 ⟨v3, m, W2, rfl, hp2, hs2, ho3, hb3⟩; obtain ⟨aw, cw, rfl⟩ := own_slice ho3; have hbb := below_up hb3 (below_alloc w3 (.cells #[.slice aw m cw] 56)); have O6 := O5.up hbb; have Q2 := Q1.below hbb; have P2 := R2.below hbb; have want0 : WaAt (w3.alloc (.cells #[.slice aw m cw] 56)) w3.heap.size (.slice aw m cw) m l (W2.map (·.1)) := ⟨cell_new w3 _ _, (Sl.of_own ho3).up (below_alloc _ _)⟩; rw [← pos_sorted hwf HWP.out HWS.out hp2 hs2] at want0; have hv6 := hv.up O6.below; clear O5 hv5 hb3 hbb Q1 R2 hp2 hs2 ho3))
    | (go_at_call 16; go_loud (refine (HTA.out _ hv6).mono ?_; rintro en w4 ⟨X, C, M, T, rfl, hTA, hb4⟩; have O7 := O6.up hb4; have Q3 := Q2.below hb4; have P3 := P2.below hb4; have want1 := want0.up hb4; have hwx : w3.heap.size < w4.heap.size := (by have := hb4.size; simp at this; omega); clear O6 hv6 hb4 Q2 P2 want0))
    | (refine wpList_load_mid rfl 51 (.tmp 7) rfl w1.heap.size 0 rfl (rowT nn s cc g f la d) _ Q3.range Try.underlying51 rfl (by kernel_rfl) ?_)
    | (refine wpList_load_mid rfl 51 (.tmp 9) rfl w2.heap.size 0 rfl (rowT nn s cc g f la d) _ P3.range Try.underlying51 rfl (by kernel_rfl) ?_)
    | (refine wpList_valG rfl (exec_tlne (nn := nn) (s := s) (c := cc) (g := g) (f := f) (la := la) (d := d) rfl rfl rfl _) ?_)
    | (go_at_call 9; go_loud (refine (num_cs _ _).mono ?_; rintro en w9 ⟨rfl, rfl⟩)))
  obtain ⟨P, hP⟩ : ∃ P, pos (W.map (·.1)) = P := ⟨_, rfl⟩
  rw [hP] at want1
  have hPl : P.length = m := Sl.recs (cells := tlOf l) (sz := 16) (fun _ => rfl) (by decide) want1.sl
  have hm60 : m ≤ 60 := by
    have h1 : P.length ≤ (W.map (·.1)).length := by rw [← hP]; exact List.length_filter_le _ _
    have h2 := HWP.out.length_eq
    have h3 := nms_len l
    have h4 := HL.out
    omega
  have hT60 : T.length ≤ 100000 := by
    have h1 := congrArg List.length hTA.nms
    rw [List.length_map] at h1
    have h3 := nms_len l
    have h4 := HL.out
    omega
  have HSQ := Lib.hid (fun (S : Nat → Prop) (w' : World) (h : TaAt w' (w3.alloc (.cells #[.slice aw m cw] 56)).heap.size X C M l T) hSS => by
    have := tales1_x l T _ X C M W HWP.out HWS.out hwf hT60 S w' h hSS
    rw [hP] at this
    exact this)
  have HTAT := Lib.hid hTA
  have HWA := Lib.hid want1
  have HO := Lib.hid O7
  have HPL := Lib.hid hPl
  have hO4s := O7.below.size
  have hO4r := O7.res.lt
  have hlow := hTA.low
  clear hTA want1 O7 Q3 P3 hPl hP HOF HROF HRT HTA hv hT60
  refine wp_loop_ghost_k (fun q a' W' => ∃ (tn T0 : Nat) (Ds : List Nat), tn ≤ 2 ∧ q = 2 - tn ∧ a' = { tmps := #[.slice a n c, nmV x, .int .i64 many, a'.tmps.getD 3 undef, .pointer (some ⟨w.heap.size, 0, none⟩), .pointer (some ⟨w.heap.size + 1, 0, none⟩), .pointer (some ⟨w.heap.size + 1 + 1, 0, none⟩), .pointer (some ⟨w1.heap.size, 0, none⟩), .int .i64 eo, .pointer (some ⟨w2.heap.size, 0, none⟩), .int .i64 eo, .pointer (some ⟨w3.heap.size, 0, none⟩), .func (.func 29) #[] #[.pointer (some ⟨X, 0, none⟩)], .pointer (some ⟨T0, 0, none⟩), a'.tmps.getD 14 undef, a'.tmps.getD 15 undef, a'.tmps.getD 16 undef, a'.tmps.getD 17 undef, a'.tmps.getD 18 undef, a'.tmps.getD 19 undef, a'.tmps.getD 20 undef, a'.tmps.getD 21 undef, a'.tmps.getD 22 undef, a'.tmps.getD 23 undef, a'.tmps.getD 24 undef, a'.tmps.getD 25 undef, a'.tmps.getD 26 undef, a'.tmps.getD 27 undef, a'.tmps.getD 28 undef, a'.tmps.getD 29 undef, a'.tmps.getD 30 undef, a'.tmps.getD 31 undef, a'.tmps.getD 32 undef, a'.tmps.getD 33 undef, a'.tmps.getD 34 undef, a'.tmps.getD 35 undef, a'.tmps.getD 36 undef, a'.tmps.getD 37 undef, a'.tmps.getD 38 undef, a'.tmps.getD 39 undef, a'.tmps.getD 40 undef, a'.tmps.getD 41 undef, a'.tmps.getD 42 undef, a'.tmps.getD 43 undef, a'.tmps.getD 44 undef, a'.tmps.getD 45 undef, a'.tmps.getD 46 undef, a'.tmps.getD 47 undef, a'.tmps.getD 48 undef, a'.tmps.getD 49 undef, a'.tmps.getD 50 undef, a'.tmps.getD 51 undef, a'.tmps.getD 52 undef, a'.tmps.getD 53 undef, a'.tmps.getD 54 undef, a'.tmps.getD 55 undef, a'.tmps.getD 56 undef, a'.tmps.getD 57 undef, a'.tmps.getD 58 undef, a'.tmps.getD 59 undef, a'.tmps.getD 60 undef, a'.tmps.getD 61 undef, a'.tmps.getD 62 undef, a'.tmps.getD 63 undef, a'.tmps.getD 64 undef, a'.tmps.getD 65 undef, a'.tmps.getD 66 undef, a'.tmps.getD 67 undef, a'.tmps.getD 68 undef, a'.tmps.getD 69 undef, a'.tmps.getD 70 undef, a'.tmps.getD 71 undef, a'.tmps.getD 72 undef, a'.tmps.getD 73 undef, a'.tmps.getD 74 undef, a'.tmps.getD 75 undef, a'.tmps.getD 76 undef, a'.tmps.getD 77 undef, a'.tmps.getD 78 undef, a'.tmps.getD 79 undef, a'.tmps.getD 80 undef, a'.tmps.getD 81 undef, a'.tmps.getD 82 undef, a'.tmps.getD 83 undef, a'.tmps.getD 84 undef, a'.tmps.getD 85 undef, a'.tmps.getD 86 undef, a'.tmps.getD 87 undef, a'.tmps.getD 88 undef, a'.tmps.getD 89 undef, a'.tmps.getD 90 undef, a'.tmps.getD 91 undef, a'.tmps.getD 92 undef, a'.tmps.getD 93 undef, a'.tmps.getD 94 undef, a'.tmps.getD 95 undef, a'.tmps.getD 96 undef, a'.tmps.getD 97 undef, a'.tmps.getD 98 undef], defers := Ds.map markD } ∧ TuI w4 T0 tn Ds W') 2 ⟨0, w4.heap.size, [], by omega, rfl, rfl, TuI.start w4⟩ ?round
  case round =>
    intro q a' W' hinv J K hJ hK
    obtain ⟨tn, T0, Ds, htn, hm, ha, hI⟩ := hinv
    obtain ⟨u, hu⟩ : ∃ u : Nat → Value, ∀ i, a'.tmps.getD i undef = u i := ⟨_, fun _ => rfl⟩
    simp only [hu] at ha
    clear hu
    subst ha hm
    have HJ := Lib.hid hJ
    clear hJ
    have O5 := HO.out.up hI.below
    have W5 := HWA.out.up hI.below
    have S5 := HTAT.out.up hI.below
    have HI := Lib.hid hI
    have hT := hI.turn.cell (i := 0) rfl
    have fT := hI.turn.fz 0
    have hTl := hI.turn.lt
    have hT0 := hI.low
    have hWs := hI.below.size
    clear hI
    rcases (show tn = 0 ∨ tn = 1 ∨ tn = 2 by omega) with rfl | rfl | rfl
    · replace hT : W'.cell? ⟨T0, 0, none⟩ = some (.int .i64 0) := hT
      replace HI := Lib.hid (show TuI w4 T0 0 Ds W' from HI.out)
      go_wp2
      have hS2 := S5.up (below_alloc W' (.cells #[.int .i64 0] 3))
      refine wpIn_wide.1 (wp_range_brk (n := 3) (S := fun q => q = X ∨ q = C ∨ q = M ∨ ∃ p ∈ T, q = p.2) (gf := 29) (lb := #[.pointer (some ⟨X, 0, none⟩)]) rfl enters_ta1
        (HSQ.out _ _ hS2 ⟨.inl rfl, .inr (.inl rfl), .inr (.inr (.inl rfl)), fun p hp => .inr (.inr (.inr ⟨p, hp, rfl⟩))⟩) (Below.refl _ _) (fun _ => rfl)
        (fun q => q = W'.heap.size) (fun k h => by simp only [World.size_alloc]; omega) ?hS
        (fun k G W3 => CtR W' k G W3 ∧ (k = 0 ∨ (k : Int) < many))
        (fun k a' G W3 => (∃ V, a' = { tmps := #[.slice a n c, nmV x, .int .i64 many, u 3, .pointer (some ⟨w.heap.size, 0, none⟩), .pointer (some ⟨w.heap.size + 1, 0, none⟩), .pointer (some ⟨w.heap.size + 1 + 1, 0, none⟩), .pointer (some ⟨w1.heap.size, 0, none⟩), .int .i64 eo, .pointer (some ⟨w2.heap.size, 0, none⟩), .int .i64 eo, .pointer (some ⟨w3.heap.size, 0, none⟩), .func (.func 29) #[] #[.pointer (some ⟨X, 0, none⟩)], .pointer (some ⟨T0, 0, none⟩), .pointer (some ⟨W'.heap.size, 0, none⟩), .pointer (some ⟨V, 0, none⟩), u 16, u 17, u 18, u 19, u 20, u 21, u 22, u 23, u 24, u 25, u 26, u 27, u 28, u 29, u 30, u 31, u 32, u 33, u 34, u 35, u 36, u 37, u 38, u 39, u 40, u 41, u 42, u 43, u 44, u 45, u 46, u 47, u 48, .int .i64 0, .bool true, u 51, u 52, .func (.func 29) #[] #[.pointer (some ⟨X, 0, none⟩)], .agg (tlOf l (nmAt P k)).toArray, u 55, u 56, u 57, u 58, u 59, u 60, u 61, u 62, u 63, u 64, u 65, u 66, u 67, u 68, u 69, u 70, u 71, u 72, u 73, u 74, u 75, u 76, u 77, u 78, u 79, u 80, u 81, u 82, u 83, u 84, u 85, u 86, u 87, u 88, u 89, u 90, u 91, u 92, u 93, u 94, u 95, u 96, u 97, u 98], defers := [] } ∧ RowAt W3 V (tlOf l (nmAt P k)).toArray 51 ∧ G V) ∧ CtR W' k G W3 ∧ (k = 0 ∨ (k : Int) < many))
        (fun k G W3 => CtR W' k G W3 ∧ many ≤ (k : Int) ∧ 1 ≤ k ∧ (k = 1 ∨ (k : Int) - 1 < many))
        ?abI ?abM ?abX ⟨CtR.start W', .inl rfl⟩ ?assign ?body ?done)
      case hS =>
        rintro q (rfl | rfl | rfl | ⟨p, hp, rfl⟩)
        · have : q < W'.heap.size := World.block_lt_of_cell? W' _ S5.var; exact ⟨by simp only [World.size_alloc]; omega, by omega⟩
        · have := S5.ts.clt; exact ⟨by simp only [World.size_alloc]; omega, by omega⟩
        · have := S5.ts.map.lt; exact ⟨by simp only [World.size_alloc]; omega, by omega⟩
        · have := (S5.ts.rows p hp).lt; exact ⟨by simp only [World.size_alloc]; omega, by omega⟩
      case abI => exact fun k G A B h hb => ⟨CtR.abide (by simp only [World.size_alloc]; omega) G A B h.1 hb, h.2⟩
      case abM =>
        rintro k a' G A B ⟨⟨V, ha, hV, hG⟩, h⟩ hb
        exact ⟨⟨V, ha, (hb.same V hV.lt (fun e => e.2 hG)).trans hV, hG⟩, ⟨CtR.abide (by simp only [World.size_alloc]; omega) G A B h.1 hb, h.2⟩⟩
      case abX => exact fun k G A B h hb => ⟨CtR.abide (by simp only [World.size_alloc]; omega) G A B h.1 hb, h.2⟩
      case assign =>
        intro l2 k G W3 K3 hk hi hK3
        simp only [tlArgs_at]
        gi_wp2
        refine hK3 _ _ (But.alloc _ _) ⟨⟨_, rfl, RowAt.new _ _ _, .inr ⟨Nat.le_refl _, by simp⟩⟩, ?_⟩
        exact ⟨CtR.alloc hi.1 _, hi.2⟩
      case body =>
        rintro l2 k a' G W3 hk0 hl2 _ hGl ⟨⟨V, rfl, hV, hGV⟩, hi⟩
        have hR : CtR W' k G W3 := hi.1
        have hkl : k < P.length := hk0
        have hk : k < m := by rw [← HPL.out]; exact hk0
        have O6 := O5.up hR.below
        have W6 := W5.up hR.below
        obtain ⟨b, off, rfl, hr⟩ := W6.sl.rec_at (cells := tlOf l) (sz := 16) (fun _ => rfl) hk hkl
        have hstep := hR.step
        have hget : nmAt P k = P[k] := by unfold nmAt; rw [List.getD_eq_getElem?_getD, List.getElem?_eq_getElem hkl]; rfl
        rw [hget] at hV ⊢
        clear hget
        generalize P[k] = e at *
        have hV3 : RowAt W3.drew V (tlOf l e).toArray 51 := hV
        have hr3 : W3.drew.rangeAt b (off + k * 16) (tlOf l e) := hr
        have x5 := W6.var
        have x3 := O6.num.cell (i := 0) (v := .int .i64 many) rfl
        have a1 : W3.cell? ⟨W'.heap.size, 0, none⟩ = some (.int .i64 k) := hR.cnt.cell (i := 0) rfl
        have f1 := hR.cnt.fz 0
        have aT := cell_up hR.below hT
        have hTK : ¬ T0 = W'.heap.size := by omega
        have hKT : ¬ W'.heap.size = T0 := by omega
        have hw5 : ¬ w.heap.size + 1 = W'.heap.size := by omega
        have hw6 : ¬ W'.heap.size = w.heap.size + 1 := by omega
        have hle2 : ¬ m ≤ k := by omega
        have hle3 : ¬ (m : Int) ≤ (k : Int) := by omega
        have hkm : (k : Int) < (m : Int) := by omega
        have hkn : (k : Int) ≤ 60 := by omega
        have Hstep := Lib.hid hstep
        clear hstep hR O6 W6 hr hV
        by_cases hmq : many ≤ (k : Int) + 1
        · gi_wp2
          refine wpIn_round_tail 11 tMixes (by kernel_rfl) (by kernel_rfl) ?_
          simp only [List.take_succ_cons, List.take_zero, List.drop_succ_cons, List.drop_zero]
          still_step
          still_step
          still_step
          still_step
          still_step
          still_step
          still_step
          still_step
          refine still_load rfl 51 (.tmp 62) rfl b (off + k * 16) rfl (tlOf l e) _ hr3 Try.underlying51 rfl (by kernel_rfl) ?_
          try simp only [Act.put, List.getElem_toArray, List.getElem_cons_zero, List.getElem_cons_succ, List.setIfInBounds_toArray, List.set_cons_zero, List.set_cons_succ]
          refine still_load rfl 51 (.tmp 15) rfl V 0 rfl (tlOf l e) _ hV3.range Try.underlying51 rfl (by kernel_rfl) ?_
          try simp only [Act.put, List.getElem_toArray, List.getElem_cons_zero, List.getElem_cons_succ, List.setIfInBounds_toArray, List.set_cons_zero, List.set_cons_succ]
          refine still_val rfl (exec_tlne (nn := e) (s := sentN (evsOf e l)) (c := cameN (evsOf e l)) (g := cnt (evsOf e l)) (f := firstA (evsOf e l)) (la := lastA (evsOf e l)) (d := doneA (evsOf e l)) rfl rfl rfl _) ?_
          try simp only [Act.put, List.getElem_toArray, List.getElem_cons_zero, List.getElem_cons_succ, List.setIfInBounds_toArray, List.set_cons_zero, List.set_cons_succ]
          refine wpStill_nil ?_
          gi_wp2
          exact ⟨Hstep.out.1, rfl, Hstep.out.2, by omega, by omega, by rcases hi.2 with h | h; exact .inl (by omega); exact .inr (by omega)⟩
        · gi_wp2
          refine wpIn_round_tail 11 tMixes (by kernel_rfl) (by kernel_rfl) ?_
          simp only [List.take_succ_cons, List.take_zero, List.drop_succ_cons, List.drop_zero]
          still_step
          still_step
          still_step
          still_step
          still_step
          still_step
          still_step
          still_step
          refine still_load rfl 51 (.tmp 62) rfl b (off + k * 16) rfl (tlOf l e) _ hr3 Try.underlying51 rfl (by kernel_rfl) ?_
          try simp only [Act.put, List.getElem_toArray, List.getElem_cons_zero, List.getElem_cons_succ, List.setIfInBounds_toArray, List.set_cons_zero, List.set_cons_succ]
          refine still_load rfl 51 (.tmp 15) rfl V 0 rfl (tlOf l e) _ hV3.range Try.underlying51 rfl (by kernel_rfl) ?_
          try simp only [Act.put, List.getElem_toArray, List.getElem_cons_zero, List.getElem_cons_succ, List.setIfInBounds_toArray, List.set_cons_zero, List.set_cons_succ]
          refine still_val rfl (exec_tlne (nn := e) (s := sentN (evsOf e l)) (c := cameN (evsOf e l)) (g := cnt (evsOf e l)) (f := firstA (evsOf e l)) (la := lastA (evsOf e l)) (d := doneA (evsOf e l)) rfl rfl rfl _) ?_
          try simp only [Act.put, List.getElem_toArray, List.getElem_cons_zero, List.getElem_cons_succ, List.setIfInBounds_toArray, List.set_cons_zero, List.set_cons_succ]
          refine wpStill_nil ?_
          gi_wp2
          exact ⟨Hstep.out.1, Hstep.out.2, .inr (by omega)⟩
      case done =>
        rintro D G W3 k hD hGD hcase hKD
        have hR : CtR W' k G W3 := hcase.elim (fun h => h.2.1) (fun h => h.2.1)
        rw [HPL.out] at hcase
        have hmin : (k : Int) = min (m : Int) (max 1 many) := by
          rcases hcase with ⟨h1, _, h2⟩ | ⟨h1, _, h2, h3, h4⟩
          · omega
          · omega
        have O6 := O5.up hR.below
        have W6 := W5.up hR.below
        have x5 := W6.var
        have x3 := O6.num.cell (i := 0) (v := .int .i64 many) rfl
        have a1 : W3.cell? ⟨W'.heap.size, 0, none⟩ = some (.int .i64 k) := hR.cnt.cell (i := 0) rfl
        have aT := cell_up hR.below hT
        have HN := Lib.hid (fun v => HI.out.next hR.below hKD (by simp at hD; omega) v)
        obtain ⟨mx, hmx⟩ : ∃ m : Int, (if (1 : Int) < many then many else 1) = m := ⟨_, rfl⟩
        have hmax := max_int2 1 many
        have hmn := min_int2 (m : Int) mx
        rw [hmx] at hmax
        rw [show (if mx < (m : Int) then mx else (m : Int)) = (k : Int) by
          rw [hmin, ← hmx]
          split <;> split <;> omega] at hmn
        clear hcase hmin hmx hR O6 W6 hKD
        go_wp2
        refine Handed.intro 1 (by omega) (HJ.out _ _ _ ?_)
        exact ⟨1, W3.heap.size, D :: Ds, by omega, rfl, rfl, HN.out 1⟩
    · replace hT : W'.cell? ⟨T0, 0, none⟩ = some (.int .i64 1) := hT
      replace HI := Lib.hid (show TuI w4 T0 1 Ds W' from HI.out)
      go_wp2
      have hS2 := S5.up (below_alloc W' (.cells #[.int .i64 0] 3))
      refine wpIn_wide.1 (wp_range_brk (n := 3) (S := fun q => q = X ∨ q = C ∨ q = M ∨ ∃ p ∈ T, q = p.2) (gf := 29) (lb := #[.pointer (some ⟨X, 0, none⟩)]) rfl enters_ta1
        (HSQ.out _ _ hS2 ⟨.inl rfl, .inr (.inl rfl), .inr (.inr (.inl rfl)), fun p hp => .inr (.inr (.inr ⟨p, hp, rfl⟩))⟩) (Below.refl _ _) (fun _ => rfl)
        (fun q => q = W'.heap.size) (fun k h => by simp only [World.size_alloc]; omega) ?hS
        (fun k G W3 => CtR W' k G W3)
        (fun k a' G W3 => (∃ V, a' = { tmps := #[.slice a n c, nmV x, .int .i64 many, u 3, .pointer (some ⟨w.heap.size, 0, none⟩), .pointer (some ⟨w.heap.size + 1, 0, none⟩), .pointer (some ⟨w.heap.size + 1 + 1, 0, none⟩), .pointer (some ⟨w1.heap.size, 0, none⟩), .int .i64 eo, .pointer (some ⟨w2.heap.size, 0, none⟩), .int .i64 eo, .pointer (some ⟨w3.heap.size, 0, none⟩), .func (.func 29) #[] #[.pointer (some ⟨X, 0, none⟩)], .pointer (some ⟨T0, 0, none⟩), .pointer (some ⟨W'.heap.size, 0, none⟩), .pointer (some ⟨V, 0, none⟩), u 16, u 17, u 18, u 19, u 20, u 21, u 22, u 23, u 24, u 25, u 26, u 27, u 28, u 29, u 30, u 31, u 32, u 33, u 34, u 35, u 36, u 37, u 38, u 39, u 40, u 41, u 42, u 43, u 44, u 45, u 46, u 47, u 48, .int .i64 1, .bool true, u 51, u 52, .func (.func 29) #[] #[.pointer (some ⟨X, 0, none⟩)], .agg (tlOf l (nmAt P k)).toArray, u 55, u 56, u 57, u 58, u 59, u 60, u 61, u 62, u 63, u 64, u 65, u 66, u 67, u 68, u 69, u 70, u 71, u 72, u 73, u 74, u 75, u 76, u 77, u 78, u 79, u 80, u 81, u 82, u 83, u 84, u 85, u 86, u 87, u 88, u 89, u 90, u 91, u 92, u 93, u 94, u 95, u 96, u 97, u 98], defers := [] } ∧ RowAt W3 V (tlOf l (nmAt P k)).toArray 51 ∧ G V) ∧ CtR W' k G W3)
        (fun k G W3 => False)
        ?abI ?abM ?abX (CtR.start W') ?assign ?body ?done)
      case hS =>
        rintro q (rfl | rfl | rfl | ⟨p, hp, rfl⟩)
        · have : q < W'.heap.size := World.block_lt_of_cell? W' _ S5.var; exact ⟨by simp only [World.size_alloc]; omega, by omega⟩
        · have := S5.ts.clt; exact ⟨by simp only [World.size_alloc]; omega, by omega⟩
        · have := S5.ts.map.lt; exact ⟨by simp only [World.size_alloc]; omega, by omega⟩
        · have := (S5.ts.rows p hp).lt; exact ⟨by simp only [World.size_alloc]; omega, by omega⟩
      case abI => exact fun k G A B h hb => CtR.abide (by simp only [World.size_alloc]; omega) G A B h hb
      case abM =>
        rintro k a' G A B ⟨⟨V, ha, hV, hG⟩, h⟩ hb
        exact ⟨⟨V, ha, (hb.same V hV.lt (fun e => e.2 hG)).trans hV, hG⟩, CtR.abide (by simp only [World.size_alloc]; omega) G A B h hb⟩
      case abX => exact fun k G A B h hb => h.elim
      case assign =>
        intro l2 k G W3 K3 hk hi hK3
        simp only [tlArgs_at]
        gi_wp2
        refine hK3 _ _ (But.alloc _ _) ⟨⟨_, rfl, RowAt.new _ _ _, .inr ⟨Nat.le_refl _, by simp⟩⟩, ?_⟩
        exact CtR.alloc hi _
      case body =>
        rintro l2 k a' G W3 hk0 hl2 _ hGl ⟨⟨V, rfl, hV, hGV⟩, hi⟩
        have hR : CtR W' k G W3 := hi
        have hkl : k < P.length := hk0
        have hk : k < m := by rw [← HPL.out]; exact hk0
        have O6 := O5.up hR.below
        have W6 := W5.up hR.below
        obtain ⟨b, off, rfl, hr⟩ := W6.sl.rec_at (cells := tlOf l) (sz := 16) (fun _ => rfl) hk hkl
        have hstep := hR.step
        have hget : nmAt P k = P[k] := by unfold nmAt; rw [List.getD_eq_getElem?_getD, List.getElem?_eq_getElem hkl]; rfl
        rw [hget] at hV ⊢
        clear hget
        generalize P[k] = e at *
        have hV3 : RowAt W3.drew V (tlOf l e).toArray 51 := hV
        have hr3 : W3.drew.rangeAt b (off + k * 16) (tlOf l e) := hr
        have x5 := W6.var
        have x3 := O6.num.cell (i := 0) (v := .int .i64 many) rfl
        have a1 : W3.cell? ⟨W'.heap.size, 0, none⟩ = some (.int .i64 k) := hR.cnt.cell (i := 0) rfl
        have f1 := hR.cnt.fz 0
        have aT := cell_up hR.below hT
        have hTK : ¬ T0 = W'.heap.size := by omega
        have hKT : ¬ W'.heap.size = T0 := by omega
        have hw5 : ¬ w.heap.size + 1 = W'.heap.size := by omega
        have hw6 : ¬ W'.heap.size = w.heap.size + 1 := by omega
        have hle2 : ¬ m ≤ k := by omega
        have hle3 : ¬ (m : Int) ≤ (k : Int) := by omega
        have hkm : (k : Int) < (m : Int) := by omega
        have hkn : (k : Int) ≤ 60 := by omega
        have Hstep := Lib.hid hstep
        clear hstep hR O6 W6 hr hV
        gi_wp2
        refine wpIn_round_tail 11 tMixes (by kernel_rfl) (by kernel_rfl) ?_
        simp only [List.take_succ_cons, List.take_zero, List.drop_succ_cons, List.drop_zero]
        still_step
        still_step
        still_step
        still_step
        still_step
        still_step
        still_step
        still_step
        refine still_load rfl 51 (.tmp 62) rfl b (off + k * 16) rfl (tlOf l e) _ hr3 Try.underlying51 rfl (by kernel_rfl) ?_
        try simp only [Act.put, List.getElem_toArray, List.getElem_cons_zero, List.getElem_cons_succ, List.setIfInBounds_toArray, List.set_cons_zero, List.set_cons_succ]
        refine still_load rfl 51 (.tmp 15) rfl V 0 rfl (tlOf l e) _ hV3.range Try.underlying51 rfl (by kernel_rfl) ?_
        try simp only [Act.put, List.getElem_toArray, List.getElem_cons_zero, List.getElem_cons_succ, List.setIfInBounds_toArray, List.set_cons_zero, List.set_cons_succ]
        refine still_val rfl (exec_tlne (nn := e) (s := sentN (evsOf e l)) (c := cameN (evsOf e l)) (g := cnt (evsOf e l)) (f := firstA (evsOf e l)) (la := lastA (evsOf e l)) (d := doneA (evsOf e l)) rfl rfl rfl _) ?_
        try simp only [Act.put, List.getElem_toArray, List.getElem_cons_zero, List.getElem_cons_succ, List.setIfInBounds_toArray, List.set_cons_zero, List.set_cons_succ]
        refine wpStill_nil ?_
        gi_wp2
        exact ⟨Hstep.out.1, Hstep.out.2⟩
      case done =>
        rintro D G W3 k hD hGD hcase hKD
        have hR : CtR W' k G W3 := hcase.elim (fun h => h.2) (fun h => h.2.elim)
        rw [HPL.out] at hcase
        obtain rfl : k = m := hcase.elim (fun h => h.1) (fun h => h.2.elim)
        have O6 := O5.up hR.below
        have W6 := W5.up hR.below
        have x5 := W6.var
        have x3 := O6.num.cell (i := 0) (v := .int .i64 many) rfl
        have a1 : W3.cell? ⟨W'.heap.size, 0, none⟩ = some (.int .i64 k) := hR.cnt.cell (i := 0) rfl
        have aT := cell_up hR.below hT
        have HN := Lib.hid (fun v => HI.out.next hR.below hKD (by simp at hD; omega) v)
        clear hcase hR O6 W6 hKD
        go_wp2
        refine Handed.intro 0 (by omega) (HJ.out _ _ _ ?_)
        exact ⟨2, W3.heap.size, D :: Ds, by omega, rfl, rfl, HN.out 2⟩
    · replace hT : W'.cell? ⟨T0, 0, none⟩ = some (.int .i64 2) := hT
      go_wp2_with (go_at_call 6; refine (works_c _).mono ?_; rintro en wx ⟨rfl, hbx⟩; have O6 := O5.up hbx; have hx3c := O6.res.cell (i := 0) rfl; have hx3f := O6.res.fz 0)
      have hx4 := O6.res.set 0 (.bool true)
      have hDm : ∀ D ∈ Ds, D ≠ w.heap.size + 1 + 1 := fun D hD => by have := (HI.out.marks D hD).2; omega
      refine leaves_marks Ds _ HI.out.nodup (fun D hD => ?_) (fun w9 hb9 => ?_)
      · have hm := HI.out.marks D hD
        have hDlt : D < W'.heap.size := (Array.getElem?_eq_some_iff.1 hm.1).1
        rw [Below.heap_setCell _ _ _ _ (by simpa using hDm D hD)]
        exact (hbx.block D hDlt).trans hm.1
      · have hx5 := (hb9.same _ hx4.lt (fun hD => hDm _ hD rfl)).trans hx4
        have hx5c := RowAt.cell (i := 0) (v := .bool true) hx5 rfl
        refine ⟨.bool true, by simp [results, Try.results5, go_sem, hx5c], rfl, ?_⟩
        have hB3 := O6.below.setCell (show w.heap.size ≤ (⟨w.heap.size + 1 + 1, 0, none⟩ : Addr).block by simp; omega) (.bool true)
        exact hB3.trans (hb9.below (fun D hD => by have := (HI.out.marks D hD).2; omega) hB3.size)
end Go.Proofs.Ythlgoclidgfejaa
