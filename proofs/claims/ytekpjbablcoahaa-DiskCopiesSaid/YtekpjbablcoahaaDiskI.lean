/-
  Contracts of slices.Backward, last, Read.
-/
import Derived.Test.YtekpjbablcoahaaDiskH
import Derived.Test.YtekpjbablcoahaaInRun
namespace Go.Proofs.Ytekpjbablcoahaa
open Go.RowKit Dk
set_option linter.unusedSimpArgs false
set_option linter.unusedVariables false
attribute [local go_sem] Oper.semAt_some

theorem put_info (p : Int × Sec) : (Try.prog.info? 78).map (·.size) = some (putC p).length := by rw [putC_len]; kernel_rfl
theorem put_one (p : Int × Sec) : (putC p).all (·.oneCell') = true := List.all_eq_true.2 (one_put p)
def Dk.ptAt (L : List (Int × Sec)) (k : Nat) : Int × Sec := L.getD k (0, zsec)
theorem Dk.ptAt_get {L : List (Int × Sec)} {k : Nat} (h : k < L.length) : ptAt L k = L[k] := by unfold ptAt; rw [List.getD_eq_getElem?_getD, List.getElem?_eq_getElem h]; rfl
def backArgs (L : List (Int × Sec)) (n k : Nat) : Array Value := #[.int .i64 ((n - 1 - k : Nat) : Int), putV (ptAt L (n - 1 - k))]
/-- A slice of puts in a variable in block C. -/
structure PsAt (w : World) (C : Nat) (v : Value) (n : Nat) (L : List (Int × Sec)) : Prop where
  var : w.cell? ⟨C, 0, none⟩ = some v
  sl : Sl w 65 v n (L.flatMap putC)
theorem PsAt.but {w w' : World} {C : Nat} {v : Value} {n : Nat} {L : List (Int × Sec)} (h : PsAt w C v n L) {O : Nat → Prop} (hb : But O w w') (hC : ¬ O C) (hv : n = 0 ∨ ∀ k, v.ownBlock = some k → ¬ O k) : PsAt w' C v n L :=
  ⟨hb.cell h.var hC, h.sl.but hb hv⟩
theorem dEnters_bw1 : Enters Try.prog 56 := enters_of Try.func56 (by kernel_rfl) rfl

set_option maxHeartbeats 2000000 in
set_option maxRecDepth 100000 in
theorem back1_x (L : List (Int × Sec)) (C n : Nat) (v : Value) (S : Nat → Prop) (w : World) (h : PsAt w C v n L) (hSS : S C ∧ (n = 0 ∨ ∀ k, v.ownBlock = some k → S k)) :
    SeqX Try.prog 56 #[.pointer (some ⟨C, 0, none⟩)] (backArgs L n) n S w := by
  intro l' G J Jx W hW hS hG hJ hJx hY h0
  have hE := h.but (O := fun _ => False) (But.of_below hW) (fun h => h) (.inr fun _ _ h => h)
  have Hln := Lib.hid (Sl.recs (cells := putC) (sz := 65) (fun p => putC_len p) (by decide) hE.sl)
  have hn := hE.sl.n_max
  obtain ⟨a, c, rfl⟩ := hE.sl.len
  have hc0 := hE.var
  clear h hW
  refine (callsIn_wide (n := 3)).1 ?_
  refine callsIn_of_wp Try.func56 rfl trivial ?_ rfl
  simp only [Try.ntmps56, List.size_toArray, List.length_cons, List.length_nil, Nat.reduceAdd, Nat.reduceSub, Array.replicate_succ, Array.replicate_zero, List.push_toArray, List.append_toArray, List.nil_append, List.cons_append]
  gi_wp2
  gi_loopw [3] (fun i wr => ∃ (m : Nat) (G : Nat → Prop), m ≤ n ∧ i = .int .i64 ((m : Int) - 1) ∧ J (n - m) G wr ∧ PsAt wr C (.slice a n c) n L ∧ (∀ k, S k → ¬ G k) ∧ W.heap.size ≤ wr.heap.size) (fun i _ => (intOf i + 1).toNat)
  case atStart => exact ⟨n, G, Nat.le_refl _, rfl, by rw [Nat.sub_self]; exact h0, hE, fun k hk => (hS k hk).2, Nat.le_refl _⟩
  case round =>
    obtain ⟨m, G1, hk, rfl, hj, hE1, hG1, hsz⟩ := hrel
    by_cases hlt : 0 < m
    · obtain ⟨q, rfl⟩ : ∃ q, m = q + 1 := ⟨m - 1, by omega⟩
      have hqn : q < n := by omega
      have hlt' : q < L.length := by rw [Hln.out]; exact hqn
      obtain ⟨b, off, rfl, hr⟩ := hE1.sl.rec_at (cells := putC) (sz := 65) (fun p => putC_len p) hqn hlt'
      have hjn : (q : Int) < (n : Int) := by omega
      have hpa : backArgs L n (n - (q + 1)) = #[.int .i64 (q : Int), putV L[q]] := by unfold backArgs; rw [show n - 1 - (n - (q + 1)) = q by omega, ptAt_get hlt']
      rw [show ((q + 1 : Nat) : Int) - 1 = (q : Int) by omega]
      generalize L[q] = e at *
      obtain ⟨fn, tmps, assign, body, hy, hR⟩ := yieldAt_wide (m' := 2) (hY _ _ _ (by omega) hj)
      rw [hpa] at hy
      clear hpa
      have hc1 := hE1.var
      gi_wp2_with (refine wpListIn_loadr rfl 78 (.tmp 15) rfl b (off + q * 65) rfl (putC e) _ hr Try.underlying78 rfl (put_info e) ?_)
      refine hR.mono ?_
      rintro en W3 ⟨g, rfl, hw⟩
      have hE3 := hE1.but hw.but (hG1 C hSS.1) (hSS.2.elim .inl fun h => .inr fun k hk => hG1 k (h k hk))
      have hs3 := hw.but.size
      cases g with
      | true =>
        gi_wp2
        go_roundw
        case rel => exact ⟨q, _, by omega, by go_num, by have := hw.on rfl; rwa [show n - (q + 1) + 1 = n - q by omega] at this, hE3, fun k hk => newG_not (hG1 k hk) (by have := (hS k hk).1; omega), by omega⟩
        case measure => simp [intOf]
      | false =>
        gi_wp2
        refine bodyPost_ret (results_none rfl _ _ _) rfl ?_
        exact ⟨⟨_, rfl⟩, _, .inr ⟨_, by omega, hw.off rfl⟩⟩
    · obtain rfl : m = 0 := by omega
      rw [Nat.sub_zero] at hj
      gi_wp2
      go_end0
      exact ⟨⟨_, rfl⟩, _, .inl hj⟩

set_option maxRecDepth 100000 in
theorem back_c (v : Value) (n : Nat) (L : List (Int × Sec)) (w : World) (hv : Sl w 65 v n (L.flatMap putC)) : Calls Try.prog 54 #[v] w fun en w' => en = .returned (.func (.func 56) #[] #[.pointer (some ⟨w.heap.size, 0, none⟩)]) ∧
    PsAt w' w.heap.size v n L ∧ Below w.heap.size w w' ∧ w'.heap.size = w.heap.size + 1 := by
  have hmf : ∀ (fn : Fn) (first cap : Array Value) (w : World), (Instr.makeFunc fn first cap).run Try.prog w = .ok (.func fn first cap) w := fun _ _ _ _ => rfl
  obtain ⟨a, c, rfl⟩ := hv.len
  go_enter Try.func54, Try.ntmps54
  go_wp2
  go_ret
  exact ⟨rfl, ⟨cell_new _ _ _, hv.up (below_alloc _ _)⟩, below_alloc _ _, by simp⟩

/-- The last that is such. -/
def Dk.lastF (q : Int × Sec → Bool) (L : List (Int × Sec)) : (Int × Sec) × Bool := match L.reverse.find? q with | some p => (p, true) | none => ((0, zsec), false)
theorem Dk.lastF_some {q : Int × Sec → Bool} {L : List (Int × Sec)} {k : Nat} (hk : k < L.length) (h : ∀ j, k < j → ∀ hj : j < L.length, q L[j] = false) (hq : q L[k] = true) : lastF q L = (L[k], true) := by
  have : L.reverse.find? q = some L[k] := by
    rw [List.find?_eq_some_iff_append]
    refine ⟨hq, (L.drop (k + 1)).reverse, (L.take k).reverse, ?_, fun x hx => ?_⟩
    · conv => lhs; rw [← List.take_append_drop k L, List.drop_eq_getElem_cons hk]
      simp
    · rw [List.mem_reverse] at hx
      obtain ⟨j, hj, rfl⟩ := List.getElem_of_mem hx
      rw [List.getElem_drop]
      rw [List.length_drop] at hj
      simp [h (k + 1 + j) (by omega) (by omega)]
  unfold lastF
  rw [this]
theorem Dk.lastF_none {q : Int × Sec → Bool} {L : List (Int × Sec)} (h : ∀ j, ∀ hj : j < L.length, q L[j] = false) : lastF q L = ((0, zsec), false) := by
  have : L.reverse.find? q = none := by
    rw [List.find?_eq_none]
    intro x hx
    rw [List.mem_reverse] at hx
    obtain ⟨j, hj, rfl⟩ := List.getElem_of_mem hx
    simp [h j hj]
  unfold lastF
  rw [this]

/-- What holds at the head of a round of last's range. -/
structure LaI (w : World) (f : FuncId) (cap : Array Value) (q : Int × Sec → Bool) (L : List (Int × Sec)) (n k : Nat) (G : Nat → Prop) (W : World) : Prop where
  below : Below w.heap.size w W
  fn : W.cell? ⟨w.heap.size, 0, none⟩ = some (.func (.func f) #[] cap)
  out : RowAt W (w.heap.size + 1) (putC (0, zsec)).toArray 78
  is : RowAt W (w.heap.size + 1 + 1) #[.bool false] 4
  g0 : ¬ G w.heap.size
  g1 : G (w.heap.size + 1)
  g2 : G (w.heap.size + 1 + 1)
  low : ∀ j, G j → w.heap.size ≤ j
  no : ∀ j, n - k ≤ j → ∀ hj : j < L.length, q L[j] = false
theorem LaI.abide {w : World} {f : FuncId} {cap : Array Value} {q : Int × Sec → Bool} {L : List (Int × Sec)} {n k B : Nat} (hB : w.heap.size + 3 ≤ B) : Abide B (LaI w f cap q L n k) := fun G A C h hb =>
  ⟨h.below.trans (hb.below (fun j e => by omega) h.below.size), hb.cell h.fn (fun e => by omega), (hb.same _ h.out.lt (fun e => e.2 h.g1)).trans h.out, (hb.same _ h.is.lt (fun e => e.2 h.g2)).trans h.is, h.g0, h.g1, h.g2, h.low, h.no⟩
theorem LaI.up {w : World} {f : FuncId} {cap : Array Value} {q : Int × Sec → Bool} {L : List (Int × Sec)} {n k : Nat} {G : Nat → Prop} {W W' : World} (h : LaI w f cap q L n k G W) (hb : Below W.heap.size W W') : LaI w f cap q L n k (newG G W W') W' :=
  ⟨below_up h.below hb, cell_up hb h.fn, h.out.below hb, h.is.below hb, newG_not h.g0 (World.block_lt_of_cell? W _ h.fn), newG_old h.g1, newG_old h.g2, (by
    rintro j (e | e)
    · exact h.low j e
    · have := h.below.size; omega), h.no⟩
theorem LaI.stay {w : World} {f : FuncId} {cap : Array Value} {q : Int × Sec → Bool} {L : List (Int × Sec)} {n k : Nat} {G : Nat → Prop} {W W' : World} (h : LaI w f cap q L n k G W) (hb : Below W.heap.size W W') : LaI w f cap q L n k G W' :=
  ⟨below_up h.below hb, cell_up hb h.fn, h.out.below hb, h.is.below hb, h.g0, h.g1, h.g2, h.low, h.no⟩
/-- What last leaves behind a hit. -/
structure LaX (w : World) (q : Int × Sec → Bool) (L : List (Int × Sec)) (c : Code) (G : Nat → Prop) (W : World) : Prop where
  ret : c = .ret
  below : Below w.heap.size w W
  hit : (lastF q L).2 = true
  out : RowAt W (w.heap.size + 1) (putC (lastF q L).1).toArray 78
  is : RowAt W (w.heap.size + 1 + 1) #[.bool true] 4
  g1 : G (w.heap.size + 1)
  g2 : G (w.heap.size + 1 + 1)
theorem LaX.abide {w : World} {q : Int × Sec → Bool} {L : List (Int × Sec)} {c : Code} {B : Nat} (hB : w.heap.size + 3 ≤ B) : Abide B (LaX w q L c) := fun G A C h hb =>
  ⟨h.ret, h.below.trans (hb.below (fun j e => by omega) h.below.size), h.hit, (hb.same _ h.out.lt (fun e => e.2 h.g1)).trans h.out, (hb.same _ h.is.lt (fun e => e.2 h.g2)).trans h.is, h.g1, h.g2⟩
theorem last_results {H : Nat} {p : Int × Sec} {b : Bool} {w : World} {tmps : Array Value} (h4 : tmps[4]? = some (.pointer (some ⟨H + 1, 0, none⟩))) (h5 : tmps[5]? = some (.pointer (some ⟨H + 1 + 1, 0, none⟩))) (h1 : RowAt w (H + 1) (putC p).toArray 78) (h2 : RowAt w (H + 1 + 1) #[.bool b] 4) :
    (results Try.f42 tmps).run Try.prog w = .ok (.tuple #[putV p, .bool b]) w := by
  have e1 : (loadVar 78 ⟨H + 1, 0, none⟩).run Try.prog w = .ok (putV p) w := result_row h1 78 Try.underlying78 rfl (put_info p)
  have e2 : (loadVar 4 ⟨H + 1 + 1, 0, none⟩).run Try.prog w = .ok (.bool b) w := by
    have c2 := h2.cell (i := 0) (v := .bool b) rfl
    simp [go_sem, c2]
  have hr : Try.f42.results = #[.cell 4 78, .cell 5 4] := rfl
  simp [results, hr, asAddr, h4, h5, e1, e2]

set_option maxHeartbeats 4000000 in
set_option maxRecDepth 100000 in
theorem dLast_c (L : List (Int × Sec)) (v : Value) (n : Nat) (f : FuncId) (cap : Array Value) (q : Int × Sec → Bool) (w : World) (hv : Sl w 65 v n (L.flatMap putC)) (hent : Enters Try.prog f)
    (hf : ∀ p w1, Below w.heap.size w w1 → Calls Try.prog f (#[putV p] ++ cap) w1 (Ret (.bool (q p)) w1)) :
    Calls Try.prog 42 #[v, .func (.func f) #[] cap] w (Ret (.tuple #[putV (lastF q L).1, .bool (lastF q L).2]) w) := by
  have Hln := Lib.hid (Sl.recs (cells := putC) (sz := 65) (fun p => putC_len p) (by decide) hv)
  have HF := Lib.hid hf
  clear hf
  unfold Enters at hent
  refine (callsIn_wide (n := 3)).1 ?_
  refine callsIn_of_wp_marks Try.func42 rfl trivial ?_ rfl
  simp only [Try.ntmps42, List.size_toArray, List.length_cons, List.length_nil, Nat.reduceAdd, Nat.reduceSub, Array.replicate_succ, Array.replicate_zero, List.push_toArray, List.append_toArray, List.nil_append, List.cons_append]
  refine wpIn_wide.2 ?_
  have hB3 : Below w.heap.size w (((w.alloc (.cells #[.func (.func f) #[] cap] 89)).alloc (.cells (putC (0, zsec)).toArray 78)).alloc (.cells #[.bool false] 4)) := ((below_alloc w _).alloc (by simp) _).alloc (by simp; omega) _
  have X1 := cell_new w (.func (.func f) #[] cap) 89
  have X2 := RowAt.new (w.alloc (.cells #[.func (.func f) #[] cap] 89)) (putC (0, zsec)).toArray 78
  have X3 := RowAt.new ((w.alloc (.cells #[.func (.func f) #[] cap] 89)).alloc (.cells (putC (0, zsec)).toArray 78)) #[.bool false] 4
  have x1 := cell_up ((below_alloc (w.alloc (.cells #[.func (.func f) #[] cap] 89)) (.cells (putC (0, zsec)).toArray 78)).alloc (Nat.le_of_lt (by simp)) (.cells #[.bool false] 4)) X1
  have x2 := X2.alloc (.cells #[.bool false] 4)
  simp only [World.size_alloc] at X2 X3 x2
  go_wp2_with (first
    | (refine Go.Great.wpList_allocTo rfl (some 4) rfl _ _ (run_alloc_put _ _ _ rfl) ?_)
    | (go_at_call 54; refine (back_c v n L _ (hv.up hB3)).mono ?_; rintro en w1 ⟨rfl, hps, hb1, hz1⟩))
  have r1 := cell_up hb1 x1
  have r2 := x2.below hb1
  have r3 := X3.below hb1
  have HB := Lib.hid (below_up hB3 hb1)
  simp only [World.size_alloc] at hz1 hps
  obtain ⟨a0, c0, rfl⟩ := hv.len
  have hvb := hv.blk (by decide)
  have hLn : L.length = n := Hln.out
  have I0 : LaI w f cap q L n 0 (fun j => j = w.heap.size + 1 ∨ j = w.heap.size + 1 + 1) w1 := ⟨HB.out, r1, r2, r3, by omega, .inl rfl, .inr rfl, fun j e => by omega, fun j h1 h2 => by omega⟩
  clear x1 x2 X1 X2 X3 r1 r2 r3 hb1
  refine wpIn_wide.1 (wp_range (n := 3) (S := fun j => j = w.heap.size + 1 + 1 + 1 ∨ (0 < n ∧ (Value.slice a0 n c0).ownBlock = some j)) (gf := 56) (lb := #[.pointer (some ⟨w.heap.size + 1 + 1 + 1, 0, none⟩)]) rfl dEnters_bw1
    (back1_x L _ n _ _ w1 hps ⟨.inl rfl, (Nat.eq_zero_or_pos n).imp id fun h0 k hk => .inr ⟨h0, hk⟩⟩) (Below.refl _ _) (fun _ => rfl)
    (fun j => j = w.heap.size + 1 ∨ j = w.heap.size + 1 + 1) (fun k h => by omega) ?hS
    (LaI w f cap q L n)
    (fun k a' G W => ∃ H, a' = { tmps := #[.slice a0 n c0, .func (.func f) #[] cap, undef, .pointer (some ⟨w.heap.size, 0, none⟩), .pointer (some ⟨w.heap.size + 1, 0, none⟩), .pointer (some ⟨w.heap.size + 1 + 1, 0, none⟩), undef, .pointer (some ⟨H, 0, none⟩), .slice a0 n c0, .func (.func 56) #[] #[.pointer (some ⟨w.heap.size + 1 + 1 + 1, 0, none⟩)], .int .i64 ((n - 1 - k : Nat) : Int), putV (ptAt L (n - 1 - k)), undef, undef, undef, undef, undef], defers := [] } ∧
      LaI w f cap q L n k G W ∧ RowAt W H (putC (ptAt L (n - 1 - k))).toArray 78 ∧ G H ∧ w.heap.size + 1 + 1 < H)
    (fun c k => LaX w q L c)
    (fun k => LaI.abide (by omega)) ?abM (fun c k => LaX.abide (by omega)) I0 ?assign ?body ?done ?stop)
  case hS =>
    rintro j (rfl | ⟨h0, hj⟩)
    · exact ⟨by omega, by omega⟩
    · have := hvb.elim (fun h => absurd h (by omega)) (fun h => h j hj)
      exact ⟨by omega, by omega⟩
  case abM =>
    rintro k a' G A C ⟨H, h0, h1, h2, h3, h4⟩ hb
    exact ⟨H, h0, LaI.abide (by omega) G A C h1 hb, (hb.same _ h2.lt (fun e => e.2 h3)).trans h2, h3, h4⟩
  case assign =>
    rintro l2 k G W K hk hI hK
    have hzI := hI.below.size
    obtain ⟨p, hp⟩ : ∃ p, ptAt L (n - 1 - k) = p := ⟨_, rfl⟩
    unfold backArgs
    rw [hp] at hK ⊢
    have HP := Lib.hid hp
    have hKK := Lib.hid hK
    have hII := Lib.hid hI
    clear hp hK hI
    have hfr : ∀ (x y : Value) (a b c d e f g : Value), (Array.zip (#[10, 11] : Array Nat) #[x, y]).foldl (fun t (p, v) => t.setIfInBounds p v) #[a, b, undef, c, d, e, undef, undef, f, g, undef, undef, undef, undef, undef, undef, undef] = #[a, b, undef, c, d, e, undef, undef, f, g, x, y, undef, undef, undef, undef, undef] := fun _ _ _ _ _ _ _ _ _ => by simp
    rw [hfr]
    clear hfr
    gi_wp2_with (first
      | (refine wpListIn_alloc (by rfl) 78 rfl (some 7) rfl (run_alloc_put _ _ _ rfl) ?_)
      | (refine wpListIn_put_row (by rfl) 78 (.tmp 7) (.tmp 11) rfl W.heap.size (putC p) rfl rfl (RowAt.new W _ _) (by rw [putC_len, putArr]) (put_info p) (put_one p) none rfl (fun w4 h4 hb4 => ?_)))
    have hB4 : Below W.heap.size W w4 := (below_alloc W _).trans (hb4.below (fun q e => by omega) (by simp))
    have hl := hII.out.is.lt
    exact hKK.out _ _ (But.of_below hB4) ⟨W.heap.size, rfl, hII.out.up hB4, h4, .inr ⟨Nat.le_refl _, h4.lt⟩, hl⟩
  case body =>
    rintro l2 k a' G W hk hl2 _ hGl ⟨H, rfl, hI, hr, hGH, hH⟩
    have hkl : n - 1 - k < L.length := by omega
    rw [ptAt_get hkl] at hr ⊢
    obtain ⟨p, hp⟩ : ∃ p, L[n - 1 - k] = p := ⟨_, rfl⟩
    rw [hp] at hr ⊢
    have HP := Lib.hid hp
    have c1 := hI.fn
    have hcl := HF.out p W hI.below
    have hII := Lib.hid hI
    clear hp hI
    cases hq : q p with
    | false =>
      rw [hq] at hcl
      have HQ := Lib.hid hq
      clear hq
      gi_wp2_with (first
        | (refine wpListIn_loadr rfl 78 (.tmp 7) rfl H 0 rfl (putC p) _ hr.range Try.underlying78 rfl (put_info p) ?_)
        | ((try refine ⟨trivial, ?_⟩); refine (CallsIn.inRound l2 (callsIn_wide.2 hcl)).mono ?_; rintro en w3 ⟨rfl, hb3⟩))
      exact ⟨But.of_below hb3, by
        have h1 := hII.out.up hb3
        exact ⟨h1.below, h1.fn, h1.out, h1.is, h1.g0, h1.g1, h1.g2, h1.low, fun j hj1 hj2 => by
          by_cases hjk : j = n - 1 - k
          · subst hjk; rw [HP.out]; exact HQ.out
          · exact h1.no j (by omega) hj2⟩⟩
    | true =>
      rw [hq] at hcl
      have HQ := Lib.hid hq
      clear hq
      gi_wp2_with (first
        | (refine wpListIn_loadr rfl 78 (.tmp 7) rfl H 0 rfl (putC p) _ hr.range Try.underlying78 rfl (put_info p) ?_)
        | ((try refine ⟨trivial, ?_⟩); refine (CallsIn.inRound l2 (callsIn_wide.2 hcl)).mono ?_; rintro en w3 ⟨rfl, hb3⟩; have h1 := Lib.hid (hII.out.up hb3); have hr3 := hr.below hb3; have hL2 := h1.out.is.lt)
        | (refine wpListIn_loadr rfl 78 (.tmp 7) rfl H 0 rfl (putC p) _ hr3.range Try.underlying78 rfl (put_info p) ?_)
        | (refine wpListIn_put_row (by rfl) 78 (.tmp 4) (.tmp 15) rfl (w.heap.size + 1) (putC p) rfl rfl h1.out.out (by rw [putC_len, putArr]) (put_info p) (put_one p) none rfl (fun w4 h4 hb4 => ?_); have h5 := (hb4.same _ hL2 (by omega)).trans h1.out.is; have c5 := RowAt.cell h5 (i := 0) (v := .bool false) rfl; have f5 := RowAt.fz h5 0))
      have b4 : But (fun j => j = w.heap.size + 1 ∨ j = w.heap.size + 1 + 1) w3 w4 := hb4.mono fun _ _ e => .inl e
      have b5 : But (fun j => j = w.heap.size + 1 ∨ j = w.heap.size + 1 + 1) w4 (w4.setCell ⟨w.heap.size + 1 + 1, 0, none⟩ (.bool true)) := But.setCell _ _ _ (.inl (.inr rfl))
      have bt := (But.of_below hb3).trans (b4.trans b5)
      have hlast : lastF q L = (p, true) := by
        rw [← HP.out]
        exact lastF_some hkl (fun j h1 h2 => hII.out.no j (by omega) h2) (by rw [HP.out]; exact HQ.out)
      have h45 : RowAt w4 (w.heap.size + 1) (putC p).toArray 78 := h4
      refine ⟨bt.mono fun j _ e => ?_, rfl, hII.out.below.trans (bt.below (fun j e => by omega) hII.out.below.size), by rw [hlast], ?_, RowAt.set h5 0 _, newG_old hII.out.g1, newG_old hII.out.g2⟩
      · rcases e with rfl | rfl
        · exact hII.out.g1
        · exact hII.out.g2
      · rw [hlast]
        exact h45.other (by simp) _
  case done =>
    rintro D G W hD hGD hI hK
    have hlast : lastF q L = ((0, zsec), false) := lastF_none fun j hj => hI.no j (by omega) hj
    have HK := Lib.hid hK
    have hII := Lib.hid hI
    have r4 := hI.out
    have h5 := hI.is
    have hz2 := h5.lt
    clear hK hI
    have HLA := Lib.hid hlast
    clear hlast
    go_wp2_with (first
      | (refine wpList_load_mid rfl 78 (.tmp 4) rfl (w.heap.size + 1) 0 rfl (putC (0, zsec)) _ r4.range Try.underlying78 rfl (put_info _) ?_)
      | (refine wpList_put_row rfl 78 (.tmp 4) (.tmp 16) rfl (w.heap.size + 1) (putC (0, zsec)) rfl rfl r4 (by rw [putC_len, putArr]) (put_info _) (put_one _) (fun w4 h4 hb4 => ?_); have h6 := (hb4.same _ hz2 (by omega)).trans h5; have c5 := RowAt.cell h6 (i := 0) (v := .bool false) rfl; have f5 := RowAt.fz h6 0))
    have b5 : But (· = w.heap.size + 1 + 1) w4 (w4.setCell ⟨w.heap.size + 1 + 1, 0, none⟩ (.bool false)) := But.setCell _ _ _ (.inl rfl)
    have hD4 : w4.heap[D]? = some (.deferred (some [])) := (hb4.same D (Array.getElem?_eq_some_iff.1 HK.out).1 (by omega)).trans HK.out
    have hD5 := (b5.same D (Array.getElem?_eq_some_iff.1 hD4).1 (by omega)).trans hD4
    refine ⟨by simp, .inl ⟨_, _, rfl, run_takeDeferred hD5, ?_⟩⟩
    have hp : But (· = D) (w4.setCell ⟨w.heap.size + 1 + 1, 0, none⟩ (.bool false)) ((w4.setCell ⟨w.heap.size + 1 + 1, 0, none⟩ (.bool false)).putObj D (.deferred none)) := But.putObj _ _ _ (.inl rfl)
    have h45 : RowAt w4 (w.heap.size + 1) (putC (0, zsec)).toArray 78 := h4
    have R1 := (hp.same _ (h45.other (a := ⟨w.heap.size + 1 + 1, 0, none⟩) (by simp) (.bool false)).lt (by omega)).trans (h45.other (a := ⟨w.heap.size + 1 + 1, 0, none⟩) (by simp) (.bool false))
    have R2 := (hp.same _ (RowAt.set h6 0 (.bool false)).lt (by omega)).trans (RowAt.set h6 0 (.bool false))
    have hBW := hII.out.below
    have hB4 := hBW.trans (hb4.below (fun j e => by omega) hBW.size)
    have hB5 := hB4.trans (b5.below (fun j e => by omega) hB4.size)
    exact ⟨_, last_results rfl rfl R1 R2, by rw [HLA.out], hB5.trans (hp.below (fun j e => by omega) hB5.size)⟩
  case stop =>
    rintro D c k G W hD hGD hk hX hK
    obtain ⟨rfl, hbl, hit, hout, his, _, _⟩ := hX
    refine wpIn_wide.2 ?_
    have HK := Lib.hid hK
    go_wp2
    refine ⟨by simp, .inl ⟨_, _, rfl, run_takeDeferred HK.out, ?_⟩⟩
    have hp : But (· = D) W (W.putObj D (.deferred none)) := But.putObj _ _ _ (.inl rfl)
    have R1 := (hp.same _ hout.lt (by omega)).trans hout
    have R2 := (hp.same _ his.lt (by omega)).trans his
    refine ⟨_, last_results rfl rfl R1 R2, ?_, hbl.trans (hp.below (fun j e => by omega) hbl.size)⟩
    rw [hit]

/-- What a sector reads: the last write that waits there, or what lies there. -/
def Dk.readF (d : Disk) (k : Int) : Sec := if (lastF (fun p => decide (p.1 = k)) d.W).2 = true then (lastF (fun p => decide (p.1 = k)) d.W).1.2 else lie d.E k
theorem dEnters_rq : Enters Try.prog 43 := enters_of Try.func43 (by kernel_rfl) rfl
theorem dEnters_r1 : Enters Try.prog 41 := enters_of Try.func41 (by kernel_rfl) rfl
set_option maxRecDepth 100000 in
theorem dRq_c {A : Nat} (k : Int) (p : Int × Sec) (w : World) (ha : w.cell? ⟨A, 0, none⟩ = some (.int .i64 k)) : Calls Try.prog 43 (#[putV p] ++ #[.pointer (some ⟨A, 0, none⟩)]) w (Ret (.bool (decide (p.1 = k))) w) := by
  have hB := below_alloc w (.cells (putC p).toArray 78)
  have ha1 := cell_up hB ha
  have hc := (RowAt.new w (putC p).toArray 78).cell (i := 0) (v := .int .i64 p.1) (by simp)
  refine Calls.cast (a := #[putV p, .pointer (some ⟨A, 0, none⟩)]) rfl ?_
  go_enter Try.func43, Try.ntmps43
  go_wp2
  go_ret
  exact ⟨rfl, hB⟩
end Go.Proofs.Ytekpjbablcoahaa
