/-
  Contracts of clock.Sorted, slices.Values and their iterators.
-/
import Derived.Test.YtnccbeiaohmnpaaSpanC
import Derived.Test.YtnccbeiaohmnpaaIterB
import Derived.Test.YtnccbeiaohmnpaaPtM
namespace Go.Proofs.Ytnccbeiaohmnpaa
open Go.RowKit Srt
set_option linter.unusedSimpArgs false
set_option linter.unusedVariables false
attribute [local go_sem] Oper.semAt_some

/-- A variable in block C holds a slice of spans. -/
structure SoAt (w : World) (C : Nat) (v : Value) (n : Nat) (L : List (Int × Int)) : Prop where
  var : w.cell? ⟨C, 0, none⟩ = some v
  sl : Sl w 2 v n (L.flatMap spC)
theorem SoAt.but {w w' : World} {C : Nat} {v : Value} {n : Nat} {L : List (Int × Int)} (h : SoAt w C v n L) {O : Nat → Prop} (hb : But O w w') (hC : ¬ O C) (hv : n = 0 ∨ ∀ k, v.ownBlock = some k → ¬ O k) : SoAt w' C v n L :=
  ⟨hb.cell h.var hC, h.sl.but hb hv⟩
/-- The sort at a slice of one's own. -/
theorem sortAny_c {base : Nat} {a : Option Addr} {m c : Nat} {L : List (Int × Int)} (w : World) (h : w.ownsRow base 24 2 (.slice a m c) m (L.flatMap spC)) (hm : m ≤ 100000) :
    Calls Try.prog 39 #[.slice a m c, .func (.func 40) #[] #[]] w fun en w' => en = .returned (.tuple #[]) ∧ ∃ W, W.Perm L ∧ Sorted (ltc spCmp) W ∧ w'.ownsRow base 24 2 (.slice a m c) m (W.flatMap spC) ∧ But (fun k => (Value.slice a m c).ownBlock = some k) w w' := by
  have hlen : L.length = m := Sl.recs (cells := spC) (sz := 2) (fun _ => rfl) (by decide) (Sl.of_own h)
  rcases h.2 with ⟨hv, h0⟩ | ⟨g, cap, cur, hv, hg, hrow, hnc, hcm, hcs, hct⟩
  · subst h0
    obtain rfl : L = [] := List.eq_nil_of_length_eq_zero hlen
    refine (sort0_c a c w).mono ?_
    rintro en w1 ⟨rfl, hb⟩
    exact ⟨rfl, [], List.Perm.refl _, (by simp [Sorted]), own_but h (But.of_below (O := fun _ => False) hb) (fun _ _ e => e), But.of_below hb⟩
  · obtain ⟨J, hJ⟩ : ∃ J, cur.toList.drop (m * 2) = J := ⟨_, rfl⟩
    have hcur : cur = (L.flatMap spC ++ J).toArray := by rw [← hct, ← hJ, List.take_append_drop]
    have hJl : m * 2 + J.length = cap * 2 := by rw [← hcs, ← hJ, List.length_drop, Array.length_toList, hcs]; omega
    subst hcur
    obtain ⟨rfl, rfl⟩ : a = some ⟨g, 0, none⟩ ∧ c = cap := by simpa using hv
    refine (sortS_c hlen (by omega) w (b := g) (c := c) (J := J) hrow).mono ?_
    rintro en w1 ⟨rfl, W, hp, hs, hA, hB⟩
    have hWl : W.length = m := hp.length_eq.trans hlen
    have hfl := arr_len (cells := spC) (sz := 2) (fun _ => rfl) W
    rw [hWl] at hfl
    exact ⟨rfl, W, hp, hs, ⟨hfl, .inr ⟨g, c, _, rfl, hg, hA, hnc, hcm, by rw [List.size_toArray, List.length_append, hfl]; exact hJl, by
      show (W.flatMap spC ++ J).take (m * 2) = _
      rw [List.take_append_of_le_length (by omega), List.take_of_length_le (by omega)]⟩⟩, hB.mono (fun k _ e => by rw [e]; rfl)⟩
set_option maxHeartbeats 1000000 in
set_option maxRecDepth 100000 in
theorem clkSorted_c (l : List (Int × Int)) (v : Value) (n : Nat) (w : World) (hv : Sl w 2 v n (l.flatMap spC)) (hn : n ≤ 100000) :
    Calls Try.prog 26 #[v] w fun en w' => ∃ X v' m W, en = .returned (.func (.func 43) #[] #[.pointer (some ⟨X, 0, none⟩)]) ∧ SoAt w' X v' m W ∧ W.Perm (l.filter fun x => Clk.rightB x.1 x.2) ∧ Sorted (ltc spCmp) W ∧ Below w.heap.size w w' ∧ w.heap.size ≤ X ∧ (m = 0 ∨ ∀ k, v'.ownBlock = some k → w.heap.size ≤ k) := by
  have hmf : ∀ (fn : Fn) (first cap : Array Value) (w : World), (Instr.makeFunc fn first cap).run Try.prog w = .ok (.func fn first cap) w := fun _ _ _ _ => rfl
  have hfl : (l.filter fun x => !(!Clk.rightB x.1 x.2)) = l.filter fun x => Clk.rightB x.1 x.2 := by simp
  obtain ⟨L, hL⟩ : ∃ L, (l.filter fun x => Clk.rightB x.1 x.2) = L := ⟨_, rfl⟩
  have hd := fun v' n' (w1 : World) (ho : w1.ownsRow w.heap.size 24 2 v' n' (l.flatMap spC)) hb hn => delS_c l v' n' w.heap.size w1 ho hb hn _ enters_s1 #[] (fun x => !Clk.rightB x.1 x.2) (fun x _ w2 _ => Calls.cast rfl (sorted1_c x w2))
  rw [hfl] at hd
  rw [hL] at hd ⊢
  have hlen : l.length = n := Sl.recs (cells := spC) (sz := 2) (fun _ => rfl) (by decide) hv
  have HM := Lib.hid (show L.length ≤ n by rw [← hL, ← hlen]; exact List.length_filter_le _ _)
  have HD := Lib.hid hd
  clear hlen
  clear hd hL hfl
  obtain ⟨a, c, rfl⟩ := hv.len
  go_enter Try.func26, Try.ntmps26
  go_wp2_with (first
    | (go_at_call 37; refine (cloneS_c l _ n _ hv (by omega)).mono ?_; rintro en w1 ⟨v1, rfl, hown, hb1⟩)
    | (go_at_call 36; refine (HD.out _ _ _ hown hb1.size hn).mono ?_; rintro en w2 ⟨v2, m, rfl, hm, ho2, hb2⟩; have hmn : m ≤ n := (by rw [hm]; exact HM.out); clear hm; obtain ⟨a2, c2, rfl⟩ := own_slice ho2; have ho3 := ho2.alloc (.cells #[.slice a2 m c2] 41); have hB2 := hb1.trans (hb2.mono (Nat.le_refl _)); have hs2 := hB2.size; have hx2 := cell_new w2 (.slice a2 m c2) 41)
    | (go_at_call 39; (refine (sortAny_c _ ho3 (by omega)).mono ?_; rintro en w4 ⟨rfl, W, hp, hs, ho4, hB4⟩)))
  go_ret
  have hgb : ∀ k, (Value.slice a2 m c2).ownBlock = some k → w.heap.size ≤ k ∧ k < w2.heap.size := fun k hk => own_of_some ho2 hk
  have hb4 : Below w.heap.size w w4 := (hB2.alloc hs2 _).trans (hB4.below (fun k hk => (hgb k hk).1) (by simp; omega))
  exact ⟨_, _, m, W, rfl, ⟨hB4.cell hx2 (fun e => by have := (hgb _ e).2; omega), Sl.of_own ho4⟩, hp, hs, hb4, hs2, .inr fun k hk => (hgb k hk).1⟩

theorem SoAt.up {w w' : World} {C : Nat} {v : Value} {n : Nat} {L : List (Int × Int)} (h : SoAt w C v n L) (hb : Below w.heap.size w w') : SoAt w' C v n L := h.but (O := fun _ => False) (But.of_below hb) (fun e => e) (.inr fun _ _ e => e)
set_option maxRecDepth 100000 in
theorem values_c (a : Option Addr) (n c : Nat) (w : World) : Calls Try.prog 44 #[.slice a n c] w fun en w' => en = .returned (.func (.func 53) #[] #[.pointer (some ⟨w.heap.size, 0, none⟩)]) ∧ w' = w.alloc (.cells #[.slice a n c] 41) := by
  have hmf : ∀ (fn : Fn) (first cap : Array Value) (w : World), (Instr.makeFunc fn first cap).run Try.prog w = .ok (.func fn first cap) w := fun _ _ _ _ => rfl
  go_enter Try.func44, Try.ntmps44
  go_wp2
  go_ret
  exact ⟨rfl, rfl⟩
def spAt (L : List (Int × Int)) (k : Nat) : Int × Int := L.getD k (0, 0)
theorem spAt_get {L : List (Int × Int)} {k : Nat} (h : k < L.length) : spAt L k = L[k] := by unfold spAt; rw [List.getD_eq_getElem?_getD, List.getElem?_eq_getElem h]; rfl
def spArgs (L : List (Int × Int)) (k : Nat) : Array Value := #[spV (spAt L k)]
theorem enters_val1 : Enters Try.prog 53 := enters_of Try.func53 (by kernel_rfl) rfl
theorem enters_s3 : Enters Try.prog 43 := enters_of Try.func43 (by kernel_rfl) rfl
set_option maxHeartbeats 2000000 in
set_option maxRecDepth 100000 in
theorem val1_x (L : List (Int × Int)) (C n : Nat) (v : Value) (S : Nat → Prop) (w : World) (h : SoAt w C v n L) (hSS : S C ∧ (n = 0 ∨ ∀ k, v.ownBlock = some k → S k)) :
    SeqX Try.prog 53 #[.pointer (some ⟨C, 0, none⟩)] (spArgs L) n S w := by
  intro l' G J Jx W hW hS hG hJ hJx hY h0
  have hE := h.up hW
  have Hln := Lib.hid (Sl.recs (cells := spC) (sz := 2) (fun _ => rfl) (by decide) hE.sl)
  have hn := hE.sl.n_max
  obtain ⟨a, c, rfl⟩ := hE.sl.len
  have hc0 := hE.var
  clear h hW
  refine (callsIn_wide (n := 3)).1 ?_
  refine callsIn_of_wp Try.func53 rfl trivial ?_ rfl
  simp only [Try.ntmps53, List.size_toArray, List.length_cons, List.length_nil, Nat.reduceAdd, Nat.reduceSub, Array.replicate_succ, Array.replicate_zero, List.push_toArray, List.append_toArray, List.nil_append, List.cons_append]
  gi_wp2
  gi_loopw [7] (fun i wr => ∃ (j : Nat) (G : Nat → Prop), j ≤ n ∧ i = .int .i64 j ∧ J j G wr ∧ SoAt wr C (.slice a n c) n L ∧ (∀ k, S k → ¬ G k) ∧ W.heap.size ≤ wr.heap.size) (fun i _ => n - (intOf i).toNat)
  case atStart => exact ⟨0, G, Nat.zero_le _, rfl, h0, hE, fun k hk => (hS k hk).2, Nat.le_refl _⟩
  case round =>
    obtain ⟨j, G1, hk, rfl, hj, hE1, hG1, hsz⟩ := hrel
    by_cases hlt : j < n
    · have hlt' : j < L.length := by rw [Hln.out]; exact hlt
      obtain ⟨b, off, rfl, hr⟩ := hE1.sl.rec_at (cells := spC) (sz := 2) (fun _ => rfl) hlt hlt'
      have hjn : (j : Int) < (n : Int) := by omega
      have hpa : spArgs L j = #[spV L[j]] := by unfold spArgs; rw [spAt_get hlt']
      generalize L[j] = e at *
      have hCl := World.block_lt_of_cell? wr _ hE1.var
      have E1 := RowAt.new wr (spC e).toArray 24
      have hEa := hE1.but (But.alloc (O := fun _ => False) wr (.cells (spC e).toArray 24)) (fun h => h) (.inr fun _ _ h => h)
      have hJa := (hJ _).alloc (.cells (spC e).toArray 24) (((hJ _).up (Nat.le_refl _)) _ _ _ hj (But.refl _ _))
      obtain ⟨fn, tmps, assign, body, hy, hR⟩ := yieldAt_wide (m' := 2) (hY _ _ _ hlt hJa)
      rw [hpa] at hy
      clear hpa
      gi_wp2_with (first
        | (refine wpListIn_loadr rfl 24 (.tmp 9) rfl b (off + j * 2) rfl (spC e) _ hr Try.underlying24 rfl (by kernel_rfl) ?_)
        | (refine wpListIn_loadr rfl 24 (.tmp 4) rfl wr.heap.size 0 rfl (spC e) _ E1.range Try.underlying24 rfl (by kernel_rfl) ?_))
      refine hR.mono ?_
      rintro en W3 ⟨g, rfl, hw⟩
      have hE3 := hEa.but hw.but (hG1 C hSS.1) (hSS.2.elim .inl fun h => .inr fun k hk => hG1 k (h k hk))
      have hs3 := hw.but.size
      simp only [World.size_alloc] at hs3
      cases g with
      | true =>
        gi_wp2
        go_roundw
        case rel => exact ⟨j + 1, _, by omega, by go_num, hw.on rfl, hE3, fun k hk => newG_not (hG1 k hk) (by have := (hS k hk).1; simp; omega), by omega⟩
        case measure => simp [intOf]; omega
      | false =>
        gi_wp2
        refine bodyPost_ret (results_none rfl _ _ _) rfl ?_
        exact ⟨⟨_, rfl⟩, _, .inr ⟨_, hlt, hw.off rfl⟩⟩
    · obtain rfl : j = n := by omega
      gi_wp2
      go_end0
      exact ⟨⟨_, rfl⟩, _, .inl hj⟩
end Go.Proofs.Ytnccbeiaohmnpaa
