/-
  The iterator over a map's values; slices.Collect; all.
-/
import Derived.Test.YteakpppabgbpeaaMemD
import Derived.Test.YteakpppabgbpeaaMapC
import Derived.Test.YteakpppabgbpeaaIterP
namespace Go.Proofs.Yteakpppabgbpeaa
open Go.RowKit Go.Maps Mem
set_option linter.unusedSimpArgs false
set_option linter.unusedVariables false
attribute [local go_sem] Oper.semAt_some

theorem slM : SlT Try.prog 34 24 4 16 := SlT.mk' Try.underlying34 (z := mbV zmb) (by kernel_rfl) rfl (by decide)
theorem slM1 (w : World) (k : Nat) (hk : k = w.heap.size) (m : Mb) : Sl (w.alloc (.cells (mbC m).toArray 24)) 4 (.slice (some ⟨k, 0, none⟩) 1 1) 1 (mbC m) := by
  subst hk
  refine ⟨rfl, .inr ⟨w.heap.size, 0, 1, rfl, by decide, by decide, fun j u hj => ?_⟩⟩
  exact (RowAt.new w (mbC m).toArray 24).cell (i := 0 + j) (by simpa using hj)
namespace Mem
def mbOf (v : Value) : Mb := match v with
  | .agg cs => match cs.toList with
    | [.int _ a, .int _ b, .int _ c, .bool d] => ⟨a, b, c, d⟩
    | _ => zmb
  | _ => zmb
theorem mbOf_mbV (m : Mb) : mbOf (mbV m) = m := rfl
theorem filter_push_same : ∀ (l : List MapEntry) (seen : Array Nat) (b : Nat), (∀ x ∈ l, x.born ≠ b) → (l.filter fun x => (seen.push b).contains x.born) = l.filter fun x => seen.contains x.born
  | [], _, _, _ => rfl
  | x :: l, seen, b, h => by
    have h1 := h x (by simp)
    have h2 := filter_push_same l seen b (fun y hy => h y (by simp [hy]))
    have h3 : (seen.push b).contains x.born = seen.contains x.born := by
      rw [Bool.eq_iff_iff]; simp [h1]
    rw [List.filter_cons, List.filter_cons, h2, h3]
theorem perm_push : ∀ (l : List MapEntry) (seen : Array Nat) (e : MapEntry), (l.map (·.born)).Nodup → e ∈ l → seen.contains e.born = false →
    ((l.filter fun x => (seen.push e.born).contains x.born)).Perm ((l.filter fun x => seen.contains x.born) ++ [e])
  | [], _, _, _, h, _ => by cases h
  | x :: l, seen, e, hn, he, hs => by
    simp only [List.map_cons, List.nodup_cons, List.mem_map, not_exists, not_and] at hn
    rcases List.mem_cons.1 he with rfl | he'
    · have h1 := filter_push_same l seen e.born (fun y hy => hn.1 y hy)
      have h2 : (seen.push e.born).contains e.born = true := by simp
      rw [List.filter_cons, List.filter_cons, h1, h2, hs]
      simp only [if_true, Bool.false_eq_true, if_false]
      exact (List.perm_append_comm (l₁ := [e]))
    · have h1 := perm_push l seen e hn.2 he' hs
      have hne : ¬ x.born = e.born := fun h => hn.1 e he' h.symm
      have h3 : (seen.push e.born).contains x.born = seen.contains x.born := by
        rw [Bool.eq_iff_iff]; simp [hne]
      rw [List.filter_cons, List.filter_cons, h3]
      cases seen.contains x.born with
      | true => exact h1.cons x
      | false => exact h1
/-- What has been handed out. -/
def Out (es : Array MapEntry) (seen : Array Nat) (acc : List Mb) : Prop := acc.Perm ((es.toList.filter fun e => seen.contains e.born).map fun e => mbOf e.val)
theorem Out.start (es : Array MapEntry) : Out es #[] [] := by
  unfold Out
  have : (es.toList.filter fun e => (#[] : Array Nat).contains e.born) = [] := by rw [List.filter_eq_nil_iff]; intro x _; simp
  rw [this]; exact List.Perm.nil
theorem Out.push {es : Array MapEntry} {clock : Nat} {seen : Array Nat} {acc : List Mb} {e : MapEntry} {m : Mb} (h : Out es seen acc) (hn : Born es clock) (he : e ∈ es.toList) (hs : seen.contains e.born = false) (hv : e.val = mbV m) : Out es (seen.push e.born) (acc ++ [m]) := by
  unfold Out at *
  have h1 := (perm_push es.toList seen e hn.2 he hs).map (fun e => mbOf e.val)
  rw [List.map_append, List.map_cons, List.map_nil, hv, mbOf_mbV] at h1
  exact (h.append_right [m]).trans h1.symm
theorem Out.le {es : Array MapEntry} {seen : Array Nat} {acc : List Mb} (h : Out es seen acc) : acc.length ≤ es.toList.length := by
  rw [h.length_eq, List.length_map]; exact List.length_filter_le _ _
theorem Out.fin {es : Array MapEntry} {seen : Array Nat} {acc : List Mb} (h : Out es seen acc) (hl : (leftOf es seen).size = 0) : acc.Perm (es.toList.map fun e => mbOf e.val) := by
  unfold Out at h
  rwa [List.filter_eq_self.2 (fun x hx => all_seen es seen hl x hx)] at h
end Mem
/-- One step of a walk over a roll's tellings. -/
def ValR (E : List Mb) (acc : List Mb) (x : Array Value) (acc' : List Mb) : Prop := ∃ m ∈ E, x = #[mbV m] ∧ acc' = acc ++ [m] ∧ acc'.length ≤ E.length
abbrev vals1 : FuncId := 60
theorem enters_vals1 : Enters Try.prog 60 := enters_of Try.func60 (by kernel_rfl) rfl

set_option maxHeartbeats 2000000 in
set_option maxRecDepth 100000 in
theorem values1_x {M : Nat} {E : List Mb} (C : Nat) (S : Nat → Prop) (w : World) (hC : w.cell? ⟨C, 0, none⟩ = some (.map (some M))) (hM : MMap w M E) (hSS : S C ∧ S M) :
    SeqP Try.prog 60 #[.pointer (some ⟨C, 0, none⟩)] (ValR E) ([] : List Mb) (fun acc => acc.Perm E) S w := by
  intro l' G J Jx W hW hS hG hJ hJx hY h0
  have hC0 := cell_up hW hC
  have hM0 : MMap W M E := hM.heap (hW.block M hM.lt)
  obtain ⟨es, clock, hb, he, hbn, hrg⟩ := hM0.range (P := Try.prog) Try.underlying53
  have HE := Lib.hid (fun (e : MapEntry) (hm : e ∈ es.toList) => show ∃ m ∈ E, e.val = mbV m from by
    have : (e.key, e.val) ∈ E.map mEnt := by rw [← he]; exact List.mem_map.2 ⟨e, hm, rfl⟩
    obtain ⟨p, hp, hpe⟩ := List.mem_map.1 this
    exact ⟨p, hp, (congrArg Prod.snd hpe).symm⟩)
  have HF := Lib.hid (show es.toList.map (fun e => mbOf e.val) = E by
    have := congrArg (List.map (fun p : Value × Value => mbOf p.2)) he
    simpa [List.map_map, Function.comp_def, mEnt, mbOf_mbV] using this)
  have HN := Lib.hid hbn
  have R0 := Rng.start hb
  have hMW := hM0.lt
  have J0 := (hJ []).alloc (.mapIter (some M) clock #[] clock) h0
  clear he hbn hM hC hW h0 hM0
  refine (callsIn_wide (n := 3)).1 ?_
  refine callsIn_of_wp Try.func60 rfl trivial ?_ rfl
  simp only [Try.ntmps60, List.size_toArray, List.length_cons, List.length_nil, Nat.reduceAdd, Nat.reduceSub, Array.replicate_succ, Array.replicate_zero, List.push_toArray, List.append_toArray, List.nil_append, List.cons_append]
  gi_wp2
  gi_loopw [8] (fun _ wr => ∃ (seen : Array Nat) (acc : List Mb) (G : Nat → Prop), Rng wr M W.heap.size es clock seen ∧ J acc G wr ∧ (∀ k, S k → ¬ G k) ∧ ¬ G W.heap.size ∧ RowKit.Hid (Out es seen acc) ∧ W.heap.size < wr.heap.size) (fun _ wr => rngLeft wr M W.heap.size)
  case atStart => exact ⟨#[], [], G, R0, J0, fun k hk => (hS k hk).2, (fun h => by have := hG _ h; omega), Lib.hid (Out.start es), by simp⟩
  case round =>
    obtain ⟨seen, acc, G1, R, hj, hG1, hGr, HO, hsz⟩ := hrel
    rcases R.next (P := Try.prog) HN.out 0 with ⟨hl0, hrun⟩ | ⟨e, w1, hme, hrun, R1, hb1⟩
    · have HL := Lib.hid hl0
      clear hl0
      gi_wp2
      go_end0
      exact ⟨⟨_, rfl⟩, G1, .inl ⟨acc, by rw [← HF.out]; exact HO.out.fin HL.out, hj⟩⟩
    · have hme' := mem_left hme
      obtain ⟨m, hm, hv⟩ := HE.out e hme'.1
      have hen := R1.entry (P := Try.prog) HN.out hme'.1
      have HX := Lib.hid (HO.out.push HN.out hme'.1 hme'.2 hv)
      have hle : (acc ++ [m]).length ≤ E.length := by have := HX.out.le; rw [← HF.out, List.length_map]; exact this
      have hvr : ValR E acc #[mbV m] (acc ++ [m]) := ⟨m, hm, rfl, rfl, hle⟩
      rw [hv] at hrun hen
      have HLT := Lib.hid (left_shrinks es seen e hme)
      have HR := Lib.hid R
      have hs1 := hb1.size
      have hjw := hJ acc G1 _ _ hj (hb1.mono fun j _ e' => ⟨by omega, fun h => hGr (by rw [e'] at h; exact h)⟩)
      have E1 := RowAt.new w1 (mbC m).toArray 24
      have hJa := (hJ acc).alloc (.cells (mbC m).toArray 24) hjw
      obtain ⟨fn, tmps, assign, body, hy, hR⟩ := yieldAt_wide (m' := 2) (hY acc _ _ G1 _ hvr hJa)
      have RA := R1.up (below_alloc _ (.cells (mbC m).toArray 24))
      clear hme hme' hv R hb1 hb hle hvr hj hjw hJa
      gi_wp2_with (refine wpListIn_loadr rfl 24 (.tmp 4) rfl w1.heap.size 0 rfl (mbC m) _ E1.range Try.underlying24 rfl (by kernel_rfl) ?_)
      refine hR.mono ?_
      rintro en W3 ⟨g, rfl, hw⟩
      have R3 := RA.but hw.but (hG1 M hSS.2) hGr
      have hs3 := hw.but.size
      simp only [World.size_alloc] at hs3
      cases g with
      | true =>
        gi_wp2
        go_roundw
        case rel => exact ⟨_, _, _, R3, hw.on rfl, fun k hk => newG_not (hG1 k hk) (by have := (hS k hk).1; simp; omega), newG_not hGr (by simp; omega), HX, by omega⟩
        case measure => rw [R3.left, HR.out.left]; exact HLT.out
      | false =>
        gi_wp2
        refine bodyPost_ret (results_none rfl _ _ _) rfl ?_
        exact ⟨⟨_, rfl⟩, _, .inr ⟨_, hw.off rfl⟩⟩

/-- What AppendSeq has collected; its variable lies behind w. -/
structure ApI (w : World) (E : List Mb) (acc : List Mb) (G : Nat → Prop) (W : World) : Prop where
  row : ∃ v, Boxed W w.heap.size 34 v ∧ W.ownsRow w.heap.size 24 4 v acc.length (acc.flatMap mbC) ∧ ∀ j, v.ownBlock = some j → G j
  own : G w.heap.size
  low : ∀ j, G j → w.heap.size ≤ j
  below : Below w.heap.size w W
  size : w.heap.size + 1 ≤ W.heap.size
  len : acc.length ≤ E.length
theorem ApI.abide {w : World} {E acc : List Mb} {B : Nat} (hB : w.heap.size ≤ B) : Abide B (ApI w E acc) := by
  intro G W W' h hb
  obtain ⟨v, h1, h2, h3⟩ := h.row
  exact ⟨⟨v, hb.boxed h1 (fun e => e.2 h.own), own_but h2 hb (fun j hj e => e.2 (h3 j hj)), h3⟩, h.own, h.low, h.below.trans (hb.below (fun _ e => by omega) h.below.size), Nat.le_trans h.size hb.size, h.len⟩
theorem ApI.start (w : World) (E : List Mb) : ApI w E [] (· = w.heap.size) (w.alloc (.cells #[.slice none 0 0] 34)) :=
  ⟨⟨_, Boxed.new w _ _, World.ownsRow_nil _ _ _ _, fun j hj => by cases hj⟩, rfl, fun j h => by omega, below_alloc _ _, by simp, Nat.zero_le _⟩
theorem ApI.step {w : World} {E acc : List Mb} {m : Mb} {G : Nat → Prop} {W w1 : World} (hi : ApI w E acc G W) (hl : (acc ++ [m]).length ≤ E.length) {v v' : Value} (hv : Boxed W w.heap.size 34 v) (hrow : W.ownsRow w.heap.size 24 4 v acc.length (acc.flatMap mbC)) (hvG : ∀ j, v.ownBlock = some j → G j) {tmp : Obj}
    (hown : w1.ownsRow w.heap.size 24 4 v' (acc.length + 1) (acc.flatMap mbC ++ mbC m)) (hgrow : (W.alloc tmp).grownBy w1 v.ownBlock) (hat : v'.ownBlock = v.ownBlock ∨ v'.ownBlock = some (W.alloc tmp).heap.size) :
    Boxed w1 w.heap.size 34 v ∧ But G W (w1.setCell ⟨w.heap.size, 0, none⟩ v') ∧ ApI w E (acc ++ [m]) (newG G W (w1.setCell ⟨w.heap.size, 0, none⟩ v')) (w1.setCell ⟨w.heap.size, 0, none⟩ v') := by
  have hsz := hi.below.size
  obtain ⟨h1, h2, h3, _, h5⟩ := hv.appended (by decide) hrow hsz (Nat.le_refl _) hown hgrow
  have hb1 : But G W w1 := (But.alloc W _).then (But.grown (O := G) hgrow (fun r e => .inl (hvG r e))) (fun _ _ h => h)
  have hb : But G W (w1.setCell ⟨w.heap.size, 0, none⟩ v') := hb1.trans (But.setCell _ _ _ (.inl hi.own))
  refine ⟨h1, hb, ⟨v', h2, by rw [List.flatMap_append, List.length_append]; simpa using h3, fun j hj => ?_⟩, newG_old hi.own, fun j hj => ?_, hi.below.trans h5, Nat.le_trans hi.size hb.size, hl⟩
  · rcases hat with h | h
    · exact newG_old (hvG j (h ▸ hj))
    · have hlt := (own_of_some hown hj).2
      rw [h] at hj
      simp only [World.size_alloc, Option.some.injEq] at hj
      exact .inr ⟨by omega, by simpa using hlt⟩
  · rcases hj with h | h
    · exact hi.low j h
    · have := hi.size; omega

set_option maxHeartbeats 2000000 in
set_option maxRecDepth 100000 in
theorem appSeq_c {M : Nat} {E : List Mb} (C : Nat) (w : World) (hC : w.cell? ⟨C, 0, none⟩ = some (.map (some M))) (hM : MMap w M E) (hE : E.length ≤ 100000) :
    Calls Try.prog 59 #[.slice none 0 0, .func (.func vals1) #[] #[.pointer (some ⟨C, 0, none⟩)]] w fun en w' => ∃ (v : Value) (acc : List Mb), en = .returned v ∧ acc.Perm E ∧ w'.ownsRow w.heap.size 24 4 v acc.length (acc.flatMap mbC) ∧ Below w.heap.size w w' := by
  refine (callsIn_wide (n := 3)).1 ?_
  refine callsIn_of_wp_marks Try.func59 rfl trivial ?_ rfl
  simp only [Try.ntmps59, List.size_toArray, List.length_cons, List.length_nil, Nat.reduceAdd, Nat.reduceSub, Array.replicate_succ, Array.replicate_zero, List.push_toArray, List.append_toArray, List.nil_append, List.cons_append]
  refine wpIn_wide.2 ?_
  go_wp2
  have hB := below_alloc w (.cells #[.slice none 0 0] 34)
  have hC1 := cell_up hB hC
  have hM1 : MMap (w.alloc (.cells #[.slice none 0 0] 34)) M E := hM.heap (hB.block M hM.lt)
  have I0 := ApI.start w E
  have hCl := World.block_lt_of_cell? w _ hC
  have hMl := hM.lt
  have hsz : (w.alloc (.cells #[.slice none 0 0] 34)).heap.size = w.heap.size + 1 := by simp
  obtain ⟨W0, hW0⟩ : ∃ W0, w.alloc (.cells #[.slice none 0 0] 34) = W0 := ⟨_, rfl⟩
  rw [hW0] at hC1 hM1 I0 hsz ⊢
  clear hW0 hB
  have hCl' : C < w.heap.size := hCl
  refine wpIn_wide.1 (wp_rangeP (n := 3) (S := fun q => q = C ∨ q = M) (gf := vals1) (lb := #[.pointer (some ⟨C, 0, none⟩)]) rfl enters_vals1
    (values1_x C _ W0 hC1 hM1 ⟨.inl rfl, .inr rfl⟩) (Below.refl _ _) (fun acc x acc' h => by obtain ⟨m, _, rfl, _⟩ := h; rfl)
    (fun q => q = w.heap.size) (fun k h => by omega) (fun k h => by rcases h with rfl | rfl <;> exact ⟨by omega, by omega⟩)
    (fun acc G W => ApI w E acc G W)
    (fun acc x acc' a' G W => ∃ m V, acc' = acc ++ [m] ∧ (acc ++ [m]).length ≤ E.length ∧ a' = { tmps := #[.slice none 0 0, .func (.func vals1) #[] #[.pointer (some ⟨C, 0, none⟩)], .pointer (some ⟨w.heap.size, 0, none⟩), undef, .slice none 0 0, .pointer (some ⟨V, 0, none⟩), .func (.func vals1) #[] #[.pointer (some ⟨C, 0, none⟩)], mbV m, undef, undef, undef, undef, undef], defers := [] } ∧ RowAt W V (mbC m).toArray 24 ∧ G V ∧ ApI w E acc G W)
    (fun c acc G W => False)
    (fun acc => ApI.abide (by omega)) ?abM (fun c acc G A B h _ => h.elim) I0 ?assign ?body ?done ?stop)
  case abM =>
    rintro acc x acc' a' G A B ⟨m, V, h1, h2, h3, hV, hG, h⟩ hb
    exact ⟨m, V, h1, h2, h3, (hb.same V hV.lt (fun e => e.2 hG)).trans hV, hG, ApI.abide (by omega) G A B h hb⟩
  case assign =>
    rintro l2 acc x acc' G W K ⟨m, hm, rfl, rfl, hl⟩ hi hK
    gi_wp2
    refine hK _ _ (But.alloc _ _) ⟨m, _, rfl, hl, rfl, RowAt.new _ _ _, .inr ⟨Nat.le_refl _, by simp⟩, ?_⟩
    obtain ⟨v, h1, h2, h3⟩ := hi.row
    exact ⟨⟨v, h1.alloc _, h2.alloc _, fun j hj => newG_old (h3 j hj)⟩, newG_old hi.own, fun j hj => by rcases hj with h | h; exact hi.low j h; have := hi.size; omega, hi.below.alloc hi.below.size _, by have := hi.size; simp; omega, hi.len⟩
  case body =>
    rintro l2 acc x acc' a' G W _ hl2 hl3 hGl ⟨m, V, rfl, hl, rfl, hV, hG, hi⟩
    obtain ⟨v, h1, h2, h3⟩ := hi.row
    have hsW := hi.below.size
    have hlE : acc.length + 1 ≤ 100000 := by have := hi.len; simp at hl; omega
    have cl := h1.cell
    have fl := h1.frozen
    obtain ⟨av, cv, rfl⟩ := own_slice h2
    have v0 := hV.cell (i := 0) (v := .int .u32 m.node) rfl
    have v1 := hV.cell (i := 1) (v := .int .u32 m.region) rfl
    have v2 := hV.cell (i := 2) (v := .int .u32 m.epoch) rfl
    have v3 := hV.cell (i := 3) (v := .bool m.in_) rfl
    gi_wp2_with (first
      | (gi_at_builtin; refine wpListIn_app rfl _ _ 34 rfl slM w.heap.size rfl (h2.alloc _) rfl (slM1 _ _ rfl _) (by simp [Value.oneCell']) (by simp [maxLen]; omega) (by omega) (by simp; omega) ?_; intro v' w1 hown' hgrow _ hat; obtain ⟨g', cap', rfl⟩ := ownsRow_succ hown'; obtain ⟨hv1, hbut, hstep⟩ := hi.step hl h1 h2 h3 hown' hgrow hat; have HS := Lib.hid hstep; have HB := Lib.hid hbut; clear hstep hbut; have hc1 := hv1.cell; have hf1 := hv1.frozen))
    exact ⟨HB.out, HS.out⟩
  case done =>
    rintro D acc G W hD hGD hF hi hK
    obtain ⟨v, h1, h2, h3⟩ := hi.row
    have c1 := h1.cell
    have HK := Lib.hid hK
    have HF := Lib.hid hF
    go_wp2
    refine ⟨by simp, .inl ⟨_, _, rfl, run_takeDeferred HK.out, ?_⟩⟩
    have hp : But (· = D) W (W.putObj D (.deferred none)) := But.putObj _ _ _ (.inl rfl)
    refine ⟨v, by simp [results, Try.results59, go_sem], v, rfl, acc, HF.out, own_but h2 hp (fun j hj e => hGD (by rw [← e]; exact h3 j hj)), hi.below.trans (hp.below (fun j e => by omega) hi.below.size)⟩
  case stop =>
    intro D c acc G W hD hGD hi hK
    exact hi.elim

theorem collect_c {M : Nat} {E : List Mb} (C : Nat) (w : World) (hC : w.cell? ⟨C, 0, none⟩ = some (.map (some M))) (hM : MMap w M E) (hE : E.length ≤ 100000) :
    Calls Try.prog 47 #[.func (.func vals1) #[] #[.pointer (some ⟨C, 0, none⟩)]] w fun en w' => ∃ (v : Value) (acc : List Mb), en = .returned v ∧ acc.Perm E ∧ w'.ownsRow w.heap.size 24 4 v acc.length (acc.flatMap mbC) ∧ Below w.heap.size w w' := by
  go_enter Try.func47, Try.ntmps47
  go_wp2_with (go_at_call 59; refine (appSeq_c C _ hC hM hE).mono ?_; rintro en w1 ⟨v, acc, rfl, hp, hown, hb⟩)
  go_ret
  exact ⟨v, acc, rfl, hp, hown, hb⟩

set_option maxRecDepth 100000 in
theorem rAll_c {B M : Nat} {E : List Mb} (w : World) (h : RollAt w B M E) (hE : E.length ≤ 100000) :
    Calls Try.prog 31 #[.pointer (some ⟨B, 0, none⟩)] w fun en w' => ∃ (v : Value) (acc : List Mb), en = .returned v ∧ acc.Perm E ∧ w'.ownsRow w.heap.size 24 4 v acc.length (acc.flatMap mbC) ∧ Below w.heap.size w w' := by
  have hc := h.var.cell (i := 0) (v := .map (some M)) rfl
  have hb := below_alloc w (.cells #[.map (some M)] 53)
  have hM1 : MMap (w.alloc (.cells #[.map (some M)] 53)) M E := h.map.heap (hb.block M h.map.lt)
  have hC1 := cell_new w (.map (some M)) 53
  have hmf : ∀ (fn : Fn) (first cap : Array Value) (w : World), (Instr.makeFunc fn first cap).run Try.prog w = .ok (.func fn first cap) w := fun _ _ _ _ => rfl
  have hv : ∀ w : World, Calls Try.prog 48 #[.map (some M)] w fun en w' => en = .returned (.func (.func vals1) #[] #[.pointer (some ⟨w.heap.size, 0, none⟩)]) ∧ w.alloc (.cells #[.map (some M)] 53) = w' := by
    intro w
    go_enter Try.func48, Try.ntmps48
    go_wp2
    go_ret
    exact ⟨rfl, rfl⟩
  have HV := Lib.hid hv
  clear hv
  go_enter Try.func31, Try.ntmps31
  go_wp2_with (first
    | (go_at_call 26; refine (rNone_c _ h).mono ?_; rintro en w1 ⟨rfl, rfl⟩)
    | (go_at_call 48; refine (HV.out _).mono ?_; rintro en w1 ⟨rfl, rfl⟩)
    | (go_at_call 47; refine (collect_c _ _ hC1 hM1 hE).mono ?_; rintro en w1 ⟨v, acc, rfl, hp, hown, hb1⟩))
  go_ret
  exact ⟨v, acc, rfl, hp, own_down hown (by simp), below_new hb1⟩
end Go.Proofs.Yteakpppabgbpeaa
