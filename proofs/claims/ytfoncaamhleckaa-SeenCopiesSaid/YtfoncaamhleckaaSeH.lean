/-
  maps.Keys and its iterator, slices.Collect, SortFunc, SortedFunc at sights.
-/
import Derived.Test.YtfoncaamhleckaaSeG
import Derived.Test.YtfoncaamhleckaaSeE
import Derived.Test.YtfoncaamhleckaaSeL
import Derived.Test.YtfoncaamhleckaaIterP
import Derived.Test.YtfoncaamhleckaaIterB
import Derived.Test.YtfoncaamhleckaaPtM
import Derived.Shelf.SlSortCmp.NoneTotal
namespace Go.Proofs.Ytfoncaamhleckaa
open Go.RowKit Go.Maps Trc Sn
set_option linter.unusedSimpArgs false
set_option linter.unusedVariables false
attribute [local go_sem] Oper.semAt_some

theorem slS : SlT Try.prog 88 38 6 32 := SlT.mk' Try.underlying88 (z := .agg #[.int .u32 0, .int .u32 0, .int .u64 0, .int .u32 0, .bool false, .int .u8 0]) (by kernel_rfl) rfl (by decide)
theorem slS1 (w : World) (k : Nat) (hk : k = w.heap.size) (m : Sg) : Sl (w.alloc (.cells (sgC m).toArray 38))  6 (.slice (some ⟨k, 0, none⟩) 1 1) 1 (sgC m) := by
  subst hk
  exact Sl.of_own (World.ownsRow_lit w (sgC m).toArray 1 (size := 6) (e := 38) (Nat.le_refl _) (by decide) rfl)
/-- One step of a walk over names. -/
def SgR (N : Nat) (acc : List Sg) (x : Array Value) (acc' : List Sg) : Prop := ∃ m, x = #[sgV m] ∧ acc' = acc ++ [m] ∧ acc'.length ≤ N
/-- What AppendSeq has collected; its variable lies behind w. -/
structure ApS (w : World) (N : Nat) (acc : List Sg) (G : Nat → Prop) (W : World) : Prop where
  row : ∃ v, Boxed W w.heap.size 88 v ∧ W.ownsRow w.heap.size 38 6 v acc.length (acc.flatMap sgC) ∧ ∀ j, v.ownBlock = some j → G j
  own : G w.heap.size
  low : ∀ j, G j → w.heap.size ≤ j
  below : Below w.heap.size w W
  size : w.heap.size + 1 ≤ W.heap.size
  len : acc.length ≤ N
theorem ApS.abide {w : World} {N : Nat} {acc : List Sg} {B : Nat} (hB : w.heap.size ≤ B) : Abide B (ApS w N acc) := by
  intro G W W' h hb
  obtain ⟨v, h1, h2, h3⟩ := h.row
  exact ⟨⟨v, hb.boxed h1 (fun e => e.2 h.own), own_but h2 hb (fun j hj e => e.2 (h3 j hj)), h3⟩, h.own, h.low, h.below.trans (hb.below (fun _ e => by omega) h.below.size), Nat.le_trans h.size hb.size, h.len⟩
theorem ApS.start (w : World) (N : Nat) : ApS w N [] (· = w.heap.size) (w.alloc (.cells #[.slice none 0 0] 88)) :=
  ⟨⟨_, Boxed.new w _ _, World.ownsRow_nil _ _ _ _, fun j hj => by cases hj⟩, rfl, fun j h => by omega, below_alloc _ _, by simp, Nat.zero_le _⟩
theorem ApS.step {w : World} {N : Nat} {acc : List Sg} {m : Sg} {G : Nat → Prop} {W w1 : World} (hi : ApS w N acc G W) (hl : (acc ++ [m]).length ≤ N) {v v' : Value} (hv : Boxed W w.heap.size 88 v) (hrow : W.ownsRow w.heap.size 38 6 v acc.length (acc.flatMap sgC)) (hvG : ∀ j, v.ownBlock = some j → G j) {tmp : Obj}
    (hown : w1.ownsRow w.heap.size 38 6 v' (acc.length + 1) (acc.flatMap sgC ++ sgC m)) (hgrow : (W.alloc tmp).grownBy w1 v.ownBlock) (hat : v'.ownBlock = v.ownBlock ∨ v'.ownBlock = some (W.alloc tmp).heap.size) :
    Boxed w1 w.heap.size 88 v ∧ But G W (w1.setCell ⟨w.heap.size, 0, none⟩ v') ∧ ApS w N (acc ++ [m]) (newG G W (w1.setCell ⟨w.heap.size, 0, none⟩ v')) (w1.setCell ⟨w.heap.size, 0, none⟩ v') := by
  have hsz := hi.below.size
  obtain ⟨h1, h2, h3, _, h5⟩ := hv.appended (by decide) hrow hsz (Nat.le_refl _) hown hgrow
  have hb1 : But G W w1 := (But.alloc W _).then (But.grown (O := G) hgrow (fun r e => .inl (hvG r e))) (fun _ _ h => h)
  have hb : But G W (w1.setCell ⟨w.heap.size, 0, none⟩ v') := hb1.trans (But.setCell _ _ _ (.inl hi.own))
  refine ⟨h1, hb, ⟨v', h2, by rw [List.flatMap_append, List.length_append]; simpa using h3, fun j hj => ?_⟩, newG_old hi.own, fun j hj => ?_, hi.below.trans h5, Nat.le_trans hi.size hb.size, hl⟩
  · rcases hat with h | h
    · exact newG_old (hvG j (h ▸ hj))
    · have hlt := (own_of_some hown hj).2
      rw [h] at hj
      simp only [World.size_alloc, Option.some.injEq] at hj
      exact .inr ⟨by omega, by simpa using hlt⟩
  · rcases hj with h | h
    · exact hi.low j h
    · have := hi.size; omega


set_option maxHeartbeats 2000000 in
set_option maxRecDepth 100000 in
theorem appSeqS_c {gf : Nat} {lb : Array Value} (eg : ∀ args w, (callFunc gf args).run Try.prog w = .ok (.enter gf args) w) {N : Nat} {F : List Sg → Prop} {S : Nat → Prop} (w : World) (hseq : SeqP Try.prog gf lb (SgR N) ([] : List Sg) F S w) (hS : ∀ k, S k → k < w.heap.size) (hN : N ≤ 100000) :
    Calls Try.prog 55 #[.slice none 0 0, .func (.func gf) #[] lb] w fun en w' => ∃ (v : Value) (acc : List Sg), en = .returned v ∧ F acc ∧ acc.length ≤ N ∧ w'.ownsRow w.heap.size 38 6 v acc.length (acc.flatMap sgC) ∧ Below w.heap.size w w' := by
  refine (callsIn_wide (n := 3)).1 ?_
  refine callsIn_of_wp_marks Try.func55 rfl trivial ?_ rfl
  simp only [Try.ntmps55, List.size_toArray, List.length_cons, List.length_nil, Nat.reduceAdd, Nat.reduceSub, Array.replicate_succ, Array.replicate_zero, List.push_toArray, List.append_toArray, List.nil_append, List.cons_append]
  refine wpIn_wide.2 ?_
  go_wp2
  have hB := below_alloc w (.cells #[.slice none 0 0] 88)
  have I0 := ApS.start w N
  have hsz : (w.alloc (.cells #[.slice none 0 0] 88)).heap.size = w.heap.size + 1 := by simp
  obtain ⟨W0, hW0⟩ : ∃ W0, w.alloc (.cells #[.slice none 0 0] 88) = W0 := ⟨_, rfl⟩
  rw [hW0] at I0 hsz hB ⊢
  clear hW0
  refine wpIn_wide.1 (wp_rangeP (n := 3) (S := S) (gf := gf) (lb := lb) rfl eg
    hseq hB (fun acc x acc' h => by obtain ⟨m, rfl, _⟩ := h; rfl)
    (fun q => q = w.heap.size) (fun k h => by omega) (fun k h => by have := hS k h; exact ⟨by omega, by omega⟩)
    (fun acc G W => ApS w N acc G W)
    (fun acc x acc' a' G W => ∃ m V, acc' = acc ++ [m] ∧ (acc ++ [m]).length ≤ N ∧ a' = { tmps := #[.slice none 0 0, .func (.func gf) #[] lb, .pointer (some ⟨w.heap.size, 0, none⟩), undef, .slice none 0 0, .pointer (some ⟨V, 0, none⟩), .func (.func gf) #[] lb, sgV m, undef, undef, undef, undef, undef], defers := [] } ∧ RowAt W V (sgC m).toArray 38 ∧ G V ∧ ApS w N acc G W)
    (fun c acc G W => False)
    (fun acc => ApS.abide (by omega)) ?abM (fun c acc G A B h _ => h.elim) I0 ?assign ?body ?done ?stop)
  case abM =>
    rintro acc x acc' a' G A B ⟨m, V, h1, h2, h3, hV, hG, h⟩ hb
    exact ⟨m, V, h1, h2, h3, (hb.same V hV.lt (fun e => e.2 hG)).trans hV, hG, ApS.abide (by omega) G A B h hb⟩
  case assign =>
    rintro l2 acc x acc' G W K ⟨m, rfl, rfl, hl⟩ hi hK
    gi_wp2
    refine hK _ _ (But.alloc _ _) ⟨m, _, rfl, hl, rfl, RowAt.new _ _ _, .inr ⟨Nat.le_refl _, by simp⟩, ?_⟩
    obtain ⟨v, h1, h2, h3⟩ := hi.row
    exact ⟨⟨v, h1.alloc _, h2.alloc _, fun j hj => newG_old (h3 j hj)⟩, newG_old hi.own, fun j hj => by rcases hj with h | h; exact hi.low j h; have := hi.size; omega, hi.below.alloc hi.below.size _, by have := hi.size; simp; omega, hi.len⟩
  case body =>
    rintro l2 acc x acc' a' G W _ hl2 hl3 hGl ⟨m, V, rfl, hl, rfl, hV, hG, hi⟩
    obtain ⟨v, h1, h2, h3⟩ := hi.row
    have hsW := hi.below.size
    have hlE : acc.length + 1 ≤ 100000 := by have := hi.len; simp at hl; omega
    have cl := h1.cell
    have fl := h1.frozen
    obtain ⟨av, cv, rfl⟩ := own_slice h2
    have v0 := hV.cell (i := 0) (v := .int .u32 m.n.node) rfl
    have v1 := hV.cell (i := 1) (v := .int .u32 m.n.service) rfl
    have v2 := hV.cell (i := 2) (v := .int .u64 m.n.time) rfl
    have v3 := hV.cell (i := 3) (v := .int .u32 m.n.seq) rfl
    have v4 := hV.cell (i := 4) (v := .bool m.b) rfl
    have v5 := hV.cell (i := 5) (v := .int .u8 m.c) rfl
    gi_wp2_with (first
      | (gi_at_builtin; refine wpListIn_app rfl _ _ 88 rfl slS w.heap.size rfl (h2.alloc _) rfl (slS1 _ _ rfl _) (by simp [Value.oneCell']) (by simp [maxLen]; omega) (by omega) (by simp; omega) ?_; intro v' w1 hown' hgrow _ hat; obtain ⟨g', cap', rfl⟩ := ownsRow_succ hown'; obtain ⟨hv1, hbut, hstep⟩ := hi.step hl h1 h2 h3 hown' hgrow hat; have HS := Lib.hid hstep; have HB := Lib.hid hbut; clear hstep hbut; have hc1 := hv1.cell; have hf1 := hv1.frozen))
    exact ⟨HB.out, HS.out⟩
  case done =>
    rintro D acc G W hD hGD hF hi hK
    obtain ⟨v, h1, h2, h3⟩ := hi.row
    have c1 := h1.cell
    have HK := Lib.hid hK
    have HF := Lib.hid hF
    go_wp2
    refine ⟨by simp, .inl ⟨_, _, rfl, run_takeDeferred HK.out, ?_⟩⟩
    have hp : But (· = D) W (W.putObj D (.deferred none)) := But.putObj _ _ _ (.inl rfl)
    refine ⟨v, by simp [results, Try.results55, go_sem], v, acc, rfl, HF.out, hi.len, own_but h2 hp (fun j hj e => hGD (by rw [← e]; exact h3 j hj)), hi.below.trans (hp.below (fun j e => by omega) hi.below.size)⟩
  case stop =>
    intro D c acc G W hD hGD hi hK
    exact hi.elim
theorem collectS_c {gf : Nat} {lb : Array Value} (eg : ∀ args w, (callFunc gf args).run Try.prog w = .ok (.enter gf args) w) {N : Nat} {F : List Sg → Prop} {S : Nat → Prop} (w : World) (hseq : SeqP Try.prog gf lb (SgR N) ([] : List Sg) F S w) (hS : ∀ k, S k → k < w.heap.size) (hN : N ≤ 100000) :
    Calls Try.prog 49 #[.func (.func gf) #[] lb] w fun en w' => ∃ (v : Value) (acc : List Sg), en = .returned v ∧ F acc ∧ acc.length ≤ N ∧ w'.ownsRow w.heap.size 38 6 v acc.length (acc.flatMap sgC) ∧ Below w.heap.size w w' := by
  go_enter Try.func49, Try.ntmps49
  go_wp2_with (go_at_call 55; refine (appSeqS_c eg _ hseq hS hN).mono ?_; rintro en w1 ⟨v, acc, rfl, hp, hl, hown, hb⟩)
  go_ret
  exact ⟨v, acc, rfl, hp, hl, hown, hb⟩

namespace Sn
def sgOf (v : Value) : Sg := match v with
  | .agg cs => match cs.toList with
    | [.int _ a, .int _ b, .int _ c, .int _ d, .bool e, .int _ f] => ⟨⟨a, b, c, d⟩, e, f⟩
    | _ => zsg
  | _ => zsg
theorem sgOf_sgV (m : Sg) : sgOf (sgV m) = m := rfl
theorem filter_push_same : ∀ (l : List MapEntry) (seen : Array Nat) (b : Nat), (∀ x ∈ l, x.born ≠ b) → (l.filter fun x => (seen.push b).contains x.born) = l.filter fun x => seen.contains x.born
  | [], _, _, _ => rfl
  | x :: l, seen, b, h => by
    have h1 := h x (by simp)
    have h2 := filter_push_same l seen b (fun y hy => h y (by simp [hy]))
    have h3 : (seen.push b).contains x.born = seen.contains x.born := by
      rw [Bool.eq_iff_iff]; simp [h1]
    rw [List.filter_cons, List.filter_cons, h2, h3]
theorem perm_push : ∀ (l : List MapEntry) (seen : Array Nat) (e : MapEntry), (l.map (·.born)).Nodup → e ∈ l → seen.contains e.born = false →
    ((l.filter fun x => (seen.push e.born).contains x.born)).Perm ((l.filter fun x => seen.contains x.born) ++ [e])
  | [], _, _, _, h, _ => by cases h
  | x :: l, seen, e, hn, he, hs => by
    simp only [List.map_cons, List.nodup_cons, List.mem_map, not_exists, not_and] at hn
    rcases List.mem_cons.1 he with rfl | he'
    · have h1 := filter_push_same l seen e.born (fun y hy => hn.1 y hy)
      have h2 : (seen.push e.born).contains e.born = true := by simp
      rw [List.filter_cons, List.filter_cons, h1, h2, hs]
      simp only [if_true, Bool.false_eq_true, if_false]
      exact (List.perm_append_comm (l₁ := [e]))
    · have h1 := perm_push l seen e hn.2 he' hs
      have hne : ¬ x.born = e.born := fun h => hn.1 e he' h.symm
      have h3 : (seen.push e.born).contains x.born = seen.contains x.born := by
        rw [Bool.eq_iff_iff]; simp [hne]
      rw [List.filter_cons, List.filter_cons, h3]
      cases seen.contains x.born with
      | true => exact h1.cons x
      | false => exact h1
/-- What has been handed out. -/
def Out (es : Array MapEntry) (seen : Array Nat) (acc : List Sg) : Prop := acc.Perm ((es.toList.filter fun e => seen.contains e.born).map fun e => sgOf e.key)
theorem Out.start (es : Array MapEntry) : Out es #[] [] := by
  unfold Out
  have : (es.toList.filter fun e => (#[] : Array Nat).contains e.born) = [] := by rw [List.filter_eq_nil_iff]; intro x _; simp
  rw [this]; exact List.Perm.nil
theorem Out.push {es : Array MapEntry} {clock : Nat} {seen : Array Nat} {acc : List Sg} {e : MapEntry} {m : Sg} (h : Out es seen acc) (hn : Born es clock) (he : e ∈ es.toList) (hs : seen.contains e.born = false) (hv : e.key = sgV m) : Out es (seen.push e.born) (acc ++ [m]) := by
  unfold Out at *
  have h1 := (perm_push es.toList seen e hn.2 he hs).map (fun e => sgOf e.key)
  rw [List.map_append, List.map_cons, List.map_nil, hv, sgOf_sgV] at h1
  exact (h.append_right [m]).trans h1.symm
theorem Out.le {es : Array MapEntry} {seen : Array Nat} {acc : List Sg} (h : Out es seen acc) : acc.length ≤ es.toList.length := by
  rw [h.length_eq, List.length_map]; exact List.length_filter_le _ _
theorem Out.fin {es : Array MapEntry} {seen : Array Nat} {acc : List Sg} (h : Out es seen acc) (hl : (leftOf es seen).size = 0) : acc.Perm (es.toList.map fun e => sgOf e.key) := by
  unfold Out at h
  rwa [List.filter_eq_self.2 (fun x hx => all_seen es seen hl x hx)] at h
end Sn
abbrev seKeys1 : FuncId := 51
theorem enters_seKeys1 : Enters Try.prog 51 := enters_of Try.func51 (by kernel_rfl) rfl
theorem seKeys_c (M : Nat) (w : World) : Calls Try.prog 41 #[.map (some M)] w fun en w' => en = .returned (.func (.func seKeys1) #[] #[.pointer (some ⟨w.heap.size, 0, none⟩)]) ∧ w.alloc (.cells #[.map (some M)] 30) = w' := by
  have hmf : ∀ (fn : Fn) (first cap : Array Value) (w : World), (Instr.makeFunc fn first cap).run Try.prog w = .ok (.func fn first cap) w := fun _ _ _ _ => rfl
  go_enter Try.func41, Try.ntmps41
  go_wp2
  go_ret
  exact ⟨rfl, rfl⟩
set_option maxHeartbeats 2000000 in
set_option maxRecDepth 100000 in
theorem seKeys1_x {M : Nat} {T : List (Sg × Int)} (C : Nat) (S : Nat → Prop) (w : World) (hC : w.cell? ⟨C, 0, none⟩ = some (.map (some M))) (hM : MapAt Try.prog 38 w M (T.map sEnt)) (hSS : S C ∧ S M) :
    SeqP Try.prog 51 #[.pointer (some ⟨C, 0, none⟩)] (SgR T.length) ([] : List Sg) (fun acc => acc.Perm (T.map (·.1))) S w := by
  intro l' G J Jx W hW hS hG hJ hJx hY h0
  have hC0 := cell_up hW hC
  have hM0 : MapAt Try.prog 38 W M (T.map sEnt) := hM.heap (hW.block M hM.lt)
  obtain ⟨es, clock, hb, he, hbn, hrg⟩ := hM0.range (P := Try.prog) Try.underlying30
  have HE := Lib.hid (fun (e : MapEntry) (hm : e ∈ es.toList) => show ∃ m, e.key = sgV m from by
    have : (e.key, e.val) ∈ T.map sEnt := by rw [← he]; exact List.mem_map.2 ⟨e, hm, rfl⟩
    obtain ⟨p, hp, hpe⟩ := List.mem_map.1 this
    exact ⟨p.1, (congrArg Prod.fst hpe).symm⟩)
  have HF := Lib.hid (show es.toList.map (fun e => sgOf e.key) = T.map (·.1) by
    have := congrArg (List.map (fun p : Value × Value => sgOf p.1)) he
    simpa [List.map_map, Function.comp_def, sEnt, sgOf_sgV] using this)
  have HN := Lib.hid hbn
  have R0 := Rng.start hb
  have hMW := hM0.lt
  have J0 := (hJ []).alloc (.mapIter (some M) clock #[] clock) h0
  clear he hbn hM hC hW h0 hM0
  refine (callsIn_wide (n := 3)).1 ?_
  refine callsIn_of_wp Try.func51 rfl trivial ?_ rfl
  simp only [Try.ntmps51, List.size_toArray, List.length_cons, List.length_nil, Nat.reduceAdd, Nat.reduceSub, Array.replicate_succ, Array.replicate_zero, List.push_toArray, List.append_toArray, List.nil_append, List.cons_append]
  gi_wp2
  gi_loopw [7] (fun _ wr => ∃ (seen : Array Nat) (acc : List Sg) (G : Nat → Prop), Rng wr M W.heap.size es clock seen ∧ J acc G wr ∧ (∀ k, S k → ¬ G k) ∧ ¬ G W.heap.size ∧ RowKit.Hid (Out es seen acc) ∧ W.heap.size < wr.heap.size) (fun _ wr => rngLeft wr M W.heap.size)
  case atStart => exact ⟨#[], [], G, R0, J0, fun k hk => (hS k hk).2, (fun h => by have := hG _ h; omega), Lib.hid (Out.start es), by simp⟩
  case round =>
    obtain ⟨seen, acc, G1, R, hj, hG1, hGr, HO, hsz⟩ := hrel
    rcases R.next (P := Try.prog) HN.out 0 with ⟨hl0, hrun⟩ | ⟨e, w1, hme, hrun, R1, hb1⟩
    · have HL := Lib.hid hl0
      clear hl0
      gi_wp2
      go_end0
      exact ⟨⟨_, rfl⟩, G1, .inl ⟨acc, by rw [← HF.out]; exact HO.out.fin HL.out, hj⟩⟩
    · have hme' := mem_left hme
      obtain ⟨m, hv⟩ := HE.out e hme'.1
      have hen := R1.entry (P := Try.prog) HN.out hme'.1
      have HX := Lib.hid (HO.out.push HN.out hme'.1 hme'.2 hv)
      have hle : (acc ++ [m]).length ≤ T.length := by have := HX.out.le; rw [← List.length_map (f := fun p : Sg × Int => p.1), ← HF.out, List.length_map]; exact this
      have hvr : SgR T.length acc #[sgV m] (acc ++ [m]) := ⟨m, rfl, rfl, hle⟩
      rw [hv] at hrun hen
      have HLT := Lib.hid (left_shrinks es seen e hme)
      have HR := Lib.hid R
      have hs1 := hb1.size
      have hjw := hJ acc G1 _ _ hj (hb1.mono fun j _ e' => ⟨by omega, fun h => hGr (by rw [e'] at h; exact h)⟩)
      have E1 := RowAt.new w1 (sgC m).toArray 38
      have hJa := (hJ acc).alloc (.cells (sgC m).toArray 38) hjw
      obtain ⟨fn, tmps, assign, body, hy, hR⟩ := yieldAt_wide (m' := 2) (hY acc _ _ G1 _ hvr hJa)
      have RA := R1.up (below_alloc _ (.cells (sgC m).toArray 38))
      clear hme hme' hv R hb1 hb hle hvr hj hjw hJa
      gi_wp2_with (refine wpListIn_loadr rfl 38 (.tmp 3) rfl w1.heap.size 0 rfl (sgC m) _ E1.range Try.underlying38 rfl (by kernel_rfl) ?_)
      refine hR.mono ?_
      rintro en W3 ⟨g, rfl, hw⟩
      have R3 := RA.but hw.but (hG1 M hSS.2) hGr
      have hs3 := hw.but.size
      simp only [World.size_alloc] at hs3
      cases g with
      | true =>
        gi_wp2
        go_roundw
        case rel => exact ⟨_, _, _, R3, hw.on rfl, fun k hk => newG_not (hG1 k hk) (by have := (hS k hk).1; simp; omega), newG_not hGr (by simp; omega), HX, by omega⟩
        case measure => rw [R3.left, HR.out.left]; exact HLT.out
      | false =>
        gi_wp2
        refine bodyPost_ret (results_none rfl _ _ _) rfl ?_
        exact ⟨⟨_, rfl⟩, _, .inr ⟨_, hw.off rfl⟩⟩
theorem flatK_list {α : Type} [Inhabited α] {enc : α → List Value} {k : Nat} (hk : ∀ x, (enc x).length = k) (h0 : 0 < k) (d : Array α) : (Go.Sort.flatK enc k d).toList = d.toList.flatMap enc := by
  refine List.ext_getElem? fun t => ?_
  by_cases ht : t < d.size * k
  · have h1 : t / k < d.size := (Nat.div_lt_iff_lt_mul h0).2 ht
    have h2 : t % k < k := Nat.mod_lt _ h0
    have h3 := rec_get hk d.toList (t / k) (by simpa using h1) (t % k) h2
    rw [show t / k * k + t % k = t by rw [Nat.mul_comm]; exact Nat.div_add_mod t k] at h3
    rw [h3]
    have h4 := Go.Sort.get_flatK enc k d t ht
    rw [getElem!_pos _ _ (by simpa using ht), getElem!_pos d _ h1, getElem!_pos _ _ (by rw [hk]; exact h2)] at h4
    rw [List.getElem?_eq_getElem (by simpa using ht), List.getElem?_eq_getElem (by rw [hk]; exact h2)]
    simpa using h4
  · rw [List.getElem?_eq_none (by simpa using ht), List.getElem?_eq_none (by rw [rec_len hk]; simpa using ht)]
theorem putCells_take (F cur : Array Value) (h : F.size ≤ cur.size) : (Go.Sort.putCells id 0 F cur).toList.take F.size = F.toList := by
  refine List.ext_getElem? fun t => ?_
  by_cases ht : t < F.size
  · rw [List.getElem?_take_of_lt ht, List.getElem?_eq_getElem (by simp [Go.Sort.putCells]; omega), List.getElem?_eq_getElem (by simpa using ht)]
    simp [Go.Sort.putCells, ht]
  · rw [List.getElem?_eq_none (by simp; omega), List.getElem?_eq_none (by simpa using ht)]

abbrev Sn.WS : Type := {x : Sg // x.wf}
abbrev Sn.wsC (x : WS) : List Value := sgC x.1
def Sn.wsCmp (x y : WS) : Int := sgCmp x.1 y.1
theorem Sn.zsg_wf : zsg.wf := ⟨⟨rfl, rfl, rfl, rfl⟩, rfl⟩
instance : Inhabited WS := ⟨⟨zsg, zsg_wf⟩⟩
theorem swoS : Go.Sort.SWO (Go.Proofs.ltOf wsCmp) where
  irrefl x := by
    unfold Go.Proofs.ltOf wsCmp
    rw [decide_eq_false_iff_not, sgCmp_lt]
    exact ltS_irrefl x.1
  trans x y z h1 h2 := by
    unfold Go.Proofs.ltOf wsCmp at *
    rw [decide_eq_true_eq, sgCmp_lt] at *
    exact ltS_trans h1 h2
  ntrans x y z h1 h2 := by
    unfold Go.Proofs.ltOf wsCmp at *
    rw [decide_eq_false_iff_not, sgCmp_lt] at *
    intro h3
    rcases ltS_tri x.1 y.1 with h | h | h
    · rw [← h] at h2; exact h2 h3
    · exact h1 h
    · rcases ltS_tri y.1 z.1 with h' | h' | h'
      · rw [h'] at h1; exact h1 h3
      · exact h2 h'
      · exact ltS_irrefl _ (ltS_trans h3 (ltS_trans h' h))

/-- What the sort leaves. -/
def Sn.SortedW (acc : List WS) (v : Value) (base : Nat) (w : World) (en : Ending) (w' : World) : Prop :=
  en = .returned (.tuple #[]) ∧ ∃ acc' : List WS, acc'.Perm acc ∧ acc'.Pairwise (fun a b => ¬ ltS b.1 a.1) ∧ acc'.length = acc.length ∧ w'.ownsRow base 38 6 v acc.length (acc'.flatMap wsC) ∧ But (fun j => v.ownBlock = some j) w w'

theorem seSortF_c (g : FuncId) (hg : ∀ args w, (callFunc g args).run Try.prog w = .ok (.enter g args) w) (hcmp : ∀ x y W, Calls Try.prog g #[sgV x.1, sgV y.1] W fun e w' => e = .returned (.int .i64 (wsCmp x y)) ∧ ∃ q os', w' = Go.Sort.grow (W.drewN q) os')
    (acc : List WS) (v : Value) (base : Nat) (w : World) (hown : w.ownsRow base 38 6 v acc.length (acc.flatMap wsC)) (hl : acc.length ≤ 100000) :
    Calls Try.prog 50 #[v, .func (.func g) #[] #[]] w (SortedW acc v base w) := by
  rcases id hown.2 with ⟨rfl, h0⟩ | ⟨b, cap, cur, rfl, hbase, hb, hnc, hcm, hs, ht⟩
  · have hnil : acc = [] := List.eq_nil_of_length_eq_zero h0
    subst hnil
    refine (AnyF.slices_SortFunc_none seSort none 0 (.func (.func g) #[] #[]) w).mono ?_
    rintro e w' ⟨rfl, rfl⟩
    exact ⟨rfl, [], List.Perm.nil, List.Pairwise.nil, rfl, hown, But.refl _ _⟩
  · have hlt : b < w.heap.size := lt_of_block hb
    have hR : RowAt w b cur 38 := hb
    have hfl : (Go.Sort.flatK wsC 6 acc.toArray).toList = acc.flatMap wsC := flatK_list (enc := wsC) (k := 6) (fun _ => rfl) (by decide) acc.toArray
    have hH : Go.Sort.HoldsK wsC 6 w b 0 acc.toArray := by
      intro j hj
      have hj' : j < acc.length * 6 := by simpa using hj
      refine ⟨?_, by rw [show (0 + j : Nat) = j by omega]; exact hR.fz j⟩
      have h1 : (acc.flatMap wsC)[j]? = some (id (Go.Sort.flatK wsC 6 acc.toArray)[j]!) := by
        rw [← hfl, getElem!_pos (Go.Sort.flatK wsC 6 acc.toArray) j hj]; simp [hj']
      have := World.ownsRow.cells hown (g := b) rfl j _ h1
      simpa [Addr.add_lit] using this
    have := AnyQ.slices_SortFunc (P := Try.prog) (ρ := seSort_ren) seSort 6 Try.isAgg38 Try.sizeOf38 wsC (fun _ => rfl) (by intro x v hv; simp only [List.mem_cons, List.mem_nil_iff, or_false] at hv; rcases hv with rfl | rfl | rfl | rfl | rfl | rfl <;> rfl) wsCmp swoS g #[] b 0 cap acc.toArray w hg
      (fun m os dk hs x y => hcmp x y _) hH hlt (by simp; omega)
    refine this.mono ?_
    rintro e w' ⟨he, d', n, os, hP, hS, rfl⟩
    have hP2 : d'.toList.Perm acc := by
      have h1 := hP.2.2
      have h2 := hP.1
      rw [show acc.toArray.extract 0 acc.toArray.size = acc.toArray from Array.extract_size, ← h2, Array.extract_size] at h1
      exact h1
    have hsz : d'.size = acc.length := by have := hP.1; simpa using this
    refine ⟨he, d'.toList, hP2, ?_, by simpa using hsz, ?_, ?_⟩
    · rw [List.pairwise_iff_getElem]
      intro i j hi hj hij
      have h1 := hS i j (Nat.zero_le _) hij (by simp at hj ⊢; omega)
      rw [getElem!_pos d' _ (by simpa using hj), getElem!_pos d' _ (by simpa using hi)] at h1
      unfold Go.Proofs.ltOf wsCmp at h1
      rw [decide_eq_false_iff_not, sgCmp_lt] at h1
      simpa using h1
    · have hF : (Go.Sort.flatK wsC 6 d').toList = d'.toList.flatMap wsC := flatK_list (enc := wsC) (k := 6) (fun _ => rfl) (by decide) d'
      have hFs : (Go.Sort.flatK wsC 6 d').size = acc.length * 6 := by rw [Go.Sort.size_flatK, hsz]
      refine ⟨by rw [rec_len (sz := 6) (fun _ => rfl)]; simp [hsz], .inr ⟨b, cap, Go.Sort.putCells id 0 (Go.Sort.flatK wsC 6 d') cur, rfl, hbase, ?_, hnc, hcm, by simp [Go.Sort.putCells, hs], ?_⟩⟩
      · show ((Go.Sort.putRow id (Go.Sort.ahead w n) b 0 _).heap ++ os)[b]? = _
        rw [Array.getElem?_append_left (by simpa using hlt)]
        simp [Go.Sort.putRow, Go.Sort.mapBlock, Array.getElem?_modify, hb, Go.Sort.onCells]
      · have h1 := putCells_take (Go.Sort.flatK wsC 6 d') cur (by rw [hFs, hs]; exact Nat.mul_le_mul_right _ hnc)
        rw [hFs, hF] at h1
        exact h1
    · refine ⟨rfl, rfl, rfl, ?_, fun k hk hO => ?_⟩
      · show _ ≤ ((Go.Sort.putRow id (Go.Sort.ahead w n) b 0 _).heap ++ os).size
        simp
      · show ((Go.Sort.putRow id (Go.Sort.ahead w n) b 0 _).heap ++ os)[k]? = _
        rw [Array.getElem?_append_left (by simpa using hk)]
        have : ¬ b = k := fun e => hO (by simp [Value.ownBlock, e])
        simp [Go.Sort.putRow, Go.Sort.mapBlock, Array.getElem?_modify, this]

theorem enters_seCmp : Enters Try.prog 42 := enters_of Try.func42 (by kernel_rfl) rfl
namespace Sn
/-- The entries, in order. -/
structure SrtE (E L : List (Sg × Int)) : Prop where
  perm : L.Perm E
  lt : L.Pairwise fun p q => ltS p.1 q.1
theorem SrtE.len {E L : List (Sg × Int)} (h : SrtE E L) : L.length = E.length := h.perm.length_eq
theorem perm_attach {E : List Sg} (h : ∀ x ∈ E, x.wf) : (E.attachWith (·.wf) h).map (·.1) = E := by simp
theorem pair_tri {α : Type} {R : α → α → Prop} : ∀ {L : List α}, L.Pairwise R → ∀ {a b : α}, a ∈ L → b ∈ L → a = b ∨ R a b ∨ R b a
  | x :: L, h, a, b, ha, hb => by
    rw [List.pairwise_cons] at h
    rcases List.mem_cons.1 ha with rfl | ha' <;> rcases List.mem_cons.1 hb with rfl | hb'
    · exact .inl rfl
    · exact .inr (.inl (h.1 b hb'))
    · exact .inr (.inr (h.1 a ha'))
    · exact pair_tri h.2 ha' hb'
theorem keys_uniq {E L : List (Sg × Int)} (h : SrtE E L) {K : List Sg} (hp : K.Perm (E.map (·.1))) (hs : K.Pairwise fun a b => ¬ ltS b a) : K = L.map (·.1) := by
  have hL : (L.map (·.1)).Pairwise ltS := List.pairwise_map.2 h.lt
  have hpp : K.Perm (L.map (·.1)) := hp.trans (h.perm.map _).symm
  refine List.Perm.eq_of_pairwise (le := fun a b => ¬ ltS b a) ?_ hs ?_ hpp
  · intro a b ha hb h1 h2
    rcases pair_tri hL (hpp.mem_iff.1 ha) hb with h3 | h3 | h3
    · exact h3
    · exact (h2 h3).elim
    · exact (h1 h3).elim
  · refine hL.imp fun h1 h2 => ?_
    exact ltS_irrefl _ (ltS_trans h1 h2)
/-- What SortedFunc leaves. -/
def SrtdE (L : List (Sg × Int)) (w : World) (en : Ending) (w' : World) : Prop :=
  ∃ v : Value, en = .returned v ∧ w'.ownsRow w.heap.size 38 6 v L.length ((L.map (·.1)).flatMap sgC) ∧ Below w.heap.size w w'
end Sn
set_option maxHeartbeats 1000000 in
set_option maxRecDepth 100000 in
theorem seSorted_c {M C : Nat} {E L : List (Sg × Int)} (w : World) (hC : w.cell? ⟨C, 0, none⟩ = some (.map (some M))) (hM : SMap w M E) (hok : ∀ p ∈ E, p.1.wf) (hL : SrtE E L) (hn : E.length ≤ 4096) :
    Calls Try.prog 40 #[.func (.func seKeys1) #[] #[.pointer (some ⟨C, 0, none⟩)], .func (.func 42) #[] #[]] w (SrtdE L w) := by
  have hCl : C < w.heap.size := World.block_lt_of_cell? w ⟨C, 0, none⟩ hC
  have hMl := hM.lt
  have HC := Lib.hid (collectS_c (gf := seKeys1) (lb := #[.pointer (some ⟨C, 0, none⟩)]) enters_seKeys1 (N := E.length) (S := fun k => k = C ∨ k = M) w (seKeys1_x C _ w hC hM ⟨.inl rfl, .inr rfl⟩) (fun k hk => by rcases hk with rfl | rfl <;> assumption) (by omega))
  have HLL := Lib.hid hL
  have HOK := Lib.hid hok
  have HLn := Lib.hid hL.len
  clear hC hM hok hL
  go_enter Try.func40, Try.ntmps40
  go_wp2_with (go_at_call 49; refine HC.out.mono ?_; rintro en w1 ⟨v, acc, rfl, hp, hl, hown, hb1⟩)
  have hacc : ∀ x ∈ acc, x.wf := fun x hx => by
    obtain ⟨p, hpp, rfl⟩ := List.mem_map.1 (hp.mem_iff.1 hx)
    exact HOK.out p hpp
  obtain ⟨W, hW⟩ : ∃ W : List WS, W.map (·.1) = acc := ⟨acc.attachWith (·.wf) hacc, perm_attach hacc⟩
  have hfl : acc.flatMap sgC = W.flatMap wsC := by rw [← hW, List.flatMap_map]
  have hln : acc.length = W.length := by rw [← hW, List.length_map]
  rw [hfl, hln] at hown
  have HS := Lib.hid (seSortF_c 42 enters_seCmp (fun x y W => seCmp_c x.1 y.1 x.2 y.2 W) W v w.heap.size w1 hown (by omega))
  obtain ⟨av, cv, rfl⟩ := own_slice hown
  have HOW := Lib.hid hown
  have HPP := Lib.hid hp
  clear hown hfl HC
  go_wp2_with (go_at_call 50; refine HS.out.mono ?_; rintro en w2 ⟨rfl, acc', hp1, hs1, hn1, hown1, hb2⟩)
  go_ret
  have hu : acc'.map (·.1) = L.map (·.1) := keys_uniq HLL.out (((hp1.map _).trans (by rw [hW])).trans HPP.out) (List.pairwise_map.2 hs1)
  have hlen : W.length = L.length := by have := congrArg List.length hu; simp at this; omega
  refine ⟨_, rfl, ?_, hb1.trans (hb2.below (fun j hj => (own_of_some HOW.out hj).1) hb1.size)⟩
  rw [← hu, List.flatMap_map, ← hlen]
  exact hown1
end Go.Proofs.Ytfoncaamhleckaa
