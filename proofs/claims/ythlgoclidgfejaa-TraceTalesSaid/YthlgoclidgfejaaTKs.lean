/-
  TKeys, TSeq: several texts in one (merge.py).
-/
import Derived.Test.YthlgoclidgfejaaTraceN
import Derived.Test.YthlgoclidgfejaaMapC
import Derived.Test.YthlgoclidgfejaaNmSq
namespace Go.Proofs.Ythlgoclidgfejaa
open Go.RowKit Go.Maps Srt Trc
set_option linter.unusedSimpArgs false
set_option linter.unusedVariables false
attribute [local go_sem] Oper.semAt_some

namespace Trc
def nmOf (v : Value) : Nm := match v with
  | .agg cs => match cs.toList with
    | [.int _ a, .int _ b, .int _ c, .int _ d] => ⟨a, b, c, d⟩
    | _ => ⟨0, 0, 0, 0⟩
  | _ => ⟨0, 0, 0, 0⟩
theorem nmOf_nmV (m : Nm) : nmOf (nmV m) = m := rfl
theorem filter_push_same : ∀ (l : List MapEntry) (seen : Array Nat) (b : Nat), (∀ x ∈ l, x.born ≠ b) → (l.filter fun x => (seen.push b).contains x.born) = l.filter fun x => seen.contains x.born
  | [], _, _, _ => rfl
  | x :: l, seen, b, h => by
    have h1 := h x (by simp)
    have h2 := filter_push_same l seen b (fun y hy => h y (by simp [hy]))
    have h3 : (seen.push b).contains x.born = seen.contains x.born := by
      rw [Bool.eq_iff_iff]; simp [h1]
    rw [List.filter_cons, List.filter_cons, h2, h3]
theorem perm_push : ∀ (l : List MapEntry) (seen : Array Nat) (e : MapEntry), (l.map (·.born)).Nodup → e ∈ l → seen.contains e.born = false →
    ((l.filter fun x => (seen.push e.born).contains x.born)).Perm ((l.filter fun x => seen.contains x.born) ++ [e])
  | [], _, _, _, h, _ => by cases h
  | x :: l, seen, e, hn, he, hs => by
    simp only [List.map_cons, List.nodup_cons, List.mem_map, not_exists, not_and] at hn
    rcases List.mem_cons.1 he with rfl | he'
    · have h1 := filter_push_same l seen e.born (fun y hy => hn.1 y hy)
      have h2 : (seen.push e.born).contains e.born = true := by simp
      rw [List.filter_cons, List.filter_cons, h1, h2, hs]
      simp only [if_true, Bool.false_eq_true, if_false]
      exact (List.perm_append_comm (l₁ := [e]))
    · have h1 := perm_push l seen e hn.2 he' hs
      have hne : ¬ x.born = e.born := fun h => hn.1 e he' h.symm
      have h3 : (seen.push e.born).contains x.born = seen.contains x.born := by
        rw [Bool.eq_iff_iff]; simp [hne]
      rw [List.filter_cons, List.filter_cons, h3]
      cases seen.contains x.born with
      | true => exact h1.cons x
      | false => exact h1
/-- What has been handed out. -/
def Out (es : Array MapEntry) (seen : Array Nat) (acc : List Nm) : Prop := acc.Perm ((es.toList.filter fun e => seen.contains e.born).map fun e => nmOf e.key)
theorem Out.start (es : Array MapEntry) : Out es #[] [] := by
  unfold Out
  have : (es.toList.filter fun e => (#[] : Array Nat).contains e.born) = [] := by rw [List.filter_eq_nil_iff]; intro x _; simp
  rw [this]; exact List.Perm.nil
theorem Out.push {es : Array MapEntry} {clock : Nat} {seen : Array Nat} {acc : List Nm} {e : MapEntry} {m : Nm} (h : Out es seen acc) (hn : Born es clock) (he : e ∈ es.toList) (hs : seen.contains e.born = false) (hv : e.key = nmV m) : Out es (seen.push e.born) (acc ++ [m]) := by
  unfold Out at *
  have h1 := (perm_push es.toList seen e hn.2 he hs).map (fun e => nmOf e.key)
  rw [List.map_append, List.map_cons, List.map_nil, hv, nmOf_nmV] at h1
  exact (h.append_right [m]).trans h1.symm
theorem Out.le {es : Array MapEntry} {seen : Array Nat} {acc : List Nm} (h : Out es seen acc) : acc.length ≤ es.toList.length := by
  rw [h.length_eq, List.length_map]; exact List.length_filter_le _ _
theorem Out.fin {es : Array MapEntry} {seen : Array Nat} {acc : List Nm} (h : Out es seen acc) (hl : (leftOf es seen).size = 0) : acc.Perm (es.toList.map fun e => nmOf e.key) := by
  unfold Out at h
  rwa [List.filter_eq_self.2 (fun x hx => all_seen es seen hl x hx)] at h
end Trc
abbrev keys1 : FuncId := 47
theorem enters_keys1 : Enters Try.prog 47 := enters_of Try.func47 (by kernel_rfl) rfl
theorem keys_c (M : Nat) (w : World) : Calls Try.prog 32 #[.map (some M)] w fun en w' => en = .returned (.func (.func keys1) #[] #[.pointer (some ⟨w.heap.size, 0, none⟩)]) ∧ w.alloc (.cells #[.map (some M)] 71) = w' := by
  have hmf : ∀ (fn : Fn) (first cap : Array Value) (w : World), (Instr.makeFunc fn first cap).run Try.prog w = .ok (.func fn first cap) w := fun _ _ _ _ => rfl
  go_enter Try.func32, Try.ntmps32
  go_wp2
  go_ret
  exact ⟨rfl, rfl⟩
set_option maxHeartbeats 2000000 in
set_option maxRecDepth 100000 in
theorem keys1_x {M : Nat} {T : List (Nm × Nat)} (C : Nat) (S : Nat → Prop) (w : World) (hC : w.cell? ⟨C, 0, none⟩ = some (.map (some M))) (hM : MapAt Try.prog 39 w M (T.map tEnt)) (hSS : S C ∧ S M) :
    SeqP Try.prog 47 #[.pointer (some ⟨C, 0, none⟩)] (NmR T.length) ([] : List Nm) (fun acc => acc.Perm (T.map (·.1))) S w := by
  intro l' G J Jx W hW hS hG hJ hJx hY h0
  have hC0 := cell_up hW hC
  have hM0 : MapAt Try.prog 39 W M (T.map tEnt) := hM.heap (hW.block M hM.lt)
  obtain ⟨es, clock, hb, he, hbn, hrg⟩ := hM0.range (P := Try.prog) Try.underlying71
  have HE := Lib.hid (fun (e : MapEntry) (hm : e ∈ es.toList) => show ∃ m, e.key = nmV m from by
    have : (e.key, e.val) ∈ T.map tEnt := by rw [← he]; exact List.mem_map.2 ⟨e, hm, rfl⟩
    obtain ⟨p, hp, hpe⟩ := List.mem_map.1 this
    exact ⟨p.1, (congrArg Prod.fst hpe).symm⟩)
  have HF := Lib.hid (show es.toList.map (fun e => nmOf e.key) = T.map (·.1) by
    have := congrArg (List.map (fun p : Value × Value => nmOf p.1)) he
    simpa [List.map_map, Function.comp_def, tEnt, nmOf_nmV] using this)
  have HN := Lib.hid hbn
  have R0 := Rng.start hb
  have hMW := hM0.lt
  have J0 := (hJ []).alloc (.mapIter (some M) clock #[] clock) h0
  clear he hbn hM hC hW h0 hM0
  refine (callsIn_wide (n := 3)).1 ?_
  refine callsIn_of_wp Try.func47 rfl trivial ?_ rfl
  simp only [Try.ntmps47, List.size_toArray, List.length_cons, List.length_nil, Nat.reduceAdd, Nat.reduceSub, Array.replicate_succ, Array.replicate_zero, List.push_toArray, List.append_toArray, List.nil_append, List.cons_append]
  gi_wp2
  gi_loopw [7] (fun _ wr => ∃ (seen : Array Nat) (acc : List Nm) (G : Nat → Prop), Rng wr M W.heap.size es clock seen ∧ J acc G wr ∧ (∀ k, S k → ¬ G k) ∧ ¬ G W.heap.size ∧ RowKit.Hid (Out es seen acc) ∧ W.heap.size < wr.heap.size) (fun _ wr => rngLeft wr M W.heap.size)
  case atStart => exact ⟨#[], [], G, R0, J0, fun k hk => (hS k hk).2, (fun h => by have := hG _ h; omega), Lib.hid (Out.start es), by simp⟩
  case round =>
    obtain ⟨seen, acc, G1, R, hj, hG1, hGr, HO, hsz⟩ := hrel
    rcases R.next (P := Try.prog) HN.out 0 with ⟨hl0, hrun⟩ | ⟨e, w1, hme, hrun, R1, hb1⟩
    · have HL := Lib.hid hl0
      clear hl0
      gi_wp2
      go_end0
      exact ⟨⟨_, rfl⟩, G1, .inl ⟨acc, by rw [← HF.out]; exact HO.out.fin HL.out, hj⟩⟩
    · have hme' := mem_left hme
      obtain ⟨m, hv⟩ := HE.out e hme'.1
      have hen := R1.entry (P := Try.prog) HN.out hme'.1
      have HX := Lib.hid (HO.out.push HN.out hme'.1 hme'.2 hv)
      have hle : (acc ++ [m]).length ≤ T.length := by have := HX.out.le; rw [← List.length_map (f := fun p : Nm × Nat => p.1), ← HF.out, List.length_map]; exact this
      have hvr : NmR T.length acc #[nmV m] (acc ++ [m]) := ⟨m, rfl, rfl, hle⟩
      rw [hv] at hrun hen
      have HLT := Lib.hid (left_shrinks es seen e hme)
      have HR := Lib.hid R
      have hs1 := hb1.size
      have hjw := hJ acc G1 _ _ hj (hb1.mono fun j _ e' => ⟨by omega, fun h => hGr (by rw [e'] at h; exact h)⟩)
      have E1 := RowAt.new w1 (nmC m).toArray 39
      have hJa := (hJ acc).alloc (.cells (nmC m).toArray 39) hjw
      obtain ⟨fn, tmps, assign, body, hy, hR⟩ := yieldAt_wide (m' := 2) (hY acc _ _ G1 _ hvr hJa)
      have RA := R1.up (below_alloc _ (.cells (nmC m).toArray 39))
      clear hme hme' hv R hb1 hb hle hvr hj hjw hJa
      gi_wp2_with (refine wpListIn_loadr rfl 39 (.tmp 3) rfl w1.heap.size 0 rfl (nmC m) _ E1.range Try.underlying39 rfl (by kernel_rfl) ?_)
      refine hR.mono ?_
      rintro en W3 ⟨g, rfl, hw⟩
      have R3 := RA.but hw.but (hG1 M hSS.2) hGr
      have hs3 := hw.but.size
      simp only [World.size_alloc] at hs3
      cases g with
      | true =>
        gi_wp2
        go_roundw
        case rel => exact ⟨_, _, _, R3, hw.on rfl, fun k hk => newG_not (hG1 k hk) (by have := (hS k hk).1; simp; omega), newG_not hGr (by simp; omega), HX, by omega⟩
        case measure => rw [R3.left, HR.out.left]; exact HLT.out
      | false =>
        gi_wp2
        refine bodyPost_ret (results_none rfl _ _ _) rfl ?_
        exact ⟨⟨_, rfl⟩, _, .inr ⟨_, hw.off rfl⟩⟩
/-- What Tales hands out: the map's variable lies in block X. -/
structure TaAt (w : World) (base X C M : Nat) (l : List Ev) (T : List (Nm × Nat)) : Prop where
  var : w.cell? ⟨X, 0, none⟩ = some (.map (some M))
  ts : TS w C M base l l T
  nms : T.map (·.1) = nmsOf l
  low : base ≤ X
theorem TaAt.up {w w' : World} {base X C M : Nat} {l : List Ev} {T : List (Nm × Nat)} (h : TaAt w base X C M l T) (hb : Below w.heap.size w w') : TaAt w' base X C M l T :=
  ⟨cell_up hb h.var, h.ts.below hb, h.nms, h.low⟩
set_option maxRecDepth 100000 in
theorem trTales_c (l : List Ev) (v : Value) (n : Nat) (w : World) (hv : Sl w 16 v n (l.flatMap evC)) (hn : n ≤ 4096) (hwf : ∀ e ∈ l, e.name.wf) :
    Calls Try.prog 16 #[v] w fun en w' => ∃ X C M T, en = .returned (.func (.func 29) #[] #[.pointer (some ⟨X, 0, none⟩)]) ∧ TaAt w' w.heap.size X C M l T ∧ Below w.heap.size w w' := by
  have hmf : ∀ (fn : Fn) (first cap : Array Value) (w : World), (Instr.makeFunc fn first cap).run Try.prog w = .ok (.func fn first cap) w := fun _ _ _ _ => rfl
  have HT := Lib.hid (tales_c l v n w hv hn hwf)
  obtain ⟨a, c, rfl⟩ := hv.len
  clear hv hwf
  go_enter Try.func16, Try.ntmps16
  go_wp2_with (go_at_call 27; go_loud (refine HT.out.mono ?_; rintro en w1 ⟨C, M, T, rfl, hT, hN, hb⟩))
  go_ret
  exact ⟨_, C, M, T, rfl, ⟨cell_new w1 _ _, hT.below (below_alloc _ _), hN, hb.size⟩, hb.alloc hb.size _⟩
end Go.Proofs.Ythlgoclidgfejaa

namespace Go.Proofs.Ythlgoclidgfejaa
open Go.RowKit Go.Maps Srt Trc
set_option linter.unusedSimpArgs false
set_option linter.unusedVariables false
attribute [local go_sem] Oper.semAt_some

theorem tMixes : Try.prog.follows .mixedOrders = true := by kernel_rfl
theorem newG_mono {G' G : Nat → Prop} {A B : World} (h : ∀ j, G' j → G j) : ∀ j, newG G' A B j → newG G A B j := fun j e => by rcases e with e | e; exact .inl (h j e); exact .inr e
abbrev tlOf (l : List Ev) (x : Nm) : List Value := tlC x (firstA (evsOf x l)) (evsOf x l)
/-- The names of a node. -/
def pos (L : List Nm) : List Nm := L.filter fun x => decide (0 < x.node)
theorem pos_succ {L : List Nm} {k : Nat} (hk : k < L.length) : pos (L.take (k + 1)) = pos (L.take k) ++ if 0 < L[k].node then [L[k]] else [] := by
  unfold pos
  rw [List.take_succ_eq_append_getElem hk, List.filter_append]
  by_cases h : 0 < L[k].node <;> simp [h]
theorem pos_le (L : List Nm) (k : Nat) : ∃ r, pos L = pos (L.take k) ++ r := ⟨pos (L.drop k), by unfold pos; rw [← List.filter_append, List.take_append_drop]⟩
theorem pos_at {L : List Nm} {k : Nat} (hk : k < L.length) (h : 0 < L[k].node) : (pos L)[(pos (L.take k)).length]? = some L[k] := by
  obtain ⟨r, hr⟩ := pos_le L (k + 1)
  rw [pos_succ hk, if_pos h] at hr
  rw [hr, List.append_assoc, List.getElem?_append_right (Nat.le_refl _), Nat.sub_self]
  rfl
def tlArgs (l : List Ev) (P : List Nm) (k : Nat) : Array Value := #[.agg (tlOf l (P.getD k ⟨0, 0, 0, 0⟩)).toArray]
theorem TaAt.but {w w' : World} {base X C M : Nat} {l : List Ev} {T : List (Nm × Nat)} (h : TaAt w base X C M l T) {O : Nat → Prop} (hb : But O w w') (hX : ¬ O X) (hC : ¬ O C) (hM : ¬ O M) (hT : ∀ p ∈ T, ¬ O p.2) : TaAt w' base X C M l T :=
  ⟨hb.cell h.var hX, h.ts.but hb hM hC hT, h.nms, h.low⟩
/-- What the iterator has at hand in its rounds. -/
structure TaI (J : Nat → (Nat → Prop) → World → Prop) (S : Nat → Prop) (Y l' base X C M : Nat) (l : List Ev) (T : List (Nm × Nat)) (k : Nat) (G : Nat → Prop) (wr : World) : Prop where
  j : ∃ G', (∀ j, G' j → G j) ∧ J k G' wr
  gy : ¬ G Y
  gs : ∀ j, S j → ¬ G j
  y : Boxed wr Y 77 (.func (.yield l') #[] #[])
  f : TaAt wr base X C M l T
theorem TaI.abide {J : Nat → (Nat → Prop) → World → Prop} {S : Nat → Prop} {Y l' base X C M : Nat} {l : List Ev} {T : List (Nm × Nat)} {k B : Nat} (hJ : Abide B (J k)) (hY : Y < B) (hS : ∀ j, S j → j < B) (hSS : S X ∧ S C ∧ S M ∧ ∀ p ∈ T, S p.2) :
    Abide B (TaI J S Y l' base X C M l T k) := fun G P Q h hb =>
  ⟨h.j.imp fun G' hg => ⟨hg.1, hJ G' P Q hg.2 (hb.mono fun j _ e => ⟨e.1, fun e' => e.2 (hg.1 j e')⟩)⟩, h.gy, h.gs, hb.boxed h.y (fun e => by omega),
    h.f.but hb (fun e => by have := hS _ hSS.1; omega) (fun e => by have := hS _ hSS.2.1; omega) (fun e => by have := hS _ hSS.2.2.1; omega) (fun p hp e => by have := hS _ (hSS.2.2.2 p hp); omega)⟩
theorem TaI.step {J : Nat → (Nat → Prop) → World → Prop} {S : Nat → Prop} {Y l' base X C M : Nat} {l : List Ev} {T : List (Nm × Nat)} {k k' : Nat} {G : Nat → Prop} {P Q : World} (h : TaI J S Y l' base X C M l T k G P) (hb : But G P Q) (hS : ∀ j, S j → j < P.heap.size) (hSS : S X ∧ S C ∧ S M ∧ ∀ p ∈ T, S p.2)
    (hj : ∃ G', (∀ j, G' j → newG G P Q j) ∧ J k' G' Q) : TaI J S Y l' base X C M l T k' (newG G P Q) Q :=
  ⟨hj, newG_not h.gy h.y.lt, fun j hj => newG_not (h.gs j hj) (hS j hj), hb.boxed h.y h.gy, h.f.but hb (h.gs _ hSS.1) (h.gs _ hSS.2.1) (h.gs _ hSS.2.2.1) (fun p hp => h.gs _ (hSS.2.2.2 p hp))⟩
theorem enters_ta1 : Enters Try.prog 29 := enters_of Try.func29 (by kernel_rfl) rfl
set_option maxHeartbeats 4000000 in
set_option maxRecDepth 100000 in
theorem tales1_x (l : List Ev) (T : List (Nm × Nat)) (base X C M : Nat) (W : List WN) (hWp : (W.map (·.1)).Perm (nmsOf l)) (hWs : Sorted (ltc wnCmp) W) (hwf : ∀ e ∈ l, e.name.wf) (hT : T.length ≤ 100000) (S : Nat → Prop) (w : World) (h : TaAt w base X C M l T) (hSS : S X ∧ S C ∧ S M ∧ ∀ p ∈ T, S p.2) :
    SeqX Try.prog 29 #[.pointer (some ⟨X, 0, none⟩)] (tlArgs l (pos (W.map (·.1)))) (pos (W.map (·.1))).length S w := by
  intro l' G J Jx W0 hW hS hG hJ hJx hY h0
  have hE := h.up hW
  clear h hW
  have HWF := Lib.hid (show ∀ x ∈ nmsOf l, x.wf from fun x hx => by obtain ⟨e, he, rfl⟩ := (nmsOf_mem l x).1 hx; exact hwf e he)
  have HWP := Lib.hid hWp
  have HWS := Lib.hid hWs
  clear hWp hWs hwf
  refine (callsIn_wide (n := 3)).1 ?_
  refine callsIn_of_wp_marks Try.func29 rfl trivial ?_ rfl
  simp only [Try.ntmps29, List.size_toArray, List.length_cons, List.length_nil, Nat.reduceAdd, Nat.reduceSub, Array.replicate_succ, Array.replicate_zero, List.push_toArray, List.append_toArray, List.nil_append, List.cons_append]
  have hB1 := Boxed.new W0 77 (.func (.yield l') #[] #[])
  have hb1 := below_alloc W0 (.cells #[.func (.yield l') #[] #[]] 77)
  have hE1 := hE.up hb1
  have hvar := hE1.var
  have hb2 := below_alloc (W0.alloc (.cells #[.func (.yield l') #[] #[]] 77)) (.cells #[.map (some M)] 71)
  have hE2 := hE1.up hb2
  have hc2 := cell_new (W0.alloc (.cells #[.func (.yield l') #[] #[]] 77)) (.map (some M)) 71
  have hsz1 : (W0.alloc (.cells #[.func (.yield l') #[] #[]] 77)).heap.size = W0.heap.size + 1 := by simp
  have hCo := Lib.hid (collectN_c enters_keys1 _ (keys1_x (M := M) (T := T) (W0.heap.size + 1) (fun q => q = W0.heap.size + 1 ∨ q = M) _ (by rw [hsz1] at hc2; exact hc2) hE2.ts.map ⟨.inl rfl, .inr rfl⟩) (fun k hk => by have := hE.ts.map.lt; simp; omega) hT)
  have HE2 := Lib.hid hE2
  have hIf := Lib.hid (fun (W' : World) (hb : Below W0.heap.size W0 W') => hJ 0 G W0 W' h0 (But.of_below hb))
  clear hE hE1 hb2 hE2 hc2 h0
  refine wpIn_wide.2 ?_
  go_wp2
  go_step3
  go_wp2
  go_step3
  go_wp2_with (first
    | (go_at_call 32; go_loud (refine (keys_c M _).mono ?_; rintro en w1 ⟨rfl, rfl⟩))
    | (go_at_call 31; go_loud (refine hCo.out.mono ?_; rintro en w2 ⟨v2, acc, rfl, hp2, hl2, ho2, hbx2⟩; rw [← wns_flat acc (fun x hx => HWF.out x (by have := HE2.out.nms; rw [← this]; exact hp2.mem_iff.1 hx))] at ho2; obtain ⟨a2, c2, rfl⟩ := own_slice ho2))
    | (go_at_call 30; go_loud (refine (nameSorted_c _ _ _ _ (Sl.of_own ho2) (by omega)).mono ?_; rintro en w3 ⟨X2, v3, W3, rfl, hno, hp3, hs3, hbx3, hX3, hvb3⟩; have e1 := hp3.map (fun x : WN => x.1); rw [wns_val] at e1; have e2 : acc.Perm (nmsOf l) := HE2.out.nms ▸ hp2; obtain rfl : W3 = W := unique wnTO hs3 HWS.out (wn_perm ((e1.trans e2).trans HWP.out.symm)))))
  have hE3 := (HE2.out.up hbx2).up hbx3
  have hbW : Below W0.heap.size W0 w3 := below_up (below_up (below_up hb1 (below_alloc _ _)) hbx2) hbx3
  have hB3 : Boxed w3 W0.heap.size 77 (.func (.yield l') #[] #[]) := (But.of_below (O := fun _ => False) (below_up (below_up (below_alloc _ _) hbx2) hbx3)).boxed hB1 (fun e => e)
  have hJ0 := hIf.out w3 hbW
  have hsW := hbW.size
  have hm := hno.sl.blk (by decide)
  obtain ⟨m, hmm⟩ : ∃ m, acc.length = m := ⟨_, rfl⟩
  rw [hmm] at hno hm
  have Hln := Lib.hid (show (W3.map (·.1)).length = m from Sl.recs (cells := nmC) (sz := 4) (fun _ => rfl) (by decide) hno.sl)
  have hX2l := World.block_lt_of_cell? w3 _ hno.var
  have hX2g : W0.heap.size ≤ X2 := by have := hbx2.size; simp at this; omega
  have hG3 : ∀ j, G j → j < W0.heap.size := hG
  have hm' : 0 < m → ∀ k, v3.ownBlock = some k → W0.heap.size ≤ k ∧ k < w3.heap.size := fun h0 k hk => by
    rcases hm with h1 | h1
    · omega
    · rcases hvb3 with h2 | h2
      · omega
      · have := h2 k hk; have := hbx2.size; simp at this; exact ⟨by omega, h1 k hk⟩
  generalize hL : W3.map (·.1) = L at *
  clear hB1 hb1 hvar hbx2 hbx3 ho2 hp2 hp3 hs3 hvb3 hm e1 e2 hsz1 hCo hl2 hmm
  refine wpIn_wide.1 (wp_range (n := 3) (S := fun j => S j ∨ j = X2 ∨ (0 < m ∧ v3.ownBlock = some j)) (gf := 45) (lb := #[.pointer (some ⟨X2, 0, none⟩)]) (by first | rfl | (simp; done)) enters_nso1 (nmSorted1_x L X2 m v3 _ w3 hno ⟨.inr (.inl rfl), (Nat.eq_zero_or_pos m).elim .inl fun h => .inr fun k hk => .inr (.inr ⟨h, hk⟩)⟩) (Below.refl _ _) (fun _ => rfl)
    G (fun k h => by have := hG k h; omega) ?hS
    (fun k G wr => TaI J S W0.heap.size l' base X C M l T (pos (L.take k)).length G wr)
    (fun k a' G wr => (∃ V, a' = { tmps := #[.func (.yield l') #[] #[], .pointer (some ⟨X, 0, none⟩), .pointer (some ⟨W0.heap.size, 0, none⟩), .pointer (some ⟨V, 0, none⟩), .map (some M), .func (.func keys1) #[] #[.pointer (some ⟨W0.heap.size + 1, 0, none⟩)], .slice a2 acc.length c2, .func (.func 45) #[] #[.pointer (some ⟨X2, 0, none⟩)], nmV (L.getD k ⟨0, 0, 0, 0⟩), undef, undef, undef, undef, undef, undef, undef, undef, undef, undef, undef, undef, undef, undef, undef], defers := [] } ∧
      RowAt wr V (nmC (L.getD k ⟨0, 0, 0, 0⟩)).toArray 39 ∧ G V) ∧ TaI J S W0.heap.size l' base X C M l T (pos (L.take k)).length G wr)
    (fun c k G wr => c = .exit 0 ∧ ∃ G' j, (∀ j, G' j → G j) ∧ j < (pos L).length ∧ Jx (j + 1) G' wr)
    ?abI ?abM ?abX ⟨⟨G, fun _ h => h, hJ0⟩, (fun h => by have := hG _ h; omega), fun j h => (hS j h).2, hB3, hE3⟩ ?assign ?body ?done ?stop)
  case hS =>
    rintro q (h | rfl | ⟨h0, hq⟩)
    · exact ⟨by have := (hS q h).1; omega, (hS q h).2⟩
    · exact ⟨hX2l, fun h => by have := hG _ h; omega⟩
    · exact ⟨(hm' h0 q hq).2, fun h => by have := hG _ h; have := (hm' h0 q hq).1; omega⟩
  case abI => exact fun k => TaI.abide ((hJ _).up (by omega)) (by have := hB3.lt; omega) (fun j h => by have := (hS j h).1; omega) hSS
  case abM =>
    rintro k a' G A' B' ⟨⟨V, ha, hV, hGV⟩, h⟩ hb
    exact ⟨⟨V, ha, (hb.same V hV.lt (fun e => e.2 hGV)).trans hV, hGV⟩, TaI.abide ((hJ _).up (by omega)) (by have := hB3.lt; omega) (fun j h => by have := (hS j h).1; omega) hSS G A' B' h hb⟩
  case abX =>
    rintro c k G A' B' ⟨hc, G', m, hsub, hm, hx⟩ hb
    exact ⟨hc, G', m, hsub, hm, ((hJx _).up (by omega)) G' A' B' hx (hb.mono fun j _ e => ⟨e.1, fun e' => e.2 (hsub j e')⟩)⟩
  case assign =>
    intro l2 k G wr K hk hi hK
    simp only [nmArgs]
    gi_wp2
    have hS' : ∀ j, S j → j < wr.heap.size := fun j h => by have := (hS j h).1; have := hi.y.lt; omega
    refine hK _ _ (But.alloc _ _) ⟨⟨_, rfl, RowAt.new _ _ _, .inr ⟨Nat.le_refl _, by simp⟩⟩, hi.step (But.alloc _ _) hS' hSS ?_⟩
    obtain ⟨G', hsub, hj⟩ := hi.j
    exact ⟨G', fun j h => newG_old (hsub j h), (hJ _).alloc _ hj⟩
  case body =>
    rintro l2 k a' G wr hk hl2 _ hGl ⟨⟨V, rfl, hV, hGV⟩, hF⟩
    have hk' : k < L.length := by rw [Hln.out]; exact hk
    have hS' : ∀ j, S j → j < wr.heap.size := fun j h => by have := (hS j h).1; have := hF.y.lt; omega
    have hsuc := pos_succ hk'
    have hpat := pos_at hk'
    have hget : L.getD k ⟨0, 0, 0, 0⟩ = L[k] := by rw [List.getD_eq_getElem?_getD, List.getElem?_eq_getElem hk']; rfl
    have hwfx : L[k].wf := by
      have h1 : L[k] ∈ W3.map (·.1) := by rw [hL]; exact List.getElem_mem hk'
      obtain ⟨y, _, hy⟩ := List.mem_map.1 h1
      rw [← hy]; exact y.2
    have hinx : L[k] ∈ T.map (·.1) := by
      rw [hF.f.nms]; exact HWP.out.mem_iff.1 (List.getElem_mem hk')
    rw [hget] at hV ⊢
    clear hget
    generalize L[k] = x at *
    obtain ⟨G', hsub, hj⟩ := hF.j
    have v0 := hV.cell (i := 0) (v := .int .u32 x.node) rfl
    have y0 := hF.y.cell
    have x0 := hF.f.var
    by_cases hpos : 0 < x.node
    · have hat := hpat hpos
      rw [if_pos hpos] at hsuc
      have hlt : (pos (L.take k)).length < (pos L).length := (List.getElem?_eq_some_iff.1 hat).1
      have hpa : tlArgs l (pos L) (pos (L.take k)).length = #[.agg (tlOf l x).toArray] := by unfold tlArgs; rw [List.getD_eq_getElem?_getD, hat]; rfl
      obtain ⟨⟨xn, b⟩, hmT, he⟩ := List.mem_map.1 hinx
      simp only at he
      subst he
      have hRb := hF.f.ts.rows _ hmT
      have hlk := tlook_some (hF.f.ts.map.heap (w' := wr.drew) rfl) hwfx hmT false
      have hnew : (pos (L.take (k + 1))).length = (pos (L.take k)).length + 1 := by rw [hsuc]; simp
      have hY' := hY _ G' wr.drew hlt ((hJ _).drew hj)
      obtain ⟨fn, tmps, assign, body, hy, hR⟩ := yieldAt_round l2 (m' := 2) hY'
      rw [hpa] at hy
      have hpI : decide (0 < xn.node) = true := decide_eq_true hpos
      have HNW := Lib.hid hnew
      clear hpa hat hpat hsuc hnew hY' hinx
      gi_wp2
      refine wpIn_round_tail 12 tMixes (by kernel_rfl) (by kernel_rfl) ?_
      simp only [List.take_succ_cons, List.take_zero, List.drop_succ_cons, List.drop_zero]
      still_step
      still_step
      still_step
      still_step
      still_step
      still_step
      still_step
      refine still_load rfl 39 (.tmp 3) rfl V 0 rfl (nmC xn) _ (show wr.drew.rangeAt V 0 (nmC xn) from hV.range) Try.underlying39 rfl (by kernel_rfl) ?_
      try simp only [Act.put, List.getElem_toArray, List.getElem_cons_zero, List.getElem_cons_succ, List.setIfInBounds_toArray, List.set_cons_zero, List.set_cons_succ]
      refine still_val rfl (v := .pointer (some ⟨b, 0, none⟩)) ?lk ?_
      case lk => unfold execOp; simp only [Act.eval]; first | exact hlk | (simp [go_sem, hlk]; done)
      try simp only [Act.put, List.getElem_toArray, List.getElem_cons_zero, List.getElem_cons_succ, List.setIfInBounds_toArray, List.set_cons_zero, List.set_cons_succ]
      still_step
      still_step
      refine still_load rfl 51 (.tmp 19) rfl b 0 rfl (tlOf l xn) _ (show wr.drew.rangeAt b 0 (tlOf l xn) from hRb.range) Try.underlying51 rfl (by kernel_rfl) ?_
      try simp only [Act.put, List.getElem_toArray, List.getElem_cons_zero, List.getElem_cons_succ, List.setIfInBounds_toArray, List.set_cons_zero, List.set_cons_succ]
      refine wpStill_nil ?_
      gi_wp2
      refine hR.mono ?_
      rintro en W4 ⟨g, rfl, hw⟩
      have hb : But G wr W4 := (But.drew wr).trans (hw.but.mono fun j _ e => hsub j e)
      cases g with
      | true =>
        gi_wp2
        refine ⟨hb, hF.step hb hS' hSS ⟨_, newG_mono hsub, ?_⟩⟩
        rw [HNW.out]; exact hw.on rfl
      | false =>
        gi_wp2
        exact ⟨hb, rfl, _, _, newG_mono hsub, hlt, hw.off rfl⟩
    · rw [if_neg hpos, List.append_nil] at hsuc
      have HSU := Lib.hid hsuc
      have hpI : decide (0 < x.node) = false := decide_eq_false hpos
      clear hsuc hpat
      gi_wp2
      refine wpIn_round_tail 12 tMixes (by kernel_rfl) (by kernel_rfl) ?_
      simp only [List.take_succ_cons, List.take_zero, List.drop_succ_cons, List.drop_zero]
      repeat still_step
      refine wpStill_nil ?_
      gi_wp2
      refine ⟨(fun _ h => by cases h), ?_⟩
      gi_wp2
      refine ⟨But.drew _, hF.step (But.drew _) hS' hSS ⟨G', fun j h => newG_old (hsub j h), ?_⟩⟩
      rw [HSU.out]; exact (hJ _).drew hj
  case done =>
    rintro D G wr hD hGD hF hK
    obtain ⟨G', hsub, hj⟩ := hF.j
    have hall : L.take m = L := List.take_of_length_le (by rw [Hln.out]; exact Nat.le_refl _)
    rw [hall] at hj
    go_wp2
    rw [hL]
    refine ⟨by simp, .inl ⟨_, _, rfl, run_takeDeferred hK, ?_⟩⟩
    exact ⟨_, results_none rfl _ _ _, ⟨_, rfl⟩, G', .inl ((hJ _).putObj _ hj (by omega) (fun h => hGD (hsub _ h)))⟩
  case stop =>
    rintro D c' k G wr hD hGD hk ⟨rfl, G', m, hsub, hm, hx⟩ hK
    refine wpIn_wide.2 ?_
    go_wp2
    rw [hL]
    refine ⟨by simp, .inl ⟨_, _, rfl, run_takeDeferred hK, ?_⟩⟩
    exact ⟨_, results_none rfl _ _ _, ⟨_, rfl⟩, G', .inr ⟨m, hm, (hJx _).putObj _ hx (by omega) (fun h => hGD (hsub _ h))⟩⟩
end Go.Proofs.Ythlgoclidgfejaa
