/-
  The contracts of maps.Equal and of Same.
-/
import Derived.Test.YtbeccnlcidokmaaVolN
import Derived.Test.YtbeccnlcidokmaaMapC
namespace Go.Proofs.Ytbeccnlcidokmaa
open Go.RowKit Go.Maps Vol
set_option linter.unusedSimpArgs false
set_option linter.unusedVariables false

theorem row_neq (c d : Ct) (n m : Int) (w : World) : (binOp .neq 52 (rowV c n) (rowV d m)).run Try.prog w = .ok (.bool (!decide ((d, m) = (c, n)))) w := by
  obtain ⟨c1, c2, c3, c4, c5⟩ := c
  obtain ⟨d1, d2, d3, d4, d5⟩ := d
  by_cases h1 : c1 = d1
  · subst h1
    by_cases h2 : c2 = d2
    · subst h2
      by_cases h3 : c3 = d3
      · subst h3
        by_cases h4 : c4 = d4
        · subst h4
          by_cases h5 : c5 = d5
          · subst h5
            by_cases h6 : n = m
            · subst h6; simp [go_sem]
            · have h6' : ¬ m = n := fun e => h6 e.symm
              simp [go_sem, h6, h6']
          · have h5' : ¬ d5 = c5 := fun e => h5 e.symm
            simp [go_sem, h5, h5']
        · have h5' : ¬ d4 = c4 := fun e => h4 e.symm
          simp [go_sem, h4, h5']
      · have h5' : ¬ d3 = c3 := fun e => h3 e.symm
        simp [go_sem, h3, h5']
    · have h5' : ¬ d2 = c2 := fun e => h2 e.symm
      simp [go_sem, h2, h5']
  · have h5' : ¬ d1 = c1 := fun e => h1 e.symm
    simp [go_sem, h1, h5']

namespace Vol
theorem get_key {E : List (Ct × Int)} {c : Ct} {q : Ct × Int} (h : get E c = some q) : lk E c = q := by unfold lk; rw [h]; rfl
end Vol

set_option maxHeartbeats 4000000 in
set_option maxRecDepth 100000 in
theorem vEqual_c {M1 M2 : Nat} {E1 E2 : List (Ct × Int)} (w : World) (h1 : VMap w M1 E1) (h2 : VMap w M2 E2) (hok : ∀ p ∈ E1, p.1.Ok) :
    Calls Try.prog 26 #[.map (some M1), .map (some M2)] w (Ret (.bool (eqB E1 E2)) w) := by
  have l1 := h1.len Try.underlying45 3
  have l2 := h2.len Try.underlying45 3
  rw [List.length_map] at l1 l2
  obtain ⟨es, clock, hb, he, hbn, hrg⟩ := h1.range Try.underlying45
  have HE := Lib.hid (fun (e : MapEntry) (hm : e ∈ es.toList) => show ∃ p ∈ E1, e.key = keyV p.1 ∧ e.val = rowV p.1 p.2 by
    have : (e.key, e.val) ∈ E1.map vEnt := by rw [← he]; exact List.mem_map.2 ⟨e, hm, rfl⟩
    obtain ⟨p, hp, hpe⟩ := List.mem_map.1 this
    exact ⟨p, hp, (congrArg Prod.fst hpe).symm, (congrArg Prod.snd hpe).symm⟩)
  have HI := Lib.hid (fun (p : Ct × Int) (hm : p ∈ E1) => show ∃ e ∈ es.toList, e.key = keyV p.1 ∧ e.val = rowV p.1 p.2 by
    have : vEnt p ∈ es.toList.map (fun e => (e.key, e.val)) := by rw [he]; exact List.mem_map.2 ⟨p, hm, rfl⟩
    obtain ⟨e, hp, hpe⟩ := List.mem_map.1 this
    exact ⟨e, hp, congrArg Prod.fst hpe, congrArg Prod.snd hpe⟩)
  have HO := Lib.hid hok
  have HN := Lib.hid hbn
  clear he hok hbn
  generalize hres : eqB E1 E2 = res
  have RES := Lib.hid hres
  clear hres
  by_cases hsz : E1.length = E2.length
  · have hsz' : (E1.length : Int) = (E2.length : Int) := by omega
    have R0 := Rng.start hb
    have h20 := h2.heap (heap_alloc_old w (.mapIter (some M1) clock #[] clock) h2.lt)
    have hB0 := below_alloc w (.mapIter (some M1) clock #[] clock)
    have HB := Lib.hid hB0
    clear hB0
    have hM1 := (Array.getElem?_eq_some_iff.1 hb).1
    have hM2 := h2.lt
    clear h1
    go_enter Try.func26, Try.ntmps26
    go_wp2
    go_loopw [18] (fun _ wr => ∃ (seen : Array Nat), Rng wr M1 w.heap.size es clock seen ∧ VMap wr M2 E2 ∧ Below w.heap.size w wr ∧ RowKit.Hid (∀ e ∈ es.toList, seen.contains e.born = true → ∃ p ∈ E1, e.key = keyV p.1 ∧ e.val = rowV p.1 p.2 ∧ get E2 p.1 = some p)) (fun _ wr => rngLeft wr M1 w.heap.size)
    case atStart => exact ⟨#[], R0, h20, HB.out, Lib.hid (fun e _ h => by simp at h)⟩
    case round =>
      obtain ⟨seen, R, h2r, hBr, HG⟩ := hrel
      rcases R.next (P := Try.prog) HN.out 0 with ⟨hl0, hrun⟩ | ⟨e, w1, hme, hrun, R1, hb1⟩
      · have HL := Lib.hid hl0
        clear hl0
        go_wp2
        go_ret
        refine ⟨retB ?_, hBr⟩
        rw [← RES.out]
        unfold eqB
        symm
        rw [Bool.and_eq_true, decide_eq_true_eq, List.all_eq_true]
        refine ⟨hsz, fun p hp => decide_eq_true ?_⟩
        obtain ⟨e, hm, h3, h4⟩ := HI.out p hp
        obtain ⟨q, hq, h5, h6, h7⟩ := HG.out e hm (all_seen es seen HL.out e hm)
        have : q = p := by
          have h8 := h6.symm.trans h4
          simp [rowV, rowC] at h8
          obtain ⟨⟨q1, q2, q3, q4, q5⟩, qn⟩ := q
          obtain ⟨⟨p1, p2, p3, p4, p5⟩, pn⟩ := p
          simp at h8 ⊢
          simp [h8]
        rw [← this]; exact h7
      · have hme' := mem_left hme
        obtain ⟨p, hp, hk, hv⟩ := HE.out e hme'.1
        have hen := R1.entry (P := Try.prog) HN.out hme'.1
        have HK := Lib.hid hk
        have HV := Lib.hid hv
        rw [hk, hv] at hrun hen
        have h2w := h2r.heap (hb1.same M2 h2r.lt (by omega))
        have hlt := left_shrinks es seen e hme
        have HLT := Lib.hid hlt
        have HM := Lib.hid hme'
        replace R := Lib.hid R
        have HB1 := Lib.hid (hBr.trans (hb1.below (fun k hk => by omega) hBr.size))
        clear hk hv hme hme' hlt hBr hb1 hb hrg
        have hc := HO.out p hp
        have hup : VMap ((w1.alloc (.cells (keyC p.1).toArray 55)).alloc (.cells (rowC p.1 p.2).toArray 52)) M2 E2 := (h2w.heap (heap_alloc_old _ _ h2w.lt)).heap (heap_alloc_old _ _ (by have := h2w.lt; simp; omega))
        have hl := vlook hup hc true
        simp only [if_true] at hl
        cases hg : Vol.get E2 p.1 with
        | none =>
          have HBAD := Lib.hid (show eqB E1 E2 = false by
            unfold eqB
            rw [Bool.and_eq_false_iff]
            right
            rw [List.all_eq_false]
            exact ⟨p, hp, by rw [hg]; simp⟩)
          rw [hg] at hl
          simp only [Option.isSome_none] at hl
          clear hg
          go_wp2_with (first
            | (refine wpList_look rfl 45 (.tmp 22) (.tmp 23) true rfl (mv := .map (some M2)) (iv := keyV p.1) rfl rfl hl ?_))
          go_ret
          exact ⟨retB (by rw [← RES.out, HBAD.out]), ((HB1.out.alloc HB1.out.size _).alloc (by have := HB1.out.size; simp; omega) _).alloc (by have := HB1.out.size; simp; omega) _⟩
        | some q =>
          rw [get_key hg, hg] at hl
          simp only [Option.isSome_some] at hl
          have hq := row_neq p.1 q.1 p.2 q.2
          by_cases hqp : q = p
          · subst hqp
            have HG1 := Lib.hid hg
            clear hg
            simp only [decide_true, Bool.not_true] at hq
            go_wp2_with (first
              | (refine wpList_look rfl 45 (.tmp 22) (.tmp 23) true rfl (mv := .map (some M2)) (iv := keyV q.1) rfl rfl hl ?_))
            have hB3 : Below w1.heap.size w1 (((w1.alloc (.cells (keyC q.1).toArray 55)).alloc (.cells (rowC q.1 q.2).toArray 52)).alloc (.cells (rowC q.1 q.2).toArray 52)) := ((below_alloc _ _).alloc (by simp) _).alloc (by simp; omega) _
            go_roundw
            case rel => exact ⟨_, R1.up hB3, h2w.heap (hB3.block _ h2w.lt), below_up HB1.out hB3, Lib.hid (fun x hx hs => by
              rw [Array.contains_push, Bool.or_eq_true] at hs
              rcases hs with hs | hs
              · exact HG.out x hx hs
              · have hxe : x.born = e.born := by simpa using hs
                have := born_inj HN.out.2 hx HM.out.1 hxe
                subst this
                exact ⟨q, hp, HK.out, HV.out, HG1.out⟩)⟩
            case measure => rw [(R1.up hB3).left, R.out.left]; exact HLT.out
          · have HBAD := Lib.hid (show eqB E1 E2 = false by
              unfold eqB
              rw [Bool.and_eq_false_iff]
              right
              rw [List.all_eq_false]
              exact ⟨p, hp, by rw [hg]; simpa using hqp⟩)
            have hne : decide ((q.1, q.2) = (p.1, p.2)) = false := decide_eq_false hqp
            simp only [hne, Bool.not_false] at hq
            clear hg
            go_wp2_with (first
              | (refine wpList_look rfl 45 (.tmp 22) (.tmp 23) true rfl (mv := .map (some M2)) (iv := keyV p.1) rfl rfl hl ?_))
            go_ret
            exact ⟨retB (by rw [← RES.out, HBAD.out]), ((HB1.out.alloc HB1.out.size _).alloc (by have := HB1.out.size; simp; omega) _).alloc (by have := HB1.out.size; simp; omega) _⟩
  · have hne : ¬ ((E1.length : Int) = (E2.length : Int)) := by omega
    go_enter Try.func26, Try.ntmps26
    go_wp2
    go_ret
    exact ⟨retB (by rw [← RES.out]; simp [eqB, hsz]), Below.refl _ _⟩

set_option maxRecDepth 100000 in
theorem vSame_c {L1 M1 L2 M2 : Nat} {E1 E2 : List (Ct × Int)} (w : World) (h1 : Led w L1 M1 E1) (h2 : Led w L2 M2 E2) (hok : ∀ p ∈ E1, p.1.Ok) :
    Calls Try.prog 13 #[.pointer (some ⟨L1, 0, none⟩), .pointer (some ⟨L2, 0, none⟩)] w (Ret (.bool (eqB E1 E2)) w) := by
  have HO := Lib.hid hok
  clear hok
  go_enter Try.func13, Try.ntmps13
  have T1 := Lib.hid True.intro
  have HB := Lib.hid (Below.refl w.heap.size w)
  go_wp2_with (go_at_call 22; first
    | (have T2 := T1; clear T2 T1; refine (vNone_c _ h1).mono ?_; rintro en w1 ⟨rfl, hb⟩; replace h2 := h2.below hb; replace h1 := h1.below hb; replace HB := Lib.hid hb; clear hb)
    | (refine (vNone_c _ h2).mono ?_; rintro en w2 ⟨rfl, hb2⟩; replace h2 := h2.below hb2; replace h1 := h1.below hb2; replace HB := Lib.hid (below_up HB.out hb2); clear hb2))
  refine wp_region_pi [(0, false), (1, false), (2, false), (3, false), (4, false), (5, false), (6, false), (7, false), (8, true), (9, false)] (by kernel_rfl) (by kernel_rfl) (by kernel_rfl) rfl (fun _ _ d _ _ h => by cases d <;> exact h) (fun Wd hBd => ?_)
  try simp only [Act.put, List.getElem_toArray, List.getElem_cons_zero, List.getElem_cons_succ, List.setIfInBounds_toArray, List.set_cons_zero, List.set_cons_succ]
  have h3 := h1.below hBd
  have h4 := h2.below hBd
  have c3 : ∀ w', Below Wd.heap.size Wd w' → w'.cell? ⟨L1, 0, none⟩ = some (.map (some M1)) := fun w' h => cell_up h (h3.var.cell (i := 0) rfl)
  have c4 : ∀ w', Below Wd.heap.size Wd w' → w'.cell? ⟨L2, 0, none⟩ = some (.map (some M2)) := fun w' h => cell_up h (h4.var.cell (i := 0) rfl)
  refine pi_q (v := ?_) rfl (by rfl) ?_ ?_
  rotate_left
  · intro w' hBw'
    first | (go_simp; done) | (go_simp; with_reducible rfl)
  try simp only [Act.put, List.getElem_toArray, List.getElem_cons_zero, List.getElem_cons_succ, List.setIfInBounds_toArray, List.set_cons_zero, List.set_cons_succ]
  refine pi_q (v := ?_) rfl (by rfl) ?_ ?_
  rotate_left
  · intro w' hBw'
    first | (go_simp; done) | (go_simp; with_reducible rfl)
  try simp only [Act.put, List.getElem_toArray, List.getElem_cons_zero, List.getElem_cons_succ, List.setIfInBounds_toArray, List.set_cons_zero, List.set_cons_succ]
  refine pi_q (v := ?_) rfl (by rfl) ?_ ?_
  rotate_left
  · intro w' hBw'
    first | (go_simp; done) | (go_simp; with_reducible rfl)
  try simp only [Act.put, List.getElem_toArray, List.getElem_cons_zero, List.getElem_cons_succ, List.setIfInBounds_toArray, List.set_cons_zero, List.set_cons_succ]
  refine pi_q (v := ?_) rfl (by rfl) ?_ ?_
  rotate_left
  · intro w' hBw'
    first | (go_simp; done) | (go_simp; with_reducible rfl)
  try simp only [Act.put, List.getElem_toArray, List.getElem_cons_zero, List.getElem_cons_succ, List.setIfInBounds_toArray, List.set_cons_zero, List.set_cons_succ]
  refine pi_q (v := ?_) rfl (by rfl) ?_ ?_
  rotate_left
  · intro w' hBw'
    first | (go_simp; done) | (go_simp; with_reducible rfl)
  try simp only [Act.put, List.getElem_toArray, List.getElem_cons_zero, List.getElem_cons_succ, List.setIfInBounds_toArray, List.set_cons_zero, List.set_cons_succ]
  refine pi_q (v := ?_) rfl (by rfl) ?_ ?_
  rotate_left
  · intro w' hBw'
    first | (go_simp; done) | (go_simp; with_reducible rfl)
  try simp only [Act.put, List.getElem_toArray, List.getElem_cons_zero, List.getElem_cons_succ, List.setIfInBounds_toArray, List.set_cons_zero, List.set_cons_succ]
  refine pi_q (v := ?_) rfl (by rfl) ?_ ?_
  rotate_left
  · intro w' hBw'
    first | (go_simp; done) | (go_simp; with_reducible rfl)
  try simp only [Act.put, List.getElem_toArray, List.getElem_cons_zero, List.getElem_cons_succ, List.setIfInBounds_toArray, List.set_cons_zero, List.set_cons_succ]
  refine pi_q (v := ?_) rfl (by rfl) ?_ ?_
  rotate_left
  · intro w' hBw'
    first | (go_simp; done) | (go_simp; with_reducible rfl)
  try simp only [Act.put, List.getElem_toArray, List.getElem_cons_zero, List.getElem_cons_succ, List.setIfInBounds_toArray, List.set_cons_zero, List.set_cons_succ]
  refine pi_c rfl (by rfl) (fun K hK => ?_)
  go_simp
  refine (vEqual_c _ h3.map h4.map HO.out).mono ?_
  rintro en w5 ⟨rfl, hb5⟩
  go_wp2_with fail
  refine hK.out _ _ hb5 ?_
  clear hK K
  try simp only [Act.put, List.getElem_toArray, List.getElem_cons_zero, List.getElem_cons_succ, List.setIfInBounds_toArray, List.set_cons_zero, List.set_cons_succ]
  refine pi_q (v := ?_) rfl (by rfl) ?_ ?_
  rotate_left
  · intro w' hBw'
    first | (go_simp; done) | (go_simp; with_reducible rfl)
  try simp only [Act.put, List.getElem_toArray, List.getElem_cons_zero, List.getElem_cons_succ, List.setIfInBounds_toArray, List.set_cons_zero, List.set_cons_succ]
  refine pi_nil ?_
  go_wp2
  go_ret
  exact ⟨rfl, below_up (below_up HB.out hBd) hb5⟩
end Go.Proofs.Ytbeccnlcidokmaa
