/-
  CbY: several texts in one (bundle.py).
-/
import Derived.Test.YtjenohodgpmchaaDoorCbK32
import Derived.Test.YtjenohodgpmchaaDoorCbK22
namespace Go.Proofs.YtjenohodgpmchaaDoor
open Go.RowKit Go.Maps Cb
set_option linter.unusedSimpArgs false
set_option linter.unusedVariables false
section
variable {P : Program} {ops : Array Oper} {Q : Exit → Act → World → Prop}
/-- A call of a function by a value that is one. -/
theorem exec_callV {o : Oper} {a : Act} {w : World} {f : FuncId} {z : Operand} {xs : Array Operand} {ts : Array TypeId} (ho : o.op = .call { callee := .value z, args := xs, argTypes := ts }) (hz : a.eval z = .func (.func f) #[] #[]) {args : List Value} (hx : xs.toList.map a.eval = args)
    (he : Enters P f) : (execOp a.eval o).run P w = .ok (.enter f args.toArray) w := by
  have e : xs.map a.eval = args.toArray := by rw [← hx, ← Array.toList_map]
  unfold execOp
  simp only [ho, resolve, Sem.run_bind]
  rw [e, hz]
  simp only [Deferred.ofValue, Sem.run_pure, Result.andThen_ok, invoke]
  rw [Array.append_empty, Array.empty_append]
  exact he _ _
theorem pi_callV {i : Nat} {o : Oper} {r : List (Nat × Bool)} {a : Act} {w : World} (hi : ops[i]? = some o) (hw : Region.wanted o (yielded ops a.tmps) = true)
    {f : FuncId} {z : Operand} {xs : Array Operand} {ts : Array TypeId} {args : List Value} {R : Ending → World → Prop} (hc : Calls P f args.toArray w R)
    (he : Enters P f) (ho : o.op = .call { callee := .value z, args := xs, argTypes := ts }) (hz : a.eval z = .func (.func f) #[] #[]) (hx : xs.toList.map a.eval = args) (h : ∀ e w', R e w' → ∃ v, e = .returned v ∧ Below w.heap.size w w' ∧ wpPi P ops Q r (a.put o.dst v) w') : wpPi P ops Q ((i, true) :: r) a w :=
  ⟨o, hi, hw, by
    unfold Oper.wp
    rw [exec_callV ho hz hx he]
    refine Calls.mono hc fun e w' hr => ?_
    obtain ⟨v, rfl, hb, hk⟩ := h e w' hr
    exact ⟨hb, hk⟩⟩
end
theorem flat1 (a : List UInt8) (ls : List (List UInt8)) : ([a] ++ ls).flatten = a ++ ls.flatten := by simp
theorem below_but {w w1 w2 : World} {O : Nat → Prop} (h : Below w.heap.size w w1) (hb : But O w1 w2) (hO : ∀ k, O k → w.heap.size + 1 ≤ k) : Below w.heap.size w w2 := h.trans (hb.below (fun k hk => by have := hO k hk; omega) h.size)
theorem eb_one {w : World} {vs : List Value} {ls : List (List UInt8)} (h : EB w vs ls) : ∀ u ∈ vs, u.oneCell' = true := by
  intro u hu
  obtain ⟨i, hi, rfl⟩ := List.getElem_of_mem hu
  have hl := h.len
  obtain ⟨b, h3⟩ := h.each i vs[i] ls[i] (List.getElem?_eq_getElem hi) (List.getElem?_eq_getElem (by omega))
  obtain ⟨a, c, e⟩ := own_slice h3
  rw [e]; rfl
theorem own_size {w : World} {base : Nat} {e : TypeId} {sz : Nat} {a : Addr} {n c : Nat} {xs : List Value} (h : w.ownsRow base e sz (.slice (some a) n c) n xs) : base ≤ w.heap.size := by
  have := own_of_some h rfl
  omega
theorem eb_app_but {w w' : World} {u v : Value} {p : List UInt8} {vs : List Value} {ls : List (List UInt8)} {base base2 sz n : Nat} {xs : List Value} (hu : w.ownsRow base 5 1 u p.length (by8 p)) (hE : EB w vs ls) (ho : w.ownsRow base2 22 sz v n xs) (hb : But (fun k => v.ownBlock = some k) w w') : EB w' ([u] ++ vs) ([p] ++ ls) := by
  refine ⟨by simp [hE.len], fun i x l h1 h2 => ?_⟩
  have hk : ∃ b, w.ownsRow b 5 1 x l.length (by8 l) := by
    cases i with
    | zero => simp at h1 h2; subst h1 h2; exact ⟨_, hu⟩
    | succ i => exact hE.each i x l (by simpa using h1) (by simpa using h2)
  obtain ⟨b, h3⟩ := hk
  exact ⟨b, own_but h3 hb (fun k hk => (own_ty h3).ne ho (by decide) k hk)⟩
set_option maxHeartbeats 4000000 in
set_option maxRecDepth 100000 in
theorem write3_c (S : Nat → Prop) (x : It) (r : Rw) (w : World) (hr : ItR S w x r) (hcx : cnt x ≤ 1000000) (hk : x.k = 3) : Calls Tryd.prog 65 #[rwV r] w (Byt x w) := by
  obtain ⟨k1, n1, ba1, bn1, bc1, s1, la1, ln1, lc1, rfl⟩ := hr.shape
  obtain ⟨rows, p⟩ := hr.parts
  have hB1 := below_alloc w (.cells (rwC ⟨k1, n1, .slice ba1 bn1 bc1, s1, .slice la1 ln1 lc1⟩).toArray 28)
  have e1 := rangeAt_new w (rwC ⟨k1, n1, .slice ba1 bn1 bc1, s1, .slice la1 ln1 lc1⟩) 28 (0, 0)
  have hby := bytesOf_eq x
  rw [hk] at hby
  simp only [show ¬ ((3 : Int) = 1) by decide, show ¬ ((3 : Int) = 2) by decide, if_false, if_true] at hby
  have hbl : s1.size ≤ 1000000 := by have := p.s; cases x; simp only [cnt, It.s] at *; subst this; omega
  rw [← (show s1 = x.s from p.s)] at hby
  have Hby := Lib.hid hby
  clear p hr hby hk hcx
  go_enter Tryd.func65, Tryd.ntmps65
  go_wp2
  refine wp_region_pt (fun _ => False) (.q 0 (.q 1 (.q 2 (.q 3 (.q 5 (.q 6 (.f 4 (.c 7 (.c 8 (.c 9 (.q 10 .done)))) 7 (.c 4 (.c 8 (.c 9 (.q 10 .done))))))))))) (by kernel_rfl) (by kernel_rfl) (by kernel_rfl) (by decide) (fun _ _ d _ _ h => by cases d <;> exact h) (fun Wd hBd => ?_)
  try simp only [Act.put, List.getElem_toArray, List.getElem_cons_zero, List.getElem_cons_succ, List.setIfInBounds_toArray, List.set_cons_zero, List.set_cons_succ]
  have c1 : ∀ w', But (fun _ => False) Wd w' → w'.cell? ⟨w.heap.size, 0 + 3, none⟩ = some (.string s1) := fun w' h => h.cell (rangeAt_up hBd e1 3 _ rfl) (fun h => h)
  have hlen : s1.data.size = s1.size := rfl
  refine pt_q (v := ?_) rfl (by rfl) ?_ ?_
  rotate_left
  · intro w' hBw'
    first | (go_simp; done) | (go_simp; with_reducible rfl)
  try simp only [Act.put, List.getElem_toArray, List.getElem_cons_zero, List.getElem_cons_succ, List.setIfInBounds_toArray, List.set_cons_zero, List.set_cons_succ]
  refine pt_q (v := ?_) rfl (by rfl) ?_ ?_
  rotate_left
  · intro w' hBw'
    first | (go_simp; done) | (go_simp; with_reducible rfl)
  try simp only [Act.put, List.getElem_toArray, List.getElem_cons_zero, List.getElem_cons_succ, List.setIfInBounds_toArray, List.set_cons_zero, List.set_cons_succ]
  refine pt_q (v := ?_) rfl (by rfl) ?_ ?_
  rotate_left
  · intro w' hBw'
    first | (go_simp; done) | (go_simp; with_reducible rfl)
  try simp only [Act.put, List.getElem_toArray, List.getElem_cons_zero, List.getElem_cons_succ, List.setIfInBounds_toArray, List.set_cons_zero, List.set_cons_succ]
  refine pt_q (v := .int .u64 (s1.size : Int)) rfl (by rfl) (fun w' hBw' => by go_simp; exact wrap_u64 _ hbl) ?_
  try simp only [Act.put, List.getElem_toArray, List.getElem_cons_zero, List.getElem_cons_succ, List.setIfInBounds_toArray, List.set_cons_zero, List.set_cons_succ]
  refine pt_q (v := ?_) rfl (by rfl) ?_ ?_
  rotate_left
  · intro w' hBw'
    first | (go_simp; done) | (go_simp; with_reducible rfl)
  try simp only [Act.put, List.getElem_toArray, List.getElem_cons_zero, List.getElem_cons_succ, List.setIfInBounds_toArray, List.set_cons_zero, List.set_cons_succ]
  refine pt_q (v := ?_) rfl (by rfl) ?_ ?_
  rotate_left
  · intro w' hBw'
    first | (go_simp; done) | (go_simp; with_reducible rfl)
  try simp only [Act.put, List.getElem_toArray, List.getElem_cons_zero, List.getElem_cons_succ, List.setIfInBounds_toArray, List.set_cons_zero, List.set_cons_succ]
  refine pt_f ?_ ?_
  · refine pt_call rfl (by rfl) (head_c 3 s1.size Wd (by decide) (by decide) (by omega) (by omega)) enters_head (by rfl) (by kernel_rfl) ?_
    rintro en wA ⟨v1, rfl, ho1, hb1⟩
    obtain ⟨a1, c1', rfl⟩ := own_slice ho1
    refine ⟨_, rfl, But.of_below hb1, ?_⟩
    try simp only [Act.put, List.getElem_toArray, List.getElem_cons_zero, List.getElem_cons_succ, List.setIfInBounds_toArray, List.set_cons_zero, List.set_cons_succ]
    refine pt_c ?_
    obtain ⟨cS, wS, hrunS, hsS, hbS⟩ := str_bytes (P := Tryd.prog) wA (src := 9) (dst := 22) s1 Tryd.underlying9 Tryd.underlying22 Tryd.underlying5 (by simp only [maxLen]; omega)
    refine pt_step rfl (by rfl) (fun K hK => ?_)
    go_simp
    refine hK.out _ _ (But.of_below hbS) ?_
    clear hK K
    try simp only [Act.put, List.getElem_toArray, List.getElem_cons_zero, List.getElem_cons_succ, List.setIfInBounds_toArray, List.set_cons_zero, List.set_cons_succ]
    have hu := (Sl.of_own ho1).up hbS
    have hv := hsS
    have hBW := below_up (below_up (below_up hB1 hBd) hb1) hbS
    refine pt_c ?_
    refine pt_step rfl (by rfl) (fun K hK => ?_)
    go_simp
    refine hK.out _ _ (But.alloc _ _) ?_
    clear hK K
    try simp only [Act.put, List.getElem_toArray, List.getElem_cons_zero, List.getElem_cons_succ, List.setIfInBounds_toArray, List.set_cons_zero, List.set_cons_succ]
    refine pt_c ?_
    refine pt_call rfl (by rfl) (join_c [headB 3 s1.size, s1.data.toList] _ _ _ _ (slB2 (T := 22) hu hv rfl rfl _ rfl) (by omega) (by have := headB_len 3 s1.size; simp; omega)) enters_join (by rfl) (by kernel_rfl) ?_
    rintro en wJ ⟨v2, rfl, ho2, hb2⟩
    refine ⟨_, rfl, But.of_below hb2, ?_⟩
    try simp only [Act.put, List.getElem_toArray, List.getElem_cons_zero, List.getElem_cons_succ, List.setIfInBounds_toArray, List.set_cons_zero, List.set_cons_succ]
    refine pt_q (v := ?_) rfl (by rfl) ?_ ?_
    rotate_left
    · intro w' hBw'
      first | (go_simp; done) | (go_simp; with_reducible rfl)
    try simp only [Act.put, List.getElem_toArray, List.getElem_cons_zero, List.getElem_cons_succ, List.setIfInBounds_toArray, List.set_cons_zero, List.set_cons_succ]
    refine pt_done ?_
    go_wp2
    go_ret
    rw [flat2] at ho2
    refine ⟨_, rfl, ?_, below_up (below_up hBW (below_alloc _ _)) hb2⟩
    rw [Hby.out]
    exact own_down ho2 ((below_up hBW (below_alloc _ _)).size)
  · obtain ⟨cS, wS, hrunS, hsS, hbS⟩ := str_bytes (P := Tryd.prog) Wd (src := 9) (dst := 22) s1 Tryd.underlying9 Tryd.underlying22 Tryd.underlying5 (by simp only [maxLen]; omega)
    refine pt_step rfl (by rfl) (fun K hK => ?_)
    go_simp
    refine hK.out _ _ (But.of_below hbS) ?_
    clear hK K
    try simp only [Act.put, List.getElem_toArray, List.getElem_cons_zero, List.getElem_cons_succ, List.setIfInBounds_toArray, List.set_cons_zero, List.set_cons_succ]
    refine pt_c ?_
    refine pt_call rfl (by rfl) (head_c 3 s1.size wS (by decide) (by decide) (by omega) (by omega)) enters_head (by rfl) (by kernel_rfl) ?_
    rintro en wA ⟨v1, rfl, ho1, hb1⟩
    obtain ⟨a1, c1', rfl⟩ := own_slice ho1
    refine ⟨_, rfl, But.of_below hb1, ?_⟩
    try simp only [Act.put, List.getElem_toArray, List.getElem_cons_zero, List.getElem_cons_succ, List.setIfInBounds_toArray, List.set_cons_zero, List.set_cons_succ]
    have hu := Sl.of_own ho1
    have hv := hsS.up hb1
    have hBW := below_up (below_up (below_up hB1 hBd) hbS) hb1
    refine pt_c ?_
    refine pt_step rfl (by rfl) (fun K hK => ?_)
    go_simp
    refine hK.out _ _ (But.alloc _ _) ?_
    clear hK K
    try simp only [Act.put, List.getElem_toArray, List.getElem_cons_zero, List.getElem_cons_succ, List.setIfInBounds_toArray, List.set_cons_zero, List.set_cons_succ]
    refine pt_c ?_
    refine pt_call rfl (by rfl) (join_c [headB 3 s1.size, s1.data.toList] _ _ _ _ (slB2 (T := 22) hu hv rfl rfl _ rfl) (by omega) (by have := headB_len 3 s1.size; simp; omega)) enters_join (by rfl) (by kernel_rfl) ?_
    rintro en wJ ⟨v2, rfl, ho2, hb2⟩
    refine ⟨_, rfl, But.of_below hb2, ?_⟩
    try simp only [Act.put, List.getElem_toArray, List.getElem_cons_zero, List.getElem_cons_succ, List.setIfInBounds_toArray, List.set_cons_zero, List.set_cons_succ]
    refine pt_q (v := ?_) rfl (by rfl) ?_ ?_
    rotate_left
    · intro w' hBw'
      first | (go_simp; done) | (go_simp; with_reducible rfl)
    try simp only [Act.put, List.getElem_toArray, List.getElem_cons_zero, List.getElem_cons_succ, List.setIfInBounds_toArray, List.set_cons_zero, List.set_cons_succ]
    refine pt_done ?_
    go_wp2
    go_ret
    rw [flat2] at ho2
    refine ⟨_, rfl, ?_, below_up (below_up hBW (below_alloc _ _)) hb2⟩
    rw [Hby.out]
    exact own_down ho2 ((below_up hBW (below_alloc _ _)).size)
set_option maxHeartbeats 4000000 in
set_option maxRecDepth 100000 in
theorem write4_c (S : Nat → Prop) (x : It) (r : Rw) (w : World) (hr : ItR S w x r) (hcx : cnt x ≤ 1000000) (hk : x.k = 4) (hw : ∀ y ∈ x.l, WrC S y) (hri : rightL x.l = true) : Calls Tryd.prog 66 #[rwV r] w (Byt x w) := by
  obtain ⟨k1, n1, ba1, bn1, bc1, s1, la1, ln1, lc1, rfl⟩ := hr.shape
  obtain ⟨rows, p⟩ := hr.parts
  have hB1 := below_alloc w (.cells (rwC ⟨k1, n1, .slice ba1 bn1 bc1, s1, .slice la1 ln1 lc1⟩).toArray 28)
  have e1 := rangeAt_new w (rwC ⟨k1, n1, .slice ba1 bn1 bc1, s1, .slice la1 ln1 lc1⟩) 28 (0, 0)
  have hby := bytesOf_eq x
  rw [hk] at hby
  simp only [show ¬ ((4 : Int) = 1) by decide, show ¬ ((4 : Int) = 2) by decide, show ¬ ((4 : Int) = 3) by decide, show ¬ ((4 : Int) = 5) by decide, show ¬ ((4 : Int) = 6) by decide, if_false] at hby
  have hcl : cntL x.l ≤ 1000000 := by cases x; simp only [cnt, It.l] at *; omega
  have hln : ln1 = x.l.length := by obtain ⟨a, c, h⟩ := p.l.cell; simp at h; exact h.2.1
  have hlen := cntL_len x.l
  have hm := fun W (hb : Below w.heap.size w W) => madeB_c S x.l hw hri hcl _ _ rows W (p.l.up hb) (p.each.up hb)
  have hbb := bytesL_le x.l
  rw [bytesL_eq] at hby hbb
  have Hby := Lib.hid hby
  simp only at hm
  subst hln
  clear p hr hby hk hcx hw hri
  generalize x.l.length = n at *
  generalize x.l.map bytesOf = ls at *
  have hbl : n ≤ 1000000 := by omega
  go_enter Tryd.func66, Tryd.ntmps66
  go_wp2
  refine wp_region_pt (fun k => w.heap.size + 1 ≤ k) (.q 0 (.q 1 (.q 2 (.q 3 (.q 6 (.q 7 (.c 4 (.f 5 (.c 8 (.c 9 (.c 10 (.q 11 .done)))) 8 (.c 5 (.c 9 (.c 10 (.q 11 .done)))))))))))) (by kernel_rfl) (by kernel_rfl) (by kernel_rfl) (by decide) (fun _ _ d _ _ h => by cases d <;> exact h) (fun Wd hBd => ?_)
  try simp only [Act.put, List.getElem_toArray, List.getElem_cons_zero, List.getElem_cons_succ, List.setIfInBounds_toArray, List.set_cons_zero, List.set_cons_succ]
  have c1 : ∀ w', But (fun k => w.heap.size + 1 ≤ k) Wd w' → w'.cell? ⟨w.heap.size, 0 + 4, none⟩ = some (.slice la1 n lc1) := fun w' h => h.cell (rangeAt_up hBd e1 4 _ rfl) (by omega)
  refine pt_q (v := ?_) rfl (by rfl) ?_ ?_
  rotate_left
  · intro w' hBw'
    first | (go_simp; done) | (go_simp; with_reducible rfl)
  try simp only [Act.put, List.getElem_toArray, List.getElem_cons_zero, List.getElem_cons_succ, List.setIfInBounds_toArray, List.set_cons_zero, List.set_cons_succ]
  refine pt_q (v := ?_) rfl (by rfl) ?_ ?_
  rotate_left
  · intro w' hBw'
    first | (go_simp; done) | (go_simp; with_reducible rfl)
  try simp only [Act.put, List.getElem_toArray, List.getElem_cons_zero, List.getElem_cons_succ, List.setIfInBounds_toArray, List.set_cons_zero, List.set_cons_succ]
  refine pt_q (v := ?_) rfl (by rfl) ?_ ?_
  rotate_left
  · intro w' hBw'
    first | (go_simp; done) | (go_simp; with_reducible rfl)
  try simp only [Act.put, List.getElem_toArray, List.getElem_cons_zero, List.getElem_cons_succ, List.setIfInBounds_toArray, List.set_cons_zero, List.set_cons_succ]
  refine pt_q (v := .int .u64 (n : Int)) rfl (by rfl) (fun w' hBw' => by go_simp; exact wrap_u64 _ hbl) ?_
  try simp only [Act.put, List.getElem_toArray, List.getElem_cons_zero, List.getElem_cons_succ, List.setIfInBounds_toArray, List.set_cons_zero, List.set_cons_succ]
  refine pt_q (v := ?_) rfl (by rfl) ?_ ?_
  rotate_left
  · intro w' hBw'
    first | (go_simp; done) | (go_simp; with_reducible rfl)
  try simp only [Act.put, List.getElem_toArray, List.getElem_cons_zero, List.getElem_cons_succ, List.setIfInBounds_toArray, List.set_cons_zero, List.set_cons_succ]
  refine pt_q (v := ?_) rfl (by rfl) ?_ ?_
  rotate_left
  · intro w' hBw'
    first | (go_simp; done) | (go_simp; with_reducible rfl)
  try simp only [Act.put, List.getElem_toArray, List.getElem_cons_zero, List.getElem_cons_succ, List.setIfInBounds_toArray, List.set_cons_zero, List.set_cons_succ]
  refine pt_c ?_
  refine pt_call rfl (by rfl) (head_c 4 n Wd (by decide) (by decide) (by omega) (by omega)) enters_head (by rfl) (by kernel_rfl) ?_
  rintro en wA ⟨v1, rfl, ho1, hb1⟩
  obtain ⟨a1, c1', rfl⟩ := own_slice ho1
  refine ⟨_, rfl, But.of_below hb1, ?_⟩
  have hBA := below_up (below_up hB1 hBd) hb1
  have hzA := (below_up hBd hb1).size
  simp only [World.size_alloc] at hzA
  obtain ⟨wB, hwB⟩ : ∃ wB, wB = wA := ⟨_, rfl⟩
  try simp only [Act.put, List.getElem_toArray, List.getElem_cons_zero, List.getElem_cons_succ, List.setIfInBounds_toArray, List.set_cons_zero, List.set_cons_succ]
  refine pt_f ?_ ?_
  · refine pt_step rfl (by rfl) (fun K hK => ?_)
    go_simp
    refine hK.out _ _ (But.alloc _ _) ?_
    clear hK K
    try simp only [Act.put, List.getElem_toArray, List.getElem_cons_zero, List.getElem_cons_succ, List.setIfInBounds_toArray, List.set_cons_zero, List.set_cons_succ]
    refine pt_c ?_
    refine pt_call rfl (by rfl) (hm (wA.alloc (.cells #[.slice a1 (headB 4 n).length c1'] 22)) (below_up hBA (below_alloc _ _))) enters_madeB (by rfl) (by kernel_rfl) ?_
    rintro en wM ⟨v2, vs, rfl, ho2, hE, hb2⟩
    obtain ⟨a2, c2, rfl⟩ := own_slice ho2
    refine ⟨_, rfl, But.of_below hb2, ?_⟩
    try simp only [Act.put, List.getElem_toArray, List.getElem_cons_zero, List.getElem_cons_succ, List.setIfInBounds_toArray, List.set_cons_zero, List.set_cons_succ]
    have hzM := hb2.size
    have hrow := own_up (World.ownsRow_lit wA #[.slice a1 (headB 4 n).length c1'] 1 (size := 1) (base := w.heap.size + 1) (e := 22) (by omega) (by decide) rfl) hb2
    have hvs := ho2
    have hEh := own_up (own_up ho1 (below_alloc wA (.cells #[.slice a1 (headB 4 n).length c1'] 22))) hb2
    have hBW := below_up (below_up hBA (below_alloc wA (.cells #[.slice a1 (headB 4 n).length c1'] 22))) hb2
    have hvl : vs.length = n := by have := (Sl.of_own hvs).1; omega
    have hone : ∀ u ∈ vs, u.oneCell' = true := eb_one hE
    have hbase := Nat.le_trans (show w.heap.size + 1 ≤ w.heap.size + 1 from Nat.le_refl _) (show w.heap.size + 1 ≤ _ from (own_size hrow))
    refine pt_c ?_
    refine pt_app2 rfl (by rfl) (.tmp 8) (.tmp 11) 106 rfl slT_bb (w.heap.size + 1) rfl hrow rfl (Sl.of_own hvs) hone (by simp only [maxLen]; omega) (by omega) hbase (fun k h => h) ?_
    intro v3 w3 ho3 hbt3
    try simp only [Act.put, List.getElem_toArray, List.getElem_cons_zero, List.getElem_cons_succ, List.setIfInBounds_toArray, List.set_cons_zero, List.set_cons_succ]
    refine pt_c ?_
    have hS := (EB.slB (eb_app_but hEh hE hrow hbt3) (Sl.of_own ho3))
    refine pt_call rfl (by rfl) (join_c ([headB 4 n] ++ ls) _ _ _ _ hS (by omega) (by have := headB_len 4 n; rw [flat1, List.length_append]; omega)) enters_join (by rfl) (by kernel_rfl) ?_
    rintro en wJ ⟨v4, rfl, ho4, hb4⟩
    refine ⟨_, rfl, But.of_below hb4, ?_⟩
    try simp only [Act.put, List.getElem_toArray, List.getElem_cons_zero, List.getElem_cons_succ, List.setIfInBounds_toArray, List.set_cons_zero, List.set_cons_succ]
    refine pt_q (v := ?_) rfl (by rfl) ?_ ?_
    rotate_left
    · intro w' hBw'
      first | (go_simp; done) | (go_simp; with_reducible rfl)
    try simp only [Act.put, List.getElem_toArray, List.getElem_cons_zero, List.getElem_cons_succ, List.setIfInBounds_toArray, List.set_cons_zero, List.set_cons_succ]
    refine pt_done ?_
    go_wp2
    go_ret
    rw [flat1] at ho4
    have hBJ := below_up (below_but hBW hbt3 (fun k hk => (own_of_some hrow hk).1)) hb4
    refine ⟨_, rfl, ?_, hBJ⟩
    rw [Hby.out]
    exact own_down ho4 (below_but hBW hbt3 (fun k hk => (own_of_some hrow hk).1)).size
  · refine pt_call rfl (by rfl) (hm wA hBA) enters_madeB (by rfl) (by kernel_rfl) ?_
    rintro en wM ⟨v2, vs, rfl, ho2, hE, hb2⟩
    obtain ⟨a2, c2, rfl⟩ := own_slice ho2
    refine ⟨_, rfl, But.of_below hb2, ?_⟩
    try simp only [Act.put, List.getElem_toArray, List.getElem_cons_zero, List.getElem_cons_succ, List.setIfInBounds_toArray, List.set_cons_zero, List.set_cons_succ]
    refine pt_c ?_
    refine pt_step rfl (by rfl) (fun K hK => ?_)
    go_simp
    refine hK.out _ _ (But.alloc _ _) ?_
    clear hK K
    try simp only [Act.put, List.getElem_toArray, List.getElem_cons_zero, List.getElem_cons_succ, List.setIfInBounds_toArray, List.set_cons_zero, List.set_cons_succ]
    have hzM := hb2.size
    have hrow := World.ownsRow_lit wM #[.slice a1 (headB 4 n).length c1'] 1 (size := 1) (base := w.heap.size + 1) (e := 22) (by omega) (by decide) rfl
    have hvs := own_up ho2 (below_alloc wM (.cells #[.slice a1 (headB 4 n).length c1'] 22))
    have hEh := own_up (own_up ho1 hb2) (below_alloc wM (.cells #[.slice a1 (headB 4 n).length c1'] 22))
    have hE := hE.up (below_alloc wM (.cells #[.slice a1 (headB 4 n).length c1'] 22))
    have hBW := below_up (below_up hBA hb2) (below_alloc wM (.cells #[.slice a1 (headB 4 n).length c1'] 22))
    have hvl : vs.length = n := by have := (Sl.of_own hvs).1; omega
    have hone : ∀ u ∈ vs, u.oneCell' = true := eb_one hE
    have hbase := Nat.le_trans (show w.heap.size + 1 ≤ w.heap.size + 1 from Nat.le_refl _) (show w.heap.size + 1 ≤ _ from (own_size hrow))
    refine pt_c ?_
    refine pt_app2 rfl (by rfl) (.tmp 8) (.tmp 11) 106 rfl slT_bb (w.heap.size + 1) rfl hrow rfl (Sl.of_own hvs) hone (by simp only [maxLen]; omega) (by omega) hbase (fun k h => h) ?_
    intro v3 w3 ho3 hbt3
    try simp only [Act.put, List.getElem_toArray, List.getElem_cons_zero, List.getElem_cons_succ, List.setIfInBounds_toArray, List.set_cons_zero, List.set_cons_succ]
    refine pt_c ?_
    have hS := (EB.slB (eb_app_but hEh hE hrow hbt3) (Sl.of_own ho3))
    refine pt_call rfl (by rfl) (join_c ([headB 4 n] ++ ls) _ _ _ _ hS (by omega) (by have := headB_len 4 n; rw [flat1, List.length_append]; omega)) enters_join (by rfl) (by kernel_rfl) ?_
    rintro en wJ ⟨v4, rfl, ho4, hb4⟩
    refine ⟨_, rfl, But.of_below hb4, ?_⟩
    try simp only [Act.put, List.getElem_toArray, List.getElem_cons_zero, List.getElem_cons_succ, List.setIfInBounds_toArray, List.set_cons_zero, List.set_cons_succ]
    refine pt_q (v := ?_) rfl (by rfl) ?_ ?_
    rotate_left
    · intro w' hBw'
      first | (go_simp; done) | (go_simp; with_reducible rfl)
    try simp only [Act.put, List.getElem_toArray, List.getElem_cons_zero, List.getElem_cons_succ, List.setIfInBounds_toArray, List.set_cons_zero, List.set_cons_succ]
    refine pt_done ?_
    go_wp2
    go_ret
    rw [flat1] at ho4
    have hBJ := below_up (below_but hBW hbt3 (fun k hk => (own_of_some hrow hk).1)) hb4
    refine ⟨_, rfl, ?_, hBJ⟩
    rw [Hby.out]
    exact own_down ho4 (below_but hBW hbt3 (fun k hk => (own_of_some hrow hk).1)).size
end Go.Proofs.YtjenohodgpmchaaDoor
