/-
  Contracts of contact's order, asked, IndexFunc, between, at.
-/
import Derived.Test.YtgbpdchdcbnoaaaConA
import Derived.Laws.EntriesVeiled
namespace Go.Proofs.Ytgbpdchdcbnoaaa
open Go.RowKit Vol
set_option linter.unusedSimpArgs false
set_option linter.unusedVariables false

theorem slI3 (w : World) (k : Nat) (hk : k = w.heap.size) (T : TypeId) (x y z : Int) : Sl (w.alloc (.cells #[.int .i64 x, .int .i64 y, .int .i64 z] T)) 1 (.slice (some ⟨k, 0, none⟩) 3 3) 3 [.int .i64 x, .int .i64 y, .int .i64 z] := by
  subst hk
  refine ⟨by simp, .inr ⟨w.heap.size, 0, 3, rfl, by decide, by decide, fun j u hj => ?_⟩⟩
  have : (w.alloc (.cells #[.int .i64 x, .int .i64 y, .int .i64 z] T)).heap[w.heap.size]? = some (.cells #[.int .i64 x, .int .i64 y, .int .i64 z] T) := heap_alloc_new w _
  simp only [World.cell?, this, Nat.zero_add]
  simpa using hj

/-- The order of contacts. -/
def Vol.ordF (a b : Ct) : Int := orF (cmpF a.from_ b.from_) (cmpF a.to b.to) (cmpF a.a b.a)

set_option maxHeartbeats 2000000 in
set_option maxRecDepth 100000 in
theorem order_c (x y : Ct) (w : World) : Calls Try.prog 39 #[ctV x, ctV y] w (Ret (.int .i64 (ordF x y)) w) := by
  have hB2 : Below w.heap.size w ((w.alloc (.cells (ctC x).toArray 27)).alloc (.cells (ctC y).toArray 27)) := (below_alloc w _).alloc (by simp) _
  have X := (RowAt.new w (ctC x).toArray 27).alloc (.cells (ctC y).toArray 27)
  have Y := RowAt.new (w.alloc (.cells (ctC x).toArray 27)) (ctC y).toArray 27
  rw [show (w.alloc (.cells (ctC x).toArray 27)).heap.size = w.heap.size + 1 by simp] at Y
  have HB := Lib.hid hB2
  clear hB2
  unfold ordF
  go_enter Try.func39, Try.ntmps39
  go_wp2
  refine wp_region_pi [(0, false), (1, false), (2, false), (3, false), (5, false), (6, false), (7, false), (8, false), (10, false), (11, false), (12, false), (13, false), (14, false), (15, false), (4, true), (9, true), (16, true), (17, true), (18, true), (19, false)] (by kernel_rfl) (by kernel_rfl) (by kernel_rfl) rfl (fun _ _ d _ _ h => by cases d <;> exact h) (fun Wd hBd => ?_)
  try simp only [Act.put, List.getElem_toArray, List.getElem_cons_zero, List.getElem_cons_succ, List.setIfInBounds_toArray, List.set_cons_zero, List.set_cons_succ]
  have HB2 := Lib.hid (below_up HB.out hBd)
  have gx : ∀ (j : Nat) (u : Value), (ctC x).toArray[j]? = some u → ∀ w', Below Wd.heap.size Wd w' → w'.cell? ⟨w.heap.size, j, none⟩ = some u := fun j u h w' hb => cell_up hb ((X.below hBd).cell h)
  have gy : ∀ (j : Nat) (u : Value), (ctC y).toArray[j]? = some u → ∀ w', Below Wd.heap.size Wd w' → w'.cell? ⟨w.heap.size + 1, j, none⟩ = some u := fun j u h w' hb => cell_up hb ((Y.below hBd).cell h)
  have x0 := gx 0 _ rfl
  have x1 := gx 1 _ rfl
  have x2 := gx 2 _ rfl
  have y0 := gy 0 _ rfl
  have y1 := gy 1 _ rfl
  have y2 := gy 2 _ rfl
  clear gx gy
  refine pi_q (v := ?_) rfl (by rfl) ?_ ?_
  rotate_left
  · intro w' hBw'
    first | (go_simp; done) | (go_simp; with_reducible rfl)
  try simp only [Act.put, List.getElem_toArray, List.getElem_cons_zero, List.getElem_cons_succ, List.setIfInBounds_toArray, List.set_cons_zero, List.set_cons_succ]
  refine pi_q (v := ?_) rfl (by rfl) ?_ ?_
  rotate_left
  · intro w' hBw'
    first | (go_simp; done) | (go_simp; with_reducible rfl)
  try simp only [Act.put, List.getElem_toArray, List.getElem_cons_zero, List.getElem_cons_succ, List.setIfInBounds_toArray, List.set_cons_zero, List.set_cons_succ]
  refine pi_q (v := ?_) rfl (by rfl) ?_ ?_
  rotate_left
  · intro w' hBw'
    first | (go_simp; done) | (go_simp; with_reducible rfl)
  try simp only [Act.put, List.getElem_toArray, List.getElem_cons_zero, List.getElem_cons_succ, List.setIfInBounds_toArray, List.set_cons_zero, List.set_cons_succ]
  refine pi_q (v := ?_) rfl (by rfl) ?_ ?_
  rotate_left
  · intro w' hBw'
    first | (go_simp; done) | (go_simp; with_reducible rfl)
  try simp only [Act.put, List.getElem_toArray, List.getElem_cons_zero, List.getElem_cons_succ, List.setIfInBounds_toArray, List.set_cons_zero, List.set_cons_succ]
  refine pi_q (v := ?_) rfl (by rfl) ?_ ?_
  rotate_left
  · intro w' hBw'
    first | (go_simp; done) | (go_simp; with_reducible rfl)
  try simp only [Act.put, List.getElem_toArray, List.getElem_cons_zero, List.getElem_cons_succ, List.setIfInBounds_toArray, List.set_cons_zero, List.set_cons_succ]
  refine pi_q (v := ?_) rfl (by rfl) ?_ ?_
  rotate_left
  · intro w' hBw'
    first | (go_simp; done) | (go_simp; with_reducible rfl)
  try simp only [Act.put, List.getElem_toArray, List.getElem_cons_zero, List.getElem_cons_succ, List.setIfInBounds_toArray, List.set_cons_zero, List.set_cons_succ]
  refine pi_q (v := ?_) rfl (by rfl) ?_ ?_
  rotate_left
  · intro w' hBw'
    first | (go_simp; done) | (go_simp; with_reducible rfl)
  try simp only [Act.put, List.getElem_toArray, List.getElem_cons_zero, List.getElem_cons_succ, List.setIfInBounds_toArray, List.set_cons_zero, List.set_cons_succ]
  refine pi_q (v := ?_) rfl (by rfl) ?_ ?_
  rotate_left
  · intro w' hBw'
    first | (go_simp; done) | (go_simp; with_reducible rfl)
  try simp only [Act.put, List.getElem_toArray, List.getElem_cons_zero, List.getElem_cons_succ, List.setIfInBounds_toArray, List.set_cons_zero, List.set_cons_succ]
  refine pi_q (v := ?_) rfl (by rfl) ?_ ?_
  rotate_left
  · intro w' hBw'
    first | (go_simp; done) | (go_simp; with_reducible rfl)
  try simp only [Act.put, List.getElem_toArray, List.getElem_cons_zero, List.getElem_cons_succ, List.setIfInBounds_toArray, List.set_cons_zero, List.set_cons_succ]
  refine pi_q (v := ?_) rfl (by rfl) ?_ ?_
  rotate_left
  · intro w' hBw'
    first | (go_simp; done) | (go_simp; with_reducible rfl)
  try simp only [Act.put, List.getElem_toArray, List.getElem_cons_zero, List.getElem_cons_succ, List.setIfInBounds_toArray, List.set_cons_zero, List.set_cons_succ]
  refine pi_q (v := ?_) rfl (by rfl) ?_ ?_
  rotate_left
  · intro w' hBw'
    first | (go_simp; done) | (go_simp; with_reducible rfl)
  try simp only [Act.put, List.getElem_toArray, List.getElem_cons_zero, List.getElem_cons_succ, List.setIfInBounds_toArray, List.set_cons_zero, List.set_cons_succ]
  refine pi_q (v := ?_) rfl (by rfl) ?_ ?_
  rotate_left
  · intro w' hBw'
    first | (go_simp; done) | (go_simp; with_reducible rfl)
  try simp only [Act.put, List.getElem_toArray, List.getElem_cons_zero, List.getElem_cons_succ, List.setIfInBounds_toArray, List.set_cons_zero, List.set_cons_succ]
  refine pi_q (v := ?_) rfl (by rfl) ?_ ?_
  rotate_left
  · intro w' hBw'
    first | (go_simp; done) | (go_simp; with_reducible rfl)
  try simp only [Act.put, List.getElem_toArray, List.getElem_cons_zero, List.getElem_cons_succ, List.setIfInBounds_toArray, List.set_cons_zero, List.set_cons_succ]
  refine pi_q (v := ?_) rfl (by rfl) ?_ ?_
  rotate_left
  · intro w' hBw'
    first | (go_simp; done) | (go_simp; with_reducible rfl)
  try simp only [Act.put, List.getElem_toArray, List.getElem_cons_zero, List.getElem_cons_succ, List.setIfInBounds_toArray, List.set_cons_zero, List.set_cons_succ]
  refine pi_c rfl (by rfl) (fun K hK => ?_)
  go_simp
  refine (compare_u32 _ _ _).mono ?_
  rintro en w1 ⟨rfl, rfl⟩
  go_wp2_with fail
  refine hK.out _ _ (Below.refl _ _) ?_
  clear hK K
  try simp only [Act.put, List.getElem_toArray, List.getElem_cons_zero, List.getElem_cons_succ, List.setIfInBounds_toArray, List.set_cons_zero, List.set_cons_succ]
  refine pi_c rfl (by rfl) (fun K hK => ?_)
  go_simp
  refine (compare_u32 _ _ _).mono ?_
  rintro en w1 ⟨rfl, rfl⟩
  go_wp2_with fail
  refine hK.out _ _ (Below.refl _ _) ?_
  clear hK K
  try simp only [Act.put, List.getElem_toArray, List.getElem_cons_zero, List.getElem_cons_succ, List.setIfInBounds_toArray, List.set_cons_zero, List.set_cons_succ]
  refine pi_c rfl (by rfl) (fun K hK => ?_)
  go_simp
  refine (compare_u64 _ _ _).mono ?_
  rintro en w1 ⟨rfl, rfl⟩
  go_wp2_with fail
  refine hK.out _ _ (Below.refl _ _) ?_
  clear hK K
  try simp only [Act.put, List.getElem_toArray, List.getElem_cons_zero, List.getElem_cons_succ, List.setIfInBounds_toArray, List.set_cons_zero, List.set_cons_succ]
  refine pi_c rfl (by rfl) (fun K hK => ?_)
  go_simp
  refine hK.out _ _ (below_alloc _ _) ?_
  clear hK K
  try simp only [Act.put, List.getElem_toArray, List.getElem_cons_zero, List.getElem_cons_succ, List.setIfInBounds_toArray, List.set_cons_zero, List.set_cons_succ]
  refine pi_c rfl (by rfl) (fun K hK => ?_)
  go_simp
  refine (or_c _ _ _ _ _ (slI3 _ _ rfl _ _ _ _)).mono ?_
  rintro en w2 ⟨rfl, rfl⟩
  go_wp2_with fail
  refine hK.out _ _ (Below.refl _ _) ?_
  clear hK K
  try simp only [Act.put, List.getElem_toArray, List.getElem_cons_zero, List.getElem_cons_succ, List.setIfInBounds_toArray, List.set_cons_zero, List.set_cons_succ]
  refine pi_q (v := ?_) rfl (by rfl) ?_ ?_
  rotate_left
  · intro w' hBw'
    first | (go_simp; done) | (go_simp; with_reducible rfl)
  try simp only [Act.put, List.getElem_toArray, List.getElem_cons_zero, List.getElem_cons_succ, List.setIfInBounds_toArray, List.set_cons_zero, List.set_cons_succ]
  refine pi_nil ?_
  go_wp2
  go_ret
  exact ⟨rfl, below_up HB2.out (below_alloc _ _)⟩

/-- A question: the function, what it is bound to, its error, what it answers. -/
structure Vol.Qn where
  g : FuncId
  fst : Array Value
  cap : Array Value
  e : Int
  b : Bool
abbrev askC (a : Qn) : List Value := [.func (.func a.g) a.fst a.cap, .int .i64 a.e]
/-- The first error. -/
def Vol.askF (l : List Qn) : Int := match l.find? (·.b) with | some a => a.e | none => 0
theorem Vol.askF_some {l : List Qn} {k : Nat} (hk : k < l.length) (h : ∀ j, j < k → ∀ hj : j < l.length, l[j].b = false) (hp : l[k].b = true) : askF l = l[k].e := by
  have : l.find? (·.b) = some l[k] := by
    rw [List.find?_eq_some_iff_getElem]
    exact ⟨hp, k, hk, rfl, fun j hj => by simp [h j hj (by omega)]⟩
  unfold askF; rw [this]
theorem Vol.askF_none {l : List Qn} (h : ∀ j, ∀ hj : j < l.length, l[j].b = false) : askF l = 0 := by
  have : l.find? (·.b) = none := by
    rw [List.find?_eq_none]
    intro a ha
    obtain ⟨j, hj, rfl⟩ := List.mem_iff_getElem.1 ha
    simp [h j hj]
  unfold askF; rw [this]

set_option maxHeartbeats 2000000 in
set_option maxRecDepth 100000 in
theorem cAsked_c (l : List Qn) (v : Value) (n : Nat) (w : World) (hv : Sl w 2 v n (l.flatMap askC)) (hg : ∀ a ∈ l, Enters Try.prog a.g)
    (hq : ∀ a ∈ l, ∀ w1, Below w.heap.size w w1 → Calls Try.prog a.g (a.fst ++ a.cap) w1 (Ret (.bool a.b) w1)) :
    Calls Try.prog 29 #[v] w (Ret (.int .i64 (askF l)) w) := by
  have Hln := Lib.hid (Sl.recs (cells := askC) (sz := 2) (fun _ => rfl) (by decide) hv)
  have hn := hv.n_max
  obtain ⟨a, c, rfl⟩ := hv.len
  obtain ⟨R, hR⟩ : ∃ R, R = askF l := ⟨_, rfl⟩
  rw [← hR]
  have HR := Lib.hid hR
  have HG := Lib.hid hg
  have HQ := Lib.hid hq
  clear hR hg hq
  go_enter Try.func29, Try.ntmps29
  go_wp2
  refine wp_scope_fwd 0 rfl ?_
  go_wp2
  go_loopw [7] (fun i wr => ∃ k : Nat, k ≤ n ∧ i = .int .i64 k ∧ RowKit.Hid (∀ j, j < k → ∀ hj : j < l.length, l[j].b = false) ∧ Below w.heap.size w wr) (fun i _ => n - (intOf i).toNat)
  case atStart => exact ⟨0, Nat.zero_le _, rfl, Lib.hid (fun j hj => by omega), Below.refl _ _⟩
  case round =>
    obtain ⟨k, hk, rfl, Hno, hB⟩ := hrel
    have HB := Lib.hid hB
    by_cases hlt : k < n
    · have hlt' : k < l.length := by rw [Hln.out]; exact hlt
      obtain ⟨b, off, rfl, hr⟩ := (hv.up hB).rec_at (cells := askC) (sz := 2) (fun _ => rfl) hlt hlt'
      have hcall := HQ.out l[k] (List.getElem_mem hlt')
      have hent := HG.out l[k] (List.getElem_mem hlt')
      have Hsome := Lib.hid (fun h : l[k].b = true => HR.out.trans (askF_some hlt' Hno.out h))
      have Hstep := Lib.hid (fun (h : l[k].b = false) j (hj : j < k + 1) (hj' : j < l.length) => (show l[j].b = false from by
        rcases Nat.lt_or_ge j k with h' | h'
        · exact Hno.out j h' hj'
        · obtain rfl : j = k := by omega
          exact h))
      clear hB
      unfold Enters at hent
      generalize l[k] = x at *
      obtain ⟨g, fst, cap, e, bb⟩ := x
      simp only at hcall hent
      have hcl := hcall _ (HB.out.alloc HB.out.size (.cells (askC ⟨g, fst, cap, e, bb⟩).toArray 70))
      cases bb with
      | true =>
        have hRe := Hsome.out rfl
        simp only at hRe
        go_wp2_with (first
          | (refine wpList_load_mid rfl 70 (.tmp 9) rfl b (off + k * 2) rfl (askC ⟨g, fst, cap, e, true⟩) _ hr Try.underlying70 rfl (by kernel_rfl) ?_)
          | (refine hcl.mono ?_; rintro en w1 ⟨rfl, hb⟩))
        refine wp_goto ?_
        refine And.intro rfl ?_
        show Code.wp _ _ _ _ _
        go_wp2
        try rw [jump_ret]
        go_ret
        exact ⟨retI hRe.symm, below_up (HB.out.alloc HB.out.size _) hb⟩
      | false =>
        go_wp2_with (first
          | (refine wpList_load_mid rfl 70 (.tmp 9) rfl b (off + k * 2) rfl (askC ⟨g, fst, cap, e, false⟩) _ hr Try.underlying70 rfl (by kernel_rfl) ?_)
          | (refine hcl.mono ?_; rintro en w1 ⟨rfl, hb⟩))
        go_roundw
        case rel => exact ⟨k + 1, by omega, by go_num, Lib.hid (by first | exact Hstep.out rfl | exact Hstep.out trivial), below_up (HB.out.alloc HB.out.size _) hb⟩
        case measure => simp [intOf]; omega
    · obtain rfl : k = n := by omega
      have hRe := HR.out.trans (askF_none fun j hj => Hno.out j (by rw [← Hln.out]; exact hj) hj)
      go_wp2
      try rw [jump_ret]
      go_ret
      exact ⟨retI hRe.symm, HB.out⟩

set_option maxRecDepth 100000 in
/-- slices.IndexFunc of packsaddle/api.Contact. -/
theorem indexC_c (l : List Ct) (v : Value) (n : Nat) (w : World) (hv : Sl w 5 v n (l.flatMap ctC)) (hn : n ≤ 9223372036854775807) (f : FuncId) (hf : Enters Try.prog f) (caps : Array Value) (p : Ct → Bool)
    (hp : ∀ x ∈ l, ∀ w1, Below w.heap.size w w1 → Calls Try.prog f (#[ctV x] ++ caps) w1 (Ret (.bool (p x)) w1)) :
    Calls Try.prog 74 #[v, .func (.func f) #[] caps] w (Ret (.int .i64 (idx p l)) w) := by
  have Hln := Lib.hid (Sl.recs (cells := ctC) (sz := 5) (fun _ => rfl) (by decide) hv)
  obtain ⟨a1, c1, rfl⟩ := hv.len
  go_enter Try.func74, Try.ntmps74
  go_wp2
  go_loopw [8] (fun i wr => ∃ k : Nat, k ≤ n ∧ i = .int .i64 k ∧ (∀ j, j < k → ∀ hj : j < l.length, p l[j] = false) ∧ Below w.heap.size w wr) (fun i _ => n - (intOf i).toNat)
  case atStart => exact ⟨0, Nat.zero_le _, rfl, by intro j hj; omega, Below.refl _ _⟩
  case round =>
    obtain ⟨k, hk, rfl, hno, hB⟩ := hrel
    have Hno := Lib.hid hno; clear hno
    by_cases hlt : k < n
    · have hlt' : k < l.length := by rw [Hln.out]; exact hlt
      obtain ⟨b, off, rfl, hr⟩ := (hv.up hB).rec_at (cells := ctC) (sz := 5) (fun _ => rfl) hlt hlt'
      have hcall := hp l[k] (List.getElem_mem hlt') wr hB
      have Hidx := Lib.hid (fun h : p l[k] = true => idx_some hlt' Hno.out h)
      have Hstep := Lib.hid (fun (h : p l[k] = false) j (hj : j < k + 1) (hj' : j < l.length) => (show p l[j] = false from by
        rcases Nat.lt_or_ge j k with h' | h'
        · exact Hno.out j h' hj'
        · obtain rfl : j = k := by omega
          exact h))
      unfold Enters at hf
      generalize l[k] = x at *
      cases hpk : p x with
      | true =>
        rw [hpk] at hcall
        have Hpk := Lib.hid hpk; clear hpk
        go_wp2_with (first
          | (refine wpList_load_mid rfl 27 (.tmp 14) rfl b (off + k * 5) rfl (ctC x) _ hr Try.underlying27 rfl (by kernel_rfl) ?_)
          | (refine hcall.mono ?_; rintro e w1 ⟨rfl, hb⟩))
        go_ret
        exact ⟨retI (Hidx.out Hpk.out).symm, hB.trans (hb.mono hB.size)⟩
      | false =>
        rw [hpk] at hcall
        have Hpk := Lib.hid hpk; clear hpk
        go_wp2_with (first
          | (refine wpList_load_mid rfl 27 (.tmp 14) rfl b (off + k * 5) rfl (ctC x) _ hr Try.underlying27 rfl (by kernel_rfl) ?_)
          | (refine hcall.mono ?_; rintro e w1 ⟨rfl, hb⟩))
        go_roundw
        case rel => exact ⟨k + 1, by omega, by go_num, Hstep.out Hpk.out, hB.trans (hb.mono hB.size)⟩
        case measure => simp [intOf]; omega
    · obtain rfl : k = n := by omega
      go_wp2
      go_ret
      exact ⟨retI (idx_none fun j hj => Hno.out j (by rw [← Hln.out]; exact hj) hj).symm, hB⟩

set_option maxRecDepth 100000 in
/-- slices.IndexFunc of packsaddle/api.Contact. -/
theorem indexL_c (l : List Ct) (v : Value) (n : Nat) (w : World) (hv : Sl w 5 v n (l.flatMap ctC)) (hn : n ≤ 9223372036854775807) (f : FuncId) (hf : Enters Try.prog f) (caps : Array Value) (p : Ct → Bool)
    (hp : ∀ x ∈ l, ∀ w1, Below w.heap.size w w1 → Calls Try.prog f (#[ctV x] ++ caps) w1 (Ret (.bool (p x)) w1)) :
    Calls Try.prog 73 #[v, .func (.func f) #[] caps] w (Ret (.int .i64 (idx p l)) w) := by
  have Hln := Lib.hid (Sl.recs (cells := ctC) (sz := 5) (fun _ => rfl) (by decide) hv)
  obtain ⟨a1, c1, rfl⟩ := hv.len
  go_enter Try.func73, Try.ntmps73
  go_wp2
  go_loopw [8] (fun i wr => ∃ k : Nat, k ≤ n ∧ i = .int .i64 k ∧ (∀ j, j < k → ∀ hj : j < l.length, p l[j] = false) ∧ Below w.heap.size w wr) (fun i _ => n - (intOf i).toNat)
  case atStart => exact ⟨0, Nat.zero_le _, rfl, by intro j hj; omega, Below.refl _ _⟩
  case round =>
    obtain ⟨k, hk, rfl, hno, hB⟩ := hrel
    have Hno := Lib.hid hno; clear hno
    by_cases hlt : k < n
    · have hlt' : k < l.length := by rw [Hln.out]; exact hlt
      obtain ⟨b, off, rfl, hr⟩ := (hv.up hB).rec_at (cells := ctC) (sz := 5) (fun _ => rfl) hlt hlt'
      have hcall := hp l[k] (List.getElem_mem hlt') wr hB
      have Hidx := Lib.hid (fun h : p l[k] = true => idx_some hlt' Hno.out h)
      have Hstep := Lib.hid (fun (h : p l[k] = false) j (hj : j < k + 1) (hj' : j < l.length) => (show p l[j] = false from by
        rcases Nat.lt_or_ge j k with h' | h'
        · exact Hno.out j h' hj'
        · obtain rfl : j = k := by omega
          exact h))
      unfold Enters at hf
      generalize l[k] = x at *
      cases hpk : p x with
      | true =>
        rw [hpk] at hcall
        have Hpk := Lib.hid hpk; clear hpk
        go_wp2_with (first
          | (refine wpList_load_mid rfl 27 (.tmp 14) rfl b (off + k * 5) rfl (ctC x) _ hr Try.underlying27 rfl (by kernel_rfl) ?_)
          | (refine hcall.mono ?_; rintro e w1 ⟨rfl, hb⟩))
        go_ret
        exact ⟨retI (Hidx.out Hpk.out).symm, hB.trans (hb.mono hB.size)⟩
      | false =>
        rw [hpk] at hcall
        have Hpk := Lib.hid hpk; clear hpk
        go_wp2_with (first
          | (refine wpList_load_mid rfl 27 (.tmp 14) rfl b (off + k * 5) rfl (ctC x) _ hr Try.underlying27 rfl (by kernel_rfl) ?_)
          | (refine hcall.mono ?_; rintro e w1 ⟨rfl, hb⟩))
        go_roundw
        case rel => exact ⟨k + 1, by omega, by go_num, Hstep.out Hpk.out, hB.trans (hb.mono hB.size)⟩
        case measure => simp [intOf]; omega
    · obtain rfl : k = n := by omega
      go_wp2
      go_ret
      exact ⟨retI (idx_none fun j hj => Hno.out j (by rw [← Hln.out]; exact hj) hj).symm, hB⟩

/-- What between's closure has at hand: the two nodes, and the function of a span. -/
structure Btw (w : World) (b1 b2 b3 : Nat) (f t : Int) (g : FuncId) (caps : Array Value) : Prop where
  f : w.cell? ⟨b1, 0, none⟩ = some (.int .u32 f)
  t : w.cell? ⟨b2, 0, none⟩ = some (.int .u32 t)
  g : w.cell? ⟨b3, 0, none⟩ = some (.func (.func g) #[] caps)
theorem Btw.up {w w1 : World} {b1 b2 b3 : Nat} {f t : Int} {g : FuncId} {caps : Array Value} (h : Btw w b1 b2 b3 f t g caps) (hb : Below w.heap.size w w1) : Btw w1 b1 b2 b3 f t g caps := ⟨cell_up hb h.f, cell_up hb h.t, cell_up hb h.g⟩
theorem three_cells (w : World) (f t : Int) (g : FuncId) (caps : Array Value) (T1 T2 T3 : TypeId) (hf : True := trivial) : Btw (((w.alloc (.cells #[.int .u32 f] T1)).alloc (.cells #[.int .u32 t] T2)).alloc (.cells #[.func (.func g) #[] caps] T3)) w.heap.size (w.heap.size + 1) (w.heap.size + 1 + 1) f t g caps := by
  have h1 := cell_new w (.int .u32 f) T1
  have h2 := cell_new (w.alloc (.cells #[.int .u32 f] T1)) (.int .u32 t) T2
  have h3 := cell_new ((w.alloc (.cells #[.int .u32 f] T1)).alloc (.cells #[.int .u32 t] T2)) (.func (.func g) #[] caps) T3
  rw [World.size_alloc] at h2
  rw [World.size_alloc, World.size_alloc] at h3
  exact ⟨cell_up (below_alloc _ _) (cell_up (below_alloc _ _) h1), cell_up (below_alloc _ _) h2, h3⟩
def Vol.btwB (f t : Int) (p : Int → Int → Bool) (c : Ct) : Bool := decide (c.from_ = f) && decide (c.to = t) && p c.a c.b

set_option maxRecDepth 100000 in
theorem between1_c (b1 b2 b3 : Nat) (f t : Int) (g : FuncId) (hg : Enters Try.prog g) (caps : Array Value) (p : Int → Int → Bool) (c : Ct) (w : World) (h : Btw w b1 b2 b3 f t g caps)
    (hp : ∀ w1, Below w.heap.size w w1 → Calls Try.prog g (#[.agg #[.int .u64 c.a, .int .u64 c.b]] ++ caps) w1 (Ret (.bool (p c.a c.b)) w1)) :
    Calls Try.prog 60 #[ctV c, .pointer (some ⟨b1, 0, none⟩), .pointer (some ⟨b2, 0, none⟩), .pointer (some ⟨b3, 0, none⟩)] w (Ret (.bool (btwB f t p c)) w) := by
  have hB := below_alloc w (.cells (ctC c).toArray 27)
  obtain ⟨h1, h2, h3⟩ := h.up hB
  have hcl := hp _ hB
  unfold Enters at hg
  unfold btwB
  by_cases hf : c.from_ = f
  · have ef : (c.from_ == f) = true := by rw [beq_iff_eq]; exact hf
    by_cases ht : c.to = t
    · have et : (c.to == t) = true := by rw [beq_iff_eq]; exact ht
      generalize p c.a c.b = z at hcl ⊢
      have hv : (decide (c.from_ = f) && decide (c.to = t) && z) = z := by simp [hf, ht]
      rw [hv]
      clear hf ht
      go_enter Try.func60, Try.ntmps60
      go_wp2_with (refine hcl.mono ?_; rintro en w1 ⟨rfl, hb⟩)
      go_ret
      exact ⟨retB (by simp), below_up hB hb⟩
    · have et : (c.to == t) = false := by rw [beq_eq_false_iff_ne]; exact ht
      go_enter Try.func60, Try.ntmps60
      go_wp2
      go_ret
      exact ⟨retB (by simp [ht]), hB⟩
  · have ef : (c.from_ == f) = false := by rw [beq_eq_false_iff_ne]; exact hf
    go_enter Try.func60, Try.ntmps60
    go_wp2
    go_ret
    exact ⟨retB (by simp [hf]), hB⟩

theorem enters_btw1 : Enters Try.prog 60 := enters_of Try.func60 (by kernel_rfl) rfl
set_option maxRecDepth 100000 in
theorem find_c (l : List Ct) (v : Value) (n : Nat) (w : World) (hv : Sl w 5 v n (l.flatMap ctC)) (f : FuncId) (hf : Enters Try.prog f) (caps : Array Value) (p : Ct → Bool)
    (hp : ∀ x ∈ l, ∀ w1, Below w.heap.size w w1 → Calls Try.prog f (#[ctV x] ++ caps) w1 (Ret (.bool (p x)) w1)) :
    Calls Try.prog 59 #[v, .func (.func f) #[] caps] w (Ret (.int .i64 (idx p l)) w) := by
  go_enter Try.func59, Try.ntmps59
  go_wp2_with (go_at_call 74; refine (indexC_c l v n _ hv hv.n_max f hf caps p hp).mono ?_; rintro en w1 ⟨rfl, hb⟩)
  go_ret
  exact ⟨rfl, hb⟩

set_option maxHeartbeats 1000000 in
set_option maxRecDepth 100000 in
theorem between_c (l : List Ct) (v : Value) (n : Nat) (f t : Int) (g : FuncId) (hg : Enters Try.prog g) (caps : Array Value) (p : Int → Int → Bool) (w : World) (hv : Sl w 5 v n (l.flatMap ctC))
    (hp : ∀ x ∈ l, ∀ w1, Below w.heap.size w w1 → Calls Try.prog g (#[.agg #[.int .u64 x.a, .int .u64 x.b]] ++ caps) w1 (Ret (.bool (p x.a x.b)) w1)) :
    Calls Try.prog 33 #[v, .int .u32 f, .int .u32 t, .func (.func g) #[] caps] w (Ret (.int .i64 (idx (btwB f t p) l)) w) := by
  have hmf : ∀ (fn : Fn) (first cap : Array Value) (w : World), (Instr.makeFunc fn first cap).run Try.prog w = .ok (.func fn first cap) w := fun _ _ _ _ => rfl
  have hB : Below w.heap.size w (((w.alloc (.cells #[.int .u32 f] 22)).alloc (.cells #[.int .u32 t] 22)).alloc (.cells #[.func (.func g) #[] caps] 60)) := ((below_alloc w _).alloc (by simp) _).alloc (by simp; omega) _
  have hb3 : Btw (((w.alloc (.cells #[.int .u32 f] 22)).alloc (.cells #[.int .u32 t] 22)).alloc (.cells #[.func (.func g) #[] caps] 60)) w.heap.size (w.heap.size + 1) (w.heap.size + 1 + 1) f t g caps := three_cells w _ _ _ _ _ _ _
  obtain ⟨a, c, rfl⟩ := hv.len
  have HB := Lib.hid hB
  have HT := Lib.hid hb3
  have HV := Lib.hid (hv.up hB)
  have HP := Lib.hid hp
  clear hB hb3 hp
  go_enter Try.func33, Try.ntmps33
  go_wp2_with (go_at_call 59; refine (find_c l _ n _ HV.out _ enters_btw1 #[.pointer (some ⟨w.heap.size, 0, none⟩), .pointer (some ⟨w.heap.size + 1, 0, none⟩), .pointer (some ⟨w.heap.size + 1 + 1, 0, none⟩)] (btwB f t p) (fun x hx w1 hb => Calls.cast rfl (between1_c w.heap.size (w.heap.size + 1) (w.heap.size + 1 + 1) f t g hg caps p x w1 (HT.out.up hb) (fun w2 hb2 => HP.out x hx w2 (below_up (below_up HB.out hb) hb2))))).mono ?_; rintro en w1 ⟨rfl, hb⟩)
  go_ret
  exact ⟨rfl, below_up HB.out hb⟩

theorem at1_c (b : Nat) (x y t : Int) (w : World) (h : w.cell? ⟨b, 0, none⟩ = some (.int .u64 t)) : Calls Try.prog 66 #[.agg #[.int .u64 x, .int .u64 y], .pointer (some ⟨b, 0, none⟩)] w (Ret (.bool (Clk.inB x y t)) w) := by
  have hB := below_alloc w (.cells #[.int .u64 x, .int .u64 y] 25)
  have h1 := cell_up hB h
  go_enter Try.func66, Try.ntmps66
  go_wp2_with (go_at_call 67; refine (inM_c _ _ _ _).mono ?_; rintro en w1 ⟨rfl, hb⟩)
  go_ret
  exact ⟨rfl, below_up hB hb⟩
theorem enters_at1 : Enters Try.prog 66 := enters_of Try.func66 (by kernel_rfl) rfl

/-- The place of the contact at a time. -/
def Vol.atF (L : List Ct) (f t at_ : Int) : Int := idx (btwB f t fun x y => Clk.inB x y at_) L
set_option maxHeartbeats 1000000 in
set_option maxRecDepth 100000 in
theorem pat_c {B : Nat} {v : Value} {L : List Ct} (f t at_ : Int) (w : World) (h : PlanAt w B v L) : Calls Try.prog 44 #[.pointer (some ⟨B, 0, none⟩), .int .u32 f, .int .u32 t, .int .u64 at_] w (Ret (.int .i64 (atF L f t at_)) w) := by
  have hmf : ∀ (fn : Fn) (first cap : Array Value) (w : World), (Instr.makeFunc fn first cap).run Try.prog w = .ok (.func fn first cap) w := fun _ _ _ _ => rfl
  have hB := below_alloc w (.cells #[.int .u64 at_] 23)
  have h1 := h.below hB
  have hc := h1.var.cell (i := 0) rfl
  have HT := Lib.hid (cell_new w (.int .u64 at_) 23)
  obtain ⟨a, c, hv⟩ := h.sl.len
  subst hv
  go_enter Try.func44, Try.ntmps44
  go_wp2_with (first
    | (go_at_call 30; refine (pNone_c _ h1).mono ?_; rintro en w1 ⟨rfl, rfl⟩)
    | (go_at_call 33; go_loud (refine (between_c L _ _ f t _ enters_at1 #[.pointer (some ⟨w.heap.size, 0, none⟩)] (fun x y => Clk.inB x y at_) _ h1.sl (fun x hx w1 hb => Calls.cast rfl (at1_c w.heap.size x.a x.b at_ w1 (cell_up hb HT.out)))).mono ?_; rintro en w1 ⟨rfl, hb⟩)))
  go_ret
  exact ⟨rfl, below_up hB hb⟩
end Go.Proofs.Ytgbpdchdcbnoaaa
