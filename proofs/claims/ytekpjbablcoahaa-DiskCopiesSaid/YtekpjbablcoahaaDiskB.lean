/-
  Contracts of disk's asked, is, done and of its questions.
-/
import Derived.Test.YtekpjbablcoahaaDiskA
import Derived.Laws.EntriesVeiled
namespace Go.Proofs.Ytekpjbablcoahaa
open Go.RowKit Dk
set_option linter.unusedSimpArgs false
set_option linter.unusedVariables false

/-- A question: the function, what it is bound to, its error, what it answers. -/
structure Dk.Qn where
  g : FuncId
  fst : Array Value
  cap : Array Value
  e : Int
  b : Bool
abbrev askC (a : Qn) : List Value := [.func (.func a.g) a.fst a.cap, .int .i64 a.e]
/-- The first error. -/
def Dk.askF (l : List Qn) : Int := match l.find? (·.b) with | some a => a.e | none => 0
theorem Dk.askF_some {l : List Qn} {k : Nat} (hk : k < l.length) (h : ∀ j, j < k → ∀ hj : j < l.length, l[j].b = false) (hp : l[k].b = true) : askF l = l[k].e := by
  have : l.find? (·.b) = some l[k] := by
    rw [List.find?_eq_some_iff_getElem]
    exact ⟨hp, k, hk, rfl, fun j hj => by simp [h j hj (by omega)]⟩
  unfold askF; rw [this]
theorem Dk.askF_none {l : List Qn} (h : ∀ j, ∀ hj : j < l.length, l[j].b = false) : askF l = 0 := by
  have : l.find? (·.b) = none := by
    rw [List.find?_eq_none]
    intro a ha
    obtain ⟨j, hj, rfl⟩ := List.mem_iff_getElem.1 ha
    simp [h j hj]
  unfold askF; rw [this]

set_option maxHeartbeats 2000000 in
set_option maxRecDepth 100000 in
theorem dAsked_c (l : List Qn) (v : Value) (n : Nat) (w : World) (hv : Sl w 2 v n (l.flatMap askC)) (hg : ∀ a ∈ l, Enters Try.prog a.g)
    (hq : ∀ a ∈ l, ∀ w1, Below w.heap.size w w1 → Calls Try.prog a.g (a.fst ++ a.cap) w1 (Ret (.bool a.b) w1)) :
    Calls Try.prog 26 #[v] w (Ret (.int .i64 (askF l)) w) := by
  have Hln := Lib.hid (Sl.recs (cells := askC) (sz := 2) (fun _ => rfl) (by decide) hv)
  have hn := hv.n_max
  obtain ⟨a, c, rfl⟩ := hv.len
  obtain ⟨R, hR⟩ : ∃ R, R = askF l := ⟨_, rfl⟩
  rw [← hR]
  have HR := Lib.hid hR
  have HG := Lib.hid hg
  have HQ := Lib.hid hq
  clear hR hg hq
  go_enter Try.func26, Try.ntmps26
  go_wp2
  refine wp_scope_fwd 0 rfl ?_
  go_wp2
  go_loopw [7] (fun i wr => ∃ k : Nat, k ≤ n ∧ i = .int .i64 k ∧ RowKit.Hid (∀ j, j < k → ∀ hj : j < l.length, l[j].b = false) ∧ Below w.heap.size w wr) (fun i _ => n - (intOf i).toNat)
  case atStart => exact ⟨0, Nat.zero_le _, rfl, Lib.hid (fun j hj => by omega), Below.refl _ _⟩
  case round =>
    obtain ⟨k, hk, rfl, Hno, hB⟩ := hrel
    have HB := Lib.hid hB
    by_cases hlt : k < n
    · have hlt' : k < l.length := by rw [Hln.out]; exact hlt
      obtain ⟨b, off, rfl, hr⟩ := (hv.up hB).rec_at (cells := askC) (sz := 2) (fun _ => rfl) hlt hlt'
      have hcall := HQ.out l[k] (List.getElem_mem hlt')
      have hent := HG.out l[k] (List.getElem_mem hlt')
      have Hsome := Lib.hid (fun h : l[k].b = true => HR.out.trans (askF_some hlt' Hno.out h))
      have Hstep := Lib.hid (fun (h : l[k].b = false) j (hj : j < k + 1) (hj' : j < l.length) => (show l[j].b = false from by
        rcases Nat.lt_or_ge j k with h' | h'
        · exact Hno.out j h' hj'
        · obtain rfl : j = k := by omega
          exact h))
      clear hB
      unfold Enters at hent
      generalize l[k] = x at *
      obtain ⟨g, fst, cap, e, bb⟩ := x
      simp only at hcall hent
      have hcl := hcall _ (HB.out.alloc HB.out.size (.cells (askC ⟨g, fst, cap, e, bb⟩).toArray 73))
      cases bb with
      | true =>
        have hRe := Hsome.out rfl
        simp only at hRe
        go_wp2_with (first
          | (refine wpList_load_mid rfl 73 (.tmp 9) rfl b (off + k * 2) rfl (askC ⟨g, fst, cap, e, true⟩) _ hr Try.underlying73 rfl (by kernel_rfl) ?_)
          | (refine hcl.mono ?_; rintro en w1 ⟨rfl, hb⟩))
        refine wp_goto ?_
        refine And.intro rfl ?_
        show Code.wp _ _ _ _ _
        go_wp2
        try rw [jump_ret]
        go_ret
        exact ⟨retI hRe.symm, below_up (HB.out.alloc HB.out.size _) hb⟩
      | false =>
        go_wp2_with (first
          | (refine wpList_load_mid rfl 73 (.tmp 9) rfl b (off + k * 2) rfl (askC ⟨g, fst, cap, e, false⟩) _ hr Try.underlying73 rfl (by kernel_rfl) ?_)
          | (refine hcl.mono ?_; rintro en w1 ⟨rfl, hb⟩))
        go_roundw
        case rel => exact ⟨k + 1, by omega, by go_num, Lib.hid (by first | exact Hstep.out rfl | exact Hstep.out trivial), below_up (HB.out.alloc HB.out.size _) hb⟩
        case measure => simp [intOf]; omega
    · obtain rfl : k = n := by omega
      have hRe := HR.out.trans (askF_none fun j hj => Hno.out j (by rw [← Hln.out]; exact hj) hj)
      go_wp2
      try rw [jump_ret]
      go_ret
      exact ⟨retI hRe.symm, HB.out⟩

set_option maxHeartbeats 2000000 in
set_option maxRecDepth 100000 in
/-- asked: the first question is answered by yes. -/
theorem dAskedF_c (a : Qn) (l : List Qn) (v : Value) (n : Nat) (w : World) (hv : Sl w 2 v n ((a :: l).flatMap askC)) (ha : a.b = true) (hg : Enters Try.prog a.g)
    (hq : ∀ w1, Below w.heap.size w w1 → Calls Try.prog a.g (a.fst ++ a.cap) w1 (Ret (.bool true) w1)) :
    Calls Try.prog 26 #[v] w (Ret (.int .i64 a.e) w) := by
  have Hln := Sl.recs (cells := askC) (sz := 2) (fun _ => rfl) (by decide) hv
  have hn := hv.n_max
  obtain ⟨ad, c, rfl⟩ := hv.len
  have hlt : 0 < n := by simp at Hln; omega
  have hlt' : 0 < (a :: l).length := by simp
  obtain ⟨b, off, rfl, hr0⟩ := hv.rec_at (cells := askC) (sz := 2) (fun _ => rfl) hlt hlt'
  simp only [List.getElem_cons_zero] at hr0
  obtain ⟨g, fst, cap, e, bb⟩ := a
  simp only at hq hg ha ⊢
  subst ha
  have HQ := Lib.hid hq
  unfold Enters at hg
  clear hq Hln
  have hltI : (0 : Int) < (n : Int) := by omega
  go_enter Try.func26, Try.ntmps26
  go_wp2
  refine wp_scope_fwd 0 rfl ?_
  go_wp2
  go_loopw [7] (fun i wr => i = .int .i64 0 ∧ Below w.heap.size w wr) (fun i _ => 0)
  case atStart => exact ⟨rfl, Below.refl _ _⟩
  case round =>
    obtain ⟨rfl, hB⟩ := hrel
    have hr := rangeAt_up hB hr0
    simp only [Nat.zero_mul, Nat.add_zero] at hr
    have HB := Lib.hid hB
    have hcl := HQ.out _ (HB.out.alloc HB.out.size (.cells (askC ⟨g, fst, cap, e, true⟩).toArray 73))
    clear hB
    go_wp2_with (first
      | (refine wpList_load_mid rfl 73 (.tmp 9) rfl b off rfl (askC ⟨g, fst, cap, e, true⟩) _ hr Try.underlying73 rfl (by kernel_rfl) ?_)
      | (refine hcl.mono ?_; rintro en w1 ⟨rfl, hb⟩))
    refine wp_goto ?_
    refine And.intro rfl ?_
    show Code.wp _ _ _ _ _
    go_wp2
    try rw [jump_ret]
    go_ret
    exact ⟨rfl, below_up (HB.out.alloc HB.out.size _) hb⟩

theorem dEnters_none : Enters Try.prog 35 := enters_of Try.func35 (by kernel_rfl) rfl
theorem dEnters_w1 : Enters Try.prog 28 := enters_of Try.func28 (by kernel_rfl) rfl
theorem dEnters_w2 : Enters Try.prog 29 := enters_of Try.func29 (by kernel_rfl) rfl
theorem dEnters_w3 : Enters Try.prog 30 := enters_of Try.func30 (by kernel_rfl) rfl
theorem dEnters_t1 : Enters Try.prog 53 := enters_of Try.func53 (by kernel_rfl) rfl
theorem dEnters_s1 : Enters Try.prog 33 := enters_of Try.func33 (by kernel_rfl) rfl

set_option maxRecDepth 100000 in
theorem dIs_c (p : Option Addr) (w : World) : Calls Try.prog 27 #[.pointer p] w (Ret (.agg #[.func (.func 35) #[.pointer p] #[], .int .i64 1]) w) := by
  have hmf : ∀ (fn : Fn) (first cap : Array Value) (w : World), (Instr.makeFunc fn first cap).run Try.prog w = .ok (.func fn first cap) w := fun _ _ _ _ => rfl
  go_enter Try.func27, Try.ntmps27
  go_wp2
  exact bodyPost_ret (v := .agg #[.func (.func 35) #[.pointer p] #[], .int .i64 1]) (by simp [results, Try.results27, go_sem]) rfl ⟨rfl, below_alloc w _⟩
set_option maxRecDepth 100000 in
/-- Has it a sector's length? -/
theorem dW1_c {A n c : Nat} {a : Option Addr} (w : World) (h : w.cell? ⟨A, 0, none⟩ = some (.slice a n c)) : Calls Try.prog 28 #[.pointer (some ⟨A, 0, none⟩)] w (Ret (.bool (decide (n ≠ 64))) w) := by
  have e : (!(decide ((n : Int) = 64))) = decide (n ≠ 64) := by
    by_cases h : n = 64
    · subst h; rfl
    · have : ¬ (n : Int) = 64 := by omega
      simp [h, this]
  have E := Lib.hid e
  clear e
  go_enter Try.func28, Try.ntmps28
  go_wp2
  go_ret
  refine ⟨retB ?_, Below.refl _ _⟩
  rw [← E.out]
  rfl

/-- Is there no such sector? -/
def Dk.offB (k l : Int) : Bool := decide (k < 0) || decide (l ≤ k)

set_option maxRecDepth 100000 in
theorem dW2_c {A D B : Nat} (k l : Int) (w : World) (ha : w.cell? ⟨A, 0, none⟩ = some (.int .i64 k)) (hd : w.cell? ⟨D, 0, none⟩ = some (.pointer (some ⟨B, 0, none⟩))) (hm : w.cell? ⟨B, 1, none⟩ = some (.int .i64 l)) :
    Calls Try.prog 29 #[.pointer (some ⟨A, 0, none⟩), .pointer (some ⟨D, 0, none⟩)] w (Ret (.bool (offB k l)) w) := by
  unfold offB
  by_cases hk : k < 0
  · rw [show (decide (k < 0) || decide (l ≤ k)) = true by simp [hk]]
    go_enter Try.func29, Try.ntmps29
    go_wp2
    refine wp_region_pi [(0, false), (1, false), (2, false), (3, false), (4, false), (5, false), (6, false), (7, false), (8, false), (9, false), (10, false)] (by kernel_rfl) (by kernel_rfl) (by kernel_rfl) rfl (fun _ _ d _ _ h => by cases d <;> exact h) (fun Wd hBd => ?_)
    try simp only [Act.put, List.getElem_toArray, List.getElem_cons_zero, List.getElem_cons_succ, List.setIfInBounds_toArray, List.set_cons_zero, List.set_cons_succ]
    have ca : ∀ w', Below Wd.heap.size Wd w' → w'.cell? ⟨A, 0, none⟩ = some (.int .i64 k) := fun w' hb => cell_up hb (cell_up hBd ha)
    have cd : ∀ w', Below Wd.heap.size Wd w' → w'.cell? ⟨D, 0, none⟩ = some (.pointer (some ⟨B, 0, none⟩)) := fun w' hb => cell_up hb (cell_up hBd hd)
    have cm : ∀ w', Below Wd.heap.size Wd w' → w'.cell? ⟨B, 1, none⟩ = some (.int .i64 l) := fun w' hb => cell_up hb (cell_up hBd hm)
    refine pi_q (v := ?_) rfl (by rfl) ?_ ?_
    rotate_left
    · intro w' hBw'
      first | (go_simp; done) | (go_simp; with_reducible rfl)
    try simp only [Act.put, List.getElem_toArray, List.getElem_cons_zero, List.getElem_cons_succ, List.setIfInBounds_toArray, List.set_cons_zero, List.set_cons_succ]
    refine pi_q (v := ?_) rfl (by rfl) ?_ ?_
    rotate_left
    · intro w' hBw'
      first | (go_simp; done) | (go_simp; with_reducible rfl)
    try simp only [Act.put, List.getElem_toArray, List.getElem_cons_zero, List.getElem_cons_succ, List.setIfInBounds_toArray, List.set_cons_zero, List.set_cons_succ]
    refine pi_q (v := ?_) rfl (by rfl) ?_ ?_
    rotate_left
    · intro w' hBw'
      first | (go_simp; done) | (go_simp; with_reducible rfl)
    try simp only [Act.put, List.getElem_toArray, List.getElem_cons_zero, List.getElem_cons_succ, List.setIfInBounds_toArray, List.set_cons_zero, List.set_cons_succ]
    refine pi_no rfl (by rfl) ?_
    try simp only [Act.put, List.getElem_toArray, List.getElem_cons_zero, List.getElem_cons_succ, List.setIfInBounds_toArray, List.set_cons_zero, List.set_cons_succ]
    refine pi_no rfl (by rfl) ?_
    try simp only [Act.put, List.getElem_toArray, List.getElem_cons_zero, List.getElem_cons_succ, List.setIfInBounds_toArray, List.set_cons_zero, List.set_cons_succ]
    refine pi_no rfl (by rfl) ?_
    try simp only [Act.put, List.getElem_toArray, List.getElem_cons_zero, List.getElem_cons_succ, List.setIfInBounds_toArray, List.set_cons_zero, List.set_cons_succ]
    refine pi_no rfl (by rfl) ?_
    try simp only [Act.put, List.getElem_toArray, List.getElem_cons_zero, List.getElem_cons_succ, List.setIfInBounds_toArray, List.set_cons_zero, List.set_cons_succ]
    refine pi_no rfl (by rfl) ?_
    try simp only [Act.put, List.getElem_toArray, List.getElem_cons_zero, List.getElem_cons_succ, List.setIfInBounds_toArray, List.set_cons_zero, List.set_cons_succ]
    refine pi_no rfl (by rfl) ?_
    try simp only [Act.put, List.getElem_toArray, List.getElem_cons_zero, List.getElem_cons_succ, List.setIfInBounds_toArray, List.set_cons_zero, List.set_cons_succ]
    refine pi_q (v := ?_) rfl (by rfl) ?_ ?_
    rotate_left
    · intro w' hBw'
      first | (go_simp; done) | (go_simp; with_reducible rfl)
    try simp only [Act.put, List.getElem_toArray, List.getElem_cons_zero, List.getElem_cons_succ, List.setIfInBounds_toArray, List.set_cons_zero, List.set_cons_succ]
    refine pi_q (v := ?_) rfl (by rfl) ?_ ?_
    rotate_left
    · intro w' hBw'
      first | (go_simp; done) | (go_simp; with_reducible rfl)
    try simp only [Act.put, List.getElem_toArray, List.getElem_cons_zero, List.getElem_cons_succ, List.setIfInBounds_toArray, List.set_cons_zero, List.set_cons_succ]
    refine pi_nil ?_
    go_wp2
    go_ret
    exact ⟨rfl, hBd⟩
  · rw [show (decide (k < 0) || decide (l ≤ k)) = decide (l ≤ k) by simp [hk]]
    have hkf : decide (k < 0) = false := by simp [hk]
    clear hk
    go_enter Try.func29, Try.ntmps29
    go_wp2
    refine wp_region_pi [(0, false), (1, false), (2, false), (3, false), (4, false), (5, false), (6, false), (7, false), (8, false), (9, false), (10, false)] (by kernel_rfl) (by kernel_rfl) (by kernel_rfl) rfl (fun _ _ d _ _ h => by cases d <;> exact h) (fun Wd hBd => ?_)
    try simp only [Act.put, List.getElem_toArray, List.getElem_cons_zero, List.getElem_cons_succ, List.setIfInBounds_toArray, List.set_cons_zero, List.set_cons_succ]
    have ca : ∀ w', Below Wd.heap.size Wd w' → w'.cell? ⟨A, 0, none⟩ = some (.int .i64 k) := fun w' hb => cell_up hb (cell_up hBd ha)
    have cd : ∀ w', Below Wd.heap.size Wd w' → w'.cell? ⟨D, 0, none⟩ = some (.pointer (some ⟨B, 0, none⟩)) := fun w' hb => cell_up hb (cell_up hBd hd)
    have cm : ∀ w', Below Wd.heap.size Wd w' → w'.cell? ⟨B, 1, none⟩ = some (.int .i64 l) := fun w' hb => cell_up hb (cell_up hBd hm)
    refine pi_q (v := ?_) rfl (by rfl) ?_ ?_
    rotate_left
    · intro w' hBw'
      first | (go_simp; done) | (go_simp; with_reducible rfl)
    try simp only [Act.put, List.getElem_toArray, List.getElem_cons_zero, List.getElem_cons_succ, List.setIfInBounds_toArray, List.set_cons_zero, List.set_cons_succ]
    refine pi_q (v := ?_) rfl (by rfl) ?_ ?_
    rotate_left
    · intro w' hBw'
      first | (go_simp; done) | (go_simp; with_reducible rfl)
    try simp only [Act.put, List.getElem_toArray, List.getElem_cons_zero, List.getElem_cons_succ, List.setIfInBounds_toArray, List.set_cons_zero, List.set_cons_succ]
    refine pi_q (v := ?_) rfl (by rfl) ?_ ?_
    rotate_left
    · intro w' hBw'
      first | (go_simp; done) | (go_simp; with_reducible rfl)
    try simp only [Act.put, List.getElem_toArray, List.getElem_cons_zero, List.getElem_cons_succ, List.setIfInBounds_toArray, List.set_cons_zero, List.set_cons_succ]
    refine pi_q (v := ?_) rfl (by rfl) ?_ ?_
    rotate_left
    · intro w' hBw'
      first | (go_simp; done) | (go_simp; with_reducible rfl)
    try simp only [Act.put, List.getElem_toArray, List.getElem_cons_zero, List.getElem_cons_succ, List.setIfInBounds_toArray, List.set_cons_zero, List.set_cons_succ]
    refine pi_q (v := ?_) rfl (by rfl) ?_ ?_
    rotate_left
    · intro w' hBw'
      first | (go_simp; done) | (go_simp; with_reducible rfl)
    try simp only [Act.put, List.getElem_toArray, List.getElem_cons_zero, List.getElem_cons_succ, List.setIfInBounds_toArray, List.set_cons_zero, List.set_cons_succ]
    refine pi_q (v := ?_) rfl (by rfl) ?_ ?_
    rotate_left
    · intro w' hBw'
      first | (go_simp; done) | (go_simp; with_reducible rfl)
    try simp only [Act.put, List.getElem_toArray, List.getElem_cons_zero, List.getElem_cons_succ, List.setIfInBounds_toArray, List.set_cons_zero, List.set_cons_succ]
    refine pi_q (v := ?_) rfl (by rfl) ?_ ?_
    rotate_left
    · intro w' hBw'
      first | (go_simp; done) | (go_simp; with_reducible rfl)
    try simp only [Act.put, List.getElem_toArray, List.getElem_cons_zero, List.getElem_cons_succ, List.setIfInBounds_toArray, List.set_cons_zero, List.set_cons_succ]
    refine pi_q (v := ?_) rfl (by rfl) ?_ ?_
    rotate_left
    · intro w' hBw'
      first | (go_simp; done) | (go_simp; with_reducible rfl)
    try simp only [Act.put, List.getElem_toArray, List.getElem_cons_zero, List.getElem_cons_succ, List.setIfInBounds_toArray, List.set_cons_zero, List.set_cons_succ]
    refine pi_q (v := ?_) rfl (by rfl) ?_ ?_
    rotate_left
    · intro w' hBw'
      first | (go_simp; done) | (go_simp; with_reducible rfl)
    try simp only [Act.put, List.getElem_toArray, List.getElem_cons_zero, List.getElem_cons_succ, List.setIfInBounds_toArray, List.set_cons_zero, List.set_cons_succ]
    refine pi_q (v := ?_) rfl (by rfl) ?_ ?_
    rotate_left
    · intro w' hBw'
      first | (go_simp; done) | (go_simp; with_reducible rfl)
    try simp only [Act.put, List.getElem_toArray, List.getElem_cons_zero, List.getElem_cons_succ, List.setIfInBounds_toArray, List.set_cons_zero, List.set_cons_succ]
    refine pi_q (v := ?_) rfl (by rfl) ?_ ?_
    rotate_left
    · intro w' hBw'
      first | (go_simp; done) | (go_simp; with_reducible rfl)
    try simp only [Act.put, List.getElem_toArray, List.getElem_cons_zero, List.getElem_cons_succ, List.setIfInBounds_toArray, List.set_cons_zero, List.set_cons_succ]
    refine pi_nil ?_
    go_wp2
    go_ret
    exact ⟨rfl, hBd⟩

set_option maxRecDepth 100000 in
theorem dT1_c {A D B : Nat} (k l : Int) (w : World) (ha : w.cell? ⟨A, 0, none⟩ = some (.int .i64 k)) (hd : w.cell? ⟨D, 0, none⟩ = some (.pointer (some ⟨B, 0, none⟩))) (hm : w.cell? ⟨B, 1, none⟩ = some (.int .i64 l)) :
    Calls Try.prog 53 #[.pointer (some ⟨A, 0, none⟩), .pointer (some ⟨D, 0, none⟩)] w (Ret (.bool (offB k l)) w) := by
  unfold offB
  by_cases hk : k < 0
  · rw [show (decide (k < 0) || decide (l ≤ k)) = true by simp [hk]]
    go_enter Try.func53, Try.ntmps53
    go_wp2
    refine wp_region_pi [(0, false), (1, false), (2, false), (3, false), (4, false), (5, false), (6, false), (7, false), (8, false), (9, false), (10, false)] (by kernel_rfl) (by kernel_rfl) (by kernel_rfl) rfl (fun _ _ d _ _ h => by cases d <;> exact h) (fun Wd hBd => ?_)
    try simp only [Act.put, List.getElem_toArray, List.getElem_cons_zero, List.getElem_cons_succ, List.setIfInBounds_toArray, List.set_cons_zero, List.set_cons_succ]
    have ca : ∀ w', Below Wd.heap.size Wd w' → w'.cell? ⟨A, 0, none⟩ = some (.int .i64 k) := fun w' hb => cell_up hb (cell_up hBd ha)
    have cd : ∀ w', Below Wd.heap.size Wd w' → w'.cell? ⟨D, 0, none⟩ = some (.pointer (some ⟨B, 0, none⟩)) := fun w' hb => cell_up hb (cell_up hBd hd)
    have cm : ∀ w', Below Wd.heap.size Wd w' → w'.cell? ⟨B, 1, none⟩ = some (.int .i64 l) := fun w' hb => cell_up hb (cell_up hBd hm)
    refine pi_q (v := ?_) rfl (by rfl) ?_ ?_
    rotate_left
    · intro w' hBw'
      first | (go_simp; done) | (go_simp; with_reducible rfl)
    try simp only [Act.put, List.getElem_toArray, List.getElem_cons_zero, List.getElem_cons_succ, List.setIfInBounds_toArray, List.set_cons_zero, List.set_cons_succ]
    refine pi_q (v := ?_) rfl (by rfl) ?_ ?_
    rotate_left
    · intro w' hBw'
      first | (go_simp; done) | (go_simp; with_reducible rfl)
    try simp only [Act.put, List.getElem_toArray, List.getElem_cons_zero, List.getElem_cons_succ, List.setIfInBounds_toArray, List.set_cons_zero, List.set_cons_succ]
    refine pi_q (v := ?_) rfl (by rfl) ?_ ?_
    rotate_left
    · intro w' hBw'
      first | (go_simp; done) | (go_simp; with_reducible rfl)
    try simp only [Act.put, List.getElem_toArray, List.getElem_cons_zero, List.getElem_cons_succ, List.setIfInBounds_toArray, List.set_cons_zero, List.set_cons_succ]
    refine pi_no rfl (by rfl) ?_
    try simp only [Act.put, List.getElem_toArray, List.getElem_cons_zero, List.getElem_cons_succ, List.setIfInBounds_toArray, List.set_cons_zero, List.set_cons_succ]
    refine pi_no rfl (by rfl) ?_
    try simp only [Act.put, List.getElem_toArray, List.getElem_cons_zero, List.getElem_cons_succ, List.setIfInBounds_toArray, List.set_cons_zero, List.set_cons_succ]
    refine pi_no rfl (by rfl) ?_
    try simp only [Act.put, List.getElem_toArray, List.getElem_cons_zero, List.getElem_cons_succ, List.setIfInBounds_toArray, List.set_cons_zero, List.set_cons_succ]
    refine pi_no rfl (by rfl) ?_
    try simp only [Act.put, List.getElem_toArray, List.getElem_cons_zero, List.getElem_cons_succ, List.setIfInBounds_toArray, List.set_cons_zero, List.set_cons_succ]
    refine pi_no rfl (by rfl) ?_
    try simp only [Act.put, List.getElem_toArray, List.getElem_cons_zero, List.getElem_cons_succ, List.setIfInBounds_toArray, List.set_cons_zero, List.set_cons_succ]
    refine pi_no rfl (by rfl) ?_
    try simp only [Act.put, List.getElem_toArray, List.getElem_cons_zero, List.getElem_cons_succ, List.setIfInBounds_toArray, List.set_cons_zero, List.set_cons_succ]
    refine pi_q (v := ?_) rfl (by rfl) ?_ ?_
    rotate_left
    · intro w' hBw'
      first | (go_simp; done) | (go_simp; with_reducible rfl)
    try simp only [Act.put, List.getElem_toArray, List.getElem_cons_zero, List.getElem_cons_succ, List.setIfInBounds_toArray, List.set_cons_zero, List.set_cons_succ]
    refine pi_q (v := ?_) rfl (by rfl) ?_ ?_
    rotate_left
    · intro w' hBw'
      first | (go_simp; done) | (go_simp; with_reducible rfl)
    try simp only [Act.put, List.getElem_toArray, List.getElem_cons_zero, List.getElem_cons_succ, List.setIfInBounds_toArray, List.set_cons_zero, List.set_cons_succ]
    refine pi_nil ?_
    go_wp2
    go_ret
    exact ⟨rfl, hBd⟩
  · rw [show (decide (k < 0) || decide (l ≤ k)) = decide (l ≤ k) by simp [hk]]
    have hkf : decide (k < 0) = false := by simp [hk]
    clear hk
    go_enter Try.func53, Try.ntmps53
    go_wp2
    refine wp_region_pi [(0, false), (1, false), (2, false), (3, false), (4, false), (5, false), (6, false), (7, false), (8, false), (9, false), (10, false)] (by kernel_rfl) (by kernel_rfl) (by kernel_rfl) rfl (fun _ _ d _ _ h => by cases d <;> exact h) (fun Wd hBd => ?_)
    try simp only [Act.put, List.getElem_toArray, List.getElem_cons_zero, List.getElem_cons_succ, List.setIfInBounds_toArray, List.set_cons_zero, List.set_cons_succ]
    have ca : ∀ w', Below Wd.heap.size Wd w' → w'.cell? ⟨A, 0, none⟩ = some (.int .i64 k) := fun w' hb => cell_up hb (cell_up hBd ha)
    have cd : ∀ w', Below Wd.heap.size Wd w' → w'.cell? ⟨D, 0, none⟩ = some (.pointer (some ⟨B, 0, none⟩)) := fun w' hb => cell_up hb (cell_up hBd hd)
    have cm : ∀ w', Below Wd.heap.size Wd w' → w'.cell? ⟨B, 1, none⟩ = some (.int .i64 l) := fun w' hb => cell_up hb (cell_up hBd hm)
    refine pi_q (v := ?_) rfl (by rfl) ?_ ?_
    rotate_left
    · intro w' hBw'
      first | (go_simp; done) | (go_simp; with_reducible rfl)
    try simp only [Act.put, List.getElem_toArray, List.getElem_cons_zero, List.getElem_cons_succ, List.setIfInBounds_toArray, List.set_cons_zero, List.set_cons_succ]
    refine pi_q (v := ?_) rfl (by rfl) ?_ ?_
    rotate_left
    · intro w' hBw'
      first | (go_simp; done) | (go_simp; with_reducible rfl)
    try simp only [Act.put, List.getElem_toArray, List.getElem_cons_zero, List.getElem_cons_succ, List.setIfInBounds_toArray, List.set_cons_zero, List.set_cons_succ]
    refine pi_q (v := ?_) rfl (by rfl) ?_ ?_
    rotate_left
    · intro w' hBw'
      first | (go_simp; done) | (go_simp; with_reducible rfl)
    try simp only [Act.put, List.getElem_toArray, List.getElem_cons_zero, List.getElem_cons_succ, List.setIfInBounds_toArray, List.set_cons_zero, List.set_cons_succ]
    refine pi_q (v := ?_) rfl (by rfl) ?_ ?_
    rotate_left
    · intro w' hBw'
      first | (go_simp; done) | (go_simp; with_reducible rfl)
    try simp only [Act.put, List.getElem_toArray, List.getElem_cons_zero, List.getElem_cons_succ, List.setIfInBounds_toArray, List.set_cons_zero, List.set_cons_succ]
    refine pi_q (v := ?_) rfl (by rfl) ?_ ?_
    rotate_left
    · intro w' hBw'
      first | (go_simp; done) | (go_simp; with_reducible rfl)
    try simp only [Act.put, List.getElem_toArray, List.getElem_cons_zero, List.getElem_cons_succ, List.setIfInBounds_toArray, List.set_cons_zero, List.set_cons_succ]
    refine pi_q (v := ?_) rfl (by rfl) ?_ ?_
    rotate_left
    · intro w' hBw'
      first | (go_simp; done) | (go_simp; with_reducible rfl)
    try simp only [Act.put, List.getElem_toArray, List.getElem_cons_zero, List.getElem_cons_succ, List.setIfInBounds_toArray, List.set_cons_zero, List.set_cons_succ]
    refine pi_q (v := ?_) rfl (by rfl) ?_ ?_
    rotate_left
    · intro w' hBw'
      first | (go_simp; done) | (go_simp; with_reducible rfl)
    try simp only [Act.put, List.getElem_toArray, List.getElem_cons_zero, List.getElem_cons_succ, List.setIfInBounds_toArray, List.set_cons_zero, List.set_cons_succ]
    refine pi_q (v := ?_) rfl (by rfl) ?_ ?_
    rotate_left
    · intro w' hBw'
      first | (go_simp; done) | (go_simp; with_reducible rfl)
    try simp only [Act.put, List.getElem_toArray, List.getElem_cons_zero, List.getElem_cons_succ, List.setIfInBounds_toArray, List.set_cons_zero, List.set_cons_succ]
    refine pi_q (v := ?_) rfl (by rfl) ?_ ?_
    rotate_left
    · intro w' hBw'
      first | (go_simp; done) | (go_simp; with_reducible rfl)
    try simp only [Act.put, List.getElem_toArray, List.getElem_cons_zero, List.getElem_cons_succ, List.setIfInBounds_toArray, List.set_cons_zero, List.set_cons_succ]
    refine pi_q (v := ?_) rfl (by rfl) ?_ ?_
    rotate_left
    · intro w' hBw'
      first | (go_simp; done) | (go_simp; with_reducible rfl)
    try simp only [Act.put, List.getElem_toArray, List.getElem_cons_zero, List.getElem_cons_succ, List.setIfInBounds_toArray, List.set_cons_zero, List.set_cons_succ]
    refine pi_q (v := ?_) rfl (by rfl) ?_ ?_
    rotate_left
    · intro w' hBw'
      first | (go_simp; done) | (go_simp; with_reducible rfl)
    try simp only [Act.put, List.getElem_toArray, List.getElem_cons_zero, List.getElem_cons_succ, List.setIfInBounds_toArray, List.set_cons_zero, List.set_cons_succ]
    refine pi_nil ?_
    go_wp2
    go_ret
    exact ⟨rfl, hBd⟩

set_option maxRecDepth 100000 in
theorem dW3_c {D B : Nat} (l : Int) (w : World) (hd : w.cell? ⟨D, 0, none⟩ = some (.pointer (some ⟨B, 0, none⟩))) (hm : w.cell? ⟨B, 0, none⟩ = some (.int .i64 l)) : Calls Try.prog 30 #[.pointer (some ⟨D, 0, none⟩)] w (Ret (.bool (decide (l = 0))) w) := by
  go_enter Try.func30, Try.ntmps30
  go_wp2_with (go_at_call 31; refine (dFails_c l _ hm).mono ?_; rintro en w1 ⟨rfl, rfl⟩)
  go_ret
  exact ⟨rfl, Below.refl _ _⟩
set_option maxRecDepth 100000 in
theorem dS1_c {D B : Nat} (l : Int) (w : World) (hd : w.cell? ⟨D, 0, none⟩ = some (.pointer (some ⟨B, 0, none⟩))) (hm : w.cell? ⟨B, 0, none⟩ = some (.int .i64 l)) : Calls Try.prog 33 #[.pointer (some ⟨D, 0, none⟩)] w (Ret (.bool (decide (l = 0))) w) := by
  go_enter Try.func33, Try.ntmps33
  go_wp2_with (go_at_call 31; refine (dFails_c l _ hm).mono ?_; rintro en w1 ⟨rfl, rfl⟩)
  go_ret
  exact ⟨rfl, Below.refl _ _⟩
/-- One call less. -/
def Dk.doneF (l : Int) : Int := max (-1) (l - 1)
set_option maxRecDepth 100000 in
theorem dDone_c {B : Nat} (l : Int) (hl : -1 ≤ l) (hl2 : l ≤ 9223372036854775807) {c1 c2 c3 : Value} {T : TypeId} (w : World) (h : RowAt w B #[.int .i64 l, c1, c2, c3] T) :
    Calls Try.prog 32 #[.pointer (some ⟨B, 0, none⟩)] w fun en w' => en = .returned (.tuple #[]) ∧ RowAt w' B #[.int .i64 (doneF l), c1, c2, c3] T ∧ But (· = B) w w' := by
  have hc := h.cell (i := 0) (v := .int .i64 l) rfl
  have hf := h.fz 0
  unfold doneF
  by_cases h1 : -1 < l - 1
  · have hmax : ∀ ts t w, (Builtin.max_ ts t #[.int .i64 (-1), .int .i64 (l - 1)]).run Try.prog w = .ok (.int .i64 (l - 1)) w := fun ts t w => by rw [run_max_int2, if_pos h1]
    rw [show max (-1) (l - 1) = l - 1 by omega]
    go_enter Try.func32, Try.ntmps32
    go_wp2
    exact bodyPost_end (v := .tuple #[]) (by simp [results, Try.results32, go_sem]) rfl ⟨rfl, h.set 0 _, But.setCell _ _ _ (.inl rfl)⟩
  · have hmax : ∀ ts t w, (Builtin.max_ ts t #[.int .i64 (-1), .int .i64 (l - 1)]).run Try.prog w = .ok (.int .i64 (-1)) w := fun ts t w => by rw [run_max_int2, if_neg h1]
    rw [show max (-1) (l - 1) = -1 by omega]
    go_enter Try.func32, Try.ntmps32
    go_wp2
    exact bodyPost_end (v := .tuple #[]) (by simp [results, Try.results32, go_sem]) rfl ⟨rfl, h.set 0 _, But.setCell _ _ _ (.inl rfl)⟩
end Go.Proofs.Ytekpjbablcoahaa
