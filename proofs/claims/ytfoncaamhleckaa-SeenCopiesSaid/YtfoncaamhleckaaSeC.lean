/-
  The contracts of seen's asked, of See's questions.
-/
import Derived.Test.YtfoncaamhleckaaSeB
import Derived.Laws.EntriesVeiled
namespace Go.Proofs.Ytfoncaamhleckaa
open Go.RowKit Go.Maps Trc Sn
set_option linter.unusedSimpArgs false
set_option linter.unusedVariables false

/-- A question: the function, what it is bound to, its error, what it answers. -/
structure Sn.Qn where
  g : FuncId
  fst : Array Value
  cap : Array Value
  e : Int
  b : Bool
abbrev askC (a : Qn) : List Value := [.func (.func a.g) a.fst a.cap, .int .i64 a.e]
/-- The first error. -/
def Sn.askF (l : List Qn) : Int := match l.find? (·.b) with | some a => a.e | none => 0
theorem Sn.askF_some {l : List Qn} {k : Nat} (hk : k < l.length) (h : ∀ j, j < k → ∀ hj : j < l.length, l[j].b = false) (hp : l[k].b = true) : askF l = l[k].e := by
  have : l.find? (·.b) = some l[k] := by
    rw [List.find?_eq_some_iff_getElem]
    exact ⟨hp, k, hk, rfl, fun j hj => by simp [h j hj (by omega)]⟩
  unfold askF; rw [this]
theorem Sn.askF_none {l : List Qn} (h : ∀ j, ∀ hj : j < l.length, l[j].b = false) : askF l = 0 := by
  have : l.find? (·.b) = none := by
    rw [List.find?_eq_none]
    intro a ha
    obtain ⟨j, hj, rfl⟩ := List.mem_iff_getElem.1 ha
    simp [h j hj]
  unfold askF; rw [this]

set_option maxHeartbeats 2000000 in
set_option maxRecDepth 100000 in
theorem seAsked_c (l : List Qn) (v : Value) (n : Nat) (w : World) (hv : Sl w 2 v n (l.flatMap askC)) (hg : ∀ a ∈ l, Enters Try.prog a.g)
    (hq : ∀ a ∈ l, ∀ w1, Below w.heap.size w w1 → Calls Try.prog a.g (a.fst ++ a.cap) w1 (Ret (.bool a.b) w1)) :
    Calls Try.prog 22 #[v] w (Ret (.int .i64 (askF l)) w) := by
  have Hln := Lib.hid (Sl.recs (cells := askC) (sz := 2) (fun _ => rfl) (by decide) hv)
  have hn := hv.n_max
  obtain ⟨a, c, rfl⟩ := hv.len
  obtain ⟨R, hR⟩ : ∃ R, R = askF l := ⟨_, rfl⟩
  rw [← hR]
  have HR := Lib.hid hR
  have HG := Lib.hid hg
  have HQ := Lib.hid hq
  clear hR hg hq
  go_enter Try.func22, Try.ntmps22
  go_wp2
  refine wp_scope_fwd 0 rfl ?_
  go_wp2
  go_loopw [7] (fun i wr => ∃ k : Nat, k ≤ n ∧ i = .int .i64 k ∧ RowKit.Hid (∀ j, j < k → ∀ hj : j < l.length, l[j].b = false) ∧ Below w.heap.size w wr) (fun i _ => n - (intOf i).toNat)
  case atStart => exact ⟨0, Nat.zero_le _, rfl, Lib.hid (fun j hj => by omega), Below.refl _ _⟩
  case round =>
    obtain ⟨k, hk, rfl, Hno, hB⟩ := hrel
    have HB := Lib.hid hB
    by_cases hlt : k < n
    · have hlt' : k < l.length := by rw [Hln.out]; exact hlt
      obtain ⟨b, off, rfl, hr⟩ := (hv.up hB).rec_at (cells := askC) (sz := 2) (fun _ => rfl) hlt hlt'
      have hcall := HQ.out l[k] (List.getElem_mem hlt')
      have hent := HG.out l[k] (List.getElem_mem hlt')
      have Hsome := Lib.hid (fun h : l[k].b = true => HR.out.trans (askF_some hlt' Hno.out h))
      have Hstep := Lib.hid (fun (h : l[k].b = false) j (hj : j < k + 1) (hj' : j < l.length) => (show l[j].b = false from by
        rcases Nat.lt_or_ge j k with h' | h'
        · exact Hno.out j h' hj'
        · obtain rfl : j = k := by omega
          exact h))
      clear hB
      unfold Enters at hent
      generalize l[k] = x at *
      obtain ⟨g, fst, cap, e, bb⟩ := x
      simp only at hcall hent
      have hcl := hcall _ (HB.out.alloc HB.out.size (.cells (askC ⟨g, fst, cap, e, bb⟩).toArray 69))
      cases bb with
      | true =>
        have hRe := Hsome.out rfl
        simp only at hRe
        go_wp2_with (first
          | (refine wpList_load_mid rfl 69 (.tmp 9) rfl b (off + k * 2) rfl (askC ⟨g, fst, cap, e, true⟩) _ hr Try.underlying69 rfl (by kernel_rfl) ?_)
          | (refine hcl.mono ?_; rintro en w1 ⟨rfl, hb⟩))
        refine wp_goto ?_
        refine And.intro rfl ?_
        show Code.wp _ _ _ _ _
        go_wp2
        try rw [jump_ret]
        go_ret
        exact ⟨retI hRe.symm, below_up (HB.out.alloc HB.out.size _) hb⟩
      | false =>
        go_wp2_with (first
          | (refine wpList_load_mid rfl 69 (.tmp 9) rfl b (off + k * 2) rfl (askC ⟨g, fst, cap, e, false⟩) _ hr Try.underlying69 rfl (by kernel_rfl) ?_)
          | (refine hcl.mono ?_; rintro en w1 ⟨rfl, hb⟩))
        go_roundw
        case rel => exact ⟨k + 1, by omega, by go_num, Lib.hid (by first | exact Hstep.out rfl | exact Hstep.out trivial), below_up (HB.out.alloc HB.out.size _) hb⟩
        case measure => simp [intOf]; omega
    · obtain rfl : k = n := by omega
      have hRe := HR.out.trans (askF_none fun j hj => Hno.out j (by rw [← Hln.out]; exact hj) hj)
      go_wp2
      try rw [jump_ret]
      go_ret
      exact ⟨retI hRe.symm, HB.out⟩

set_option maxHeartbeats 2000000 in
set_option maxRecDepth 100000 in
/-- asked: the first question is answered by yes. -/
theorem seAskedF_c (a : Qn) (l : List Qn) (v : Value) (n : Nat) (w : World) (hv : Sl w 2 v n ((a :: l).flatMap askC)) (ha : a.b = true) (hg : Enters Try.prog a.g)
    (hq : ∀ w1, Below w.heap.size w w1 → Calls Try.prog a.g (a.fst ++ a.cap) w1 (Ret (.bool true) w1)) :
    Calls Try.prog 22 #[v] w (Ret (.int .i64 a.e) w) := by
  have Hln := Sl.recs (cells := askC) (sz := 2) (fun _ => rfl) (by decide) hv
  have hn := hv.n_max
  obtain ⟨ad, c, rfl⟩ := hv.len
  have hlt : 0 < n := by simp at Hln; omega
  have hlt' : 0 < (a :: l).length := by simp
  obtain ⟨b, off, rfl, hr0⟩ := hv.rec_at (cells := askC) (sz := 2) (fun _ => rfl) hlt hlt'
  simp only [List.getElem_cons_zero] at hr0
  obtain ⟨g, fst, cap, e, bb⟩ := a
  simp only at hq hg ha ⊢
  subst ha
  have HQ := Lib.hid hq
  unfold Enters at hg
  clear hq Hln
  have hltI : (0 : Int) < (n : Int) := by omega
  go_enter Try.func22, Try.ntmps22
  go_wp2
  refine wp_scope_fwd 0 rfl ?_
  go_wp2
  go_loopw [7] (fun i wr => i = .int .i64 0 ∧ Below w.heap.size w wr) (fun i _ => 0)
  case atStart => exact ⟨rfl, Below.refl _ _⟩
  case round =>
    obtain ⟨rfl, hB⟩ := hrel
    have hr := rangeAt_up hB hr0
    simp only [Nat.zero_mul, Nat.add_zero] at hr
    have HB := Lib.hid hB
    have hcl := HQ.out _ (HB.out.alloc HB.out.size (.cells (askC ⟨g, fst, cap, e, true⟩).toArray 69))
    clear hB
    go_wp2_with (first
      | (refine wpList_load_mid rfl 69 (.tmp 9) rfl b off rfl (askC ⟨g, fst, cap, e, true⟩) _ hr Try.underlying69 rfl (by kernel_rfl) ?_)
      | (refine hcl.mono ?_; rintro en w1 ⟨rfl, hb⟩))
    refine wp_goto ?_
    refine And.intro rfl ?_
    show Code.wp _ _ _ _ _
    go_wp2
    try rw [jump_ret]
    go_ret
    exact ⟨rfl, below_up (HB.out.alloc HB.out.size _) hb⟩

end Go.Proofs.Ytfoncaamhleckaa
