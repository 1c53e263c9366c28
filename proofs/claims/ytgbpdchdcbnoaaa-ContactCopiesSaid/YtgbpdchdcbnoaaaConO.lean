/-
  Contracts of the reference's From, Next.
-/
import Derived.Test.YtgbpdchdcbnoaaaConN
namespace Go.Proofs.Ytgbpdchdcbnoaaa
open Go.RowKit Vol
set_option linter.unusedSimpArgs false
set_option linter.unusedVariables false

namespace Vol
def fromF (L : List Ct) (f : Int) : List Ct := L.filter fun c => c.from_ == f
theorem flt_succ {q : Ct → Bool} {L : List Ct} {k : Nat} (hk : k < L.length) : (L.take (k + 1)).filter q = (L.take k).filter q ++ if q L[k] then [L[k]] else [] := by
  rw [List.take_succ_eq_append_getElem hk, List.filter_append]
  congr 1
  cases h : q L[k] <;> simp [h]
end Vol

set_option maxHeartbeats 2000000 in
set_option maxRecDepth 100000 in
theorem rFrom_c (L : List Ct) (v : Value) (n : Nat) (f : Int) (w : World) (hv : Sl w 5 v n (L.flatMap ctC)) (hN : n ≤ 100000) :
    Calls Try.prog 51 #[.agg #[v], .int .u32 f] w fun en w' => ∃ v', en = .returned v' ∧ w'.ownsRow w.heap.size 27 5 v' (fromF L f).length ((fromF L f).flatMap ctC) ∧ Below w.heap.size w w' := by
  have Hln := Lib.hid (Sl.recs (cells := ctC) (sz := 5) (fun _ => rfl) (by decide) hv)
  have hn := hv.n_max
  obtain ⟨av, cv, rfl⟩ := hv.len
  have hB0 := below_alloc w (.cells #[.slice av n cv] 47)
  have K0 := RowAt.new w #[.slice av n cv] 47
  go_enter Try.func51, Try.ntmps51
  go_wp2
  go_loopw [5, 6] (fun o i wr => ∃ (k : Nat) (T : List Ct), k ≤ n ∧ i = .int .i64 k ∧ RowKit.Hid ((L.take k).filter (fun c => c.from_ == f) = T) ∧ T.length ≤ k ∧ wr.ownsRow (w.heap.size + 1) 27 5 o T.length (T.flatMap ctC) ∧ RowAt wr w.heap.size #[.slice av n cv] 47 ∧ Below w.heap.size w wr) (fun _ i _ => n - (intOf i).toNat)
  case atStart => exact ⟨0, [], Nat.zero_le _, rfl, Lib.hid rfl, Nat.le_refl _, World.ownsRow_nil _ _ _ _, K0, hB0⟩
  case round =>
    clear K0 hB0
    obtain ⟨k, T, hk, rfl, HT, hTk, hown, K, hB⟩ := hrel
    have c0 := K.cell (i := 0) (v := .slice av n cv) rfl
    by_cases hlt : k < n
    · have hltI : (k : Int) < (n : Int) := by omega
      have hlt' : k < L.length := by rw [Hln.out]; exact hlt
      obtain ⟨b, off, rfl, hr⟩ := (hv.up hB).rec_at (cells := ctC) (sz := 5) (fun _ => rfl) hlt hlt'
      have HS := Lib.hid (flt_succ (q := fun c => c.from_ == f) hlt')
      rw [HT.out] at HS
      generalize L[k] = x at *
      have r0 := hr 0 _ rfl
      simp only [Nat.add_zero] at r0
      cases hb1 : (x.from_ == f) with
      | false =>
        have HS2 := Lib.hid (HS.out.trans (by simp only [hb1]; simp) : (L.take (k + 1)).filter (fun c => c.from_ == f) = T)
        clear HS
        go_wp2
        go_roundw
        case rel => exact ⟨k + 1, T, by omega, by go_num, HS2, by omega, hown, K, hB⟩
        case measure => simp [intOf]; omega
      | true =>
        have HS2 := Lib.hid (HS.out.trans (by simp only [hb1]; simp) : (L.take (k + 1)).filter (fun c => c.from_ == f) = T ++ [x])
        clear HS
        have hlt0 := K.lt
        have hbA := below_alloc wr (.cells (ctC x).toArray 27)
        have hszA : w.heap.size + 1 ≤ (wr.alloc (.cells (ctC x).toArray 27)).heap.size := by rw [World.size_alloc]; omega
        go_wp2_with (first
          | (refine wpList_load_mid rfl 27 (.tmp 26) rfl b (off + k * 5) rfl (ctC x) _ hr Try.underlying27 rfl (by kernel_rfl) ?_)
          | (at_builtin; refine wpList_app rfl _ _ 38 rfl slC (w.heap.size + 1) rfl (own_up hown hbA) rfl (slOne _ _ rfl _ x) (one_ct _) (by simp only [maxLen]; omega) (by omega) hszA ?_; intro v' w2 hown2 hgrow _))
        have hg0 := fun q hq => (own_of_some (own_up hown hbA) (k := q) hq).1
        have hg2 := grown_below (below_up hB hbA) hgrow (fun q hq => by have := hg0 q hq; omega)
        have hgK := (K.below hbA).but (But.grown (O := fun q => u5.ownBlock = some q) hgrow (fun r hr => .inl hr)) (fun e => by have := hg0 _ e; omega)
        go_roundw
        case rel => exact ⟨k + 1, T ++ [x], by omega, by go_num, HS2, by simp; omega, by rw [List.length_append, List.flatMap_append]; exact hown2, hgK, hg2⟩
        case measure => simp [intOf]; omega
    · obtain rfl : k = n := by omega
      rw [List.take_of_length_le (by rw [Hln.out]; exact Nat.le_refl _)] at HT
      go_wp2
      go_ret
      exact ⟨_, rfl, by unfold fromF; rw [HT.out]; exact own_down hown (by omega), hB⟩

namespace Vol
theorem nextF_stay {L : List Ct} {k : Nat} (h : L.length ≤ k) (at_ : Int) : nextF (L.take k) at_ = nextF L at_ := by rw [List.take_of_length_le h]
end Vol
theorem half_even {i : Int} {j : Nat} (h : i = 2 * (j : Int)) : i.tdiv 2 = (j : Int) ∧ i.tmod 2 = 0 := by
  rw [Int.tdiv_eq_ediv_of_nonneg (by omega), Int.tmod_eq_emod_of_nonneg (by omega)]; omega
theorem half_odd {i : Int} {j : Nat} (h : i = 2 * (j : Int) + 1) : i.tdiv 2 = (j : Int) ∧ i.tmod 2 = 1 := by
  rw [Int.tdiv_eq_ediv_of_nonneg (by omega), Int.tmod_eq_emod_of_nonneg (by omega)]; omega

set_option maxHeartbeats 4000000 in
set_option maxRecDepth 100000 in
theorem rNext_c (L : List Ct) (v : Value) (n : Nat) (at_ : Int) (w : World) (hv : Sl w 5 v n (L.flatMap ctC)) (hN : n ≤ 100000) :
    Calls Try.prog 53 #[.agg #[v], .int .u64 at_] w (Ret (.tuple #[.int .u64 (nextF L at_).1, .bool (nextF L at_).2]) w) := by
  have Hln := Lib.hid (Sl.recs (cells := ctC) (sz := 5) (fun _ => rfl) (by decide) hv)
  have hn := hv.n_max
  obtain ⟨av, cv, rfl⟩ := hv.len
  have hB0 := below_alloc w (.cells #[.slice av n cv] 47)
  have K0 := RowAt.new w #[.slice av n cv] 47
  obtain ⟨R, hR⟩ : ∃ R, R = nextF L at_ := ⟨_, rfl⟩
  rw [← hR]
  have HR := Lib.hid hR
  clear hR
  go_enter Try.func53, Try.ntmps53
  go_wp2
  go_loopw [6, 7, 8] (fun a b i wr => ∃ (i' : Int) (j : Nat) (s : Int × Bool), j ≤ n ∧ i = .int .i64 i' ∧ a = .int .u64 s.1 ∧ b = .bool s.2 ∧ (i' = 2 * (j : Int) ∧ RowKit.Hid (nextF (L.take j) at_ = s) ∨ i' = 2 * (j : Int) + 1 ∧ j < n ∧ RowKit.Hid (∀ hj : j < L.length, stepF at_ (nextF (L.take j) at_) L[j].a = s)) ∧ RowAt wr w.heap.size #[.slice av n cv] 47 ∧ Below w.heap.size w wr) (fun _ _ i _ => 2 * n - (intOf i).toNat)
  case atStart => exact ⟨0, 0, (0, false), Nat.zero_le _, rfl, rfl, rfl, .inl ⟨rfl, Lib.hid rfl⟩, K0, hB0⟩
  case round =>
    clear K0 hB0
    obtain ⟨i', j, ⟨m, is⟩, hj, rfl, rfl, rfl, HS, K, hB⟩ := hrel
    simp only at HS ⊢
    have c0 := K.cell (i := 0) (v := .slice av n cv) rfl
    rcases HS with ⟨hi, HS⟩ | ⟨hi, hjn, HS⟩
    · have hq := (half_even hi).1
      have hr0 := (half_even hi).2
      have hi0 : 0 ≤ i' := by omega
      have hi1 : i' ≤ 200000 := by omega
      by_cases hlt : j < n
      · have hltI : (j : Int) < (n : Int) := by omega
        have hltJ : i' < 2 * (n : Int) := by omega
        have hlt' : j < L.length := by rw [Hln.out]; exact hlt
        obtain ⟨b, off, rfl, hr⟩ := (hv.up hB).rec_at (cells := ctC) (sz := 5) (fun _ => rfl) hlt hlt'
        have HN := Lib.hid (fun s (h : stepF at_ (m, is) L[j].a = s) (_ : j < L.length) => (show stepF at_ (nextF (L.take j) at_) L[j].a = s by rw [HS.out]; exact h))
        have HX := Lib.hid (rfl : L[j].a = L[j].a)
        generalize hx : L[j] = x at hr HN HX
        have HX2 := Lib.hid hx
        have HI := Lib.hid hi
        clear hx HX hi
        have t2 := hr 2 _ rfl
        by_cases hp : at_ < x.a
        · cases is
          · skip
            go_wp2
            go_roundw
            case rel => exact ⟨i' + 1, j, (x.a, true), by omega, by go_num, rfl, rfl, .inr ⟨by have := HI.out; omega, by omega, Lib.hid (fun hj => by have := HN.out _ (stepF_yes ⟨hp, .inl rfl⟩) hj; rw [← this, HX2.out])⟩, K, hB⟩
            case measure => simp [intOf]; omega
          · by_cases hs : x.a < m
            · skip
              go_wp2
              go_roundw
              case rel => exact ⟨i' + 1, j, (x.a, true), by omega, by go_num, rfl, rfl, .inr ⟨by have := HI.out; omega, by omega, Lib.hid (fun hj => by have := HN.out _ (stepF_yes ⟨hp, .inr hs⟩) hj; rw [← this, HX2.out])⟩, K, hB⟩
              case measure => simp [intOf]; omega
            · skip
              go_wp2
              go_roundw
              case rel => exact ⟨i' + 1, j, (m, true), by omega, by go_num, rfl, rfl, .inr ⟨by have := HI.out; omega, by omega, Lib.hid (fun hj => by have := HN.out _ (stepF_no fun h => h.2.elim (fun e => by simp at e) hs) hj; rw [← this, HX2.out])⟩, K, hB⟩
              case measure => simp [intOf]; omega
        · skip
          go_wp2
          go_roundw
          case rel => exact ⟨i' + 1, j, (m, is), by omega, by go_num, rfl, rfl, .inr ⟨by have := HI.out; omega, by omega, Lib.hid (fun hj => by have := HN.out _ (stepF_no fun h => hp h.1) hj; rw [← this, HX2.out])⟩, K, hB⟩
          case measure => simp [intOf]; omega
      · obtain rfl : j = n := by omega
        have hltJ : ¬ i' < 2 * (j : Int) := by omega
        have HE := Lib.hid (nextF_stay (k := j) (by rw [Hln.out]; exact Nat.le_refl _) at_ : nextF (L.take j) at_ = nextF L at_)
        have hRR : R = (m, is) := by rw [HR.out, ← HE.out]; exact HS.out
        subst hRR
        go_wp2
        exact bodyPost_ret (v := .tuple #[.int .u64 m, .bool is]) (by simp [results, Try.results53, go_sem]) rfl ⟨rfl, hB⟩
    · have hq := (half_odd hi).1
      have hr0 := (half_odd hi).2
      have hi0 : 0 ≤ i' := by omega
      have hi1 : i' ≤ 200000 := by omega
      have hltI : (j : Int) < (n : Int) := by omega
      have hltJ : i' < 2 * (n : Int) := by omega
      have hlt' : j < L.length := by rw [Hln.out]; exact hjn
      obtain ⟨b, off, rfl, hr⟩ := (hv.up hB).rec_at (cells := ctC) (sz := 5) (fun _ => rfl) hjn hlt'
      have HN := Lib.hid (fun s (h : stepF at_ (m, is) L[j].b = s) => (show nextF (L.take (j + 1)) at_ = s by rw [nextF_succ hlt', HS.out hlt']; exact h))
      generalize L[j] = x at hr HN
      have HI := Lib.hid hi
      clear hi
      have t2 := hr 2 _ rfl
      have t3 := hr 3 _ rfl
      by_cases hp : at_ < x.b
      · cases is
        · skip
          go_wp2
          go_roundw
          case rel => exact ⟨i' + 1, j + 1, (x.b, true), by omega, by go_num, rfl, rfl, .inl ⟨by have := HI.out; push_cast; omega, Lib.hid (HN.out _ (stepF_yes ⟨hp, .inl rfl⟩))⟩, K, hB⟩
          case measure => simp [intOf]; omega
        · by_cases hs : x.b < m
          · skip
            go_wp2
            go_roundw
            case rel => exact ⟨i' + 1, j + 1, (x.b, true), by omega, by go_num, rfl, rfl, .inl ⟨by have := HI.out; push_cast; omega, Lib.hid (HN.out _ (stepF_yes ⟨hp, .inr hs⟩))⟩, K, hB⟩
            case measure => simp [intOf]; omega
          · skip
            go_wp2
            go_roundw
            case rel => exact ⟨i' + 1, j + 1, (m, true), by omega, by go_num, rfl, rfl, .inl ⟨by have := HI.out; push_cast; omega, Lib.hid (HN.out _ (stepF_no fun h => h.2.elim (fun e => by simp at e) hs))⟩, K, hB⟩
            case measure => simp [intOf]; omega
      · skip
        go_wp2
        go_roundw
        case rel => exact ⟨i' + 1, j + 1, (m, is), by omega, by go_num, rfl, rfl, .inl ⟨by have := HI.out; push_cast; omega, Lib.hid (HN.out _ (stepF_no fun h => hp h.1))⟩, K, hB⟩
        case measure => simp [intOf]; omega
end Go.Proofs.Ytgbpdchdcbnoaaa
