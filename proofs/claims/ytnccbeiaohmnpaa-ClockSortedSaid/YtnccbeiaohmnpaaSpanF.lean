/-
  Contracts of the reference's Ahead and Sorted.
-/
import Derived.Test.YtnccbeiaohmnpaaSpanD
namespace Go.Proofs.Ytnccbeiaohmnpaa
open Go.RowKit Srt
set_option linter.unusedSimpArgs false
set_option linter.unusedVariables false

set_option maxHeartbeats 1000000 in
set_option maxRecDepth 100000 in
theorem ahead_c (p q : Int × Int) (w : World) : Calls Try.prog 35 #[spV p, spV q] w (Ret (.bool (ltc spCmp p q)) w) := by
  obtain ⟨a, b⟩ := p
  obtain ⟨c, d⟩ := q
  rw [spCmp_lt]
  simp only
  obtain ⟨r, hr⟩ : ∃ r, decide (a < c ∨ a = c ∧ b < d) = r := ⟨_, rfl⟩
  rw [hr]
  have hb2 : Below w.heap.size w ((w.alloc (.cells #[.int .u64 a, .int .u64 b] 24)).alloc (.cells #[.int .u64 c, .int .u64 d] 24)) := (below_alloc w _).alloc (by simp) _
  by_cases h1 : a < c
  · obtain rfl : true = r := by rw [← hr]; exact (decide_eq_true (.inl h1)).symm
    clear hr
    have d1 : decide (a < c) = true := decide_eq_true h1
    go_enter Try.func35, Try.ntmps35
    go_wp2
    go_ret
    exact ⟨rfl, hb2⟩
  · have d1 : decide (a < c) = false := decide_eq_false h1
    by_cases h2 : a = c
    · obtain rfl : decide (b < d) = r := by rw [← hr]; exact decide_eq_decide.2 (by omega)
      subst h2
      clear hr
      go_enter Try.func35, Try.ntmps35
      go_wp2
      go_ret
      exact ⟨rfl, hb2⟩
    · obtain rfl : false = r := by rw [← hr]; exact (decide_eq_false (by omega)).symm
      clear hr
      have d2 : (a == c) = false := by simp [h2]
      go_enter Try.func35, Try.ntmps35
      go_wp2
      go_ret
      exact ⟨rfl, hb2⟩
theorem flt_succ {α : Type} {p : α → Bool} {l : List α} {k : Nat} (hk : k < l.length) : (l.take (k + 1)).filter p = (l.take k).filter p ++ (if p l[k] then [l[k]] else []) := by
  rw [List.take_succ_eq_append_getElem hk, List.filter_append]
  cases h : p l[k] <;> simp [h]
theorem row_own {w : World} {base g c m : Nat} {J : List Value} {O : List (Int × Int)} (h : Arr w g 24 J spC O) (hm : O.length = m) (hg : base ≤ g) (hmc : m ≤ c) (hcm : c ≤ maxLen) (hJ : m * 2 + J.length = c * 2) : w.ownsRow base 24 2 (.slice (some ⟨g, 0, none⟩) m c) m (O.flatMap spC) := by
  have hfl := arr_len (cells := spC) (sz := 2) (fun _ => rfl) O
  rw [hm] at hfl
  exact ⟨hfl, .inr ⟨g, c, _, rfl, hg, h, hmc, hcm, by rw [List.size_toArray, List.length_append, hfl]; exact hJ, by
      show (O.flatMap spC ++ J).take (m * 2) = _
      rw [List.take_append_of_le_length (by omega), List.take_of_length_le (by omega)]⟩⟩
theorem own_arr {w : World} {base m c : Nat} {a : Option Addr} {O : List (Int × Int)} (h : w.ownsRow base 24 2 (.slice a m c) m (O.flatMap spC)) (hm : 0 < m) : ∃ g J, a = some ⟨g, 0, none⟩ ∧ base ≤ g ∧ Arr w g 24 J spC O ∧ m ≤ c ∧ c ≤ maxLen ∧ m * 2 + J.length = c * 2 := by
  rcases h.2 with ⟨hv, h0⟩ | ⟨g, cap, cur, hv, hg, hrow, hnc, hcm, hcs, hct⟩
  · omega
  · obtain ⟨rfl, rfl⟩ : a = some ⟨g, 0, none⟩ ∧ c = cap := by simpa using hv
    obtain ⟨J, hJ⟩ : ∃ J, cur.toList.drop (m * 2) = J := ⟨_, rfl⟩
    have hcur : cur = (O.flatMap spC ++ J).toArray := by rw [← hct, ← hJ, List.take_append_drop]
    have hJl : m * 2 + J.length = c * 2 := by rw [← hcs, ← hJ, List.length_drop, Array.length_toList, hcs]; omega
    subst hcur
    exact ⟨g, J, rfl, hg, hrow, hnc, hcm, hJl⟩
set_option maxHeartbeats 4000000 in
set_option maxRecDepth 100000 in
theorem rSorted_c (l : List (Int × Int)) (v : Value) (n : Nat) (w : World) (hv : Sl w 2 v n (l.flatMap spC)) (hn : n ≤ 100000) :
    Calls Try.prog 25 #[v] w fun en w' => ∃ v' m W, en = .returned v' ∧ w'.ownsRow w.heap.size 24 2 v' m (W.flatMap spC) ∧ W.Perm (l.filter fun x => Clk.rightB x.1 x.2) ∧ Sorted (ltc spCmp) W ∧ Below w.heap.size w w' := by
  have HL := Lib.hid (Sl.recs (cells := spC) (sz := 2) (fun _ => rfl) (by decide) hv)
  obtain ⟨a, c, rfl⟩ := hv.len
  have HV := Lib.hid hv
  clear hv
  go_enter Try.func25, Try.ntmps25
  go_wp2
  go_loopw [3, 4] (fun va vi wr => ∃ (ao : Option Addr) (m co i : Nat) (O : List (Int × Int)), va = .slice ao m co ∧ vi = .int .i64 i ∧ i ≤ n ∧ m ≤ i ∧ O.Perm ((l.take i).filter fun x => Clk.rightB x.1 x.2) ∧ Sorted (ltc spCmp) O ∧ wr.ownsRow w.heap.size 24 2 (.slice ao m co) m (O.flatMap spC) ∧ Below w.heap.size w wr) (fun _ vi _ => n - (intOf vi).toNat)
  case atStart => exact ⟨none, 0, 0, 0, [], rfl, rfl, Nat.zero_le _, Nat.le_refl _, List.Perm.refl _, Sorted.nil, World.ownsRow_nil _ _ _ _, Below.refl _ _⟩
  case round =>
    obtain ⟨ao, m, co, i, O, rfl, rfl, hi, hmi, hp, hs, ho, hB⟩ := hrel
    have hs' := (HV.out.up hB)
    by_cases hlt : i < n
    · have hiI : (i : Int) < (n : Int) := by omega
      have hil : i < l.length := by rw [HL.out]; exact hlt
      obtain ⟨b, off, rfl, hr⟩ := hs'.rec_at (cells := spC) (sz := 2) (fun _ => rfl) hlt hil
      have HF := Lib.hid (flt_succ (p := fun x : Int × Int => Clk.rightB x.1 x.2) hil)
      obtain ⟨hr0⟩ : Nonempty (w.rangeAt b (off + i * 2) (spC l[i])) := by
        obtain ⟨b', off', he, hr'⟩ := HV.out.rec_at (cells := spC) (sz := 2) (fun _ => rfl) hlt hil
        obtain ⟨rfl, rfl⟩ : b = b' ∧ off = off' := by simpa using he
        exact ⟨hr'⟩
      have HR0 := Lib.hid hr0
      clear hr0
      generalize l[i] = x at *
      have hrc := fun w1 => rightR_c x.1 x.2 w1
      have HP := Lib.hid (And.intro hp hs)
      have wi : IntKind.i64.wrap ((i : Int) + 1) = ((i + 1 : Nat) : Int) := by rw [IntKind.wrap_i64]; omega
      have HS := Lib.hid hs'
      clear hp hs hs'
      cases hrb : Clk.rightB x.1 x.2 with
      | false =>
        simp only [hrb] at hrc
        have HRC := Lib.hid hrc
        have HX := Lib.hid (show (l.take (i + 1)).filter (fun x => Clk.rightB x.1 x.2) = (l.take i).filter fun x => Clk.rightB x.1 x.2 by rw [HF.out]; simp [hrb])
        clear hrb hrc HF
        go_wp2_with (first
          | (refine wpList_load_mid rfl 24 (.tmp 14) rfl b (off + i * 2) rfl (spC x) _ hr Try.underlying24 rfl (by kernel_rfl) ?_)
          | (go_at_call 10; refine (HRC.out _).mono ?_; rintro en w1 ⟨rfl, hb1⟩))
        exact ⟨⟨ao, m, co, i + 1, O, rfl, by go_num, by omega, by omega, by rw [HX.out]; exact HP.out.1, HP.out.2, own_but ho (But.of_below (O := fun _ => False) hb1) (fun _ _ e => e), below_up hB hb1⟩, by simp [intOf]; omega⟩
      | true =>
        simp only [hrb] at hrc
        have HRC := Lib.hid hrc
        have HX := Lib.hid (show (l.take (i + 1)).filter (fun x => Clk.rightB x.1 x.2) = ((l.take i).filter fun x => Clk.rightB x.1 x.2) ++ [x] by rw [HF.out]; simp [hrb])
        clear hrb hrc HF
        have hr0 := (HR0.out)
        go_wp2_with (first
          | (refine wpList_load_mid rfl 24 (.tmp 14) rfl b (off + i * 2) rfl (spC x) _ hr Try.underlying24 rfl (by kernel_rfl) ?_)
          | (go_at_call 10; refine (HRC.out _).mono ?_; rintro en w1 ⟨rfl, hb1⟩; have hr1 := rangeAt_up hb1 hr; have ho1 := own_but ho (But.of_below (O := fun _ => False) hb1) (fun _ _ e => e); have hB1 := below_up hB hb1; have ho2 := ho1.alloc (.cells (spC x).toArray 24); have hs2 : Sl (w1.alloc (.cells (spC x).toArray 24)) 2 (.slice (some ⟨w1.heap.size, 0, none⟩) 1 1) 1 ([x].flatMap spC) := Sl.of_own (World.ownsRow_lit w1 (spC x).toArray 1 (size := 2) (e := 24) (Nat.le_refl _) (by decide) rfl); have hB2 := hB1.alloc hB1.size (.cells (spC x).toArray 24); clear ho hr)
          | (refine wpList_load_mid rfl 24 (.tmp 23) rfl b (off + i * 2) rfl (spC x) _ hr1 Try.underlying24 rfl (by kernel_rfl) ?_)
          | (at_builtin; refine wpList_app rfl (.tmp 20) (.tmp 25) 41 rfl slSp w.heap.size rfl ho2 rfl hs2 (one_sp [x]) (by simp [maxLen]; omega) (by omega) (by simp; have := hB1.size; omega) ?_; intro v3 w3 ho3 hg3 _; have hb3 := grown_below hB2 hg3 (fun k hk => (own_of_some ho2 hk).1); obtain ⟨a3, c3, rfl⟩ := own_slice ho3; clear ho1 ho2 hs2 hg3 hb1 hr1 hB1 hB2))
        clear hr0
        obtain ⟨g, J, rfl, hg, hA, hmc, hcm, hJl⟩ := own_arr (m := m + 1) (O := O ++ [x]) (by rw [List.flatMap_append]; simpa using ho3) (by omega)
        have hOl : O.length = m := by
          have hl := arr_len (cells := spC) (sz := 2) (fun _ => rfl) O
          have h2 := ho3.1
          have h3 : (List.flatMap spC [x]).length = 2 := rfl
          rw [List.length_append, hl, h3] at h2
          omega
        have HQ := Lib.hid (And.intro hg (And.intro hmc (And.intro hcm (And.intro hJl (And.intro hOl (And.intro hb3 hmi))))))
        obtain ⟨mm, hmm⟩ : ∃ mm, m + 1 = mm := ⟨_, rfl⟩
        have HMM := Lib.hid hmm
        rw [hmm] at ho3 ⊢
        clear ho3 hmm hmc hcm hJl
        go_loopw [5] (fun vk wj => ∃ (k : Nat) (S1 S2 : List (Int × Int)) (z : Int × Int), vk = .int .i64 k ∧ S1.length = k ∧ S1 ++ S2 = O ∧ (∀ y, S2.head? = some y → ltc spCmp y x = false) ∧ Arr wj g 24 J spC (S1 ++ z :: S2) ∧ But (· = g) w3 wj) (fun vk _ => (intOf vk).toNat)
        case atStart => exact ⟨m, O, [], x, rfl, hOl, by simp, by simp, hA, But.refl _ _⟩
        case round =>
          clear hA hOl hg
          obtain ⟨k, S1, S2, z, rfl, hk, hSS, hS2, hAj, hBj⟩ := hrel
          have hBw : Below w.heap.size w wr := HQ.out.2.2.2.2.2.1.trans (hBj.below (fun q e => by rw [e]; exact HQ.out.1) HQ.out.2.2.2.2.2.1.size)
          have hr := rangeAt_up hBw HR0.out
          have hkm : k < mm := by
            have h9 := HQ.out.2.2.2.2.1
            have h8 := HMM.out
            rw [← hSS, List.length_append] at h9
            omega
          have hkmI : (k : Int) < (mm : Int) := by omega
          by_cases hk0 : 0 < k
          · obtain ⟨y, hy⟩ := last_some (A := S1) (by intro e0; rw [e0] at hk; simp at hk; omega)
            obtain ⟨S0, hS0⟩ : ∃ S0, S1.dropLast = S0 := ⟨_, rfl⟩
            have hsp := last_split hy
            rw [hS0] at hsp
            obtain ⟨j, rfl⟩ : ∃ j, k = j + 1 := ⟨k - 1, by omega⟩
            have hj : S0.length = j := by
              rw [hsp] at hk
              simp only [List.length_append, List.length_cons, List.length_nil] at hk
              omega
            have hLe : S1 ++ z :: S2 = S0 ++ y :: z :: S2 := by rw [hsp]; simp
            rw [hLe] at hAj
            have hg1 := nb_get1 S0 S2 y z
            have hgz := nb_get2 S0 S2 y z
            rw [hj] at hg1 hgz
            have hput : (S0 ++ y :: z :: S2).set (j + 1) y = S0 ++ y :: y :: S2 := by
              rw [← hj, List.set_append_right _ _ (by omega), show S0.length + 1 - S0.length = 1 by omega]; rfl
            have hputx : (S0 ++ y :: z :: S2).set (j + 1) x = S0 ++ y :: x :: S2 := by
              rw [← hj, List.set_append_right _ _ (by omega), show S0.length + 1 - S0.length = 1 by omega]; rfl
            have hll : j + 1 < (S0 ++ y :: z :: S2).length := (List.getElem?_eq_some_iff.1 hgz).1
            obtain ⟨LL, hLL⟩ : ∃ LL, S0 ++ y :: z :: S2 = LL := ⟨_, rfl⟩
            rw [hLL] at hAj hg1 hgz hput hputx hll
            have hr1 := hAj.at (fun _ => rfl) (sz := 2) hg1
            have Hh := Lib.hid (And.intro hAj hll)
            have HK := Lib.hid (And.intro hk (And.intro hSS (And.intro hS2 (And.intro hsp (And.intro hj (And.intro hy (And.intro hput (And.intro hputx hBj))))))))
            obtain ⟨kk, hkk⟩ : ∃ kk, j + 1 = kk := ⟨_, rfl⟩
            have HKK := Lib.hid hkk
            have hjm : (j : Int) < (mm : Int) := by omega
            rw [hkk] at hk0 hkmI ⊢
            have hkI : (kk : Int) > 0 := by omega
            have wk : IntKind.i64.wrap ((kk : Int) - 1) = (j : Int) := by have h8 := HMM.out; rw [IntKind.wrap_i64]; omega
            have hac := fun w1 => ahead_c x y w1
            obtain ⟨rb, hrb⟩ : ∃ rb, ltc spCmp x y = rb := ⟨_, rfl⟩
            simp only [hrb] at hac
            have HAC := Lib.hid hac
            have HRB := Lib.hid hrb
            have HBW := Lib.hid hBw
            clear hk hSS hS2 hsp hj hLe hg1 hgz hput hputx hll hLL hS0 hkk hac hrb hAj hBj hy hBw
            go_wp2
            refine wp_region_pt (fun _ => False) (.q 0 (.q 1 (.q 2 (.q 3 (.q 4 (.q 5 (.q 6 (.q 7 (.q 8 (.q 9 (.q 10 (.q 11 (.c 12 (.q 13 .done)))))))))))))) (by kernel_rfl) (by kernel_rfl) (by kernel_rfl) (by decide) (fun _ _ d _ _ h => by cases d <;> exact h) (fun Wd hBd => ?_)
            try simp only [Act.put, List.getElem_toArray, List.getElem_cons_zero, List.getElem_cons_succ, List.setIfInBounds_toArray, List.set_cons_zero, List.set_cons_succ]
            have hr := rangeAt_up hBd hr
            have hr1 := rangeAt_up hBd hr1
            refine pt_q (v := ?_) rfl (by rfl) ?_ ?_
            rotate_left
            · intro w' hBw'
              first | (go_simp; done) | (go_simp; with_reducible rfl)
            try simp only [Act.put, List.getElem_toArray, List.getElem_cons_zero, List.getElem_cons_succ, List.setIfInBounds_toArray, List.set_cons_zero, List.set_cons_succ]
            refine pt_q (v := ?_) rfl (by rfl) ?_ ?_
            rotate_left
            · intro w' hBw'
              first | (go_simp; done) | (go_simp; with_reducible rfl)
            try simp only [Act.put, List.getElem_toArray, List.getElem_cons_zero, List.getElem_cons_succ, List.setIfInBounds_toArray, List.set_cons_zero, List.set_cons_succ]
            refine pt_q (v := ?_) rfl (by rfl) ?_ ?_
            rotate_left
            · intro w' hBw'
              first | (go_simp; done) | (go_simp; with_reducible rfl)
            try simp only [Act.put, List.getElem_toArray, List.getElem_cons_zero, List.getElem_cons_succ, List.setIfInBounds_toArray, List.set_cons_zero, List.set_cons_succ]
            refine pt_q (v := ?_) rfl (by rfl) ?_ ?_
            rotate_left
            · intro w' hBw'
              first | (go_simp; done) | (go_simp; with_reducible rfl)
            try simp only [Act.put, List.getElem_toArray, List.getElem_cons_zero, List.getElem_cons_succ, List.setIfInBounds_toArray, List.set_cons_zero, List.set_cons_succ]
            refine pt_q (v := ?_) rfl (by rfl) ?_ ?_
            rotate_left
            · intro w' hBw'
              first | (go_simp; done) | (go_simp; with_reducible rfl)
            try simp only [Act.put, List.getElem_toArray, List.getElem_cons_zero, List.getElem_cons_succ, List.setIfInBounds_toArray, List.set_cons_zero, List.set_cons_succ]
            refine pt_q (v := ?_) rfl (by rfl) ?_ ?_
            rotate_left
            · intro w' hBw'
              first | (go_simp; done) | (go_simp; with_reducible rfl)
            try simp only [Act.put, List.getElem_toArray, List.getElem_cons_zero, List.getElem_cons_succ, List.setIfInBounds_toArray, List.set_cons_zero, List.set_cons_succ]
            refine pt_load rfl (by rfl) 24 (.tmp 32) rfl b (off + i * 2) rfl (spC x) _ hr (fun h => h) Try.underlying24 rfl (by kernel_rfl) ?_
            try simp only [Act.put, List.getElem_toArray, List.getElem_cons_zero, List.getElem_cons_succ, List.setIfInBounds_toArray, List.set_cons_zero, List.set_cons_succ]
            refine pt_q (v := ?_) rfl (by rfl) ?_ ?_
            rotate_left
            · intro w' hBw'
              first | (go_simp; done) | (go_simp; with_reducible rfl)
            try simp only [Act.put, List.getElem_toArray, List.getElem_cons_zero, List.getElem_cons_succ, List.setIfInBounds_toArray, List.set_cons_zero, List.set_cons_succ]
            refine pt_q (v := ?_) rfl (by rfl) ?_ ?_
            rotate_left
            · intro w' hBw'
              first | (go_simp; done) | (go_simp; with_reducible rfl)
            try simp only [Act.put, List.getElem_toArray, List.getElem_cons_zero, List.getElem_cons_succ, List.setIfInBounds_toArray, List.set_cons_zero, List.set_cons_succ]
            refine pt_q (v := ?_) rfl (by rfl) ?_ ?_
            rotate_left
            · intro w' hBw'
              first | (go_simp; done) | (go_simp; with_reducible rfl)
            try simp only [Act.put, List.getElem_toArray, List.getElem_cons_zero, List.getElem_cons_succ, List.setIfInBounds_toArray, List.set_cons_zero, List.set_cons_succ]
            refine pt_q (v := ?_) rfl (by rfl) ?_ ?_
            rotate_left
            · intro w' hBw'
              first | (go_simp; done) | (go_simp; with_reducible rfl)
            try simp only [Act.put, List.getElem_toArray, List.getElem_cons_zero, List.getElem_cons_succ, List.setIfInBounds_toArray, List.set_cons_zero, List.set_cons_succ]
            refine pt_load rfl (by rfl) 24 (.tmp 37) rfl g (j * 2) rfl (spC y) _ hr1 (fun h => h) Try.underlying24 rfl (by kernel_rfl) ?_
            try simp only [Act.put, List.getElem_toArray, List.getElem_cons_zero, List.getElem_cons_succ, List.setIfInBounds_toArray, List.set_cons_zero, List.set_cons_succ]
            refine pt_c ?_
            refine pt_step rfl (by rfl) (fun K hK => ?_)
            go_simp
            refine (HAC.out _).mono ?_
            rintro en w4 ⟨rfl, hb4⟩
            refine hK.out _ _ (But.of_below hb4) ?_
            clear hK K
            try simp only [Act.put, List.getElem_toArray, List.getElem_cons_zero, List.getElem_cons_succ, List.setIfInBounds_toArray, List.set_cons_zero, List.set_cons_succ]
            refine pt_q (v := ?_) rfl (by rfl) ?_ ?_
            rotate_left
            · intro w' hBw'
              first | (go_simp; done) | (go_simp; with_reducible rfl)
            try simp only [Act.put, List.getElem_toArray, List.getElem_cons_zero, List.getElem_cons_succ, List.setIfInBounds_toArray, List.set_cons_zero, List.set_cons_succ]
            refine pt_done ?_
            have hBx := hBd.trans (hb4.mono hBd.size)
            have Hh2 := Lib.hid (And.intro (RowAt.below Hh.out.1 hBx) Hh.out.2)
            have hrx := rangeAt_up hb4 hr
            have hr1x := rangeAt_up hb4 hr1
            have HB4 := Lib.hid (below_up HBW.out hBx)
            have HBX := Lib.hid hBx
            clear hr hr1 hBd hb4 hBx
            cases rb with
            | false =>
              have hth : w4.there g (kk * 2) (spC x).toArray.size := (show Arr w4 g 24 J spC LL from Hh2.out.1).there (cells := spC) (sz := 2) (fun _ => rfl) (by rw [← HKK.out]; exact Hh2.out.2)
              go_wp2_with (first
                | (refine wpList_load_mid rfl 24 (.tmp 55) rfl b (off + i * 2) rfl (spC x) _ hrx Try.underlying24 rfl (by kernel_rfl) ?_)
                | (refine wpList_store_mid rfl 24 (.tmp 57) (.tmp 56) rfl g (kk * 2) (spC x).toArray rfl rfl hth (by kernel_rfl) (sp_one x) ?_; go_loud (have V3 : Arr (w4.setCells g (kk * 2) (spC x).toArray.toList) g 24 J spC (LL.set kk x) := (show Arr w4 g 24 J spC LL from Hh2.out.1).put (sz := 2) (fun _ => rfl) (by rw [← HKK.out]; exact Hh2.out.2) x; have hB5 : But (· = g) w4 (w4.setCells g (kk * 2) (spC x).toArray.toList) := But.setCells (spC x) w4 (kk * 2) rfl; obtain ⟨W5, hW5⟩ : ∃ W, W = w4.setCells g (kk * 2) (spC x).toArray.toList := ⟨_, rfl⟩; rw [← hW5] at V3 hB5 ⊢; clear hW5 hth hrx hr1x)))
              obtain ⟨hk, hSS, hS2, hsp, hj, hy, hput, hputx, hBj⟩ := HK.out
              rw [← HKK.out, hputx] at V3
              have hlast : ∀ z, S1.getLast? = some z → ltc spCmp x z = false := fun z hz => by rw [hy] at hz; obtain rfl := Option.some.inj hz; exact HRB.out
              have hBw5 := HB4.out.trans (hB5.below (fun q e => by rw [e]; exact HQ.out.1) HB4.out.size)
              replace V3 : Arr W5 g 24 J spC (S1 ++ x :: S2) := by rw [hsp]; simpa using V3
              have hc := ins_sorted spTO (x := x) (A := S1) (B := S2) (by rw [hSS]; exact HP.out.2) hlast hS2
              have hfin : Below w.heap.size w W5 := hBw5
              refine ⟨⟨some ⟨g, 0, none⟩, m + 1, c3, i + 1, S1 ++ x :: S2, by rw [HMM.out], by go_num, by omega, by have := HQ.out.2.2.2.2.2.2; omega, ?_, hc, row_own V3 (by rw [List.length_append, List.length_cons]; have := HQ.out.2.2.2.2.1; rw [← hSS, List.length_append] at this; omega) HQ.out.1 HQ.out.2.1 HQ.out.2.2.1 HQ.out.2.2.2.1, hfin⟩, by simp [intOf]; omega⟩
              rw [HX.out]
              refine List.Perm.trans ?_ (HP.out.1.append (List.Perm.refl [x]))
              rw [← hSS, List.append_assoc]
              exact List.Perm.append_left S1 (List.perm_append_comm (l₁ := [x]) (l₂ := S2))
            | true =>
              have hth : w4.there g (kk * 2) (spC y).toArray.size := (show Arr w4 g 24 J spC LL from Hh2.out.1).there (cells := spC) (sz := 2) (fun _ => rfl) (by rw [← HKK.out]; exact Hh2.out.2)
              go_wp2_with (first
                | (refine wpList_load_mid rfl 24 (.tmp 46) rfl g (j * 2) rfl (spC y) _ hr1x Try.underlying24 rfl (by kernel_rfl) ?_)
                | (refine wpList_store_mid rfl 24 (.tmp 48) (.tmp 47) rfl g (kk * 2) (spC y).toArray rfl rfl hth (by kernel_rfl) (sp_one y) ?_; go_loud (have V3 : Arr (w4.setCells g (kk * 2) (spC y).toArray.toList) g 24 J spC (LL.set kk y) := (show Arr w4 g 24 J spC LL from Hh2.out.1).put (sz := 2) (fun _ => rfl) (by rw [← HKK.out]; exact Hh2.out.2) y; have hB5 : But (· = g) w4 (w4.setCells g (kk * 2) (spC y).toArray.toList) := But.setCells (spC y) w4 (kk * 2) rfl; obtain ⟨W5, hW5⟩ : ∃ W, W = w4.setCells g (kk * 2) (spC y).toArray.toList := ⟨_, rfl⟩; rw [← hW5] at V3 hB5 ⊢; clear hW5 hth hrx hr1x)))
              obtain ⟨hk, hSS, hS2, hsp, hj, hy, hput, hputx, hBj⟩ := HK.out
              rw [← HKK.out, hput] at V3
              exact ⟨⟨j, S0, y :: S2, y, by simp [wk], hj, by rw [← hSS, hsp]; simp, (fun q hq => by simp only [List.head?_cons, Option.some.injEq] at hq; subst hq; exact spTO.asym _ _ HRB.out), V3, (hBj.trans (But.of_below HBX.out)).trans hB5⟩, by have := HKK.out; simp [intOf]; omega⟩
          · obtain rfl : k = 0 := by omega
            obtain rfl : S1 = [] := List.eq_nil_of_length_eq_zero hk
            have hz : 0 < ([] ++ z :: S2).length := by simp
            obtain ⟨LL, hLL⟩ : ∃ LL, [] ++ z :: S2 = LL := ⟨_, rfl⟩
            have hputx : LL.set 0 x = x :: S2 := by rw [← hLL]; rfl
            rw [hLL] at hAj hz
            have Hh := Lib.hid (And.intro hAj hz)
            have HK := Lib.hid (And.intro hSS (And.intro hS2 (And.intro hputx hBj)))
            have HBW := Lib.hid hBw
            have hmI : (0 : Int) < (mm : Int) := by omega
            clear hk hSS hS2 hz hLL hputx hAj hBj hBw
            go_wp2
            refine wp_region_pt (fun _ => False) (.q 0 (.q 1 (.q 2 (.q 3 (.q 4 (.q 5 (.q 6 (.q 7 (.q 8 (.q 9 (.q 10 (.q 11 (.q 12 (.q 13 .done)))))))))))))) (by kernel_rfl) (by kernel_rfl) (by kernel_rfl) (by decide) (fun _ _ d _ _ h => by cases d <;> exact h) (fun Wd hBd => ?_)
            try simp only [Act.put, List.getElem_toArray, List.getElem_cons_zero, List.getElem_cons_succ, List.setIfInBounds_toArray, List.set_cons_zero, List.set_cons_succ]
            refine pt_q (v := ?_) rfl (by rfl) ?_ ?_
            rotate_left
            · intro w' hBw'
              first | (go_simp; done) | (go_simp; with_reducible rfl)
            try simp only [Act.put, List.getElem_toArray, List.getElem_cons_zero, List.getElem_cons_succ, List.setIfInBounds_toArray, List.set_cons_zero, List.set_cons_succ]
            refine pt_q (v := ?_) rfl (by rfl) ?_ ?_
            rotate_left
            · intro w' hBw'
              first | (go_simp; done) | (go_simp; with_reducible rfl)
            try simp only [Act.put, List.getElem_toArray, List.getElem_cons_zero, List.getElem_cons_succ, List.setIfInBounds_toArray, List.set_cons_zero, List.set_cons_succ]
            refine pt_q (v := ?_) rfl (by rfl) ?_ ?_
            rotate_left
            · intro w' hBw'
              first | (go_simp; done) | (go_simp; with_reducible rfl)
            try simp only [Act.put, List.getElem_toArray, List.getElem_cons_zero, List.getElem_cons_succ, List.setIfInBounds_toArray, List.set_cons_zero, List.set_cons_succ]
            refine pt_no rfl (by rfl) ?_
            try simp only [Act.put, List.getElem_toArray, List.getElem_cons_zero, List.getElem_cons_succ, List.setIfInBounds_toArray, List.set_cons_zero, List.set_cons_succ]
            refine pt_no rfl (by rfl) ?_
            try simp only [Act.put, List.getElem_toArray, List.getElem_cons_zero, List.getElem_cons_succ, List.setIfInBounds_toArray, List.set_cons_zero, List.set_cons_succ]
            refine pt_no rfl (by rfl) ?_
            try simp only [Act.put, List.getElem_toArray, List.getElem_cons_zero, List.getElem_cons_succ, List.setIfInBounds_toArray, List.set_cons_zero, List.set_cons_succ]
            refine pt_no rfl (by rfl) ?_
            try simp only [Act.put, List.getElem_toArray, List.getElem_cons_zero, List.getElem_cons_succ, List.setIfInBounds_toArray, List.set_cons_zero, List.set_cons_succ]
            refine pt_no rfl (by rfl) ?_
            try simp only [Act.put, List.getElem_toArray, List.getElem_cons_zero, List.getElem_cons_succ, List.setIfInBounds_toArray, List.set_cons_zero, List.set_cons_succ]
            refine pt_no rfl (by rfl) ?_
            try simp only [Act.put, List.getElem_toArray, List.getElem_cons_zero, List.getElem_cons_succ, List.setIfInBounds_toArray, List.set_cons_zero, List.set_cons_succ]
            refine pt_no rfl (by rfl) ?_
            try simp only [Act.put, List.getElem_toArray, List.getElem_cons_zero, List.getElem_cons_succ, List.setIfInBounds_toArray, List.set_cons_zero, List.set_cons_succ]
            refine pt_no rfl (by rfl) ?_
            try simp only [Act.put, List.getElem_toArray, List.getElem_cons_zero, List.getElem_cons_succ, List.setIfInBounds_toArray, List.set_cons_zero, List.set_cons_succ]
            refine pt_no rfl (by rfl) ?_
            try simp only [Act.put, List.getElem_toArray, List.getElem_cons_zero, List.getElem_cons_succ, List.setIfInBounds_toArray, List.set_cons_zero, List.set_cons_succ]
            refine pt_no rfl (by rfl) ?_
            try simp only [Act.put, List.getElem_toArray, List.getElem_cons_zero, List.getElem_cons_succ, List.setIfInBounds_toArray, List.set_cons_zero, List.set_cons_succ]
            refine pt_q (v := ?_) rfl (by rfl) ?_ ?_
            rotate_left
            · intro w' hBw'
              first | (go_simp; done) | (go_simp; with_reducible rfl)
            try simp only [Act.put, List.getElem_toArray, List.getElem_cons_zero, List.getElem_cons_succ, List.setIfInBounds_toArray, List.set_cons_zero, List.set_cons_succ]
            refine pt_done ?_
            have Hh2 := Lib.hid (And.intro (RowAt.below Hh.out.1 hBd) Hh.out.2)
            have hrx := rangeAt_up hBd hr
            have HB4 := Lib.hid (below_up HBW.out hBd)
            clear hr hBd
            have hth : Wd.there g (0 * 2) (spC x).toArray.size := (show Arr Wd g 24 J spC LL from Hh2.out.1).there (cells := spC) (sz := 2) (fun _ => rfl) (Hh2.out.2)
            go_wp2_with (first
              | (refine wpList_load_mid rfl 24 (.tmp 55) rfl b (off + i * 2) rfl (spC x) _ hrx Try.underlying24 rfl (by kernel_rfl) ?_)
              | (refine wpList_store_mid rfl 24 (.tmp 57) (.tmp 56) rfl g (0 * 2) (spC x).toArray rfl rfl hth (by kernel_rfl) (sp_one x) ?_; go_loud (have V3 : Arr (Wd.setCells g (0 * 2) (spC x).toArray.toList) g 24 J spC (LL.set 0 x) := (show Arr Wd g 24 J spC LL from Hh2.out.1).put (sz := 2) (fun _ => rfl) (Hh2.out.2) x; have hB5 : But (· = g) Wd (Wd.setCells g (0 * 2) (spC x).toArray.toList) := But.setCells (spC x) Wd (0 * 2) rfl; obtain ⟨W5, hW5⟩ : ∃ W, W = Wd.setCells g (0 * 2) (spC x).toArray.toList := ⟨_, rfl⟩; rw [← hW5] at V3 hB5 ⊢; clear hW5 hth hrx)))
            obtain ⟨hSS, hS2, hputx, hBj⟩ := HK.out
            rw [hputx] at V3
            have hlast : ∀ z, ([] : List (Int × Int)).getLast? = some z → ltc spCmp x z = false := fun z hz => by cases hz
            have hBw5 := HB4.out.trans (hB5.below (fun q e => by rw [e]; exact HQ.out.1) HB4.out.size)
            have hc := ins_sorted spTO (x := x) (A := []) (B := S2) (by rw [hSS]; exact HP.out.2) hlast hS2
            have hfin : Below w.heap.size w W5 := hBw5
            refine ⟨⟨some ⟨g, 0, none⟩, m + 1, c3, i + 1, [] ++ x :: S2, by rw [HMM.out], by go_num, by omega, by have := HQ.out.2.2.2.2.2.2; omega, ?_, hc, row_own V3 (by rw [List.length_append, List.length_cons]; have := HQ.out.2.2.2.2.1; rw [← hSS, List.length_append] at this; omega) HQ.out.1 HQ.out.2.1 HQ.out.2.2.1 HQ.out.2.2.2.1, hfin⟩, by simp [intOf]; omega⟩
            rw [HX.out]
            refine List.Perm.trans ?_ (HP.out.1.append (List.Perm.refl [x]))
            rw [← hSS, List.append_assoc]
            exact List.Perm.append_left [] (List.perm_append_comm (l₁ := [x]) (l₂ := S2))
    · obtain rfl : i = n := by omega
      go_wp2
      go_ret
      rw [List.take_of_length_le (by rw [HL.out]; exact Nat.le_refl _)] at hp
      exact ⟨_, m, O, rfl, ho, hp, hs, hB⟩
end Go.Proofs.Ytnccbeiaohmnpaa
