/-
  CbS: several texts in one (bundle.py).
-/
import Derived.Test.YtpfgepgjpnekdaaDoorNmI04
import Derived.Test.YtpfgepgjpnekdaaDoorNmI07
namespace Go.Proofs.YtpfgepgjpnekdaaDoor
open Go.RowKit Cb
set_option linter.unusedSimpArgs false
set_option linter.unusedVariables false
namespace Cb
mutual
def sameB : It → It → Bool
  | .mk k n b s l, .mk k' n' b' s' l' => (k == k') && ((n == n') && (decide (b = b') && (decide (s = s') && sameL l l')))
def sameL : List It → List It → Bool
  | [], [] => true
  | x :: l, y :: m => sameB x y && sameL l m
  | [], _ :: _ => false
  | _ :: _, [] => false
end
theorem sameL_iff : ∀ (l m : List It), (∀ x ∈ l, ∀ y, sameB x y = true ↔ x = y) → (sameL l m = true ↔ l = m)
  | [], [], _ => by simp [sameL]
  | x :: l, y :: m, h => by
    have h1 := h x (by simp) y
    have h2 := sameL_iff l m (fun z hz => h z (by simp [hz]))
    simp only [sameL, Bool.and_eq_true, h1, h2, List.cons.injEq]
  | [], _ :: _, _ => by simp [sameL]
  | _ :: _, [], _ => by simp [sameL]
theorem sameB_iff (x : It) : ∀ y, sameB x y = true ↔ x = y := by
  induction x using It.ind with
  | h x ih =>
    intro y
    cases x with
    | mk k n b s l =>
      cases y with
      | mk k' n' b' s' l' =>
        have := sameL_iff l l' ih
        simp only [sameB, Bool.and_eq_true, beq_iff_eq, decide_eq_true_eq, this, It.mk.injEq]
theorem sameB_refl (x : It) : sameB x x = true := (sameB_iff x x).2 rfl
theorem sameB_comm (x y : It) : sameB x y = sameB y x := by
  rw [Bool.eq_iff_iff, sameB_iff, sameB_iff]; exact eq_comm
theorem sameB_parts (x y : It) : sameB x y = ((x.k == y.k) && ((x.n == y.n) && (decide (x.b = y.b) && (decide (x.s = y.s) && sameL x.l y.l)))) := by
  cases x; cases y; rfl
theorem sameL_at : ∀ (l m : List It), l.length = m.length → (sameL l m = true ↔ ∀ (i : Nat) (h1 : i < l.length) (h2 : i < m.length), sameB l[i] m[i] = true)
  | [], [], _ => by simp [sameL]
  | x :: l, y :: m, h => by
    have ih := sameL_at l m (by simpa using h)
    simp only [sameL, Bool.and_eq_true, ih]
    constructor
    · rintro ⟨a, b⟩ i h1 h2
      cases i with
      | zero => exact a
      | succ i => exact b i (by simpa using h1) (by simpa using h2)
    · intro g
      exact ⟨g 0 (by simp) (by simp), fun i h1 h2 => g (i + 1) (by simpa using h1) (by simpa using h2)⟩
  | [], _ :: _, h => by simp at h
  | _ :: _, [], h => by simp at h
theorem sameL_len {l m : List It} (h : l.length ≠ m.length) : sameL l m = false := by
  cases hs : sameL l m with
  | false => rfl
  | true => exact absurd (congrArg List.length ((sameL_iff l m (fun x _ y => sameB_iff x y)).1 hs)) h
end Cb
theorem one_rw (rows : List Rw) : ∀ r ∈ rows, True := fun _ _ => trivial
theorem ItR.shape {S : Nat → Prop} {w : World} {x : It} {r : Rw} (h : ItR S w x r) : ∃ k n ba bn bc s la ln lc, r = ⟨k, n, .slice ba bn bc, s, .slice la ln lc⟩ := by
  obtain ⟨rows, p⟩ := h.parts
  obtain ⟨a, c, hb⟩ := p.b.cell
  obtain ⟨a2, c2, hl⟩ := p.l.cell
  obtain ⟨k, n, b, s, l⟩ := r
  subst hb; subst hl
  exact ⟨_, _, _, _, _, _, _, _, _, rfl⟩
abbrev SameC (S : Nat → Prop) (x : It) : Prop := ∀ (y : It) (r t : Rw) (w : World), ItR S w x r → ItR S w y t → cnt x ≤ 1000000 → cnt y ≤ 1000000 → Calls Tryd.prog 87 #[rwV r, rwV t] w (Ret (.bool (sameB x y)) w)
set_option maxHeartbeats 2000000 in
set_option maxRecDepth 100000 in
theorem equalFI_c (S : Nat → Prop) (l m : List It) (hp : ∀ x ∈ l, SameC S x) (u v : Value) (n k : Nat) (rows rows2 : List Rw) (w : World) (hu : SlS S w 5 u n (rows.flatMap rwC)) (hv : SlS S w 5 v k (rows2.flatMap rwC)) (hl : ItsR S w l rows) (hm : ItsR S w m rows2) (hcl : cntL l ≤ 1000000) (hcm : cntL m ≤ 1000000) :
    Calls Tryd.prog 99 #[u, v, .func (.func 87) #[] #[]] w (Ret (.bool (sameL l m)) w) := by
  have Hrn := Lib.hid (show rows.length = n from Sl.recs (cells := rwC) (sz := 5) (fun _ => rfl) (by decide) hu.1)
  have Hrk := Lib.hid (show rows2.length = k from Sl.recs (cells := rwC) (sz := 5) (fun _ => rfl) (by decide) hv.1)
  have Hln := Lib.hid (show l.length = n by rw [← hl.len]; exact Hrn.out)
  have Hmk := Lib.hid (show m.length = k by rw [← hm.len]; exact Hrk.out)
  have hn : n ≤ 1000000 := by have := cntL_len l; have := Hln.out; omega
  have hk : k ≤ 1000000 := by have := cntL_len m; have := Hmk.out; omega
  obtain ⟨a, c, rfl⟩ := hu.1.len
  obtain ⟨a2, c2, rfl⟩ := hv.1.len
  obtain ⟨R, hR⟩ : ∃ R, R = sameL l m := ⟨_, rfl⟩
  rw [← hR]
  have hlm := sameL_iff l m (fun x _ y => sameB_iff x y)
  have HR := Lib.hid hR
  have HLM := Lib.hid hlm
  clear hR hlm
  by_cases hnk : n = k
  · subst hnk
    go_enter Tryd.func99, Tryd.ntmps99
    go_wp2
    go_loopw [17] (fun i wr => ∃ j : Nat, j ≤ n ∧ i = .int .i64 j ∧ RowKit.Hid (l.take j = m.take j) ∧ Below w.heap.size w wr) (fun i _ => n - (intOf i).toNat)
    case atStart => exact ⟨0, Nat.zero_le _, rfl, Lib.hid rfl, Below.refl _ _⟩
    case round =>
      obtain ⟨j, hj, rfl, Hsame, hB⟩ := hrel
      have HB := Lib.hid hB
      by_cases hlt : j < n
      · have hl' : j < l.length := by rw [Hln.out]; exact hlt
        have hm' : j < m.length := by rw [Hmk.out]; exact hlt
        have hr' : j < rows.length := by rw [Hrn.out]; exact hlt
        have hq' : j < rows2.length := by rw [Hrk.out]; exact hlt
        obtain ⟨b, off, rfl, hr⟩ := (hu.1.up hB).rec_at (cells := rwC) (sz := 5) (fun _ => rfl) hlt hr'
        obtain ⟨b2, off2, rfl, hr2⟩ := (hv.1.up hB).rec_at (cells := rwC) (sz := 5) (fun _ => rfl) hlt hq'
        have hs1 : l.take (j + 1) = l.take j ++ [l[j]] := List.take_succ_eq_append_getElem hl'
        have hs2 : m.take (j + 1) = m.take j ++ [m[j]] := List.take_succ_eq_append_getElem hm'
        have Hs := Lib.hid (fun h : l[j] = m[j] => show l.take (j + 1) = m.take (j + 1) by rw [hs1, hs2, h, Hsame.out])
        have Hno := Lib.hid (fun h : ¬ l[j] = m[j] => show R = false by
          rw [HR.out, Bool.eq_false_iff]
          intro e
          have := HLM.out.1 e
          subst this
          exact h rfl)
        clear hs1 hs2 hB
        have hc1 : cnt l[j] ≤ 1000000 := by have := cntL_mem (List.getElem_mem hl'); omega
        have hc2 : cnt m[j] ≤ 1000000 := by have := cntL_mem (List.getElem_mem hm'); omega
        have hr2' := rangeAt_up (below_alloc wr (.cells (rwC rows[j]).toArray 48)) hr2
        have hbq : Below w.heap.size w ((wr.alloc (.cells (rwC rows[j]).toArray 48)).alloc (.cells (rwC rows2[j]).toArray 48)) := (HB.out.alloc HB.out.size _).alloc (by have := HB.out.size; simp; omega) _
        have hcl := hp l[j] (List.getElem_mem hl') m[j] rows[j] rows2[j] _ ((hl.get hl' hr').up hbq) ((hm.get hm' hq').up hbq) hc1 hc2
        have Hbq := Lib.hid hbq
        clear hbq hc1 hc2
        have hxe := sameB_iff l[j] m[j]
        generalize sameB l[j] m[j] = z at hcl hxe
        have hsx := (hl.get hl' hr').shape
        have hsy := (hm.get hm' hq').shape
        generalize rows[j] = rx at *
        generalize rows2[j] = ry at *
        obtain ⟨k1, n1, ba1, bn1, bc1, s1, la1, ln1, lc1, rfl⟩ := hsx
        obtain ⟨k2, n2, ba2, bn2, bc2, s2, la2, ln2, lc2, rfl⟩ := hsy
        generalize l[j] = x at *
        generalize m[j] = y at *
        cases z
        · have HRf := Lib.hid (Hno.out (fun h => by simpa using hxe.2 h))
          clear hxe Hs Hno
          go_wp2_with (first
            | (refine wpList_load_mid rfl 48 (.tmp 20) rfl b (off + j * 5) rfl (rwC ⟨k1, n1, .slice ba1 bn1 bc1, s1, .slice la1 ln1 lc1⟩) _ hr Tryd.underlying48 rfl (by kernel_rfl) ?_)
            | (refine wpList_load_mid rfl 48 (.tmp 24) rfl b2 (off2 + j * 5) rfl (rwC ⟨k2, n2, .slice ba2 bn2 bc2, s2, .slice la2 ln2 lc2⟩) _ hr2' Tryd.underlying48 rfl (by kernel_rfl) ?_)
            | (go_at_call 87; refine hcl.mono ?_; rintro en w1 ⟨rfl, hb⟩))
          go_ret
          exact ⟨retB HRf.out.symm, below_up Hbq.out hb⟩
        · have Hst := Lib.hid (Hs.out (hxe.1 rfl))
          clear hxe Hs Hno
          go_wp2_with (first
            | (refine wpList_load_mid rfl 48 (.tmp 20) rfl b (off + j * 5) rfl (rwC ⟨k1, n1, .slice ba1 bn1 bc1, s1, .slice la1 ln1 lc1⟩) _ hr Tryd.underlying48 rfl (by kernel_rfl) ?_)
            | (refine wpList_load_mid rfl 48 (.tmp 24) rfl b2 (off2 + j * 5) rfl (rwC ⟨k2, n2, .slice ba2 bn2 bc2, s2, .slice la2 ln2 lc2⟩) _ hr2' Tryd.underlying48 rfl (by kernel_rfl) ?_)
            | (go_at_call 87; refine hcl.mono ?_; rintro en w1 ⟨rfl, hb⟩))
          go_roundw
          case rel => exact ⟨j + 1, by omega, by go_num, Hst, below_up Hbq.out hb⟩
          case measure => simp [intOf]; omega
      · obtain rfl : j = n := by omega
        have HRt : R = true := by
          rw [HR.out, HLM.out]
          have := Hsame.out
          rwa [List.take_of_length_le (by rw [Hln.out]; exact Nat.le_refl _), List.take_of_length_le (by rw [Hmk.out]; exact Nat.le_refl _)] at this
        go_wp2
        go_ret
        exact ⟨retB HRt.symm, HB.out⟩
  · have hne : ¬ ((n : Int) = (k : Int)) := by omega
    have HRf : R = false := by
      rw [HR.out]
      exact sameL_len (by rw [Hln.out, Hmk.out]; exact hnk)
    go_enter Tryd.func99, Tryd.ntmps99
    go_wp2
    go_ret
    exact ⟨retB HRf.symm, Below.refl _ _⟩
set_option maxHeartbeats 2000000 in
set_option maxRecDepth 100000 in
theorem cbSame_c (S : Nat → Prop) (x : It) : SameC S x := by
  induction x using It.ind with
  | h x ih =>
    intro y r t w hr ht hcx hcy
    obtain ⟨k1, n1, ba1, bn1, bc1, s1, la1, ln1, lc1, rfl⟩ := hr.shape
    obtain ⟨k2, n2, ba2, bn2, bc2, s2, la2, ln2, lc2, rfl⟩ := ht.shape
    obtain ⟨rows, p⟩ := hr.parts
    obtain ⟨rows2, q⟩ := ht.parts
    have hB2 : Below w.heap.size w ((w.alloc (.cells (rwC ⟨k1, n1, .slice ba1 bn1 bc1, s1, .slice la1 ln1 lc1⟩).toArray 48)).alloc (.cells (rwC ⟨k2, n2, .slice ba2 bn2 bc2, s2, .slice la2 ln2 lc2⟩).toArray 48)) := (below_alloc w _).alloc (by simp) _
    have hcb : x.b.length ≤ 140737488351233 := by cases x; simp only [cnt, It.b] at *; omega
    have he1 := equalB_c x.b y.b _ _ _ _ _ (p.b.up hB2).1 (q.b.up hB2).1 hcb
    have he2 := fun w' (hb : Below w.heap.size w w') => equalFI_c S x.l y.l ih _ _ _ _ rows rows2 w' (p.l.up hb) (q.l.up hb) (p.each.up hb) (q.each.up hb) (by cases x; simp only [cnt, It.l] at *; omega) (by cases y; simp only [cnt, It.l] at *; omega)
    have hk1 := p.k; have hk2 := q.k; have hn1 := p.n; have hn2 := q.n; have hs1 := p.s; have hs2 := q.s
    simp only at hk1 hk2 hn1 hn2 hs1 hs2
    have HB2 := Lib.hid hB2
    rw [sameB_parts, ← hk1, ← hk2, ← hn1, ← hn2, ← hs1, ← hs2]
    clear p q hr ht hk1 hk2 hn1 hn2 hs1 hs2 hcx hcy ih hcb hB2
    have hcc : ∀ w1, Below ((w.alloc (.cells (rwC ⟨k1, n1, .slice ba1 bn1 bc1, s1, .slice la1 ln1 lc1⟩).toArray 48)).alloc (.cells (rwC ⟨k2, n2, .slice ba2 bn2 bc2, s2, .slice la2 ln2 lc2⟩).toArray 48)).heap.size ((w.alloc (.cells (rwC ⟨k1, n1, .slice ba1 bn1 bc1, s1, .slice la1 ln1 lc1⟩).toArray 48)).alloc (.cells (rwC ⟨k2, n2, .slice ba2 bn2 bc2, s2, .slice la2 ln2 lc2⟩).toArray 48)) w1 →
        w1.cell? ⟨w.heap.size, 0 + 3, none⟩ = some (.string s1) ∧ w1.cell? ⟨w.heap.size + 1, 0 + 3, none⟩ = some (.string s2) ∧ w1.cell? ⟨w.heap.size, 0 + 4, none⟩ = some (.slice la1 ln1 lc1) ∧ w1.cell? ⟨w.heap.size + 1, 0 + 4, none⟩ = some (.slice la2 ln2 lc2) := by
      intro w1 hb
      have e1 := rangeAt_up (below_alloc (w.alloc (.cells (rwC ⟨k1, n1, .slice ba1 bn1 bc1, s1, .slice la1 ln1 lc1⟩).toArray 48)) (.cells (rwC ⟨k2, n2, .slice ba2 bn2 bc2, s2, .slice la2 ln2 lc2⟩).toArray 48)) (rangeAt_new w (rwC ⟨k1, n1, .slice ba1 bn1 bc1, s1, .slice la1 ln1 lc1⟩) 48 _)
      have e2 := rangeAt_new (w.alloc (.cells (rwC ⟨k1, n1, .slice ba1 bn1 bc1, s1, .slice la1 ln1 lc1⟩).toArray 48)) (rwC ⟨k2, n2, .slice ba2 bn2 bc2, s2, .slice la2 ln2 lc2⟩) 48 (0, 0)
      have e1 := rangeAt_up hb e1
      have e2 := rangeAt_up hb e2
      simp only [World.alloc, Array.size_push] at e2
      exact ⟨e1 3 _ rfl, e2 3 _ rfl, e1 4 _ rfl, e2 4 _ rfl⟩
    generalize decide (x.b = y.b) = z1 at he1 ⊢
    generalize sameL x.l y.l = z2 at he2 ⊢
    by_cases hk : k1 = k2
    · subst hk
      by_cases hn : n1 = n2
      · subst hn
        cases z1
        · go_enter Tryd.func87, Tryd.ntmps87
          go_wp2_with (go_at_call 98; refine he1.mono ?_; rintro en w1 ⟨rfl, hb⟩)
          go_ret
          exact ⟨retB (by simp), below_up HB2.out hb⟩
        · by_cases hs : s1 = s2
          · subst hs
            go_enter Tryd.func87, Tryd.ntmps87
            go_wp2_with (first
              | (go_at_call 98; refine he1.mono ?_; rintro en w1 ⟨rfl, hb⟩; obtain ⟨c1, c2, c3, c4⟩ := hcc w1 hb; have hB1 := below_up HB2.out hb)
              | (go_at_call 99; refine (he2 _ hB1).mono ?_; rintro en w2 ⟨rfl, hb2⟩))
            go_ret
            exact ⟨retB (by simp), below_up hB1 hb2⟩
          · have hs' : ¬ s1.toList = s2.toList := fun h => by rw [ByteArray.toList_eq, ByteArray.toList_eq] at h; exact hs (ByteArray.ext (Array.toList_inj.1 h))
            go_enter Tryd.func87, Tryd.ntmps87
            go_wp2_with (first
              | (go_at_call 98; refine he1.mono ?_; rintro en w1 ⟨rfl, hb⟩; obtain ⟨c1, c2, c3, c4⟩ := hcc w1 hb; have hB1 := below_up HB2.out hb))
            go_ret
            exact ⟨retB (by simp [hs]), hB1⟩
      · go_enter Tryd.func87, Tryd.ntmps87
        go_wp2
        go_ret
        exact ⟨retB (by simp [hn]), HB2.out⟩
    · go_enter Tryd.func87, Tryd.ntmps87
      go_wp2
      go_ret
      exact ⟨retB (by simp [hk]), HB2.out⟩
end Go.Proofs.YtpfgepgjpnekdaaDoor
