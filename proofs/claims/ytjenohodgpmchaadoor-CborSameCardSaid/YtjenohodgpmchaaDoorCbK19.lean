/-
  CbN, CbDp: several texts in one (bundle.py).
-/
import Derived.Test.YtjenohodgpmchaaDoorCbK18
namespace Go.Proofs.YtjenohodgpmchaaDoor
open Go.RowKit Cb
set_option linter.unusedSimpArgs false
set_option linter.unusedVariables false
theorem slT_int : SlT Tryd.prog 91 3 1 8 := SlT.mk' Tryd.underlying91 (z := .int .i64 0) (by kernel_rfl) rfl (by decide)
def dpV (x : It) : Value := .int .i64 (depth x : Int)
abbrev DpC (S : Nat → Prop) (x : It) : Prop := ∀ (r : Rw) (w : World), ItR S w x r → cnt x ≤ 1000000 → Calls Tryd.prog 36 #[rwV r] w (Ret (.int .i64 (depth x : Int)) w)
set_option maxHeartbeats 2000000 in
set_option maxRecDepth 100000 in
theorem madeI_c (S : Nat → Prop) (l : List It) (hp : ∀ x ∈ l, DpC S x) (hc : cntL l ≤ 1000000) (u : Value) (n : Nat) (rows : List Rw) (w : World) (hu : SlS S w 5 u n (rows.flatMap rwC)) (hl : ItsR S w l rows) :
    Calls Tryd.prog 52 #[u, .func (.func 36) #[] #[]] w fun en w' => ∃ v, en = .returned v ∧ w'.ownsRow w.heap.size 3 1 v n (l.map dpV) ∧ Below w.heap.size w w' := by
  have Hrn := Lib.hid (show rows.length = n from Sl.recs (cells := rwC) (sz := 5) (fun _ => rfl) (by decide) hu.1)
  have Hln := Lib.hid (show l.length = n by rw [← hl.len]; exact Hrn.out)
  have hn : n ≤ 1000000 := by have := cntL_len l; have := Hln.out; omega
  obtain ⟨a, c, rfl⟩ := hu.1.len
  go_enter Tryd.func52, Tryd.ntmps52
  go_wp2
  go_loopw [4, 9] (fun o i wr => ∃ (j : Nat), j ≤ n ∧ i = .int .i64 j ∧ wr.ownsRow w.heap.size 3 1 o j ((l.take j).map dpV) ∧ Below w.heap.size w wr) (fun _ i _ => n - (intOf i).toNat)
  case atStart => exact ⟨0, Nat.zero_le _, rfl, World.ownsRow_nil _ _ _ _, Below.refl _ _⟩
  case round =>
    obtain ⟨j, hj, rfl, ho, hB⟩ := hrel
    by_cases hlt : j < n
    · have hl' : j < l.length := by rw [Hln.out]; exact hlt
      have hr' : j < rows.length := by rw [Hrn.out]; exact hlt
      obtain ⟨b, off, rfl, hr⟩ := (hu.1.up hB).rec_at (cells := rwC) (sz := 5) (fun _ => rfl) hlt hr'
      have hs1 := Lib.hid (show (l.take (j + 1)).map dpV = (l.take j).map dpV ++ [dpV l[j]] by rw [List.take_succ_eq_append_getElem hl', List.map_append]; rfl)
      have hbq : Below w.heap.size w (wr.alloc (.cells (rwC rows[j]).toArray 28)) := hB.alloc hB.size _
      have hcl := hp l[j] (List.getElem_mem hl') rows[j] _ ((hl.get hl' hr').up hbq) (by have := cntL_mem (List.getElem_mem hl'); omega)
      have Hbq := Lib.hid hbq
      have Ho := Lib.hid ho
      have HB := Lib.hid hB
      have hsx := (hl.get hl' hr').shape
      clear hbq ho
      generalize rows[j] = rx at *
      obtain ⟨k1, n1, ba1, bn1, bc1, s1, la1, ln1, lc1, rfl⟩ := hsx
      generalize l[j] = x at *
      generalize hdx : depth x = d at *
      obtain ⟨ao, co, rfl⟩ := own_slice Ho.out
      go_wp2_with (first
        | (refine wpList_load_mid rfl 28 (.tmp 11) rfl b (off + j * 5) rfl (rwC ⟨k1, n1, .slice ba1 bn1 bc1, s1, .slice la1 ln1 lc1⟩) _ hr Tryd.underlying28 rfl (by kernel_rfl) ?_)
        | (go_at_call 36; refine hcl.mono ?_; rintro en w1 ⟨rfl, hb1⟩)
        | (at_builtin; refine wpList_app rfl _ _ 91 rfl slT_int w.heap.size rfl ((own_up (own_up Ho.out (below_alloc _ _)) hb1).alloc _) rfl (sl1 _ _ rfl (.int .i64 (d : Int)) _) (by intro u hu; simp at hu; subst hu; rfl) (by simp only [maxLen]; omega) (by omega) (by have := Hbq.out.size; have := hb1.size; simp at *; omega) ?_; intro o' w3 ho' hg' _))
      have hB3 := grown_below (below_up (below_up Hbq.out hb1) (below_alloc w1 (.cells #[.int .i64 (d : Int)] 3))) hg' (fun q hq => (own_of_some Ho.out hq).1)
      go_roundw
      case rel => exact ⟨j + 1, by omega, by go_num, by rw [hs1.out, show dpV x = .int .i64 (d : Int) by rw [← hdx]; rfl]; exact ho', hB3⟩
      case measure => simp [intOf]; omega
    · obtain rfl : j = n := by omega
      have hall : l.take j = l := List.take_of_length_le (by rw [Hln.out]; exact Nat.le_refl _)
      have Hall := Lib.hid hall
      clear hall
      obtain ⟨ao, co, rfl⟩ := own_slice ho
      go_wp2
      go_ret
      exact ⟨_, rfl, by rw [← Hall.out]; exact ho, hB⟩
/-- The greatest of numbers that are not below 0, one of them 0. -/
def maxL : List Nat → Nat
  | [] => 0
  | x :: l => max x (maxL l)
theorem maxL_app : ∀ l m : List Nat, maxL (l ++ m) = max (maxL l) (maxL m)
  | [], m => by simp [maxL]
  | x :: l, m => by simp only [List.cons_append, maxL, maxL_app l m]; omega
theorem depthL_max : ∀ l : List It, depthL l = maxL (l.map depth)
  | [] => rfl
  | x :: l => by simp only [depthL, List.map_cons, maxL, depthL_max l]
theorem mp_get (l : List Nat) (k : Nat) (hk : k < l.length) : (l.map fun d : Nat => Value.int .i64 (d : Int))[k]? = some (.int .i64 ((l[k] : Nat) : Int)) := by simp [hk]
theorem maxL_take (l : List Nat) (k : Nat) (hk : k < l.length) : maxL (l.take (k + 1)) = max (maxL (l.take k)) l[k] := by
  rw [List.take_succ_eq_append_getElem hk, maxL_app]; simp [maxL]
theorem maxL_le (l : List Nat) (B : Nat) (h : ∀ d ∈ l, d ≤ B) : maxL l ≤ B := by
  induction l with
  | nil => simp [maxL]
  | cons x l ih =>
    have h1 := h x (by simp)
    have h2 := ih (fun d hd => h d (by simp [hd]))
    simp only [maxL]; omega
set_option maxHeartbeats 2000000 in
set_option maxRecDepth 100000 in
theorem max_c (l : List Nat) (v : Value) (n : Nat) (w : World) (hv : Sl w 1 v n (l.map fun d : Nat => Value.int .i64 (d : Int))) (hn : 0 < n) (hn2 : n ≤ 9223372036854775807) (hm : ∀ d ∈ l, d ≤ 9223372036854775807) :
    Calls Tryd.prog 51 #[v] w fun en w' => en = .returned (.int .i64 (maxL l : Int)) ∧ w = w' := by
  have hln : l.length = n := by have := hv.1; simpa using this
  obtain ⟨a, c, rfl⟩ := hv.len
  have Hln := Lib.hid hln
  clear hln
  have h0 : 0 < l.length := by rw [Hln.out]; exact hn
  obtain ⟨b, off, rfl, hc⟩ := hv.cellAt (k := 0) hn (by simpa using hn)
  have hlt1 : ¬ (n : Int) < 1 := by omega
  rw [mp_get l 0 h0, Nat.add_zero] at hc
  have Hx := Lib.hid (show maxL (l.take 1) = l[0] by
    rw [maxL_take l 0 h0]; simp [maxL])
  go_enter Tryd.func51, Tryd.ntmps51
  go_wp2
  go_loopw [3, 4] (fun m i wr => ∃ j : Nat, 1 ≤ j ∧ j ≤ n ∧ i = .int .i64 j ∧ m = .int .i64 (maxL (l.take j) : Int) ∧ w = wr) (fun _ i _ => n - (intOf i).toNat)
  case atStart => exact ⟨1, Nat.le_refl _, hn, rfl, by rw [Hx.out], rfl⟩
  case round =>
    obtain ⟨j, hj1, hj, rfl, rfl, rfl⟩ := hrel
    by_cases hlt : j < n
    · have hl' : j < l.length := by rw [Hln.out]; exact hlt
      obtain ⟨b, off, e, hc⟩ := hv.cellAt (k := j) hn (by simpa using hlt)
      cases e
      rw [mp_get l j hl'] at hc
      have Ht := Lib.hid (maxL_take l j hl')
      have h1 := maxL_le (l.take j) 9223372036854775807 (fun d hd => hm d (List.mem_of_mem_take hd))
      have h2 := hm l[j] (List.getElem_mem hl')
      generalize maxL (l.take j) = A at *
      generalize l[j] = B at *
      go_wp2
      refine ⟨⟨j + 1, by omega, by omega, by go_num, ?_, trivial⟩, by simp [intOf]; omega⟩
      rw [Ht.out]; congr 1; omega
    · obtain rfl : j = n := by omega
      have Hall := Lib.hid (show l.take j = l from List.take_of_length_le (by rw [Hln.out]; exact Nat.le_refl _))
      go_wp2
      go_ret
      exact ⟨by rw [Hall.out]; rfl, rfl⟩
set_option maxHeartbeats 2000000 in
set_option maxRecDepth 100000 in
theorem depth_c (S : Nat → Prop) (x : It) : DpC S x := by
  induction x using It.ind with
  | h x ih =>
    intro r w hr hcx
    obtain ⟨k1, n1, ba1, bn1, bc1, s1, la1, ln1, lc1, rfl⟩ := hr.shape
    obtain ⟨rows, p⟩ := hr.parts
    have hcl : cntL x.l ≤ 1000000 := by cases x; simp only [cnt, It.l] at *; omega
    have hB1 := below_alloc w (.cells (rwC ⟨k1, n1, .slice ba1 bn1 bc1, s1, .slice la1 ln1 lc1⟩).toArray 28)
    have hm := madeI_c S x.l ih hcl _ _ rows _ (p.l.up hB1) (p.each.up hB1)
    have Hd := Lib.hid (show (depth x : Int) = 1 + (maxL (x.l.map depth ++ [0]) : Int) by rw [depth_eq, maxL_app, depthL_max]; simp [maxL]; omega)
    have hln : x.l.length ≤ 1000000 := by have := cntL_len x.l; omega
    have Hmx := Lib.hid (show ∀ d ∈ x.l.map depth ++ [0], d ≤ 1000000 from fun d hd => by
      rcases List.mem_append.1 hd with h | h
      · obtain ⟨z, hz, rfl⟩ := List.mem_map.1 h
        have := depth_cnt z; have := cnt_mem hz; omega
      · simp at h; omega)
    have Hmp := Lib.hid (show (x.l.map dpV ++ [.int .i64 0]) = (x.l.map depth ++ [0]).map fun d : Nat => Value.int .i64 (d : Int) by simp [dpV])
    have hmb : maxL (x.l.map depth ++ [0]) ≤ 1000000 := maxL_le _ _ Hmx.out
    clear ih p hr hcx hcl
    obtain ⟨m, hm'⟩ : ∃ m, x.l.length = m := ⟨_, rfl⟩
    rw [hm'] at hm hln
    generalize depth x = D at *
    generalize x.l.map depth ++ [0] = ds at *
    generalize x.l.map dpV = dv at *
    go_enter Tryd.func36, Tryd.ntmps36
    go_wp2_with (first
      | (go_at_call 52; refine hm.mono ?_; rintro en w1 ⟨v1, rfl, ho1, hb1⟩; obtain ⟨a1, c1, rfl⟩ := own_slice ho1)
      | (at_builtin; refine wpList_app rfl _ _ 91 rfl slT_int (w.heap.size + 1) rfl ((own_down ho1 (by simp)).alloc _) rfl (sl1 _ _ rfl (.int .i64 0) _) (by intro u hu; simp at hu; subst hu; rfl) (by simp only [maxLen]; omega) (by omega) (by have := hb1.size; simp at *; omega) ?_; intro o' w3 ho' hg' _)
      | (go_at_call 51; refine (max_c ds _ _ _ (by rw [← Hmp.out]; exact Sl.of_own ho') (by omega) (by omega) (fun d hd => by have := Hmx.out d hd; omega)).mono ?_; rintro en w4 ⟨rfl, rfl⟩))
    go_ret
    exact ⟨by rw [Hd.out]; rfl, grown_below ((below_up hB1 hb1).alloc (by have := hB1.size; have := hb1.size; omega) _) hg' (fun q hq => by have := (own_of_some ho1 hq).1; simp at this; omega)⟩
end Go.Proofs.YtjenohodgpmchaaDoor

namespace Go.Proofs.YtjenohodgpmchaaDoor
open Go.RowKit Cb
set_option linter.unusedSimpArgs false
set_option linter.unusedVariables false
abbrev DpRC (S : Nat → Prop) (x : It) : Prop := ∀ (r : Rw) (w : World), ItR S w x r → cnt x ≤ 1000000 → Calls Tryd.prog 28 #[rwV r] w (Ret (.int .i64 (depth x : Int)) w)
set_option maxHeartbeats 2000000 in
set_option maxRecDepth 100000 in
theorem depthR_c (S : Nat → Prop) (x : It) : DpRC S x := by
  induction x using It.ind with
  | h x ih =>
    intro r w hr hcx
    obtain ⟨rows, p⟩ := hr.parts
    have hsh := hr.shape
    have hu := p.l
    have hea := p.each
    have hln := p.each.len
    have hc := cntL_len x.l
    have hcl : cntL x.l ≤ 1000000 := by cases x; simp only [cnt, It.l] at *; omega
    have hcy : ∀ z ∈ x.l, cnt z ≤ 1000000 := fun z hz => by have := cnt_mem hz; omega
    obtain ⟨k1, n1, ba1, bn1, bc1, s1, la1, ln1, lc1, rfl⟩ := hsh
    have hll : ln1 = x.l.length := by obtain ⟨a, c, h⟩ := p.l.cell; simp at h; exact h.2.1
    simp only at hu
    have hdep : ∀ z ∈ x.l, depth z ≤ 1000000 := fun z hz => by have := depth_cnt z; have := hcy z hz; omega
    have HD := Lib.hid (depth_eq x)
    have hB1 := below_alloc w (.cells (rwC ⟨k1, n1, .slice ba1 bn1 bc1, s1, .slice la1 ln1 lc1⟩).toArray 28)
    have e1 := rangeAt_new w (rwC ⟨k1, n1, .slice ba1 bn1 bc1, s1, .slice la1 ln1 lc1⟩) 28 (0, 0)
    clear p hr hcx
    subst hll
    generalize hn : x.l.length = n at *
    have Hn := Lib.hid hn
    clear hn
    go_enter Tryd.func28, Tryd.ntmps28
    go_wp2
    go_loopw [3, 4] (fun d i wr => ∃ j : Nat, j ≤ n ∧ i = .int .i64 j ∧ d = .int .i64 (depthL (x.l.take j) : Int) ∧ Below (w.heap.size + 1) (w.alloc (.cells (rwC ⟨k1, n1, .slice ba1 bn1 bc1, s1, .slice la1 n lc1⟩).toArray 28)) wr) (fun _ i _ => n - (intOf i).toNat)
    case atStart => exact ⟨0, Nat.zero_le _, rfl, by simp [depthL], Below.refl _ _⟩
    case round =>
      obtain ⟨j, hj, rfl, rfl, hB⟩ := hrel
      have hB' : Below (w.alloc (.cells (rwC ⟨k1, n1, .slice ba1 bn1 bc1, s1, .slice la1 n lc1⟩).toArray 28)).heap.size (w.alloc (.cells (rwC ⟨k1, n1, .slice ba1 bn1 bc1, s1, .slice la1 n lc1⟩).toArray 28)) wr := by rw [World.size_alloc]; exact hB
      have hBw := below_up hB1 hB'
      have hc1 : wr.cell? ⟨w.heap.size, 0 + 4, none⟩ = some (.slice la1 n lc1) := rangeAt_up hB' e1 4 _ rfl
      by_cases hlt : j < n
      · have hl' : j < x.l.length := by rw [Hn.out]; exact hlt
        have hr' : j < rows.length := by omega
        obtain ⟨b, off, rfl, hr⟩ := (hu.1.up hBw).rec_at (cells := rwC) (sz := 5) (fun _ => rfl) hlt hr'
        have hs1 := Lib.hid (show depthL (x.l.take (j + 1)) = max (depthL (x.l.take j)) (depth x.l[j]) by rw [List.take_succ_eq_append_getElem hl', depthL_app]; simp [depthL])
        have hcl := ih x.l[j] (List.getElem_mem hl') rows[j] wr ((hea.get hl' hr').up hBw) (hcy _ (List.getElem_mem hl'))
        have hsx := (hea.get hl' hr').shape
        generalize rows[j] = rx at *
        obtain ⟨ka, na, baa, bna, bca, sa, laa, lna, lca, rfl⟩ := hsx
        generalize depthL (x.l.take j) = A at *
        generalize depth x.l[j] = B at *
        go_wp2_with (first
          | (refine wpList_load_mid rfl 28 (.tmp 16) rfl b (off + j * 5) rfl (rwC ⟨ka, na, .slice baa bna bca, sa, .slice laa lna lca⟩) _ hr Tryd.underlying28 rfl (by kernel_rfl) ?_)
          | (go_at_call 28; refine hcl.mono ?_; rintro en w1 ⟨rfl, hb1⟩))
        go_roundw
        case rel => exact ⟨j + 1, by omega, by go_num, by rw [hs1.out]; congr 1; omega, by have := below_up hB' hb1; rw [World.size_alloc] at this; exact this⟩
        case measure => simp [intOf]; omega
      · obtain rfl : j = n := by omega
        have Hall := Lib.hid (show x.l.take j = x.l from List.take_of_length_le (by rw [Hn.out]; exact Nat.le_refl _))
        have hbnd : depthL (x.l.take j) ≤ 1000000 := by rw [Hall.out]; have := depthL_cnt x.l; omega
        have Hfin := Lib.hid (show (depth x : Int) = (depthL (x.l.take j) : Int) + 1 by rw [Hall.out, HD.out]; omega)
        generalize depthL (x.l.take j) = A at *
        go_wp2
        go_ret
        exact ⟨by rw [Hfin.out]; rfl, hBw⟩
end Go.Proofs.YtjenohodgpmchaaDoor
