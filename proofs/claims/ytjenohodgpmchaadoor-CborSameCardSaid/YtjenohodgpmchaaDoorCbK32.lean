/-
  CbX: several texts in one (bundle.py).
-/
import Derived.Test.YtjenohodgpmchaaDoorCbK18
import Derived.Test.YtjenohodgpmchaaDoorCbK15
import Derived.Laws.IdiomStrings
namespace Go.Proofs.YtjenohodgpmchaaDoor
open Go.RowKit Go.Maps Cb
set_option linter.unusedSimpArgs false
set_option linter.unusedVariables false
theorem str_bytes {P : Program} (w : World) {src dst e : TypeId} (s : ByteArray) (hs : P.underlying src = some .string) (hd : P.underlying dst = some (.slice e)) (he : P.underlying e = some (.int .u8)) (hm : s.size ≤ maxLen) :
    ∃ c w', (convert src dst (.string s)).run P w = .ok (.slice (some ⟨w.heap.size, 0, none⟩) s.size c) w' ∧ Sl w' 1 (.slice (some ⟨w.heap.size, 0, none⟩) s.size c) s.data.toList.length (by8 s.data.toList) ∧ Below w.heap.size w w' := by
  refine ⟨_, _, run_bytes_of_string w src dst e s hs hd he, ?_, (Below.refl _ _).drew.alloc (Nat.le_refl _) _⟩
  have hg := grownCap_ge w s.size 0 e
  refine ⟨by rw [by8_len]; simp, .inr ⟨w.heap.size, 0, _, ?_, ?_, grownCap_le_maxLen w s.size 0 e hm, fun j u hj => ?_⟩⟩
  · congr 1
  · exact hg
  · have hsz : (bytesRow s (grownCap w s.size 0 e))[j]? = some u := by
      have hj' : j < s.data.size := by
        have := (List.getElem?_eq_some_iff.1 hj).1
        rw [by8_len] at this
        simpa using this
      unfold bytesRow
      rw [Array.getElem?_append_left (by simpa using hj')]
      simp only [by8, List.getElem?_map, Array.getElem?_toList] at hj
      simp only [Array.getElem?_map]
      exact hj
    show (w.drew.alloc _).cell? ⟨w.heap.size, 0 + j, none⟩ = some u
    rw [Nat.zero_add]
    simp only [World.cell?, World.alloc, World.drew, Array.getElem?_push_size]
    exact hsz
abbrev Byt (x : It) (w : World) (en : Ending) (w' : World) : Prop := ∃ v, en = .returned v ∧ w'.ownsRow w.heap.size 5 1 v (bytesOf x).length (by8 (bytesOf x)) ∧ Below w.heap.size w w'
theorem wrap_u64 (n : Nat) (h : n ≤ 1000000) : IntKind.u64.wrap (n : Int) = n := by simp [IntKind.wrap, go_sem]; omega
theorem flat2 (a b : List UInt8) : [a, b].flatten = a ++ b := by simp
theorem enters_head : Enters Tryd.prog 58 := enters_of Tryd.func58 (by kernel_rfl) rfl
theorem enters_join : Enters Tryd.prog 64 := enters_of Tryd.func64 (by kernel_rfl) rfl
theorem enters_writes : Enters Tryd.prog 49 := enters_of Tryd.func49 (by kernel_rfl) rfl
theorem enters_madeB : Enters Tryd.prog 67 := enters_of Tryd.func67 (by kernel_rfl) rfl
set_option maxHeartbeats 2000000 in
set_option maxRecDepth 100000 in
theorem write1_c (S : Nat → Prop) (x : It) (r : Rw) (w : World) (hr : ItR S w x r) (hcx : cnt x ≤ 1000000) (hk : x.k = 1) : Calls Tryd.prog 62 #[rwV r] w (Byt x w) := by
  obtain ⟨k1, n1, ba1, bn1, bc1, s1, la1, ln1, lc1, rfl⟩ := hr.shape
  obtain ⟨rows, p⟩ := hr.parts
  have hB1 := below_alloc w (.cells (rwC ⟨k1, n1, .slice ba1 bn1 bc1, s1, .slice la1 ln1 lc1⟩).toArray 28)
  have e1 := rangeAt_new w (rwC ⟨k1, n1, .slice ba1 bn1 bc1, s1, .slice la1 ln1 lc1⟩) 28 (0, 0)
  have hby := bytesOf_eq x
  rw [hk] at hby
  rw [if_pos rfl] at hby
  have hn : n1 = x.n := p.n
  have h0 := p.lo; have h1 := p.hi
  rw [← hn] at hby h0 h1
  have Hby := Lib.hid hby
  clear p hr hby hk hn hcx
  go_enter Tryd.func62, Tryd.ntmps62
  go_wp2_with (go_at_call 58; refine (head_c 0 n1 _ (by decide) (by decide) h0 h1).mono ?_; rintro en w1 ⟨v1, rfl, ho1, hb1⟩)
  go_ret
  exact ⟨_, rfl, by rw [Hby.out]; exact own_down ho1 (by simp), below_up hB1 hb1⟩
set_option maxHeartbeats 2000000 in
set_option maxRecDepth 100000 in
theorem write5_c (S : Nat → Prop) (x : It) (r : Rw) (w : World) (hr : ItR S w x r) (hcx : cnt x ≤ 1000000) (hk : x.k = 5) : Calls Tryd.prog 68 #[rwV r] w (Byt x w) := by
  obtain ⟨k1, n1, ba1, bn1, bc1, s1, la1, ln1, lc1, rfl⟩ := hr.shape
  obtain ⟨rows, p⟩ := hr.parts
  have hB1 := below_alloc w (.cells (rwC ⟨k1, n1, .slice ba1 bn1 bc1, s1, .slice la1 ln1 lc1⟩).toArray 28)
  have e1 := rangeAt_new w (rwC ⟨k1, n1, .slice ba1 bn1 bc1, s1, .slice la1 ln1 lc1⟩) 28 (0, 0)
  have hby := bytesOf_eq x
  rw [hk] at hby
  simp only [show ¬ ((5 : Int) = 1) by decide, show ¬ ((5 : Int) = 2) by decide, show ¬ ((5 : Int) = 3) by decide, if_false, if_true] at hby
  have hn : n1 = x.n := p.n
  have h0 := p.lo
  rw [← hn] at hby h0
  have Hby := Lib.hid hby
  clear p hr hby hk hn hcx
  go_enter Tryd.func68, Tryd.ntmps68
  go_wp2
  go_ret
  refine ⟨_, rfl, ?_, hB1.alloc hB1.size _⟩
  have hbv : by8 [UInt8.ofNat (244 + n1).toNat] = [.int .u8 ((244 + n1) % 256)] := by
    simp only [by8, List.map_cons, List.map_nil, UInt8.toNat_ofNat']
    congr 2
    omega
  rw [Hby.out, hbv]
  have hown := World.ownsRow_lit (w.alloc (.cells (rwC ⟨k1, n1, .slice ba1 bn1 bc1, s1, .slice la1 ln1 lc1⟩).toArray 28)) #[.int .u8 ((244 + n1) % 256)] 1 (size := 1) (base := w.heap.size) (e := 5) (by simp) (by decide) rfl
  rw [World.size_alloc] at hown
  exact hown
set_option maxHeartbeats 2000000 in
set_option maxRecDepth 100000 in
theorem write6_c (S : Nat → Prop) (x : It) (r : Rw) (w : World) (hr : ItR S w x r) (hcx : cnt x ≤ 1000000) (hk : x.k = 6) : Calls Tryd.prog 69 #[rwV r] w (Byt x w) := by
  obtain ⟨k1, n1, ba1, bn1, bc1, s1, la1, ln1, lc1, rfl⟩ := hr.shape
  obtain ⟨rows, p⟩ := hr.parts
  have hB1 := below_alloc w (.cells (rwC ⟨k1, n1, .slice ba1 bn1 bc1, s1, .slice la1 ln1 lc1⟩).toArray 28)
  have e1 := rangeAt_new w (rwC ⟨k1, n1, .slice ba1 bn1 bc1, s1, .slice la1 ln1 lc1⟩) 28 (0, 0)
  have hby := bytesOf_eq x
  rw [hk] at hby
  simp only [show ¬ ((6 : Int) = 1) by decide, show ¬ ((6 : Int) = 2) by decide, show ¬ ((6 : Int) = 3) by decide, show ¬ ((6 : Int) = 5) by decide, if_false, if_true] at hby
  have Hby := Lib.hid hby
  clear p hr hby hk hcx
  go_enter Tryd.func69, Tryd.ntmps69
  go_wp2
  go_ret
  refine ⟨_, rfl, ?_, hB1.alloc hB1.size _⟩
  rw [Hby.out]
  have hown := World.ownsRow_lit (w.alloc (.cells (rwC ⟨k1, n1, .slice ba1 bn1 bc1, s1, .slice la1 ln1 lc1⟩).toArray 28)) #[.int .u8 246] 1 (size := 1) (base := w.heap.size) (e := 5) (by simp) (by decide) rfl
  rw [World.size_alloc] at hown
  exact hown
set_option maxHeartbeats 2000000 in
set_option maxRecDepth 100000 in
theorem write2_c (S : Nat → Prop) (x : It) (r : Rw) (w : World) (hr : ItR S w x r) (hcx : cnt x ≤ 1000000) (hk : x.k = 2) : Calls Tryd.prog 63 #[rwV r] w (Byt x w) := by
  obtain ⟨k1, n1, ba1, bn1, bc1, s1, la1, ln1, lc1, rfl⟩ := hr.shape
  obtain ⟨rows, p⟩ := hr.parts
  have hB1 := below_alloc w (.cells (rwC ⟨k1, n1, .slice ba1 bn1 bc1, s1, .slice la1 ln1 lc1⟩).toArray 28)
  have e1 := rangeAt_new w (rwC ⟨k1, n1, .slice ba1 bn1 bc1, s1, .slice la1 ln1 lc1⟩) 28 (0, 0)
  have hby := bytesOf_eq x
  rw [hk] at hby
  simp only [show ¬ ((2 : Int) = 1) by decide, if_false, if_true] at hby
  have hbl : x.b.length ≤ 1000000 := by cases x; simp only [cnt, It.b] at *; omega
  have hv := p.b
  have e2 := rangeAt_up (Below.refl _ _) e1
  have hbn : bn1 = x.b.length := by obtain ⟨a, c, h⟩ := p.b.cell; simp at h; exact h.2.1
  have Hby := Lib.hid hby
  clear p hr hby hk hcx
  generalize x.b = bs at *
  subst hbn
  go_enter Tryd.func63, Tryd.ntmps63
  go_wp2
  refine wp_region_pi [(0, false), (1, false), (2, false), (3, false), (5, false), (6, false), (4, true), (7, true), (8, true), (9, false)] (by kernel_rfl) (by kernel_rfl) (by kernel_rfl) rfl (fun _ _ d _ _ h => by cases d <;> exact h) (fun Wd hBd => ?_)
  try simp only [Act.put, List.getElem_toArray, List.getElem_cons_zero, List.getElem_cons_succ, List.setIfInBounds_toArray, List.set_cons_zero, List.set_cons_succ]
  have c1 : ∀ w', Below Wd.heap.size Wd w' → w'.cell? ⟨w.heap.size, 0 + 2, none⟩ = some (.slice ba1 bs.length bc1) := fun w' h => rangeAt_up h (rangeAt_up hBd e1) 2 _ rfl
  refine pi_q (v := ?_) rfl (by rfl) ?_ ?_
  rotate_left
  · intro w' hBw'
    first | (go_simp; done) | (go_simp; with_reducible rfl)
  try simp only [Act.put, List.getElem_toArray, List.getElem_cons_zero, List.getElem_cons_succ, List.setIfInBounds_toArray, List.set_cons_zero, List.set_cons_succ]
  refine pi_q (v := ?_) rfl (by rfl) ?_ ?_
  rotate_left
  · intro w' hBw'
    first | (go_simp; done) | (go_simp; with_reducible rfl)
  try simp only [Act.put, List.getElem_toArray, List.getElem_cons_zero, List.getElem_cons_succ, List.setIfInBounds_toArray, List.set_cons_zero, List.set_cons_succ]
  refine pi_q (v := ?_) rfl (by rfl) ?_ ?_
  rotate_left
  · intro w' hBw'
    first | (go_simp; done) | (go_simp; with_reducible rfl)
  try simp only [Act.put, List.getElem_toArray, List.getElem_cons_zero, List.getElem_cons_succ, List.setIfInBounds_toArray, List.set_cons_zero, List.set_cons_succ]
  refine pi_q (v := .int .u64 (bs.length : Int)) rfl (by rfl) (fun w' hBw' => by go_simp; exact wrap_u64 _ hbl) ?_
  try simp only [Act.put, List.getElem_toArray, List.getElem_cons_zero, List.getElem_cons_succ, List.setIfInBounds_toArray, List.set_cons_zero, List.set_cons_succ]
  refine pi_q (v := ?_) rfl (by rfl) ?_ ?_
  rotate_left
  · intro w' hBw'
    first | (go_simp; done) | (go_simp; with_reducible rfl)
  try simp only [Act.put, List.getElem_toArray, List.getElem_cons_zero, List.getElem_cons_succ, List.setIfInBounds_toArray, List.set_cons_zero, List.set_cons_succ]
  refine pi_q (v := ?_) rfl (by rfl) ?_ ?_
  rotate_left
  · intro w' hBw'
    first | (go_simp; done) | (go_simp; with_reducible rfl)
  try simp only [Act.put, List.getElem_toArray, List.getElem_cons_zero, List.getElem_cons_succ, List.setIfInBounds_toArray, List.set_cons_zero, List.set_cons_succ]
  refine pi_call rfl (by rfl) ((head_c 2 bs.length Wd (by decide) (by decide) (by omega) (by omega))) enters_head (by rfl) (by kernel_rfl) ?_
  rintro en wN ⟨v1, rfl, ho1, hb1⟩
  obtain ⟨a1, c1', rfl⟩ := own_slice ho1
  have c1 : ∀ w', Below wN.heap.size wN w' → w'.cell? ⟨w.heap.size, 0 + 2, none⟩ = some (.slice ba1 bs.length bc1) := fun w' h => c1 w' (below_up hb1 h)
  refine ⟨_, rfl, hb1, ?_⟩
  try simp only [Act.put, List.getElem_toArray, List.getElem_cons_zero, List.getElem_cons_succ, List.setIfInBounds_toArray, List.set_cons_zero, List.set_cons_succ]
  refine pi_c rfl (by rfl) (fun K hK => ?_)
  go_simp
  refine hK.out _ _ (below_alloc _ _) ?_
  clear hK K
  try simp only [Act.put, List.getElem_toArray, List.getElem_cons_zero, List.getElem_cons_succ, List.setIfInBounds_toArray, List.set_cons_zero, List.set_cons_succ]
  refine pi_call rfl (by rfl) ((join_c [headB 2 bs.length, bs] _ _ _ _ (slB2 (T := 22) (Sl.of_own ho1) ((hv.1.up (below_up hB1 hBd)).up hb1) rfl rfl _ rfl) (by omega) (by have := headB_len 2 bs.length; simp; omega))) enters_join (by rfl) (by kernel_rfl) ?_
  rintro en wN ⟨v2, rfl, ho2, hb2⟩
  refine ⟨_, rfl, hb2, ?_⟩
  try simp only [Act.put, List.getElem_toArray, List.getElem_cons_zero, List.getElem_cons_succ, List.setIfInBounds_toArray, List.set_cons_zero, List.set_cons_succ]
  refine pi_q (v := ?_) rfl (by rfl) ?_ ?_
  rotate_left
  · intro w' hBw'
    first | (go_simp; done) | (go_simp; with_reducible rfl)
  try simp only [Act.put, List.getElem_toArray, List.getElem_cons_zero, List.getElem_cons_succ, List.setIfInBounds_toArray, List.set_cons_zero, List.set_cons_succ]
  refine pi_nil ?_
  go_wp2
  go_ret
  rw [flat2] at ho2
  refine ⟨_, rfl, ?_, below_up (below_up (below_up (below_up hB1 hBd) hb1) (below_alloc _ _)) hb2⟩
  rw [Hby.out]
  exact own_down ho2 ((below_up (below_up (below_up hB1 hBd) hb1) (below_alloc _ _)).size)
end Go.Proofs.YtjenohodgpmchaaDoor
