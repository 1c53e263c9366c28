/-
  CbZ, CbEn: several texts in one (bundle.py).
-/
import Derived.Test.YtjenohodgpmchaaDoorCbK33
import Derived.Test.YtjenohodgpmchaaDoorCbK34
import Derived.Test.YtjenohodgpmchaaDoorCbK19
namespace Go.Proofs.YtjenohodgpmchaaDoor
open Go.RowKit Go.Maps Cb
set_option linter.unusedSimpArgs false
set_option linter.unusedVariables false
theorem wf_small {k : Int} (h0 : 0 ≤ k) (h1 : k ≤ 6) : (Lit.int .i64 k).wf = true := by
  have : k = 0 ∨ k = 1 ∨ k = 2 ∨ k = 3 ∨ k = 4 ∨ k = 5 ∨ k = 6 := by omega
  rcases this with h | h | h | h | h | h | h <;> subst h <;> decide
set_option maxHeartbeats 4000000 in
set_option maxRecDepth 100000 in
theorem written_of (F : FuncId) (hF : Enters Tryd.prog F) (k : Int) (hk0 : 0 ≤ k) (hk1 : k ≤ 6) (hent : (Value.int .i64 k, Value.func (.func F) #[] #[]) ∈ wEnts) (x : It) (k1 n1 : Int) (ba1 : Option Addr) (bn1 bc1 : Nat) (s1 : ByteArray) (la1 : Option Addr) (ln1 lc1 : Nat) (w : World) (hk : k1 = k)
    (hc : ∀ W, Below w.heap.size w W → Calls Tryd.prog F #[rwV ⟨k1, n1, .slice ba1 bn1 bc1, s1, .slice la1 ln1 lc1⟩] W (Byt x W)) : Calls Tryd.prog 37 #[rwV ⟨k1, n1, .slice ba1 bn1 bc1, s1, .slice la1 ln1 lc1⟩] w (Byt x w) := by
  subst hk
  have hB1 := below_alloc w (.cells (rwC ⟨k1, n1, .slice ba1 bn1 bc1, s1, .slice la1 ln1 lc1⟩).toArray 28)
  have e1 := rangeAt_new w (rwC ⟨k1, n1, .slice ba1 bn1 bc1, s1, .slice la1 ln1 lc1⟩) 28 (0, 0)
  have K : Keyed Tryd.prog 24 := int_keyed Tryd.underlying24
  go_enter Tryd.func37, Tryd.ntmps37
  go_wp2
  refine wp_region_pi [(1, false), (2, false), (4, false), (0, true), (3, false), (5, true), (6, false)] (by kernel_rfl) (by kernel_rfl) (by kernel_rfl) rfl (fun _ _ d _ _ h => by cases d <;> exact h) (fun Wd hBd => ?_)
  try simp only [Act.put, List.getElem_toArray, List.getElem_cons_zero, List.getElem_cons_succ, List.setIfInBounds_toArray, List.set_cons_zero, List.set_cons_succ]
  have hrd := rangeAt_up hBd e1
  have c1 : ∀ w', Below Wd.heap.size Wd w' → w'.cell? ⟨w.heap.size, 0 + 0, none⟩ = some (.int .i64 k1) := fun w' h => rangeAt_up h hrd 0 _ rfl
  simp only [Nat.add_zero] at c1
  refine pi_q (v := ?_) rfl (by rfl) ?_ ?_
  rotate_left
  · intro w' hBw'
    first | (go_simp; done) | (go_simp; with_reducible rfl)
  try simp only [Act.put, List.getElem_toArray, List.getElem_cons_zero, List.getElem_cons_succ, List.setIfInBounds_toArray, List.set_cons_zero, List.set_cons_succ]
  refine pi_q (v := ?_) rfl (by rfl) ?_ ?_
  rotate_left
  · intro w' hBw'
    first | (go_simp; done) | (go_simp; with_reducible rfl)
  try simp only [Act.put, List.getElem_toArray, List.getElem_cons_zero, List.getElem_cons_succ, List.setIfInBounds_toArray, List.set_cons_zero, List.set_cons_succ]
  refine pi_load rfl (by rfl) 28 (.tmp 1) rfl w.heap.size 0 rfl (rwC ⟨k1, n1, .slice ba1 bn1 bc1, s1, .slice la1 ln1 lc1⟩) _ hrd Tryd.underlying28 rfl (by kernel_rfl) ?_
  try simp only [Act.put, List.getElem_toArray, List.getElem_cons_zero, List.getElem_cons_succ, List.setIfInBounds_toArray, List.set_cons_zero, List.set_cons_succ]
  refine pi_call rfl (by rfl) ((writes_c Wd)) enters_writes (by rfl) (by kernel_rfl) ?_
  rintro en wN ⟨rfl, hm1, hb1⟩
  refine ⟨_, rfl, hb1, ?_⟩
  try simp only [Act.put, List.getElem_toArray, List.getElem_cons_zero, List.getElem_cons_succ, List.setIfInBounds_toArray, List.set_cons_zero, List.set_cons_succ]
  have hlk : ∀ w', Below wN.heap.size wN w' → (Instr.lookup 85 (.map (some Wd.heap.size)) (.int .i64 k1) false).run Tryd.prog w' = .ok (.func (.func F) #[] #[]) w' := fun w' h => MapAt.look_some (hm1.heap (h.block _ hm1.lt)) K Tryd.underlying85 (keyOf_int_mk (a := k1) Tryd.underlying24 (wf_small hk0 hk1)) hent false
  refine pi_q (v := ?_) rfl (by rfl) ?_ ?_
  rotate_left
  · intro w' hBw'
    first | (go_simp; done) | (go_simp; with_reducible rfl)
  try simp only [Act.put, List.getElem_toArray, List.getElem_cons_zero, List.getElem_cons_succ, List.setIfInBounds_toArray, List.set_cons_zero, List.set_cons_succ]
  refine pi_callV rfl (by rfl) (hc wN (below_up (below_up hB1 hBd) hb1)) hF rfl (by rfl) (by kernel_rfl) ?_
  rintro en wE ⟨v2, rfl, ho2, hb2⟩
  refine ⟨_, rfl, hb2, ?_⟩
  refine pi_q (v := ?_) rfl (by rfl) ?_ ?_
  rotate_left
  · intro w' hBw'
    first | (go_simp; done) | (go_simp; with_reducible rfl)
  try simp only [Act.put, List.getElem_toArray, List.getElem_cons_zero, List.getElem_cons_succ, List.setIfInBounds_toArray, List.set_cons_zero, List.set_cons_succ]
  refine pi_nil ?_
  go_wp2
  go_ret
  refine ⟨_, rfl, own_down ho2 (below_up (below_up hB1 hBd) hb1).size, below_up (below_up (below_up hB1 hBd) hb1) hb2⟩
theorem enters_w1 : Enters Tryd.prog 62 := enters_of Tryd.func62 (by kernel_rfl) rfl
theorem enters_w2 : Enters Tryd.prog 63 := enters_of Tryd.func63 (by kernel_rfl) rfl
theorem enters_w3 : Enters Tryd.prog 65 := enters_of Tryd.func65 (by kernel_rfl) rfl
theorem enters_w4 : Enters Tryd.prog 66 := enters_of Tryd.func66 (by kernel_rfl) rfl
theorem enters_w5 : Enters Tryd.prog 68 := enters_of Tryd.func68 (by kernel_rfl) rfl
theorem enters_w6 : Enters Tryd.prog 69 := enters_of Tryd.func69 (by kernel_rfl) rfl
set_option maxRecDepth 100000 in
theorem written_c (S : Nat → Prop) (x : It) : WrC S x := by
  induction x using It.ind with
  | h x ih =>
    intro r w hr hcx hri
    have hr0 := hr
    obtain ⟨k1, n1, ba1, bn1, bc1, s1, la1, ln1, lc1, rfl⟩ := hr.shape
    obtain ⟨rows, p⟩ := hr.parts
    rw [rightB_eq, Bool.and_eq_true] at hri
    have hown := hri.1
    simp only [ownB, Bool.and_eq_true, decide_eq_true_eq] at hown
    obtain ⟨⟨hk0, hk1⟩, _⟩ := hown
    have hk : k1 = x.k := p.k
    have hcs : x.k = 1 ∨ x.k = 2 ∨ x.k = 3 ∨ x.k = 4 ∨ x.k = 5 ∨ x.k = 6 := by omega
    rcases hcs with e | e | e | e | e | e
    · exact written_of 62 enters_w1 1 (by decide) (by decide) (by simp [wEnts]) x _ _ _ _ _ _ _ _ _ w (by rw [hk, e]) (fun W hb => write1_c S x _ W (hr0.up hb) hcx e)
    · exact written_of 63 enters_w2 2 (by decide) (by decide) (by simp [wEnts]) x _ _ _ _ _ _ _ _ _ w (by rw [hk, e]) (fun W hb => write2_c S x _ W (hr0.up hb) hcx e)
    · exact written_of 65 enters_w3 3 (by decide) (by decide) (by simp [wEnts]) x _ _ _ _ _ _ _ _ _ w (by rw [hk, e]) (fun W hb => write3_c S x _ W (hr0.up hb) hcx e)
    · exact written_of 66 enters_w4 4 (by decide) (by decide) (by simp [wEnts]) x _ _ _ _ _ _ _ _ _ w (by rw [hk, e]) (fun W hb => write4_c S x _ W (hr0.up hb) hcx e (fun y hy => ih y hy) hri.2)
    · exact written_of 68 enters_w5 5 (by decide) (by decide) (by simp [wEnts]) x _ _ _ _ _ _ _ _ _ w (by rw [hk, e]) (fun W hb => write5_c S x _ W (hr0.up hb) hcx e)
    · exact written_of 69 enters_w6 6 (by decide) (by decide) (by simp [wEnts]) x _ _ _ _ _ _ _ _ _ w (by rw [hk, e]) (fun W hb => write6_c S x _ W (hr0.up hb) hcx e)
end Go.Proofs.YtjenohodgpmchaaDoor

namespace Go.Proofs.YtjenohodgpmchaaDoor
open Go.RowKit Cb
set_option linter.unusedSimpArgs false
set_option linter.unusedVariables false
theorem enters_enc1 : Enters Tryd.prog 34 := enters_of Tryd.func34 (by kernel_rfl) rfl
theorem enters_caught : Enters Tryd.prog 29 := enters_of Tryd.func29 (by kernel_rfl) rfl
theorem enc1_c (o : Nat) (v : Value) (w : World) (hc : w.cell? ⟨o, 0, none⟩ = some v) (hz : w.frozen? ⟨o, 0, none⟩ = false) : Calls Tryd.prog 34 #[.pointer (some ⟨o, 0, none⟩)] w fun en w' => en = .returned (.tuple #[]) ∧ w' = w.setCell ⟨o, 0, none⟩ (.slice none 0 0) := by
  go_enter Tryd.func34, Tryd.ntmps34
  go_wp2
  go_end0
  exact ⟨rfl, rfl⟩
/-- What Encode tells. -/
def EncE (x : It) (w : World) (en : Ending) (w' : World) : Prop := Below w.heap.size w w' ∧ ∃ v, en = .returned (.tuple #[v, .int .i64 (chk x)]) ∧ (chk x = 0 → w'.ownsRow w.heap.size 5 1 v (bytesOf x).length (by8 (bytesOf x))) ∧ (chk x ≠ 0 → v = .slice none 0 0)
set_option maxRecDepth 100000 in
/-- The door, where something was given up. -/
theorem enc_door {R : Ending → World → Prop} (O E : Nat) (e : Int) (v : Value) (W : World) (hO : RowAt W O #[v] 22) (hE : RowAt W E #[.int .i64 0] 29) (hne : O ≠ E) (u0 u1 u4 u5 u6 u7 u8 u9 u10 u11 u12 u13 u14 u15 u16 u17 : Value)
    (hR : ∀ W', But (fun k => k = O ∨ k = E) W W' → R (.returned (.tuple #[.slice none 0 0, .int .i64 e])) W') :
    Leaves Tryd.prog Tryd.f15 #[u0, u1, .pointer (some ⟨O, 0, none⟩), .pointer (some ⟨E, 0, none⟩), u4, u5, u6, u7, u8, u9, u10, u11, u12, u13, u14, u15, u16, u17] R [{ target := .fn (.func 29) #[], args := #[.pointer (some ⟨E, 0, none⟩), .func (.func 34) #[] #[.pointer (some ⟨O, 0, none⟩)]] }] (.panicking (gup e)) W := by
  have c0 := hE.cell (i := 0) rfl
  have f0 := hE.fz 0
  have b1 : But (fun k => k = O ∨ k = E) W (W.setCell ⟨E, 0, none⟩ (.int .i64 e)) := But.setCell _ _ _ (.inl (.inr rfl))
  have hO1 : RowAt (W.setCell ⟨E, 0, none⟩ (.int .i64 e)) O #[v] 22 := ((But.setCell (O := fun k => k = E) W ⟨E, 0, none⟩ (.int .i64 e) (.inl rfl)).same _ hO.lt hne).trans hO
  have hE1 := hE.set 0 (.int .i64 e)
  have b2 : But (fun k => k = O ∨ k = E) (W.setCell ⟨E, 0, none⟩ (.int .i64 e)) ((W.setCell ⟨E, 0, none⟩ (.int .i64 e)).setCell ⟨O, 0, none⟩ (.slice none 0 0)) := But.setCell _ _ _ (.inl (.inl rfl))
  have hO2 := hO1.set 0 (.slice none 0 0)
  have hE2 : RowAt ((W.setCell ⟨E, 0, none⟩ (.int .i64 e)).setCell ⟨O, 0, none⟩ (.slice none 0 0)) E _ _ := ((But.setCell (O := fun k => k = O) (W.setCell ⟨E, 0, none⟩ (.int .i64 e)) ⟨O, 0, none⟩ (.slice none 0 0) (.inl rfl)).same _ hE1.lt (fun h => hne h.symm)).trans hE1
  have r1 := hO2.cell (i := 0) rfl
  have r2 := hE2.cell (i := 0) rfl
  have hfin := hR _ (b1.trans b2)
  refine leaves_cons (f := 29) (args := #[.pointer (some ⟨E, 0, none⟩), .func (.func 34) #[] #[.pointer (some ⟨O, 0, none⟩)]]) (by simp) (by have := enters_caught; unfold Enters at this; simp [go_sem, invoke, this]) ?_
  refine (caught_gup E e 0 34 #[.pointer (some ⟨O, 0, none⟩)] enters_enc1 W c0 f0 (enc1_c O v _ (hO1.cell (i := 0) rfl) (hO1.fz 0))).mono ?_
  rintro en u' w'' ⟨rfl, rfl, rfl⟩
  simpa [Leaves, settle, results, Tryd.results15, go_sem, r1, r2] using hfin
set_option maxHeartbeats 4000000 in
set_option maxRecDepth 100000 in
theorem encode_c (S : Nat → Prop) (x : It) (r : Rw) (w : World) (hr : ItR S w x r) (hcx : cnt x ≤ 1000000) (hkw : kwB x) (hT : Tabs w) (hSk : ∀ k, S k → k < w.heap.size) : Calls Tryd.prog 15 #[rwV r] w (EncE x w) := by
  obtain ⟨k1, n1, ba1, bn1, bc1, s1, la1, ln1, lc1, rfl⟩ := hr.shape
  have hmf : ∀ (fn : Fn) (first cap : Array Value) (w : World), (Instr.makeFunc fn first cap).run Tryd.prog w = .ok (.func fn first cap) w := fun _ _ _ _ => rfl
  have q0 := rangeAt_up ((below_alloc (w.alloc (.cells (rwC ⟨k1, n1, .slice ba1 bn1 bc1, s1, .slice la1 ln1 lc1⟩).toArray 28)) (.cells #[.slice none 0 0] 22)).alloc (by simp) (.cells #[.int .i64 0] 29)) (rangeAt_new w (rwC ⟨k1, n1, .slice ba1 bn1 bc1, s1, .slice la1 ln1 lc1⟩) 28 (0, 0))
  have XO := (RowAt.new (w.alloc (.cells (rwC ⟨k1, n1, .slice ba1 bn1 bc1, s1, .slice la1 ln1 lc1⟩).toArray 28)) #[.slice none 0 0] 22).below (below_alloc _ (.cells #[.int .i64 0] 29))
  have XE := RowAt.new ((w.alloc (.cells (rwC ⟨k1, n1, .slice ba1 bn1 bc1, s1, .slice la1 ln1 lc1⟩).toArray 28)).alloc (.cells #[.slice none 0 0] 22)) #[.int .i64 0] 29
  have hB0 : Below w.heap.size w (((w.alloc (.cells (rwC ⟨k1, n1, .slice ba1 bn1 bc1, s1, .slice la1 ln1 lc1⟩).toArray 28)).alloc (.cells #[.slice none 0 0] 22)).alloc (.cells #[.int .i64 0] 29)) := ((below_alloc w _).alloc (by simp) _).alloc (by simp; omega) _
  have hz0 : (((w.alloc (.cells (rwC ⟨k1, n1, .slice ba1 bn1 bc1, s1, .slice la1 ln1 lc1⟩).toArray 28)).alloc (.cells #[.slice none 0 0] 22)).alloc (.cells #[.int .i64 0] 29)).heap.size = w.heap.size + 3 := by simp
  simp only [World.size_alloc] at XO XE
  obtain ⟨W0, hW0⟩ : ∃ W0, ((w.alloc (.cells (rwC ⟨k1, n1, .slice ba1 bn1 bc1, s1, .slice la1 ln1 lc1⟩).toArray 28)).alloc (.cells #[.slice none 0 0] 22)).alloc (.cells #[.int .i64 0] 29) = W0 := ⟨_, rfl⟩
  rw [hW0] at q0 XO XE hB0 hz0
  have hri := right_c S x _ W0 (hr.up hB0) hcx hkw (hT.up hB0) (fun k hk => by have := hSk k hk; have := hB0.size; omega)
  have hde := fun w' (hb : Below W0.heap.size W0 w') => depth_c S x _ w' ((hr.up hB0).up hb) hcx
  have hwr := fun (h : rightB x = true) w' (hb : Below W0.heap.size W0 w') => written_c S x _ w' ((hr.up hB0).up hb) hcx h
  have hdc := depth_cnt x
  have hbl := bytes_le x
  have HX := Lib.hid hr
  clear hr hkw hT hSk
  have e0 := q0 0 _ rfl
  have e1 := q0 1 _ rfl
  have e2 := q0 2 _ rfl
  have e3 := q0 3 _ rfl
  have e4 := q0 4 _ rfl
  simp only [Nat.zero_add] at e0 e1 e2 e3 e4
  by_cases hR : rightB x = false
  · have HC := Lib.hid (show chk x = 2 by unfold chk; rw [if_pos hR])
    rw [hR] at hri
    go_enter_defers Tryd.func15, Tryd.ntmps15
    go_wp2_with (first
      | (go_at_call 35; refine hri.mono ?_; rintro en w1 ⟨hb1, rfl⟩; have q1 := rangeAt_up hb1 q0; have a0 := q1 0 _ rfl; have a1 := q1 1 _ rfl; have a2 := q1 2 _ rfl; have a3 := q1 3 _ rfl; have a4 := q1 4 _ rfl; simp only [Nat.zero_add] at a0 a1 a2 a3 a4))
    refine enc_door _ _ 2 _ w1 (XO.below hb1) (XE.below hb1) (by omega) _ _ _ _ _ _ _ _ _ _ _ _ _ _ _ _ (fun W' hb => ⟨?_, .slice none 0 0, by rw [HC.out], (fun h => by rw [HC.out] at h; cases h), fun _ => rfl⟩)
    exact (below_up hB0 hb1).trans (hb.below (fun k e => by omega) (below_up hB0 hb1).size)
  · have hR' : rightB x = true := by simpa using hR
    rw [hR'] at hri
    have hwr := hwr hR'
    by_cases hd : 8 < depth x
    · have HC := Lib.hid (show chk x = 120 by unfold chk; rw [if_neg hR, if_pos hd])
      have hd1 : decide ((depth x : Int) ≤ 8) = false := decide_eq_false (by omega)
      generalize depth x = D at hd1 hde hdc
      clear hR hR' hd
      go_enter_defers Tryd.func15, Tryd.ntmps15
      go_wp2_with (first
      | (go_at_call 35; refine hri.mono ?_; rintro en w1 ⟨hb1, rfl⟩; have q1 := rangeAt_up hb1 q0; have a0 := q1 0 _ rfl; have a1 := q1 1 _ rfl; have a2 := q1 2 _ rfl; have a3 := q1 3 _ rfl; have a4 := q1 4 _ rfl; simp only [Nat.zero_add] at a0 a1 a2 a3 a4)
      | (go_at_call 36; refine (hde w1 hb1).mono ?_; rintro en w2 ⟨rfl, hb2⟩; have q2 := rangeAt_up hb2 q1; have b0 := q2 0 _ rfl; have b1 := q2 1 _ rfl; have b2 := q2 2 _ rfl; have b3 := q2 3 _ rfl; have b4 := q2 4 _ rfl; simp only [Nat.zero_add] at b0 b1 b2 b3 b4)
      | (go_at_call 31; with_reducible refine (must_no _ _).mono ?_; rintro en w6 ⟨rfl, rfl⟩))
      refine enc_door _ _ 120 _ w2 (XO.below (below_up hb1 hb2)) (XE.below (below_up hb1 hb2)) (by omega) _ _ _ _ _ _ _ _ _ _ _ _ _ _ _ _ (fun W' hb => ⟨?_, .slice none 0 0, by rw [HC.out], (fun h => by rw [HC.out] at h; cases h), fun _ => rfl⟩)
      have hbw := below_up hB0 (below_up hb1 hb2)
      exact hbw.trans (hb.below (fun k e => by omega) hbw.size)
    · have hd1 : decide ((depth x : Int) ≤ 8) = true := decide_eq_true (by omega)
      by_cases hL : 65536 < (bytesOf x).length
      · have HC := Lib.hid (show chk x = 3 by unfold chk; rw [if_neg hR, if_neg hd, if_pos hL])
        have hl1 : decide (((bytesOf x).length : Int) ≤ 65536) = false := decide_eq_false (by omega)
        obtain ⟨bs, hbs⟩ : ∃ bs, bytesOf x = bs := ⟨_, rfl⟩
        rw [hbs] at hwr hl1 hbl hL
        obtain ⟨L, hLL⟩ : ∃ L, bs.length = L := ⟨_, rfl⟩
        rw [hLL] at hwr hl1 hbl
        generalize depth x = D at hd1 hde hdc
        have HBS := Lib.hid (And.intro hbs hLL)
        clear hR hR' hd hL hLL hbs
        go_enter_defers Tryd.func15, Tryd.ntmps15
        go_wp2_with (first
      | (go_at_call 35; refine hri.mono ?_; rintro en w1 ⟨hb1, rfl⟩; have q1 := rangeAt_up hb1 q0; have a0 := q1 0 _ rfl; have a1 := q1 1 _ rfl; have a2 := q1 2 _ rfl; have a3 := q1 3 _ rfl; have a4 := q1 4 _ rfl; simp only [Nat.zero_add] at a0 a1 a2 a3 a4)
      | (go_at_call 36; refine (hde w1 hb1).mono ?_; rintro en w2 ⟨rfl, hb2⟩; have q2 := rangeAt_up hb2 q1; have b0 := q2 0 _ rfl; have b1 := q2 1 _ rfl; have b2 := q2 2 _ rfl; have b3 := q2 3 _ rfl; have b4 := q2 4 _ rfl; simp only [Nat.zero_add] at b0 b1 b2 b3 b4)
      | (go_at_call 37; refine (hwr w2 (below_up hb1 hb2)).mono ?_; rintro en w3 ⟨v3, rfl, ho3, hb3⟩; obtain ⟨p3, c3, rfl⟩ := own_slice ho3; have z2 := XO.below (below_up (below_up hb1 hb2) hb3); have z3 := XE.below (below_up (below_up hb1 hb2) hb3); have y2 := z2.cell (i := 0) rfl; have y3 := z3.cell (i := 0) rfl; have f2 := z2.fz 0; have f3 := z3.fz 0; have m2 := (z2.set 0 (.slice p3 L c3)).cell (i := 0) rfl)
      | (go_at_call 31; with_reducible refine (must_yes _ _).mono ?_; rintro en w6 ⟨rfl, rfl⟩)
      | (go_at_call 31; with_reducible refine (must_no _ _).mono ?_; rintro en w6 ⟨rfl, rfl⟩))
        have hE4 : RowAt (w3.setCell ⟨w.heap.size + 1, 0, none⟩ (.slice p3 L c3)) (w.heap.size + 1 + 1) _ _ := ((But.setCell (O := fun k => k = w.heap.size + 1) w3 ⟨w.heap.size + 1, 0, none⟩ (.slice p3 L c3) (.inl rfl)).same _ z3.lt (by omega)).trans z3
        refine enc_door _ _ 3 _ _ (z2.set 0 (.slice p3 L c3)) hE4 (by omega) _ _ _ _ _ _ _ _ _ _ _ _ _ _ _ _ (fun W' hb => ⟨?_, .slice none 0 0, by rw [HC.out], (fun h => by rw [HC.out] at h; cases h), fun _ => rfl⟩)
        have hbw := (below_up hB0 (below_up (below_up hb1 hb2) hb3)).setCell (p := ⟨w.heap.size + 1, 0, none⟩) (by simp) (.slice p3 L c3)
        exact hbw.trans (hb.below (fun k e => by omega) hbw.size)
      · have HC := Lib.hid (show chk x = 0 by unfold chk; rw [if_neg hR, if_neg hd, if_neg hL])
        have hl1 : decide (((bytesOf x).length : Int) ≤ 65536) = true := decide_eq_true (by omega)
        obtain ⟨bs, hbs⟩ : ∃ bs, bytesOf x = bs := ⟨_, rfl⟩
        rw [hbs] at hwr hl1 hbl hL
        obtain ⟨L, hLL⟩ : ∃ L, bs.length = L := ⟨_, rfl⟩
        rw [hLL] at hwr hl1 hbl
        generalize depth x = D at hd1 hde hdc
        have HBS := Lib.hid (And.intro hbs hLL)
        clear hR hR' hd hL hLL hbs
        go_enter_defers Tryd.func15, Tryd.ntmps15
        go_wp2_with (first
      | (go_at_call 35; refine hri.mono ?_; rintro en w1 ⟨hb1, rfl⟩; have q1 := rangeAt_up hb1 q0; have a0 := q1 0 _ rfl; have a1 := q1 1 _ rfl; have a2 := q1 2 _ rfl; have a3 := q1 3 _ rfl; have a4 := q1 4 _ rfl; simp only [Nat.zero_add] at a0 a1 a2 a3 a4)
      | (go_at_call 36; refine (hde w1 hb1).mono ?_; rintro en w2 ⟨rfl, hb2⟩; have q2 := rangeAt_up hb2 q1; have b0 := q2 0 _ rfl; have b1 := q2 1 _ rfl; have b2 := q2 2 _ rfl; have b3 := q2 3 _ rfl; have b4 := q2 4 _ rfl; simp only [Nat.zero_add] at b0 b1 b2 b3 b4)
      | (go_at_call 37; refine (hwr w2 (below_up hb1 hb2)).mono ?_; rintro en w3 ⟨v3, rfl, ho3, hb3⟩; obtain ⟨p3, c3, rfl⟩ := own_slice ho3; have z2 := XO.below (below_up (below_up hb1 hb2) hb3); have z3 := XE.below (below_up (below_up hb1 hb2) hb3); have y2 := z2.cell (i := 0) rfl; have y3 := z3.cell (i := 0) rfl; have f2 := z2.fz 0; have f3 := z3.fz 0; have m2 := (z2.set 0 (.slice p3 L c3)).cell (i := 0) rfl)
      | (go_at_call 31; with_reducible refine (must_yes _ _).mono ?_; rintro en w6 ⟨rfl, rfl⟩))
        refine leaves_cons (f := 29) (args := #[.pointer (some ⟨w.heap.size + 1 + 1, 0, none⟩), .func (.func 34) #[] #[.pointer (some ⟨w.heap.size + 1, 0, none⟩)]]) (by simp) (by have := enters_caught; unfold Enters at this; simp [go_sem, invoke, this]) ?_
        refine (caught_idle ⟨w.heap.size + 1 + 1, 0, none⟩ 34 #[.pointer (some ⟨w.heap.size + 1, 0, none⟩)] _).mono ?_
        rintro en u' w'' ⟨rfl, rfl, rfl⟩
        have hbw := below_up hB0 (below_up (below_up hb1 hb2) hb3)
        have s1' : But (fun k => k = w.heap.size + 1 ∨ k = w.heap.size + 1 + 1) w3 (w3.setCell ⟨w.heap.size + 1, 0, none⟩ (.slice p3 L c3)) := But.setCell _ _ _ (.inl (.inl rfl))
        have s2' : But (fun k => k = w.heap.size + 1 ∨ k = w.heap.size + 1 + 1) _ ((w3.setCell ⟨w.heap.size + 1, 0, none⟩ (.slice p3 L c3)).setCell ⟨w.heap.size + 1, 0, none⟩ (.slice p3 L c3)) := But.setCell _ _ _ (.inl (.inl rfl))
        have s3' : But (fun k => k = w.heap.size + 1 ∨ k = w.heap.size + 1 + 1) _ (((w3.setCell ⟨w.heap.size + 1, 0, none⟩ (.slice p3 L c3)).setCell ⟨w.heap.size + 1, 0, none⟩ (.slice p3 L c3)).setCell ⟨w.heap.size + 1 + 1, 0, none⟩ (.int .i64 0)) := But.setCell _ _ _ (.inl (.inr rfl))
        have hO2 := (z2.set 0 (.slice p3 L c3)).set 0 (.slice p3 L c3)
        have hO3 : RowAt (((w3.setCell ⟨w.heap.size + 1, 0, none⟩ (.slice p3 L c3)).setCell ⟨w.heap.size + 1, 0, none⟩ (.slice p3 L c3)).setCell ⟨w.heap.size + 1 + 1, 0, none⟩ (.int .i64 0)) (w.heap.size + 1) _ _ := ((But.setCell (O := fun k => k = w.heap.size + 1 + 1) _ ⟨w.heap.size + 1 + 1, 0, none⟩ (.int .i64 0) (.inl rfl)).same _ hO2.lt (by omega)).trans hO2
        have hE2 : RowAt ((w3.setCell ⟨w.heap.size + 1, 0, none⟩ (.slice p3 L c3)).setCell ⟨w.heap.size + 1, 0, none⟩ (.slice p3 L c3)) (w.heap.size + 1 + 1) _ _ := (((But.setCell (O := fun k => k = w.heap.size + 1) w3 ⟨w.heap.size + 1, 0, none⟩ (.slice p3 L c3) (.inl rfl)).trans (But.setCell (O := fun k => k = w.heap.size + 1) _ ⟨w.heap.size + 1, 0, none⟩ (.slice p3 L c3) (.inl rfl))).same _ z3.lt (by omega)).trans z3
        have hE3 := hE2.set 0 (.int .i64 0)
        have r1 := hO3.cell (i := 0) rfl
        have r2 := hE3.cell (i := 0) rfl
        have ho5 := own_but ho3 ((s1'.trans s2').trans s3') (fun k hk h => by have := (own_of_some ho3 hk).1; have := hb1.size; have := hb2.size; omega)
        have hfin : EncE x w (.returned (.tuple #[.slice p3 L c3, .int .i64 0])) (((w3.setCell ⟨w.heap.size + 1, 0, none⟩ (.slice p3 L c3)).setCell ⟨w.heap.size + 1, 0, none⟩ (.slice p3 L c3)).setCell ⟨w.heap.size + 1 + 1, 0, none⟩ (.int .i64 0)) := by
          refine ⟨hbw.trans (((s1'.trans s2').trans s3').below (fun k e => by omega) hbw.size), .slice p3 L c3, by rw [HC.out], fun _ => ?_, fun h => absurd HC.out h⟩
          rw [HBS.out.1, HBS.out.2]
          exact own_down ho5 (by have := hb1.size; have := hb2.size; omega)
        simpa [Leaves, settle, results, Tryd.results15, go_sem, r1, r2] using hfin
end Go.Proofs.YtjenohodgpmchaaDoor
