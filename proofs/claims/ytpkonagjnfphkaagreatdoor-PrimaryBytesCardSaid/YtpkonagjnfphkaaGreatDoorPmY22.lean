/-
  CbT, CbBa, NmOk: several texts in one (bundle.py).
-/
import Derived.Test.YtpkonagjnfphkaaGreatDoorPmY10
import Derived.Test.YtpkonagjnfphkaaGreatDoorPmY07
import Derived.Test.YtpkonagjnfphkaaGreatDoorPmY08
import Derived.Test.YtpkonagjnfphkaaGreatDoorPmY21
set_option linter.unusedSimpArgs false
set_option linter.unusedVariables false
set_option maxRecDepth 100000
set_option maxHeartbeats 4000000
namespace Go.Proofs.YtpkonagjnfphkaaGreatDoor
open Go.RowKit Cb
theorem ItR.shape2 {S : Nat → Prop} {w : World} {x : It} {r : Rw} (h : ItR S w x r) : ∃ k n ba bc s la lc, r = ⟨k, n, .slice ba x.b.length bc, s, .slice la x.l.length lc⟩ := by
  obtain ⟨rows, p⟩ := h.parts; obtain ⟨a, c, hb⟩ := p.b.cell; obtain ⟨a2, c2, hl⟩ := p.l.cell; obtain ⟨k, n, b, s, l⟩ := r; subst hb; subst hl; exact ⟨_, _, _, _, _, _, _, rfl⟩
theorem enters_sameR : Enters Tryz.prog 111 := enters_of Tryz.func111 (by kernel_rfl) rfl
abbrev SameRC (S : Nat → Prop) (x : It) : Prop := ∀ (y : It) (r t : Rw) (w : World), ItR S w x r → ItR S w y t → cnt x ≤ 1000000 → cnt y ≤ 1000000 → Calls Tryz.prog 111 #[rwV r, rwV t] w (Ret (.bool (sameB x y)) w)
theorem sameR_c (S : Nat → Prop) (x : It) : SameRC S x := by
  induction x using It.ind with
  | h x ih =>
    intro y r t w hr ht hcx hcy; obtain ⟨k1, n1, ba1, bc1, s1, la1, lc1, rfl⟩ := hr.shape2; obtain ⟨k2, n2, ba2, bc2, s2, la2, lc2, rfl⟩ := ht.shape2; obtain ⟨rows, p⟩ := hr.parts; obtain ⟨rows2, q⟩ := ht.parts; have hB2 : Below w.heap.size w ((w.alloc (.cells (rwC ⟨k1, n1, .slice ba1 x.b.length bc1, s1, .slice la1 x.l.length lc1⟩).toArray 62)).alloc (.cells (rwC ⟨k2, n2, .slice ba2 y.b.length bc2, s2, .slice la2 y.l.length lc2⟩).toArray 62)) := (below_alloc w _).alloc (by simp) _; have e1 := rangeAt_up (below_alloc (w.alloc (.cells (rwC ⟨k1, n1, .slice ba1 x.b.length bc1, s1, .slice la1 x.l.length lc1⟩).toArray 62)) (.cells (rwC ⟨k2, n2, .slice ba2 y.b.length bc2, s2, .slice la2 y.l.length lc2⟩).toArray 62)) (rangeAt_new w (rwC ⟨k1, n1, .slice ba1 x.b.length bc1, s1, .slice la1 x.l.length lc1⟩) 62 _)
    have e2 := rangeAt_new (w.alloc (.cells (rwC ⟨k1, n1, .slice ba1 x.b.length bc1, s1, .slice la1 x.l.length lc1⟩).toArray 62)) (rwC ⟨k2, n2, .slice ba2 y.b.length bc2, s2, .slice la2 y.l.length lc2⟩) 62 (0, 0); simp only [World.alloc, Array.size_push] at e2; have hv1 := run_str (P := Tryz.prog) (w := ((w.alloc (.cells (rwC ⟨k1, n1, .slice ba1 x.b.length bc1, s1, .slice la1 x.l.length lc1⟩).toArray 62)).alloc (.cells (rwC ⟨k2, n2, .slice ba2 y.b.length bc2, s2, .slice la2 y.l.length lc2⟩).toArray 62))) (src := 48) (dst := 9) Tryz.underlying48 Tryz.underlying5 Tryz.underlying9 (p.b.up hB2).1; have hv2 := run_str (P := Tryz.prog) (w := ((w.alloc (.cells (rwC ⟨k1, n1, .slice ba1 x.b.length bc1, s1, .slice la1 x.l.length lc1⟩).toArray 62)).alloc (.cells (rwC ⟨k2, n2, .slice ba2 y.b.length bc2, s2, .slice la2 y.l.length lc2⟩).toArray 62))) (src := 48) (dst := 9) Tryz.underlying48 Tryz.underlying5 Tryz.underlying9 (q.b.up hB2).1
    have hk1 := p.k; have hk2 := q.k; have hn1 := p.n; have hn2 := q.n; have hs1 := p.s; have hs2 := q.s; simp only at hk1 hk2 hn1 hn2 hs1 hs2 hv1 hv2; obtain ⟨R, hR⟩ : ∃ R, R = sameB x y := ⟨_, rfl⟩; rw [← hR]; have hxy := sameB_iff x y; rw [← hR] at hxy
    have hdx : R = true ↔ (k1 = k2 ∧ n1 = n2 ∧ x.b = y.b ∧ s1 = s2 ∧ x.l = y.l) := by
      rw [hxy, hk1, hk2, hn1, hn2, hs1, hs2]; cases x; cases y; simp only [It.mk.injEq, It.k, It.n, It.b, It.s, It.l]
    clear hxy hR
    have hbb : (ByteArray.mk x.b.toArray).toList = (ByteArray.mk y.b.toArray).toList ↔ x.b = y.b := by
      rw [ByteArray.toList_eq, ByteArray.toList_eq]
    have hss : s1.toList = s2.toList ↔ s1 = s2 := by
      rw [ByteArray.toList_eq, ByteArray.toList_eq]; exact ⟨fun h => ByteArray.ext (Array.toList_inj.1 h), fun h => by rw [h]⟩
    have hrl1 := p.each.len; have hrl2 := q.each.len; have hll1 := p.l.1.n_max; have hll2 := q.l.1.n_max; have hu := p.l; have hv := q.l; have hea := p.each; have heb := q.each; simp only at hu hv
    have hcx' : ∀ z ∈ x.l, cnt z ≤ 1000000 := fun z hz => by have := cnt_mem hz; omega
    have hcy' : ∀ z ∈ y.l, cnt z ≤ 1000000 := fun z hz => by have := cnt_mem hz; omega
    clear p q hr ht hk1 hk2 hn1 hn2 hs1 hs2 hcx hcy; generalize (ByteArray.mk x.b.toArray) = u1 at *; generalize (ByteArray.mk y.b.toArray) = u2 at *; generalize hm1 : x.l.length = m1 at *; generalize hm2 : y.l.length = m2 at *; have Hdx := Lib.hid hdx; have Hbb := Lib.hid hbb; have Hss := Lib.hid hss; clear hdx hbb hss; by_cases hne : k1 = k2
    · subst hne
      by_cases hne : n1 = n2
      · subst hne
        by_cases hne : u1.toList = u2.toList
        · have hxb := Lib.hid (Hbb.out.1 hne)
          by_cases hne : s1.toList = s2.toList
          · have hst := Hss.out.1 hne
            clear Hss; subst hst; by_cases hne : m1 = m2
            · subst hne
              have Hall := Lib.hid (fun h : x.l = y.l => Hdx.out.2 ⟨rfl, rfl, hxb.out, rfl, h⟩); go_enter Tryz.func111, Tryz.ntmps111; go_wp2
              go_loopw [5] (fun i wr => ∃ j : Nat, j ≤ m1 ∧ i = .int .i64 j ∧ RowKit.Hid (x.l.take j = y.l.take j) ∧ Below ((w.alloc (.cells (rwC ⟨k1, n1, .slice ba1 x.b.length bc1, s1, .slice la1 m1 lc1⟩).toArray 62)).alloc (.cells (rwC ⟨k1, n1, .slice ba2 y.b.length bc2, s1, .slice la2 m1 lc2⟩).toArray 62)).heap.size ((w.alloc (.cells (rwC ⟨k1, n1, .slice ba1 x.b.length bc1, s1, .slice la1 m1 lc1⟩).toArray 62)).alloc (.cells (rwC ⟨k1, n1, .slice ba2 y.b.length bc2, s1, .slice la2 m1 lc2⟩).toArray 62)) wr) (fun i _ => m1 - (intOf i).toNat)
              case atStart => exact ⟨0, Nat.zero_le _, rfl, Lib.hid rfl, Below.refl _ _⟩
              case round =>
                obtain ⟨j, hj, rfl, Hsame, hB⟩ := hrel; have HB := Lib.hid (below_up hB2 hB); have hc1 : wr.cell? ⟨w.heap.size, 0 + 4, none⟩ = some (.slice la1 m1 lc1) := rangeAt_up hB e1 4 _ rfl; have hc2 : wr.cell? ⟨w.heap.size + 1, 0 + 4, none⟩ = some (.slice la2 m1 lc2) := rangeAt_up hB e2 4 _ rfl; by_cases hlt : j < m1
                · have hl' : j < x.l.length := by omega
                  have hm' : j < y.l.length := by omega
                  have hr' : j < rows.length := by omega
                  have hq' : j < rows2.length := by omega
                  obtain ⟨b, off, rfl, hr⟩ := (hu.1.up HB.out).rec_at (cells := rwC) (sz := 5) (fun _ => rfl) hlt hr'; obtain ⟨b2, off2, rfl, hr2⟩ := (hv.1.up HB.out).rec_at (cells := rwC) (sz := 5) (fun _ => rfl) hlt hq'; have hs1 : x.l.take (j + 1) = x.l.take j ++ [x.l[j]] := List.take_succ_eq_append_getElem hl'; have hs2 : y.l.take (j + 1) = y.l.take j ++ [y.l[j]] := List.take_succ_eq_append_getElem hm'; have Hs := Lib.hid (fun h : x.l[j] = y.l[j] => show x.l.take (j + 1) = y.l.take (j + 1) by rw [hs1, hs2, h, Hsame.out])
                  have Hno := Lib.hid (fun h : ¬ x.l[j] = y.l[j] => show R = false by
                    rw [Bool.eq_false_iff]; intro e; have := (Hdx.out.1 e).2.2.2.2
                    exact h (by simp only [this]))
                  have hcl := fun (w' : World) (hb : Below w.heap.size w w') => ih x.l[j] (List.getElem_mem hl') y.l[j] rows[j] rows2[j] w' ((hea.get hl' hr').up hb) ((heb.get hm' hq').up hb) (hcx' _ (List.getElem_mem hl')) (hcy' _ (List.getElem_mem hm'))
                  have hxe := sameB_iff x.l[j] y.l[j]; have hsx := (hea.get hl' hr').shape; have hsy := (heb.get hm' hq').shape; clear hs1 hs2; generalize sameB x.l[j] y.l[j] = z at hcl hxe; generalize rows[j] = rx at *; generalize rows2[j] = ry at *; obtain ⟨ka, na, baa, bna, bca, sa, laa, lna, lca, rfl⟩ := hsx; obtain ⟨kb, nb, bab, bnb, bcb, sb, lab, lnb, lcb, rfl⟩ := hsy; generalize x.l[j] = xx at *; generalize y.l[j] = yy at *; go_wp2; refine wp_region_pi [(0, false), (1, false), (2, false), (3, false), (4, false), (5, false), (6, false), (7, false), (8, false), (9, false), (10, true), (11, false)] (by kernel_rfl) (by kernel_rfl) (by kernel_rfl) rfl (fun _ _ d _ _ h => by cases d <;> exact h) (fun Wd hBd => ?_)
                  try simp only [zq]
                  have c1 : ∀ w', Below Wd.heap.size Wd w' → w'.cell? ⟨w.heap.size, 0 + 4, none⟩ = some (.slice (some ⟨b, off, none⟩) m1 lc1) := fun w' h => cell_up h (cell_up hBd hc1)
                  have c2 : ∀ w', Below Wd.heap.size Wd w' → w'.cell? ⟨w.heap.size + 1, 0 + 4, none⟩ = some (.slice (some ⟨b2, off2, none⟩) m1 lc2) := fun w' h => cell_up h (cell_up hBd hc2)
                  have hrd := rangeAt_up hBd hr; have hrd2 := rangeAt_up hBd hr2; refine zi rfl (by rfl) ?_; refine zi rfl (by rfl) ?_; refine zi rfl (by rfl) ?_; refine zi rfl (by rfl) ?_; refine pi_load rfl (by rfl) 62 (.tmp 53) rfl b (off + j * 5) rfl (rwC ⟨ka, na, .slice baa bna bca, sa, .slice laa lna lca⟩) _ hrd Tryz.underlying62 rfl (by kernel_rfl) ?_
                  try simp only [zq]
                  refine zi rfl (by rfl) ?_; refine zi rfl (by rfl) ?_; refine zi rfl (by rfl) ?_; refine zi rfl (by rfl) ?_; refine pi_load rfl (by rfl) 62 (.tmp 58) rfl b2 (off2 + j * 5) rfl (rwC ⟨kb, nb, .slice bab bnb bcb, sb, .slice lab lnb lcb⟩) _ hrd2 Tryz.underlying62 rfl (by kernel_rfl) ?_
                  try simp only [zq]
                  refine pi_call rfl (by rfl) (hcl Wd (below_up HB.out hBd)) enters_sameR (by rfl) (by kernel_rfl) ?_; rintro en wN ⟨rfl, hb⟩; refine ⟨_, rfl, hb, ?_⟩
                  try simp only [zq]
                  refine zi rfl (by rfl) ?_; refine pi_nil ?_; cases z
                  · have HRf := Lib.hid (Hno.out (fun h => by simpa using hxe.2 h))
                    clear hxe Hs Hno; go_wp2; go_ret; exact ⟨retB HRf.out.symm, below_up (below_up HB.out hBd) hb⟩
                  · have Hst := Lib.hid (Hs.out (hxe.1 rfl))
                    clear hxe Hs Hno; go_wp2
                    go_roundw
                    case rel => exact ⟨j + 1, by omega, by go_num, Hst, below_up (below_up hB hBd) hb⟩
                    case measure => simp [intOf]; omega
                · obtain rfl : j = m1 := by omega
                  have HRt : R = true := by
                    have := Hsame.out; rw [List.take_of_length_le (by omega), List.take_of_length_le (by omega)] at this; exact Hall.out this
                  go_wp2; go_ret; exact ⟨retB HRt.symm, HB.out⟩
            · have hnm : ¬ ((m1 : Int) = (m2 : Int)) := by omega
              have HR := Lib.hid (show R = false by rw [Bool.eq_false_iff]; intro e; exact hne (by rw [← hm1, ← hm2, (Hdx.out.1 e).2.2.2.2])); go_enter Tryz.func111, Tryz.ntmps111; go_wp2; go_ret; exact ⟨retB HR.out.symm, hB2⟩
          · have HR := Lib.hid (show R = false by rw [Bool.eq_false_iff]; intro e; exact hne (Hss.out.2 (Hdx.out.1 e).2.2.2.1))
            go_enter Tryz.func111, Tryz.ntmps111; go_wp2; go_ret; exact ⟨retB HR.out.symm, hB2⟩
        · have HR := Lib.hid (show R = false by rw [Bool.eq_false_iff]; intro e; exact hne (Hbb.out.2 (Hdx.out.1 e).2.2.1))
          go_enter Tryz.func111, Tryz.ntmps111; go_wp2; go_ret; exact ⟨retB HR.out.symm, hB2⟩
      · have HR := Lib.hid (show R = false by rw [Bool.eq_false_iff]; intro e; exact hne ((Hdx.out.1 e).2.1))
        go_enter Tryz.func111, Tryz.ntmps111; go_wp2; go_ret; exact ⟨retB HR.out.symm, hB2⟩
    · have HR := Lib.hid (show R = false by rw [Bool.eq_false_iff]; intro e; exact hne ((Hdx.out.1 e).1))
      go_enter Tryz.func111, Tryz.ntmps111; go_wp2; go_ret; exact ⟨retB HR.out.symm, hB2⟩
namespace Cb
def bareQ (k n : Int) (bn : Nat) (s : ByteArray) (ln : Nat) : Bool := (k == 1 || k == 5 || n == 0) && ((k == 2 || bn == 0) && ((k == 3 || s.size == 0) && (k == 4 || ln == 0)))
end Cb
theorem bareR_c (S : Nat → Prop) (x : It) (r : Rw) (w : World) (hr : ItR S w x r) (hcx : cnt x ≤ 1000000) : Calls Tryz.prog 109 #[rwV r] w (Ret (.bool (bareB x)) w) := by
  obtain ⟨rows, p⟩ := hr.parts; obtain ⟨k1, n1, ba1, bc1, s1, la1, lc1, rfl⟩ := hr.shape2
  have hB : bareB x = bareQ k1 n1 x.b.length s1 x.l.length := by
    have h1 := p.k; have h2 := p.n; have h3 := p.s; simp only at h1 h2 h3; unfold bareB bareQ; rw [h1, h2, h3]
  have HB := Lib.hid hB; have hB1 := below_alloc w (.cells (rwC ⟨k1, n1, .slice ba1 x.b.length bc1, s1, .slice la1 x.l.length lc1⟩).toArray 62); have e1 := rangeAt_new w (rwC ⟨k1, n1, .slice ba1 x.b.length bc1, s1, .slice la1 x.l.length lc1⟩) 62 (0, 0)
  have hlb : x.b.length ≤ 1000000 := by cases x; simp only [cnt, It.b] at *; omega
  have hll : x.l.length ≤ 1000000 := by have := cntL_len x.l; cases x; simp only [cnt, It.l] at *; omega
  clear hB p hr hcx; generalize x.b.length = bn1 at *; generalize x.l.length = ln1 at *; have a0 := e1 0 _ rfl; have a1 := e1 1 _ rfl; have a2 := e1 2 _ rfl; have a3 := e1 3 _ rfl; have a4 := e1 4 _ rfl; simp only [Nat.zero_add] at a0 a1 a2 a3 a4; clear e1; by_cases hk1 : k1 = 1
  · subst hk1
    rcases (show bn1 = 0 ∨ ¬ bn1 = 0 by omega) with rfl | hb0
    · rcases (Classical.em (s1 = (⟨#[]⟩ : ByteArray))) with rfl | hs0
      · rcases (show ln1 = 0 ∨ ¬ ln1 = 0 by omega) with rfl | hl0
        · go_enter Tryz.func109, Tryz.ntmps109
          go_wp2; go_ret; exact ⟨by rw [HB.out]; first | (simp [bareQ, *]; done) | (simp [bareQ, *]; rfl), hB1⟩
        · have hl1 : ((ln1 : Int) == 0) = false := by rw [beq_eq_false_iff_ne]; omega
          go_enter Tryz.func109, Tryz.ntmps109; go_wp2; go_ret; exact ⟨by rw [HB.out]; first | (simp [bareQ, *]; done) | (simp [bareQ, *]; rfl), hB1⟩
      · have hs1 : s1.toList.isEmpty = false := by rw [← decide_eq_emptyBytes]; exact decide_eq_false hs0
        have hs2 : (s1.size == 0) = false := by rw [beq_eq_false_iff_ne]; exact fun e => hs0 (by cases s1 with | mk d => simp only [ByteArray.size] at e; rw [Array.eq_empty_of_size_eq_zero e])
        go_enter Tryz.func109, Tryz.ntmps109; go_wp2; go_ret; exact ⟨by rw [HB.out]; first | (simp [bareQ, *]; done) | (simp [bareQ, *]; rfl), hB1⟩
    · have hb1 : ((bn1 : Int) == 0) = false := by rw [beq_eq_false_iff_ne]; omega
      go_enter Tryz.func109, Tryz.ntmps109; go_wp2; go_ret; exact ⟨by rw [HB.out]; first | (simp [bareQ, *]; done) | (simp [bareQ, *]; rfl), hB1⟩
  by_cases hk5 : k1 = 5
  · subst hk5
    rcases (show bn1 = 0 ∨ ¬ bn1 = 0 by omega) with rfl | hb0
    · rcases (Classical.em (s1 = (⟨#[]⟩ : ByteArray))) with rfl | hs0
      · rcases (show ln1 = 0 ∨ ¬ ln1 = 0 by omega) with rfl | hl0
        · go_enter Tryz.func109, Tryz.ntmps109
          go_wp2; go_ret; exact ⟨by rw [HB.out]; first | (simp [bareQ, *]; done) | (simp [bareQ, *]; rfl), hB1⟩
        · have hl1 : ((ln1 : Int) == 0) = false := by rw [beq_eq_false_iff_ne]; omega
          go_enter Tryz.func109, Tryz.ntmps109; go_wp2; go_ret; exact ⟨by rw [HB.out]; first | (simp [bareQ, *]; done) | (simp [bareQ, *]; rfl), hB1⟩
      · have hs1 : s1.toList.isEmpty = false := by rw [← decide_eq_emptyBytes]; exact decide_eq_false hs0
        have hs2 : (s1.size == 0) = false := by rw [beq_eq_false_iff_ne]; exact fun e => hs0 (by cases s1 with | mk d => simp only [ByteArray.size] at e; rw [Array.eq_empty_of_size_eq_zero e])
        go_enter Tryz.func109, Tryz.ntmps109; go_wp2; go_ret; exact ⟨by rw [HB.out]; first | (simp [bareQ, *]; done) | (simp [bareQ, *]; rfl), hB1⟩
    · have hb1 : ((bn1 : Int) == 0) = false := by rw [beq_eq_false_iff_ne]; omega
      go_enter Tryz.func109, Tryz.ntmps109; go_wp2; go_ret; exact ⟨by rw [HB.out]; first | (simp [bareQ, *]; done) | (simp [bareQ, *]; rfl), hB1⟩
  by_cases hk2 : k1 = 2
  · subst hk2
    rcases (show n1 = 0 ∨ ¬ n1 = 0 by omega) with rfl | hn0
    · rcases (Classical.em (s1 = (⟨#[]⟩ : ByteArray))) with rfl | hs0
      · rcases (show ln1 = 0 ∨ ¬ ln1 = 0 by omega) with rfl | hl0
        · go_enter Tryz.func109, Tryz.ntmps109
          go_wp2; go_ret; exact ⟨by rw [HB.out]; first | (simp [bareQ, *]; done) | (simp [bareQ, *]; rfl), hB1⟩
        · have hl1 : ((ln1 : Int) == 0) = false := by rw [beq_eq_false_iff_ne]; omega
          go_enter Tryz.func109, Tryz.ntmps109; go_wp2; go_ret; exact ⟨by rw [HB.out]; first | (simp [bareQ, *]; done) | (simp [bareQ, *]; rfl), hB1⟩
      · have hs1 : s1.toList.isEmpty = false := by rw [← decide_eq_emptyBytes]; exact decide_eq_false hs0
        have hs2 : (s1.size == 0) = false := by rw [beq_eq_false_iff_ne]; exact fun e => hs0 (by cases s1 with | mk d => simp only [ByteArray.size] at e; rw [Array.eq_empty_of_size_eq_zero e])
        go_enter Tryz.func109, Tryz.ntmps109; go_wp2; go_ret; exact ⟨by rw [HB.out]; first | (simp [bareQ, *]; done) | (simp [bareQ, *]; rfl), hB1⟩
    · have hn1 : (n1 == 0) = false := by rw [beq_eq_false_iff_ne]; exact hn0
      go_enter Tryz.func109, Tryz.ntmps109; go_wp2; go_ret; exact ⟨by rw [HB.out]; first | (simp [bareQ, *]; done) | (simp [bareQ, *]; rfl), hB1⟩
  by_cases hk3 : k1 = 3
  · subst hk3
    rcases (show n1 = 0 ∨ ¬ n1 = 0 by omega) with rfl | hn0
    · rcases (show bn1 = 0 ∨ ¬ bn1 = 0 by omega) with rfl | hb0
      · rcases (show ln1 = 0 ∨ ¬ ln1 = 0 by omega) with rfl | hl0
        · go_enter Tryz.func109, Tryz.ntmps109
          go_wp2; go_ret; exact ⟨by rw [HB.out]; first | (simp [bareQ, *]; done) | (simp [bareQ, *]; rfl), hB1⟩
        · have hl1 : ((ln1 : Int) == 0) = false := by rw [beq_eq_false_iff_ne]; omega
          go_enter Tryz.func109, Tryz.ntmps109; go_wp2; go_ret; exact ⟨by rw [HB.out]; first | (simp [bareQ, *]; done) | (simp [bareQ, *]; rfl), hB1⟩
      · have hb1 : ((bn1 : Int) == 0) = false := by rw [beq_eq_false_iff_ne]; omega
        go_enter Tryz.func109, Tryz.ntmps109; go_wp2; go_ret; exact ⟨by rw [HB.out]; first | (simp [bareQ, *]; done) | (simp [bareQ, *]; rfl), hB1⟩
    · have hn1 : (n1 == 0) = false := by rw [beq_eq_false_iff_ne]; exact hn0
      go_enter Tryz.func109, Tryz.ntmps109; go_wp2; go_ret; exact ⟨by rw [HB.out]; first | (simp [bareQ, *]; done) | (simp [bareQ, *]; rfl), hB1⟩
  by_cases hk4 : k1 = 4
  · subst hk4
    rcases (show n1 = 0 ∨ ¬ n1 = 0 by omega) with rfl | hn0
    · rcases (show bn1 = 0 ∨ ¬ bn1 = 0 by omega) with rfl | hb0
      · rcases (Classical.em (s1 = (⟨#[]⟩ : ByteArray))) with rfl | hs0
        · go_enter Tryz.func109, Tryz.ntmps109
          go_wp2; go_ret; exact ⟨by rw [HB.out]; first | (simp [bareQ, *]; done) | (simp [bareQ, *]; rfl), hB1⟩
        · have hs1 : s1.toList.isEmpty = false := by rw [← decide_eq_emptyBytes]; exact decide_eq_false hs0
          have hs2 : (s1.size == 0) = false := by rw [beq_eq_false_iff_ne]; exact fun e => hs0 (by cases s1 with | mk d => simp only [ByteArray.size] at e; rw [Array.eq_empty_of_size_eq_zero e])
          go_enter Tryz.func109, Tryz.ntmps109; go_wp2; go_ret; exact ⟨by rw [HB.out]; first | (simp [bareQ, *]; done) | (simp [bareQ, *]; rfl), hB1⟩
      · have hb1 : ((bn1 : Int) == 0) = false := by rw [beq_eq_false_iff_ne]; omega
        go_enter Tryz.func109, Tryz.ntmps109; go_wp2; go_ret; exact ⟨by rw [HB.out]; first | (simp [bareQ, *]; done) | (simp [bareQ, *]; rfl), hB1⟩
    · have hn1 : (n1 == 0) = false := by rw [beq_eq_false_iff_ne]; exact hn0
      go_enter Tryz.func109, Tryz.ntmps109; go_wp2; go_ret; exact ⟨by rw [HB.out]; first | (simp [bareQ, *]; done) | (simp [bareQ, *]; rfl), hB1⟩
  have q1 : (k1 == 1) = false := by rw [beq_eq_false_iff_ne]; exact hk1
  have q5 : (k1 == 5) = false := by rw [beq_eq_false_iff_ne]; exact hk5
  have q2 : (k1 == 2) = false := by rw [beq_eq_false_iff_ne]; exact hk2
  have q3 : (k1 == 3) = false := by rw [beq_eq_false_iff_ne]; exact hk3
  have q4 : (k1 == 4) = false := by rw [beq_eq_false_iff_ne]; exact hk4
  rcases (show n1 = 0 ∨ ¬ n1 = 0 by omega) with rfl | hn0
  · rcases (show bn1 = 0 ∨ ¬ bn1 = 0 by omega) with rfl | hb0
    · rcases (Classical.em (s1 = (⟨#[]⟩ : ByteArray))) with rfl | hs0
      · rcases (show ln1 = 0 ∨ ¬ ln1 = 0 by omega) with rfl | hl0
        · go_enter Tryz.func109, Tryz.ntmps109
          go_wp2; go_ret; exact ⟨by rw [HB.out]; first | (simp [bareQ, *]; done) | (simp [bareQ, *]; rfl), hB1⟩
        · have hl1 : ((ln1 : Int) == 0) = false := by rw [beq_eq_false_iff_ne]; omega
          go_enter Tryz.func109, Tryz.ntmps109; go_wp2; go_ret; exact ⟨by rw [HB.out]; first | (simp [bareQ, *]; done) | (simp [bareQ, *]; rfl), hB1⟩
      · have hs1 : s1.toList.isEmpty = false := by rw [← decide_eq_emptyBytes]; exact decide_eq_false hs0
        have hs2 : (s1.size == 0) = false := by rw [beq_eq_false_iff_ne]; exact fun e => hs0 (by cases s1 with | mk d => simp only [ByteArray.size] at e; rw [Array.eq_empty_of_size_eq_zero e])
        go_enter Tryz.func109, Tryz.ntmps109; go_wp2; go_ret; exact ⟨by rw [HB.out]; first | (simp [bareQ, *]; done) | (simp [bareQ, *]; rfl), hB1⟩
    · have hb1 : ((bn1 : Int) == 0) = false := by rw [beq_eq_false_iff_ne]; omega
      go_enter Tryz.func109, Tryz.ntmps109; go_wp2; go_ret; exact ⟨by rw [HB.out]; first | (simp [bareQ, *]; done) | (simp [bareQ, *]; rfl), hB1⟩
  · have hn1 : (n1 == 0) = false := by rw [beq_eq_false_iff_ne]; exact hn0
    go_enter Tryz.func109, Tryz.ntmps109; go_wp2; go_ret; exact ⟨by rw [HB.out]; first | (simp [bareQ, *]; done) | (simp [bareQ, *]; rfl), hB1⟩
end Go.Proofs.YtpkonagjnfphkaaGreatDoor
namespace Go.Proofs.YtpkonagjnfphkaaGreatDoor
open Go.RowKit Trc Cb
theorem ofA_lt (x : It) : ofA x < 4294967296 := by unfold ofA; split <;> omega
theorem ofB_lt (x : It) : ofB x < 4294967296 := by unfold ofB; split <;> omega
theorem okE_mk {n m : Nat} (hn : n < 4294967296) (hm : m < 4294967296) (hc : Dig.chkP n m = 0) : okE (epI n m) = true ∧ ofA (epI n m) = n ∧ ofB (epI n m) = m := by
  have h0 : n = 0 → m = 0 := fun h => by
    unfold Dig.chkP at hc; split at hc
    · cases hc
    · rename_i h2; exact Decidable.byContradiction fun h3 => h2 ⟨h, h3⟩
  have hab : ofA (epI n m) = n ∧ ofB (epI n m) = m := by
    by_cases h : n = 0
    · obtain rfl := h
      obtain rfl := h0 rfl; exact ⟨by unfold ofA; rw [readU_ep0]; rfl, by unfold ofB; rw [readU_ep0]; rfl⟩
    · exact ⟨by unfold ofA; rw [readU_ep n m h]; simp [g5]; omega, by unfold ofB; rw [readU_ep n m h]; simp [g5]; omega⟩
  refine ⟨?_, hab⟩; unfold okE; rw [hab.1, hab.2, sameB_refl, hc]; rfl
theorem okE_item {x : It} (h : okE x = true) : x = epI (ofA x) (ofB x) ∧ Dig.chkP (ofA x) (ofB x) = 0 := by
  unfold okE at h; rw [Bool.and_eq_true] at h; exact ⟨(sameB_iff x _).1 h.2, of_decide_eq_true h.1⟩
theorem ep_shape {n m : Nat} (h : n ≠ 0) : shB (epI n m) [1, 4] = true ∧ (epI n m).l[1]? = some (lI [uI n, uI m]) ∧ shB (lI [uI n, uI m]) [1, 1] = true := by
  unfold epI; rw [if_neg h]; exact ⟨rfl, rfl, rfl⟩
theorem okE_far {x : It} (h0 : sameB x (epI 0 0) = false) (hk : okE x = true) : ∃ n m, n ≠ 0 ∧ n < 4294967296 ∧ m < 4294967296 ∧ x = epI n m ∧ ofA x = n ∧ ofB x = m := by
  obtain ⟨h1, h2⟩ := okE_item hk; refine ⟨ofA x, ofB x, fun h => ?_, ofA_lt x, ofB_lt x, h1, rfl, rfl⟩; rw [h] at h1
  have : sameB x (epI 0 0) = true := by rw [h1]; unfold epI; rw [if_pos rfl, if_pos rfl]; exact sameB_refl _
  rw [h0] at this; cases this
theorem bare_ep {n m : Nat} (h : n ≠ 0) : bareB (epI n m) = true := by
  unfold epI; rw [if_neg h]; rfl
theorem okE_of {x : It} {n m : Nat} (hn : n < 4294967296) (hm : m < 4294967296) (h : n ≠ 0) (hx : sameB x (epI n m) = true) : okE x = true ∧ ofA x = n ∧ ofB x = m := by
  have := (sameB_iff x _).1 hx; subst this; exact okE_mk hn hm (by unfold Dig.chkP; rw [if_neg (fun e => h e.1)])
end Go.Proofs.YtpkonagjnfphkaaGreatDoor
