/-
  The walks of OctetPuts and OctetGets: each returns true, whatever the input; nothing that was there has turned.
-/
import Derived.Test.YtcoahjkhaejimaaOctetW
import Derived.Test.YtcoahjkhaejimaaOpen
namespace Go.Proofs.Ytcoahjkhaejimaa
open Go.RowKit
set_option linter.unusedSimpArgs false
set_option linter.unusedVariables false

theorem u64_lo {n : Int} (h : (Lit.int .u64 n).wf = true) : 0 ≤ n ∧ n ≤ 18446744073709551615 := by
  simp [Lit.wf, IntKind.min, IntKind.max, IntKind.signed, IntKind.bits] at h
  omega

namespace Oct
theorem put_get {n wd : Int} (h0 : 0 ≤ n) (he : putE n wd = 0) : getV (putB n wd) = n ∧ getE (putB n wd) = 0 := by
  unfold putE at he
  split at he
  · rename_i hw
    split at he
    · rename_i hf
      have hb : putB n wd = beB wd.toNat n := by unfold putB; rw [hw, hf]; rfl
      have hl : (beB wd.toNat n).length = wd.toNat := beB_len _ _
      have hk : ((wd.toNat : Nat) : Int) = wd := by have := okW_cases hw; omega
      rw [hb]
      unfold getV getE
      rw [hl, hk, hw]
      exact ⟨beV_beB _ _ h0 (fitsB_lt hf), rfl⟩
    · cases he
  · cases he
theorem putE_cases (n wd : Int) : putE n wd = 0 ∨ putE n wd = 4 ∨ putE n wd = 2 := by
  by_cases h : okW wd = true
  · by_cases k : fitsB wd n = true
    · exact .inl (by unfold putE; rw [if_pos h, if_pos k])
    · exact .inr (.inl (by unfold putE; rw [if_pos h, if_neg k]))
  · exact .inr (.inr (by unfold putE; rw [if_neg h]))
end Oct

set_option maxHeartbeats 2000000 in
set_option maxRecDepth 100000 in
theorem octetPuts_c (n wd : Int) (w : World) (h0 : 0 ≤ n) (h1 : n ≤ 18446744073709551615) :
    Calls Try.prog 3 #[.int .u64 n, .int .i64 wd] w (Ret (.bool true) w) := by
  have hpg := @Oct.put_get n wd h0
  have Hpg := Lib.hid hpg; clear hpg
  have hE := Oct.putE_cases n wd
  generalize hL : Oct.putB n wd = L at *
  generalize hR : Oct.putE n wd = R at *
  have HL := Lib.hid hL
  have HR := Lib.hid hR
  clear hL hR
  go_enter Try.func3, Try.ntmps3
  go_wp2_with fail
  refine (put_c n wd w h0 h1).mono ?_
  rw [HL.out, HR.out]
  rintro e w1 ⟨v1, rfl, ho1, hB⟩
  have s1 := Sl.of_own ho1
  obtain ⟨p1, c1, rfl⟩ := s1.len
  clear ho1
  go_wp2_with fail
  refine (putR_c n wd _ h0 h1).mono ?_
  rw [HL.out, HR.out]
  rintro e w2 ⟨v2, rfl, ho2, hb⟩
  have s2 := Sl.of_own ho2
  obtain ⟨p2, c2, rfl⟩ := s2.len
  have s1 := s1.up hb
  have hB := below_up hB hb
  clear ho2 hb
  have t1 : (convert 23 9 (.slice p1 L.length c1)).run Try.prog w2 = .ok (.string ⟨L.toArray⟩) w2 := run_str Try.underlying23 Try.underlying5 Try.underlying9 s1
  have t2 : (convert 23 9 (.slice p2 L.length c2)).run Try.prog w2 = .ok (.string ⟨L.toArray⟩) w2 := run_str Try.underlying23 Try.underlying5 Try.underlying9 s2
  clear s2
  rcases hE with rfl | rfl | rfl
  · obtain ⟨g1, g2⟩ := Hpg.out rfl
    have G1 := Lib.hid g1
    have G2 := Lib.hid g2
    clear g1 g2 Hpg
    go_wp2_with (first
      | (go_at_call 10; refine (num_c _ _).mono ?_; rintro e w7 ⟨rfl, rfl⟩)
      | (go_at_call 11; refine (least_c n _ h0 h1).mono ?_; rintro e w7 ⟨rfl, hb⟩; have s1 := s1.up hb; have hB := below_up hB hb; clear hb)
      | (go_at_call 12; refine (leastR_c n _ h0 h1).mono ?_; rintro e w7 ⟨rfl, hb⟩; have s1 := s1.up hb; have hB := below_up hB hb; clear hb)
      | (go_at_call 14; refine (get_c L _ _ _ s1).mono ?_; rw [G1.out, G2.out]; rintro e w7 ⟨rfl, hb⟩; have hB := below_up hB hb; clear hb)
      | (go_at_call 13; refine (works_c _).mono ?_; rintro e w7 ⟨rfl, hb⟩; have hB := below_up hB hb; clear hb))
    go_ret
    exact ⟨rfl, hB⟩
  all_goals
    go_wp2_with (first
      | (go_at_call 10; refine (num_c _ _).mono ?_; rintro e w7 ⟨rfl, rfl⟩)
      | (go_at_call 11; refine (least_c n _ h0 h1).mono ?_; rintro e w7 ⟨rfl, hb⟩; have s1 := s1.up hb; have hB := below_up hB hb; clear hb)
      | (go_at_call 12; refine (leastR_c n _ h0 h1).mono ?_; rintro e w7 ⟨rfl, hb⟩; have s1 := s1.up hb; have hB := below_up hB hb; clear hb)
      | (go_at_call 13; refine (works_c _).mono ?_; rintro e w7 ⟨rfl, hb⟩; have hB := below_up hB hb; clear hb))
    go_ret
    exact ⟨rfl, hB⟩

theorem octetPuts_row (n : Int) (wn : (Lit.int .u64 n).wf = true) (k : Int) (wk : (Lit.int .i64 k).wf = true) (w : World) :
    Calls Try.prog 3 #[.int .u64 n, .int .i64 k] w (Ret (.bool true) w) := octetPuts_c n k w (u64_lo wn).1 (u64_lo wn).2

namespace Oct
theorem get_put (l : List UInt8) (h : getE l = 0) : putB (getV l) l.length = l ∧ putE (getV l) l.length = 0 ∧ 0 ≤ getV l ∧ getV l ≤ 18446744073709551615 := by
  unfold getE at h
  split at h
  · rename_i hw
    have hv : getV l = beV l := by unfold getV; rw [if_pos hw]
    have h1 := beV_lo l
    have h2 := beV_hi l
    have hf : fitsB l.length (beV l) = true := by simp only [fitsB, decide_eq_true_eq]; exact h2
    rw [hv]
    refine ⟨?_, ?_, h1, ?_⟩
    · unfold putB; rw [hw, hf]; exact beB_beV l
    · unfold putE; rw [if_pos hw, if_pos hf]
    · have hk := okW_cases hw
      have : (256 : Int) ^ l.length ≤ 256 ^ 8 := pow_mono (by omega)
      have e : (256 : Int) ^ 8 = 18446744073709551616 := by decide
      omega
  · cases h
theorem getE_cases (l : List UInt8) : getE l = 0 ∨ getE l = 2 := by unfold getE; split <;> simp
end Oct

set_option maxHeartbeats 2000000 in
set_option maxRecDepth 100000 in
theorem octetGets_c (l : List UInt8) (v : Value) (n : Nat) (w : World) (hv : Sl w 1 v n (by8 l)) (hn : n ≤ 140737488351232) :
    Calls Try.prog 4 #[v] w (Ret (.bool true) w) := by
  have hgp := Oct.get_put l
  have hE := Oct.getE_cases l
  have hln := hv.n_len
  rw [hln] at hgp
  have Hln := Lib.hid hln
  generalize hV : Oct.getV l = V at *
  generalize hR : Oct.getE l = R at *
  have HV := Lib.hid hV
  have HR := Lib.hid hR
  have Hgp := Lib.hid hgp
  clear hV hR hgp hln
  obtain ⟨a, c, rfl⟩ := hv.len
  go_enter Try.func4, Try.ntmps4
  go_wp2_with fail
  refine (lent_c l _ n w hv hn).mono ?_
  rintro e w1 ⟨v1, rfl, hl1, hB⟩
  obtain ⟨p1, c1, rfl⟩ := hl1.sl.len
  have hv1 := hv.up hB
  go_wp2_with fail
  refine (get_c l _ n _ hl1.sl).mono ?_
  rw [HV.out, HR.out]
  rintro e w2 ⟨rfl, hb⟩
  have hl1 : Lent w2 w.heap.size (.slice p1 n c1) n l := by
    obtain ⟨g, cap, h1, h2, h3⟩ := hl1
    exact ⟨g, cap, h1, h2, own_up h3 hb⟩
  have hv1 := hv1.up hb
  have hB := below_up hB hb
  clear hb
  go_wp2_with fail
  refine (getR_c l _ n _ hv1).mono ?_
  rw [HV.out, HR.out]
  rintro e w3 ⟨rfl, rfl⟩
  rcases hE with rfl | rfl
  · obtain ⟨g1, g2, g3, g4⟩ := Hgp.out rfl
    have G1 := Lib.hid g1
    have G2 := Lib.hid g2
    clear g1 g2 Hgp
    go_wp2_with fail
    refine (num_c _ _).mono ?_
    rintro e w4 ⟨rfl, rfl⟩
    go_wp2_with fail
    refine (kept_c l _ _ n _ _ hl1 hv1 (by omega)).mono ?_
    rintro e w5 ⟨rfl, hb⟩
    have hv1 := hv1.up hb
    have hB := below_up hB hb
    clear hb
    go_wp2_with fail
    refine (put_c V n _ g3 g4).mono ?_
    rw [G1.out, G2.out]
    rintro e w6 ⟨v6, rfl, ho6, hb⟩
    have s6 := Sl.of_own ho6
    rw [Hln.out] at s6
    obtain ⟨p6, c6, rfl⟩ := s6.len
    have hv1 := hv1.up hb
    have hB := below_up hB hb
    clear ho6 hb
    have t1 : (convert 23 9 (.slice p6 n c6)).run Try.prog w6 = .ok (.string ⟨l.toArray⟩) w6 := run_str Try.underlying23 Try.underlying5 Try.underlying9 s6
    have t2 : (convert 23 9 (.slice a n c)).run Try.prog w6 = .ok (.string ⟨l.toArray⟩) w6 := run_str Try.underlying23 Try.underlying5 Try.underlying9 hv1
    go_wp2_with (first
      | (go_at_call 10; refine (num_c _ _).mono ?_; rintro e w7 ⟨rfl, rfl⟩)
      | (go_at_call 13; refine (works_c _).mono ?_; rintro e w7 ⟨rfl, hb⟩; have hB := below_up hB hb; clear hb))
    go_ret
    exact ⟨rfl, hB⟩
  · go_wp2_with fail
    refine (num_c _ _).mono ?_
    rintro e w4 ⟨rfl, rfl⟩
    go_wp2_with fail
    refine (kept_c l _ _ n _ _ hl1 hv1 (by omega)).mono ?_
    rintro e w5 ⟨rfl, hb⟩
    have hB := below_up hB hb
    clear hb
    go_wp2_with fail
    refine (works_c _).mono ?_
    rintro e w7 ⟨rfl, hb⟩
    go_wp2
    go_ret
    exact ⟨rfl, below_up hB hb⟩

/-- Bytes, out of their cells. -/
theorem bytes_of {H : Type} {enc : TypeId × Value → H} {w : World} {base : Nat} {spare : Nat → Bool} {held : Bool} {T : TypeId} (ht : Try.prog.underlying T = some (.int .u8)) {v : Value} {n : Nat} {vs : List Value} (hsl : Sl w 1 v n vs)
    (hl : ∀ i, i < n → ∀ (j : Nat) (U : TypeId), [T][j]? = some U → ∃ c, vs[i * 1 + j]? = some c ∧ Leaf enc Try.prog w base spare held U c) : ∃ l, vs = by8 l := by
  have hlen : vs.length = n := by have := hsl.1; omega
  have : ∀ (vs : List Value), (∀ i, i < vs.length → ∃ x : UInt8, vs[i]? = some (.int .u8 (x.toNat : Int))) → ∃ l, vs = by8 l := by
    intro vs
    induction vs with
    | nil => intro _; exact ⟨[], rfl⟩
    | cons u vs ih =>
      intro h
      obtain ⟨x, hx⟩ := h 0 (by simp)
      obtain ⟨l, hl⟩ := ih (fun i hi => by have := h (i + 1) (by simpa using hi); simpa using this)
      simp at hx
      exact ⟨x :: l, by rw [hx, hl]; rfl⟩
  refine this vs (fun i hi => ?_)
  obtain ⟨c, hc, hL⟩ := hl i (by omega) 0 T rfl
  obtain ⟨m, rfl, hm⟩ := hL.int ht
  simp [Lit.wf, IntKind.min, IntKind.max, IntKind.signed, IntKind.bits] at hm
  refine ⟨UInt8.ofNat m.toNat, ?_⟩
  have e : ((UInt8.ofNat m.toNat).toNat : Int) = m := by simp only [UInt8.toNat_ofNat']; omega
  rw [e]
  simpa using hc
end Go.Proofs.Ytcoahjkhaejimaa
