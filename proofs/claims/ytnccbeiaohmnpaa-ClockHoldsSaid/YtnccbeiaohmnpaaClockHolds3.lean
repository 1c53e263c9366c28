/-
  ClockHolds: the cases joined: it returns true, whatever the numbers, the span, the rate; nothing that was there has turned.
-/
import Derived.Test.YtnccbeiaohmnpaaClockHolds2
namespace Go.Proofs.Ytnccbeiaohmnpaa
open Go.RowKit
set_option linter.unusedVariables false

theorem clockHolds_c (n0 n1 n2 a b r : Int) (w : World) (g0 : 0 ≤ n0) (g1 : 0 ≤ n1) (g2 : 0 ≤ n2) (k0 : n0 ≤ 18446744073709551615) (k1 : n1 ≤ 18446744073709551615) (ga : 0 ≤ a) (gr : 0 ≤ r) (r1 : r ≤ 18446744073709551615) :
    Calls Try.prog 4 #[.agg #[.int .u64 n0, .int .u64 n1, .int .u64 n2], .agg #[.int .u64 a, .int .u64 b], .int .u64 r] w (Ret (.bool true) w) := by
  obtain ⟨f1, f2, f3, f4, f5, f6⟩ := Clk.add_facts n0 n1 n2 g0 g1 g2
  have fC : 0 ≤ Clk.addF n1 n2 := (Clk.add_facts n1 n2 0 g1 g2 (by decide)).2.2.2.1
  have h : HoldsIn n0 n1 n2 (Clk.addF n0 n1) (Clk.addF n0 (Clk.addF n1 n2)) (Clk.addF n1 n2) := ⟨rfl, rfl, rfl, f1, f2, fun k => (f6 k).1, fun k => (f6 k).2⟩
  by_cases hA : Clk.addF n0 n1 < 4611686018427387903
  · cases hr : Clk.rightB a b with
    | false => exact clockHolds_r0 _ _ _ _ _ _ _ _ _ h w g0 g1 g2 k1 k0 f4 fC f3 f5 ga gr hA hr
    | true =>
      obtain ⟨c1, c2⟩ := Clk.carries_facts a b r hr ga gr r1
      obtain ⟨d0, d1⟩ := Clk.carriesF_b a b r gr
      obtain ⟨ab, _⟩ := (Clk.rightB_iff a b).1 hr
      by_cases hab : a < b
      · by_cases hz : Clk.carriesF a b r = 0
        · exact clockHolds_z00 _ _ _ _ _ _ _ _ _ h w g0 g1 g2 k1 k0 f4 fC f3 f5 ga gr hA hr r1 hab _ rfl d0 d1 hz
        · by_cases hf : Clk.carriesF a b r = 4611686018427387903
          · exact clockHolds_f00 _ _ _ _ _ _ _ _ _ h w g0 g1 g2 k1 k0 f4 fC f3 f5 ga gr hA hr r1 hab _ rfl d0 d1 hf
          · obtain ⟨o1, o2⟩ := c2 (by omega) (by omega)
            by_cases hb : b < 4611686018427387903
            · exact clockHolds_m00 _ _ _ _ _ _ _ _ _ h w g0 g1 g2 k1 k0 f4 fC f3 f5 ga gr hA hr r1 hab _ rfl d0 d1 (by omega) (by omega) hb o1 (o2 hb)
            · exact clockHolds_n00 _ _ _ _ _ _ _ _ _ h w g0 g1 g2 k1 k0 f4 fC f3 f5 ga gr hA hr r1 hab _ rfl d0 d1 (by omega) (by omega) (decide_eq_false hb) o1
      · exact clockHolds_z01 _ _ _ _ _ _ _ _ _ h w g0 g1 g2 k1 k0 f4 fC f3 f5 ga gr hA hr r1 (decide_eq_false hab) _ rfl d0 d1 (c1 (by omega))
  · cases hr : Clk.rightB a b with
    | false => exact clockHolds_r1 _ _ _ _ _ _ _ _ _ h w g0 g1 g2 k1 k0 f4 fC f3 f5 ga gr hA hr
    | true =>
      obtain ⟨c1, c2⟩ := Clk.carries_facts a b r hr ga gr r1
      obtain ⟨d0, d1⟩ := Clk.carriesF_b a b r gr
      obtain ⟨ab, _⟩ := (Clk.rightB_iff a b).1 hr
      by_cases hab : a < b
      · by_cases hz : Clk.carriesF a b r = 0
        · exact clockHolds_z10 _ _ _ _ _ _ _ _ _ h w g0 g1 g2 k1 k0 f4 fC f3 f5 ga gr hA hr r1 hab _ rfl d0 d1 hz
        · by_cases hf : Clk.carriesF a b r = 4611686018427387903
          · exact clockHolds_f10 _ _ _ _ _ _ _ _ _ h w g0 g1 g2 k1 k0 f4 fC f3 f5 ga gr hA hr r1 hab _ rfl d0 d1 hf
          · obtain ⟨o1, o2⟩ := c2 (by omega) (by omega)
            by_cases hb : b < 4611686018427387903
            · exact clockHolds_m10 _ _ _ _ _ _ _ _ _ h w g0 g1 g2 k1 k0 f4 fC f3 f5 ga gr hA hr r1 hab _ rfl d0 d1 (by omega) (by omega) hb o1 (o2 hb)
            · exact clockHolds_n10 _ _ _ _ _ _ _ _ _ h w g0 g1 g2 k1 k0 f4 fC f3 f5 ga gr hA hr r1 hab _ rfl d0 d1 (by omega) (by omega) (decide_eq_false hb) o1
      · exact clockHolds_z11 _ _ _ _ _ _ _ _ _ h w g0 g1 g2 k1 k0 f4 fC f3 f5 ga gr hA hr r1 (decide_eq_false hab) _ rfl d0 d1 (c1 (by omega))

theorem clockHolds_row (n0 : Int) (wn0 : (Lit.int .u64 n0).wf = true) (n1 : Int) (wn1 : (Lit.int .u64 n1).wf = true) (n2 : Int) (wn2 : (Lit.int .u64 n2).wf = true) (x0 : Int) (wx0 : (Lit.int .u64 x0).wf = true) (x1 : Int) (wx1 : (Lit.int .u64 x1).wf = true) (r : Int) (wr : (Lit.int .u64 r).wf = true) (w : World) :
    Calls Try.prog 4 #[.agg #[.int .u64 n0, .int .u64 n1, .int .u64 n2], .agg #[.int .u64 x0, .int .u64 x1], .int .u64 r] w (Ret (.bool true) w) :=
  clockHolds_c n0 n1 n2 x0 x1 r w (u64_lo wn0).1 (u64_lo wn1).1 (u64_lo wn2).1 (u64_lo wn0).2 (u64_lo wn1).2 (u64_lo wx0).1 (u64_lo wr).1 (u64_lo wr).2
end Go.Proofs.Ytnccbeiaohmnpaa
