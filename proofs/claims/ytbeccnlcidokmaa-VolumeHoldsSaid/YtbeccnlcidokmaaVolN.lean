/-
  The arithmetic of VolumeHolds: what has room is over in time; a ledger of one contact.
-/
import Derived.Test.YtbeccnlcidokmaaVolM
import Derived.Test.YtbeccnlcidokmaaVolK
namespace Go.Proofs.Ytbeccnlcidokmaa
open Go.RowKit Go.Maps Vol
set_option linter.unusedSimpArgs false
set_option linter.unusedVariables false

namespace Vol
theorem round_le {t b r m : Int} (ht0 : 0 ≤ t) (ht : t < b) (hb : b ≤ 4611686018427387903) (hr1 : 1 ≤ r) (hr2 : r ≤ 4294967295) (hm : 0 ≤ m) (h : m ≤ Clk.carriesF t b r) : 0 ≤ Clk.roundF m r ∧ Clk.roundF m r ≤ b - t := by
  have hR : Clk.rightB t b = true := (Clk.rightB_iff _ _).2 ⟨by omega, hb⟩
  unfold Clk.carriesF at h
  rw [if_pos hR] at h
  unfold Clk.mulF at h
  rw [Clk.topF_lo (n := b - t) (by omega), Clk.topF_lo (n := r) (by omega)] at h
  have h0 : 0 ≤ m / r := Int.ediv_nonneg hm (by omega)
  have h4 : m % r = m - m / r * r := by have := Int.emod_def m r; rw [Int.mul_comm] at this; omega
  have h5 : 0 ≤ m % r := Int.emod_nonneg m (by omega)
  unfold Clk.roundF
  split at h
  · rename_i hh
    have h6 : m / r ≤ 4611686018427387903 / r := Int.ediv_le_ediv (by omega) h
    split <;> omega
  · have h7 : m / r * r ≤ (b - t) * r := by omega
    have h8 : m / r ≤ b - t := Int.le_of_mul_le_mul_right h7 (by omega)
    split
    · rename_i hp
      have : ¬ m / r = b - t := fun e => by rw [e] at h4; omega
      omega
    · omega
theorem over_le {t b r m : Int} (ht0 : 0 ≤ t) (ht : t < b) (hb : b ≤ 4611686018427387903) (hr1 : 1 ≤ r) (hr2 : r ≤ 4294967295) (hm : 0 ≤ m) (h : m ≤ Clk.carriesF t b r) : Clk.overF t m r ≤ b := by
  have h1 := round_le ht0 ht hb hr1 hr2 hm h
  unfold Clk.overF
  split
  · rw [Clk.topF_lo (by omega)]; omega
  · rw [if_neg (by omega)]
    unfold Clk.addF
    rw [Clk.topF_lo (n := t) (by omega), Clk.topF_lo (n := Clk.roundF m r) (by omega), Clk.topF_lo (by omega)]
    omega
theorem room_all {c : Ct} {n0 n at_ : Int} (hn : 0 < n) (h : n ≤ roomF c n0 at_) : n0 + n ≤ Clk.carriesF c.a c.b c.r := by
  unfold roomF at h
  have h1 := (least2_le (Clk.carriesF c.a c.b c.r - least2 (Clk.carriesF c.a c.b c.r) n0) (Clk.carriesF (least2 (if at_ < c.a then c.a else at_) c.b) c.b c.r)).1
  have h2 : least2 (Clk.carriesF c.a c.b c.r) n0 = n0 ∨ least2 (Clk.carriesF c.a c.b c.r) n0 = Clk.carriesF c.a c.b c.r := by unfold least2; split; exact .inl rfl; exact .inr rfl
  have h3 : n ≤ Clk.carriesF c.a c.b c.r - least2 (Clk.carriesF c.a c.b c.r) n0 := by omega
  clear h h1
  rcases h2 with h2 | h2 <;> (rw [h2] at h3; omega)
theorem over_room {c : Ct} (hc : c.Ok) {n0 at_ n : Int} (h0 : 0 ≤ n0) (hn : 0 < n) (h : n ≤ roomF c n0 at_) (hat0 : 0 ≤ at_) (hat : at_ < c.b) : overL c n0 at_ n ≤ c.b := by
  obtain ⟨f1, f2, t1, t2, ne, a0, ab, b2, r1, r2⟩ := hc
  have h1 := room_all hn h
  have hA := Clk.carriesF_b c.a c.b c.r (by omega)
  have h2 : n ≤ Clk.carriesF (if at_ < c.a then c.a else at_) c.b c.r := by
    unfold roomF at h
    have h3 := (least2_le (Clk.carriesF c.a c.b c.r - least2 (Clk.carriesF c.a c.b c.r) n0) (Clk.carriesF (least2 (if at_ < c.a then c.a else at_) c.b) c.b c.r)).2
    have h4 : least2 (if at_ < c.a then c.a else at_) c.b = (if at_ < c.a then c.a else at_) := by unfold least2; rw [if_neg (by split <;> omega)]
    rw [h4] at h3 h
    omega
  have e1 : Clk.addF n0 n = n0 + n := by
    unfold Clk.addF
    rw [Clk.topF_lo (n := n0) (by omega), Clk.topF_lo (n := n) (by omega), Clk.topF_lo (by omega)]
  have e2 : least2 n 4611686018427387903 = n := by unfold least2; rw [if_neg (by omega)]
  have k1 := over_le (t := c.a) (b := c.b) (r := c.r) (m := n0 + n) a0 ab b2 r1 r2 (by omega) h1
  have k2 := over_le (t := if at_ < c.a then c.a else at_) (b := c.b) (r := c.r) (m := n) (by split <;> omega) (by split <;> omega) b2 r1 r2 (by omega) h2
  unfold overL
  rw [e1, e2]
  clear h2 h
  generalize (if at_ < c.a then c.a else at_) = t at k2 ⊢
  split <;> assumption
theorem room_zero {c : Ct} (hc : c.Ok) (n0 : Int) : roomF c n0 0 = roomF c n0 c.a := by
  have := hc.a0
  unfold roomF
  have : (if (0 : Int) < c.a then c.a else 0) = (if c.a < c.a then c.a else c.a) := by split <;> split <;> omega
  rw [this]
theorem room_none {c : Ct} (hc : c.Ok) : roomF c 0 0 = Clk.carriesF c.a c.b c.r := by
  obtain ⟨f1, f2, t1, t2, ne, a0, ab, b2, r1, r2⟩ := hc
  have hA := Clk.carriesF_b c.a c.b c.r (by omega)
  unfold roomF
  have h1 : (if (0 : Int) < c.a then c.a else 0) = c.a := by split <;> omega
  have h2 : least2 c.a c.b = c.a := by unfold least2; rw [if_neg (by omega)]
  rw [h1, h2]
  have h3 : least2 (Clk.carriesF c.a c.b c.r) 0 = 0 := by unfold least2; split <;> omega
  rw [h3]
  unfold least2
  split <;> omega
/-- A ledger of one contact at most. -/
def J (c : Ct) (E : List (Ct × Int)) : Prop := E = [] ∨ ∃ n, E = [(c, n)] ∧ 0 < n ∧ n ≤ Clk.carriesF c.a c.b c.r
theorem keyEq_self (c : Ct) : keyEq c c = true := by simp [keyEq]
theorem get_nil (c : Ct) : get [] c = none := rfl
theorem get_one (c : Ct) (n : Int) : get [(c, n)] c = some (c, n) := by simp [get, keyEq_self]
theorem J.lk_b {c : Ct} (hc : c.Ok) {E : List (Ct × Int)} (h : J c E) : 0 ≤ (lk E c).2 ∧ (lk E c).2 ≤ Clk.carriesF c.a c.b c.r := by
  have hA := Clk.carriesF_b c.a c.b c.r (by have := hc.r1; omega)
  rcases h with rfl | ⟨n, rfl, h1, h2⟩
  · unfold lk; rw [get_nil]; exact ⟨by decide, hA.1⟩
  · unfold lk; rw [get_one]; exact ⟨Int.le_of_lt h1, h2⟩
theorem one_split {α : Type} {x q : α} {A B : List α} (h : [x] = A ++ q :: B) : A = [] ∧ q = x ∧ B = [] := by
  cases A with
  | nil => simp at h; exact ⟨rfl, h.1.symm, h.2⟩
  | cons y A => simp at h
theorem J.book {c : Ct} (hc : c.Ok) {E E' : List (Ct × Int)} (h : J c E) {n : Int} (hn : 0 < n) {en : Ending} (hb : BookR E c n en E') :
    (en = .returned (.int .i64 290) ∧ E' = E) ∨ (en = .returned (.int .i64 0) ∧ J c E' ∧ ∀ en2 E2, FreeR E' c n en2 E2 → en2 = .returned (.int .i64 0) ∧ E2 = E) := by
  have hA := Clk.carriesF_b c.a c.b c.r (by have := hc.r1; omega)
  rcases hb with ⟨_, h1, h2⟩ | ⟨_, h1, _⟩ | ⟨h1, _, h3, h4⟩
  · exact .inl ⟨h1, h2⟩
  · exfalso
    unfold FullB at h1
    rcases h with rfl | ⟨m, rfl, _⟩ <;> simp at h1
  · refine .inr ⟨h3, ?_⟩
    have hr := room_all (c := c) (n0 := (lk E c).2) hn (Int.not_lt.1 h1)
    rcases h with rfl | ⟨m, rfl, hm1, hm2⟩
    · have hE : E' = [(c, n)] := by
        rcases h4 with ⟨_, h4⟩ | ⟨A, q, B, h4, _⟩
        · exact h4
        · simp at h4
      subst hE
      have e0 : (lk [] c).2 = 0 := rfl
      rw [e0] at hr
      refine ⟨.inr ⟨n, rfl, hn, by omega⟩, fun en2 E2 hf => ?_⟩
      have e1 : lk [(c, n)] c = (c, n) := by unfold lk; rw [get_one]; rfl
      rcases hf with ⟨h5, _⟩ | ⟨_, h5, A, q, B, h6, h7, h8⟩
      · rw [e1] at h5; simp only at h5; omega
      · obtain ⟨rfl, rfl, rfl⟩ := one_split h6
        refine ⟨h5, ?_⟩
        rcases h8 with ⟨_, h8⟩ | ⟨h8, _⟩
        · exact h8
        · exact absurd rfl h8
    · have hE : E' = [(c, m + n)] := by
        rcases h4 with ⟨h4, _⟩ | ⟨A, q, B, h4, _, h5⟩
        · rw [get_one] at h4; cases h4
        · obtain ⟨rfl, rfl, rfl⟩ := one_split h4
          exact h5
      subst hE
      have e0 : (lk [(c, m)] c).2 = m := by unfold lk; rw [get_one]; rfl
      rw [e0] at hr
      refine ⟨.inr ⟨m + n, rfl, by omega, hr⟩, fun en2 E2 hf => ?_⟩
      have e1 : lk [(c, m + n)] c = (c, m + n) := by unfold lk; rw [get_one]; rfl
      rcases hf with ⟨h5, _⟩ | ⟨_, h5, A, q, B, h6, h7, h8⟩
      · rw [e1] at h5; simp only at h5; omega
      · obtain ⟨rfl, rfl, rfl⟩ := one_split h6
        refine ⟨h5, ?_⟩
        rcases h8 with ⟨h8, _⟩ | ⟨_, h8⟩
        · simp only at h8; omega
        · rw [h8]; simp
/-- Which ledgers are the same. -/
def eqB (E1 E2 : List (Ct × Int)) : Bool := decide (E1.length = E2.length) && E1.all fun p => decide (get E2 p.1 = some p)
theorem J.eq {c : Ct} {E : List (Ct × Int)} (h : J c E) : eqB E E = true := by
  rcases h with rfl | ⟨n, rfl, _⟩
  · rfl
  · simp [eqB, get_one]
end Vol
end Go.Proofs.Ytbeccnlcidokmaa
