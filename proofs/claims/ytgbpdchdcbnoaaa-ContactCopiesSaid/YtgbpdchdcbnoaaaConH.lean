/-
  Contracts of Next, DeleteFunc, Prune.
-/
import Derived.Test.YtgbpdchdcbnoaaaConG
namespace Go.Proofs.Ytgbpdchdcbnoaaa
open Go.RowKit Vol
set_option linter.unusedSimpArgs false
set_option linter.unusedVariables false

namespace Vol
def stepF (at_ : Int) (s : Int × Bool) (t : Int) : Int × Bool := if at_ < t ∧ (s.2 = false ∨ t < s.1) then (t, true) else s
theorem stepF_yes {at_ t : Int} {s : Int × Bool} (h : at_ < t ∧ (s.2 = false ∨ t < s.1)) : stepF at_ s t = (t, true) := if_pos h
theorem stepF_no {at_ t : Int} {s : Int × Bool} (h : ¬ (at_ < t ∧ (s.2 = false ∨ t < s.1))) : stepF at_ s t = s := if_neg h
def nextF (L : List Ct) (at_ : Int) : Int × Bool := L.foldl (fun s c => stepF at_ (stepF at_ s c.a) c.b) (0, false)
theorem nextF_succ {L : List Ct} {k : Nat} (h : k < L.length) (at_ : Int) : nextF (L.take (k + 1)) at_ = stepF at_ (stepF at_ (nextF (L.take k) at_) L[k].a) L[k].b := by
  unfold nextF; rw [List.take_succ_eq_append_getElem h, List.foldl_append]; rfl
end Vol
theorem two_at0 (a b : Int) (w : World) : (Instr.index 96 (.agg #[.int .u64 a, .int .u64 b]) (.int .i64 0)).run Try.prog w = .ok (.int .u64 a) w := by kernel_rfl
theorem two_at1 (a b : Int) (w : World) : (Instr.index 96 (.agg #[.int .u64 a, .int .u64 b]) (.int .i64 1)).run Try.prog w = .ok (.int .u64 b) w := by kernel_rfl

set_option maxHeartbeats 2000000 in
set_option maxRecDepth 100000 in
theorem pNext_c {B : Nat} {v : Value} {L : List Ct} (at_ : Int) (w : World) (h : PlanAt w B v L) :
    Calls Try.prog 27 #[.pointer (some ⟨B, 0, none⟩), .int .u64 at_] w (Ret (.tuple #[.int .u64 (nextF L at_).1, .bool (nextF L at_).2]) w) := by
  have hn := h.sl.n_max
  obtain ⟨av, cv, hve⟩ := h.sl.len
  subst hve
  obtain ⟨R, hR⟩ : ∃ R, R = nextF L at_ := ⟨_, rfl⟩
  have ta0 := two_at0
  have ta1 := two_at1
  rw [← hR]
  have HR := Lib.hid hR
  clear hR
  go_enter Try.func27, Try.ntmps27
  go_wp2_with (go_at_call 41; refine (pOwn_c _ h).mono ?_; rintro en w1 ⟨rfl, rfl⟩)
  go_loopw [13, 4, 5] (fun i a b wr => ∃ (k : Nat) (s : Int × Bool), k ≤ L.length ∧ i = .int .i64 k ∧ a = .int .u64 s.1 ∧ b = .bool s.2 ∧ RowKit.Hid (nextF (L.take k) at_ = s) ∧ Below w.heap.size w wr) (fun i _ _ _ => L.length - (intOf i).toNat)
  case atStart => exact ⟨0, (0, false), Nat.zero_le _, rfl, rfl, rfl, Lib.hid rfl, Below.refl _ _⟩
  case round =>
    obtain ⟨k, ⟨n, is⟩, hk, rfl, rfl, rfl, HS, hB⟩ := hrel
    simp only at HS ⊢
    by_cases hlt : k < L.length
    · have hltI : (k : Int) < (L.length : Int) := by omega
      obtain ⟨b, off, rfl, hr⟩ := (h.sl.up hB).rec_at (cells := ctC) (sz := 5) (fun _ => rfl) hlt hlt
      have HN := Lib.hid (nextF_succ hlt at_)
      generalize L[k] = x at *
      go_wp2_with (first
        | (refine wpList_load_mid rfl 27 (.tmp 15) rfl b (off + k * 5) rfl (ctC x) _ hr Try.underlying27 rfl (by kernel_rfl) ?_))
      refine wp_loop_rounds 3 ?_
      rw [rounds_succ]
      cases is
      · skip
        by_cases hpa : at_ < x.a
        · skip
          go_wp2
          rw [rounds_succ]
          by_cases hpya : at_ < x.b
          · skip
            by_cases hpyb : x.b < x.a
            · skip
              go_wp2
              rw [rounds_succ]
              go_wp2
              go_roundw
              case rel => exact ⟨k + 1, (x.b, true), by omega, by go_num, rfl, rfl, Lib.hid (HN.out.trans ((congrArg (fun s => stepF at_ (stepF at_ s x.a) x.b) HS.out).trans ((congrArg (fun s => stepF at_ s x.b) (show stepF at_ (n, false) x.a = (x.a, true) from stepF_yes (by first | exact ⟨by omega, .inl rfl⟩ | exact ⟨by omega, .inr (show x.a < n by omega)⟩))).trans (show stepF at_ (x.a, true) x.b = (x.b, true) from stepF_yes (by first | exact ⟨by omega, .inl rfl⟩ | exact ⟨by omega, .inr (show x.b < x.a by omega)⟩))))), hB.alloc hB.size _⟩
              case measure => simp [intOf]; omega
            · skip
              go_wp2
              rw [rounds_succ]
              go_wp2
              go_roundw
              case rel => exact ⟨k + 1, (x.a, true), by omega, by go_num, rfl, rfl, Lib.hid (HN.out.trans ((congrArg (fun s => stepF at_ (stepF at_ s x.a) x.b) HS.out).trans ((congrArg (fun s => stepF at_ s x.b) (show stepF at_ (n, false) x.a = (x.a, true) from stepF_yes (by first | exact ⟨by omega, .inl rfl⟩ | exact ⟨by omega, .inr (show x.a < n by omega)⟩))).trans (show stepF at_ (x.a, true) x.b = (x.a, true) from stepF_no (by rintro ⟨_, e2 | e2⟩; cases e2; exact absurd (show x.b < x.a from e2) (by omega)))))), hB.alloc hB.size _⟩
              case measure => simp [intOf]; omega
          · skip
            go_wp2
            rw [rounds_succ]
            go_wp2
            go_roundw
            case rel => exact ⟨k + 1, (x.a, true), by omega, by go_num, rfl, rfl, Lib.hid (HN.out.trans ((congrArg (fun s => stepF at_ (stepF at_ s x.a) x.b) HS.out).trans ((congrArg (fun s => stepF at_ s x.b) (show stepF at_ (n, false) x.a = (x.a, true) from stepF_yes (by first | exact ⟨by omega, .inl rfl⟩ | exact ⟨by omega, .inr (show x.a < n by omega)⟩))).trans (show stepF at_ (x.a, true) x.b = (x.a, true) from stepF_no (by rintro ⟨e1, _⟩; omega))))), hB.alloc hB.size _⟩
            case measure => simp [intOf]; omega
        · skip
          go_wp2
          rw [rounds_succ]
          by_cases hpma : at_ < x.b
          · skip
            go_wp2
            rw [rounds_succ]
            go_wp2
            go_roundw
            case rel => exact ⟨k + 1, (x.b, true), by omega, by go_num, rfl, rfl, Lib.hid (HN.out.trans ((congrArg (fun s => stepF at_ (stepF at_ s x.a) x.b) HS.out).trans ((congrArg (fun s => stepF at_ s x.b) (show stepF at_ (n, false) x.a = (n, false) from stepF_no (by rintro ⟨e1, _⟩; omega))).trans (show stepF at_ (n, false) x.b = (x.b, true) from stepF_yes (by first | exact ⟨by omega, .inl rfl⟩ | exact ⟨by omega, .inr (show x.b < n by omega)⟩))))), hB.alloc hB.size _⟩
            case measure => simp [intOf]; omega
          · skip
            go_wp2
            rw [rounds_succ]
            go_wp2
            go_roundw
            case rel => exact ⟨k + 1, (n, false), by omega, by go_num, rfl, rfl, Lib.hid (HN.out.trans ((congrArg (fun s => stepF at_ (stepF at_ s x.a) x.b) HS.out).trans ((congrArg (fun s => stepF at_ s x.b) (show stepF at_ (n, false) x.a = (n, false) from stepF_no (by rintro ⟨e1, _⟩; omega))).trans (show stepF at_ (n, false) x.b = (n, false) from stepF_no (by rintro ⟨e1, _⟩; omega))))), hB.alloc hB.size _⟩
            case measure => simp [intOf]; omega
      · skip
        by_cases hpa : at_ < x.a
        · skip
          by_cases hpb : x.a < n
          · skip
            go_wp2
            rw [rounds_succ]
            by_cases hpya : at_ < x.b
            · skip
              by_cases hpyb : x.b < x.a
              · skip
                go_wp2
                rw [rounds_succ]
                go_wp2
                go_roundw
                case rel => exact ⟨k + 1, (x.b, true), by omega, by go_num, rfl, rfl, Lib.hid (HN.out.trans ((congrArg (fun s => stepF at_ (stepF at_ s x.a) x.b) HS.out).trans ((congrArg (fun s => stepF at_ s x.b) (show stepF at_ (n, true) x.a = (x.a, true) from stepF_yes (by first | exact ⟨by omega, .inl rfl⟩ | exact ⟨by omega, .inr (show x.a < n by omega)⟩))).trans (show stepF at_ (x.a, true) x.b = (x.b, true) from stepF_yes (by first | exact ⟨by omega, .inl rfl⟩ | exact ⟨by omega, .inr (show x.b < x.a by omega)⟩))))), hB.alloc hB.size _⟩
                case measure => simp [intOf]; omega
              · skip
                go_wp2
                rw [rounds_succ]
                go_wp2
                go_roundw
                case rel => exact ⟨k + 1, (x.a, true), by omega, by go_num, rfl, rfl, Lib.hid (HN.out.trans ((congrArg (fun s => stepF at_ (stepF at_ s x.a) x.b) HS.out).trans ((congrArg (fun s => stepF at_ s x.b) (show stepF at_ (n, true) x.a = (x.a, true) from stepF_yes (by first | exact ⟨by omega, .inl rfl⟩ | exact ⟨by omega, .inr (show x.a < n by omega)⟩))).trans (show stepF at_ (x.a, true) x.b = (x.a, true) from stepF_no (by rintro ⟨_, e2 | e2⟩; cases e2; exact absurd (show x.b < x.a from e2) (by omega)))))), hB.alloc hB.size _⟩
                case measure => simp [intOf]; omega
            · skip
              go_wp2
              rw [rounds_succ]
              go_wp2
              go_roundw
              case rel => exact ⟨k + 1, (x.a, true), by omega, by go_num, rfl, rfl, Lib.hid (HN.out.trans ((congrArg (fun s => stepF at_ (stepF at_ s x.a) x.b) HS.out).trans ((congrArg (fun s => stepF at_ s x.b) (show stepF at_ (n, true) x.a = (x.a, true) from stepF_yes (by first | exact ⟨by omega, .inl rfl⟩ | exact ⟨by omega, .inr (show x.a < n by omega)⟩))).trans (show stepF at_ (x.a, true) x.b = (x.a, true) from stepF_no (by rintro ⟨e1, _⟩; omega))))), hB.alloc hB.size _⟩
              case measure => simp [intOf]; omega
          · skip
            go_wp2
            rw [rounds_succ]
            by_cases hpna : at_ < x.b
            · skip
              by_cases hpnb : x.b < n
              · skip
                go_wp2
                rw [rounds_succ]
                go_wp2
                go_roundw
                case rel => exact ⟨k + 1, (x.b, true), by omega, by go_num, rfl, rfl, Lib.hid (HN.out.trans ((congrArg (fun s => stepF at_ (stepF at_ s x.a) x.b) HS.out).trans ((congrArg (fun s => stepF at_ s x.b) (show stepF at_ (n, true) x.a = (n, true) from stepF_no (by rintro ⟨_, e2 | e2⟩; cases e2; exact absurd (show x.a < n from e2) (by omega)))).trans (show stepF at_ (n, true) x.b = (x.b, true) from stepF_yes (by first | exact ⟨by omega, .inl rfl⟩ | exact ⟨by omega, .inr (show x.b < n by omega)⟩))))), hB.alloc hB.size _⟩
                case measure => simp [intOf]; omega
              · skip
                go_wp2
                rw [rounds_succ]
                go_wp2
                go_roundw
                case rel => exact ⟨k + 1, (n, true), by omega, by go_num, rfl, rfl, Lib.hid (HN.out.trans ((congrArg (fun s => stepF at_ (stepF at_ s x.a) x.b) HS.out).trans ((congrArg (fun s => stepF at_ s x.b) (show stepF at_ (n, true) x.a = (n, true) from stepF_no (by rintro ⟨_, e2 | e2⟩; cases e2; exact absurd (show x.a < n from e2) (by omega)))).trans (show stepF at_ (n, true) x.b = (n, true) from stepF_no (by rintro ⟨_, e2 | e2⟩; cases e2; exact absurd (show x.b < n from e2) (by omega)))))), hB.alloc hB.size _⟩
                case measure => simp [intOf]; omega
            · skip
              go_wp2
              rw [rounds_succ]
              go_wp2
              go_roundw
              case rel => exact ⟨k + 1, (n, true), by omega, by go_num, rfl, rfl, Lib.hid (HN.out.trans ((congrArg (fun s => stepF at_ (stepF at_ s x.a) x.b) HS.out).trans ((congrArg (fun s => stepF at_ s x.b) (show stepF at_ (n, true) x.a = (n, true) from stepF_no (by rintro ⟨_, e2 | e2⟩; cases e2; exact absurd (show x.a < n from e2) (by omega)))).trans (show stepF at_ (n, true) x.b = (n, true) from stepF_no (by rintro ⟨e1, _⟩; omega))))), hB.alloc hB.size _⟩
              case measure => simp [intOf]; omega
        · skip
          go_wp2
          rw [rounds_succ]
          by_cases hpma : at_ < x.b
          · skip
            by_cases hpmb : x.b < n
            · skip
              go_wp2
              rw [rounds_succ]
              go_wp2
              go_roundw
              case rel => exact ⟨k + 1, (x.b, true), by omega, by go_num, rfl, rfl, Lib.hid (HN.out.trans ((congrArg (fun s => stepF at_ (stepF at_ s x.a) x.b) HS.out).trans ((congrArg (fun s => stepF at_ s x.b) (show stepF at_ (n, true) x.a = (n, true) from stepF_no (by rintro ⟨e1, _⟩; omega))).trans (show stepF at_ (n, true) x.b = (x.b, true) from stepF_yes (by first | exact ⟨by omega, .inl rfl⟩ | exact ⟨by omega, .inr (show x.b < n by omega)⟩))))), hB.alloc hB.size _⟩
              case measure => simp [intOf]; omega
            · skip
              go_wp2
              rw [rounds_succ]
              go_wp2
              go_roundw
              case rel => exact ⟨k + 1, (n, true), by omega, by go_num, rfl, rfl, Lib.hid (HN.out.trans ((congrArg (fun s => stepF at_ (stepF at_ s x.a) x.b) HS.out).trans ((congrArg (fun s => stepF at_ s x.b) (show stepF at_ (n, true) x.a = (n, true) from stepF_no (by rintro ⟨e1, _⟩; omega))).trans (show stepF at_ (n, true) x.b = (n, true) from stepF_no (by rintro ⟨_, e2 | e2⟩; cases e2; exact absurd (show x.b < n from e2) (by omega)))))), hB.alloc hB.size _⟩
              case measure => simp [intOf]; omega
          · skip
            go_wp2
            rw [rounds_succ]
            go_wp2
            go_roundw
            case rel => exact ⟨k + 1, (n, true), by omega, by go_num, rfl, rfl, Lib.hid (HN.out.trans ((congrArg (fun s => stepF at_ (stepF at_ s x.a) x.b) HS.out).trans ((congrArg (fun s => stepF at_ s x.b) (show stepF at_ (n, true) x.a = (n, true) from stepF_no (by rintro ⟨e1, _⟩; omega))).trans (show stepF at_ (n, true) x.b = (n, true) from stepF_no (by rintro ⟨e1, _⟩; omega))))), hB.alloc hB.size _⟩
            case measure => simp [intOf]; omega
    · obtain rfl : k = L.length := by omega
      have hRs : R = (n, is) := by rw [HR.out, ← HS.out, List.take_length]
      subst hRs
      go_wp2
      exact bodyPost_ret (v := .tuple #[.int .u64 n, .bool is]) (by simp [results, Try.results27, go_sem]) rfl ⟨rfl, hB⟩
end Go.Proofs.Ytgbpdchdcbnoaaa
