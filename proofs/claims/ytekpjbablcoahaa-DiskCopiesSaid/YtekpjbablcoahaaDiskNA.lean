/-
  What the law's walks share.
-/
import Derived.Test.YtekpjbablcoahaaDiskM
import Derived.Lib.SlBytesConst
import Derived.Test.YtekpjbablcoahaaFast
namespace Go.Proofs.Ytekpjbablcoahaa
open Go.RowKit Go.Maps Dk
set_option linter.unusedSimpArgs false
set_option linter.unusedVariables false

theorem sl_of_row {w : World} {b : Nat} {s : Sec} {T : TypeId} (h : RowAt w b (secC s).toArray T) : Sl w 1 (.slice (some ⟨b, 0, none⟩) 64 64) 64 (secC s) :=
  ⟨by rw [secC_len], .inr ⟨b, 0, 64, rfl, Nat.le_refl _, by decide, fun j v hj => by rw [Nat.zero_add]; exact h.cell (by simpa using hj)⟩⟩
theorem exec_str {ρ : Operand → Value} {o : Oper} {x : Operand} {l : List UInt8} {v : Value} {n : Nat} {w : World} (ho : o.op = .convert 33 9 x) (hx : ρ x = v) (h : Sl w 1 v n (by8 l)) :
    (execOp ρ o).run Try.prog w = .ok (.value (.string ⟨l.toArray⟩)) w := by
  unfold execOp
  simp only [ho, hx, Sem.run_bind, run_str Try.underlying33 Try.underlying5 Try.underlying9 h, Result.andThen_ok]
  rfl
theorem exec_streq {ρ : Operand → Value} {o : Oper} {x y : Operand} {t : TypeId} {s : ByteArray} (ho : o.op = .binOp .eql 9 x y t) (hx : ρ x = .string s) (hy : ρ y = .string s) (w : World) :
    (execOp ρ o).run Try.prog w = .ok (.value (.bool true)) w := by
  unfold execOp
  simp only [ho, hx, hy]
  simp [go_sem]
/-- What was told reads. -/
theorem Dk.SecTold.out {s : Sec} {w w' : World} {en : Ending} (h : SecTold s w en w') : ∃ v, en = .returned (.tuple #[v, .int .i64 0]) ∧ Sl w' 1 v 64 (secC s) ∧ (∃ b, v = .slice (some ⟨b, 0, none⟩) 64 64 ∧ w.heap.size ≤ b ∧ RowAt w' b (secC s).toArray 76) ∧ Below w.heap.size w w' := by
  obtain ⟨b, h1, h2, h3, h4⟩ := h
  exact ⟨_, h1, sl_of_row h3, ⟨b, rfl, h2, h3⟩, h4⟩

theorem dFullN_c (c : UInt8) (n : Int) (h : n = (c.toNat : Int)) (w : World) : Calls Try.prog 10 #[.int .u8 n] w fun en w' => en = .returned (.slice (some ⟨w.heap.size, 0, none⟩) 64 64) ∧ RowAt w' w.heap.size (secC (fullS c)).toArray 5 ∧ Below w.heap.size w w' := by
  subst h
  exact dFull_c c w
theorem Sl.keep {O : Nat → Prop} {w w' : World} {b o sz n c : Nat} {cs : List Value} (h : Sl w sz (.slice (some ⟨b, o, none⟩) n c) n cs) (hb : But O w w') (hO : ¬ O b) : Sl w' sz (.slice (some ⟨b, o, none⟩) n c) n cs :=
  h.but hb (.inr fun k hk e => by cases hk; exact hO e)
theorem dEnters_num : Enters Try.prog 8 := enters_of Try.func8 (by kernel_rfl) rfl
theorem dEnters_full : Enters Try.prog 10 := enters_of Try.func10 (by kernel_rfl) rfl
end Go.Proofs.Ytekpjbablcoahaa
