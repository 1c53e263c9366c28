/-
  Book at an amount of nothing.
-/
import Derived.Test.YtbeccnlcidokmaaVolG
import Derived.Test.YtbeccnlcidokmaaVolL
namespace Go.Proofs.Ytbeccnlcidokmaa
open Go.RowKit Go.Maps Vol
set_option linter.unusedSimpArgs false
set_option linter.unusedVariables false

set_option maxHeartbeats 4000000 in
set_option maxRecDepth 100000 in
theorem vBookz_c {L M : Nat} {E : List (Ct × Int)} (c : Ct) (hc : c.Ok) (n : Int) (hn : 0 ≤ (lk E c).2) (hn0 : n = 0) (w : World) (h : Led w L M E) :
    Calls Try.prog 7 #[.pointer (some ⟨L, 0, none⟩), ctV c, .int .u64 n] w (fun en w' => en = .returned (.int .i64 2) ∧ Led w' L M E ∧ Below w.heap.size w w') := by
  have Hn0 := Lib.hid hn0
  clear hn0
  have hmf : ∀ (fn : Fn) (first cap : Array Value) (w : World), (Instr.makeFunc fn first cap).run Try.prog w = .ok (.func fn first cap) w := fun _ _ _ _ => rfl
  have hL := h.var.lt
  have hM := h.map.lt
  have hB3 : Below w.heap.size w (((w.alloc (.cells #[.pointer (some ⟨L, 0, none⟩)] 23)).alloc (.cells (ctC c).toArray 32)).alloc (.cells #[.int .u64 n] 28)) := ((below_alloc w _).alloc (by simp) _).alloc (by simp; omega) _
  have P1 : RowAt (((w.alloc (.cells #[.pointer (some ⟨L, 0, none⟩)] 23)).alloc (.cells (ctC c).toArray 32)).alloc (.cells #[.int .u64 n] 28)) w.heap.size #[.pointer (some ⟨L, 0, none⟩)] 23 := ((RowAt.new w _ _).alloc _).alloc _
  have P2 : RowAt (((w.alloc (.cells #[.pointer (some ⟨L, 0, none⟩)] 23)).alloc (.cells (ctC c).toArray 32)).alloc (.cells #[.int .u64 n] 28)) (w.heap.size + 1) (ctC c).toArray 32 := by
    have := RowAt.new (w.alloc (.cells #[.pointer (some ⟨L, 0, none⟩)] 23)) (ctC c).toArray 32
    rw [World.size_alloc] at this
    exact this.alloc _
  have P3 : RowAt (((w.alloc (.cells #[.pointer (some ⟨L, 0, none⟩)] 23)).alloc (.cells (ctC c).toArray 32)).alloc (.cells #[.int .u64 n] 28)) (w.heap.size + 1 + 1) #[.int .u64 n] 28 := by
    have := RowAt.new ((w.alloc (.cells #[.pointer (some ⟨L, 0, none⟩)] 23)).alloc (.cells (ctC c).toArray 32)) #[.int .u64 n] 28
    rw [World.size_alloc, World.size_alloc] at this
    exact this
  have HF : Cap L M E c n w.heap.size (w.heap.size + 1) (w.heap.size + 1 + 1) ((((w.alloc (.cells #[.pointer (some ⟨L, 0, none⟩)] 23)).alloc (.cells (ctC c).toArray 32)).alloc (.cells #[.int .u64 n] 28)).alloc (.cells [.func (.func 18) #[] #[.pointer (some ⟨w.heap.size, 0, none⟩), .pointer (some ⟨w.heap.size + 1, 0, none⟩), .pointer (some ⟨w.heap.size + 1 + 1, 0, none⟩)], .int .i64 290, .func (.func 19) #[] #[.pointer (some ⟨w.heap.size, 0, none⟩), .pointer (some ⟨w.heap.size + 1, 0, none⟩)], .int .i64 291].toArray 50)) := Cap.up _ _ (below_alloc _ _) ⟨h.below hB3, P1, P2, P3⟩
  have hsl : Sl ((((w.alloc (.cells #[.pointer (some ⟨L, 0, none⟩)] 23)).alloc (.cells (ctC c).toArray 32)).alloc (.cells #[.int .u64 n] 28)).alloc (.cells [.func (.func 18) #[] #[.pointer (some ⟨w.heap.size, 0, none⟩), .pointer (some ⟨w.heap.size + 1, 0, none⟩), .pointer (some ⟨w.heap.size + 1 + 1, 0, none⟩)], .int .i64 290, .func (.func 19) #[] #[.pointer (some ⟨w.heap.size, 0, none⟩), .pointer (some ⟨w.heap.size + 1, 0, none⟩)], .int .i64 291].toArray 50)) 2 (.slice (some ⟨w.heap.size + 1 + 1 + 1, 0, none⟩) 2 2) 2 [.func (.func 18) #[] #[.pointer (some ⟨w.heap.size, 0, none⟩), .pointer (some ⟨w.heap.size + 1, 0, none⟩), .pointer (some ⟨w.heap.size + 1 + 1, 0, none⟩)], .int .i64 290, .func (.func 19) #[] #[.pointer (some ⟨w.heap.size, 0, none⟩), .pointer (some ⟨w.heap.size + 1, 0, none⟩)], .int .i64 291] := by
    have := Sl.of_own (World.ownsRow_lit (((w.alloc (.cells #[.pointer (some ⟨L, 0, none⟩)] 23)).alloc (.cells (ctC c).toArray 32)).alloc (.cells #[.int .u64 n] 28)) [.func (.func 18) #[] #[.pointer (some ⟨w.heap.size, 0, none⟩), .pointer (some ⟨w.heap.size + 1, 0, none⟩), .pointer (some ⟨w.heap.size + 1 + 1, 0, none⟩)], .int .i64 290, .func (.func 19) #[] #[.pointer (some ⟨w.heap.size, 0, none⟩), .pointer (some ⟨w.heap.size + 1, 0, none⟩)], .int .i64 291].toArray 2 (size := 2) (e := 50) (base := w.heap.size) (by simp; omega) (by decide) rfl)
    simp only [World.size_alloc] at this
    exact this
  have HB := Lib.hid (hB3.alloc (by simp; omega) (.cells [.func (.func 18) #[] #[.pointer (some ⟨w.heap.size, 0, none⟩), .pointer (some ⟨w.heap.size + 1, 0, none⟩), .pointer (some ⟨w.heap.size + 1 + 1, 0, none⟩)], .int .i64 290, .func (.func 19) #[] #[.pointer (some ⟨w.heap.size, 0, none⟩), .pointer (some ⟨w.heap.size + 1, 0, none⟩)], .int .i64 291].toArray 50))
  have hMa : ¬ w.heap.size = M := by omega
  have hMb : ¬ w.heap.size + 1 = M := by omega
  have hMd : ¬ w.heap.size + 1 + 1 = M := by omega
  have hask := askedBz_c c hc n hn Hn0.out w.heap.size (w.heap.size + 1) (w.heap.size + 1 + 1) _ _ HF hsl
  clear hsl P1 P2 P3 hB3
  go_enter Try.func7, Try.ntmps7
  go_wp2_with (go_at_call 17; refine hask.mono ?_; rintro en w4 ⟨rfl, hb⟩; replace HF := Cap.up _ _ hb HF; replace HB := Lib.hid (below_up HB.out hb))
  go_ret
  exact ⟨rfl, HF.1, HB.out⟩
end Go.Proofs.Ytbeccnlcidokmaa
