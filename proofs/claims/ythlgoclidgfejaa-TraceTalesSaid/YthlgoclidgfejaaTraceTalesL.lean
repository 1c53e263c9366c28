/-
  TraceTales: whatever the input.
-/
import Derived.Test.YthlgoclidgfejaaTraceTales
import Derived.Test.YthlgoclidgfejaaTraceO
namespace Go.Proofs.Ythlgoclidgfejaa
open Go.RowKit Trc
set_option linter.unusedVariables false
theorem traceTales_law {H : Type} {enc : TypeId × Value → H} {base : Nat} {spare : Nat → Bool} {held : Bool} {v : Value} {n : Nat} {vs : List Value} (x0 x1 x2 x3 many : Int) (w : World) (w0 : (Lit.int .u32 x0).wf = true) (w1 : (Lit.int .u32 x1).wf = true) (w2 : (Lit.int .u64 x2).wf = true) (w3 : (Lit.int .u32 x3).wf = true) (hs : Sl w 16 v n vs)
    (hl : ∀ i, i < n → ∀ (j : Nat) (T : TypeId), evLs[j]? = some T → ∃ c, vs[i * 16 + j]? = some c ∧ Leaf enc Try.prog w base spare held T c) :
    Calls Try.prog 5 #[v, .agg [.int .u32 x0, .int .u32 x1, .int .u64 x2, .int .u32 x3].toArray, .int .i64 many] w (Ret (.bool true) w) := by
  by_cases hn : 60 < n
  · exact traceTales_big v n ⟨x0, x1, x2, x3⟩ many w vs hs hn
  · obtain ⟨l, rfl, hwf⟩ := open_evs hs hl
    exact traceTales_c l v n ⟨x0, x1, x2, x3⟩ many w hs (by omega) (fun e he => (hwf e he).1) ⟨w0, w1, w2, w3⟩
end Go.Proofs.Ythlgoclidgfejaa
