/-
  CbHg: several texts in one (bundle.py).
-/
import Derived.Test.YtjenohodgpmchaaDoorCbK26
namespace Go.Proofs.YtjenohodgpmchaaDoor
open Go.RowKit Cb
set_option linter.unusedSimpArgs false
set_option linter.unusedVariables false
theorem readHead_c (w : World) (D : Nat) (v : Value) (b : List UInt8) (h : RdAt w D v b) (hbl : b.length ≤ 1000000) :
    Calls Tryd.prog 45 #[.pointer (some ⟨D, 0, none⟩)] w (HdE b w D) := by
  cases b with
  | nil => exact hd_nil w D v h
  | cons f r =>
    by_cases h1 : f.toNat % 32 < 24
    · exact hd_low w D v f r h hbl h1
    · by_cases h2 : 28 ≤ f.toNat % 32
      · exact hd_far w D v f r h hbl h2
      · have hc : f.toNat % 32 = 24 ∨ f.toNat % 32 = 25 ∨ f.toNat % 32 = 26 ∨ f.toNat % 32 = 27 := by omega
        rcases hc with e | e | e | e
        · by_cases hs : r.length < 1
          · exact hd_short0 w D v f r h hbl e hs
          · exact hd_big0 w D v f r h hbl e (by omega)
        · by_cases hs : r.length < 2
          · exact hd_short1 w D v f r h hbl e hs
          · exact hd_big1 w D v f r h hbl e (by omega)
        · by_cases hs : r.length < 4
          · exact hd_short2 w D v f r h hbl e hs
          · exact hd_big2 w D v f r h hbl e (by omega)
        · by_cases hs : r.length < 8
          · exact hd_short3 w D v f r h hbl e hs
          · exact hd_big3 w D v f r h hbl e (by omega)
end Go.Proofs.YtjenohodgpmchaaDoor
