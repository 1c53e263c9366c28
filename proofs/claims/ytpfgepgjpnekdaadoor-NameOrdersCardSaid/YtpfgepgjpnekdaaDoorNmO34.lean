/-
  NmUp, Brk: several texts in one (bundle.py).
-/
import Derived.Test.YtpfgepgjpnekdaaDoorNmO33
import Derived.Test.YtpfgepgjpnekdaaDoorNmO11
import Derived.Lib.OthersKept
import Derived.Test.YtpfgepgjpnekdaaDoorNmO15
import Derived.Test.YtpfgepgjpnekdaaDoorNmO17
namespace Go.Proofs.YtpfgepgjpnekdaaDoor
open Go.RowKit
set_option linter.unusedSimpArgs false
set_option linter.unusedVariables false

theorem bytes_get! (l : List UInt8) (p : Nat) (h : p < l.length) : (⟨l.toArray⟩ : ByteArray).get! p = l[p] := by
  rw [Dig.get!_lt _ _ (by show p < l.toArray.size; simpa using h)]
theorem bytes_extract (l : List UInt8) (a b : Nat) : (⟨l.toArray⟩ : ByteArray).extract a b = ⟨((l.take b).drop a).toArray⟩ := by
  apply ByteArray.ext
  rw [ByteArray.data_extract]
  apply Array.ext'
  simp [Array.toList_extract, List.drop_take]
/-- What upTo tells. -/
def UpTo (c : UInt8) (l : List UInt8) (b : Nat) (T : TypeId) (w : World) (en : Ending) (w' : World) : Prop := match Dig.cut c l with
  | some p => en = .returned (strV p.1) ∧ But (· = b) w w' ∧ RowAt w' b #[strV p.2] T
  | none => en = .panicked (gup 130) ∧ Below w.heap.size w w'
theorem upTo_hit {c : UInt8} (hc : c.toNat < 128) {l : List UInt8} {s : ByteArray} (hs : s = ⟨l.toArray⟩) {p r k : Nat} (hlt : p < s.size) (HI : ∀ j, j < p → s.get! j ≠ c) (HC : (r < 128 ∧ k = 1 ∧ (s.get! p).toNat = r) ∨ (128 ≤ r ∧ ∀ j, p ≤ j → j < p + k → 128 ≤ (s.get! j).toNat)) (hr : r = c.toNat) :
    Dig.cut c l = some (l.take p, l.drop (p + 1)) ∧ s.extract 0 p = ⟨(l.take p).toArray⟩ ∧ s.extract (p + 1) s.size = ⟨(l.drop (p + 1)).toArray⟩ := by
  subst hs
  have hsz : (⟨l.toArray⟩ : ByteArray).size = l.length := by show l.toArray.size = _; simp
  rw [hsz] at hlt
  have hp : (( ⟨l.toArray⟩ : ByteArray).get! p).toNat = r := by rcases HC with h | h; exact h.2.2; omega
  rw [bytes_get! l p hlt] at hp
  refine ⟨Dig.cut_at c l p hlt (fun j hj hjp => ?_) (UInt8.toNat_inj.1 (by omega)), by rw [bytes_extract]; simp, by rw [bytes_extract, hsz, List.take_length]⟩
  have := HI j hjp
  rwa [bytes_get! l j hj] at this
theorem upTo_miss {c : UInt8} (hc : c.toNat < 128) {s : ByteArray} {p r k : Nat} (HI : ∀ j, j < p → s.get! j ≠ c) (HC : (r < 128 ∧ k = 1 ∧ (s.get! p).toNat = r) ∨ (128 ≤ r ∧ ∀ j, p ≤ j → j < p + k → 128 ≤ (s.get! j).toNat)) (hr : r ≠ c.toNat) : ∀ j, j < p + k → s.get! j ≠ c := by
  intro j hj e
  rcases Nat.lt_or_ge j p with h | h
  · exact HI j h e
  · rcases HC with ⟨h1, rfl, h2⟩ | ⟨h1, h2⟩
    · obtain rfl : j = p := by omega
      rw [e] at h2
      exact hr h2.symm
    · have := h2 j h hj
      rw [e] at this
      omega
theorem upTo_none {c : UInt8} {l : List UInt8} {s : ByteArray} (hs : s = ⟨l.toArray⟩) {p : Nat} (hp : p = s.size) (HI : ∀ j, j < p → s.get! j ≠ c) : Dig.cut c l = none := by
  subst hs
  have hsz : (⟨l.toArray⟩ : ByteArray).size = l.length := by show l.toArray.size = _; simp
  refine Dig.cut_none c l fun j hj => ?_
  have := HI j (by omega)
  rwa [bytes_get! l j hj] at this
set_option maxHeartbeats 4000000 in
set_option maxRecDepth 100000 in
theorem upTo_c (c : UInt8) (hc : c.toNat < 128) (l : List UInt8) (hl : l.length ≤ 281474976710656) (b : Nat) (T : TypeId) (w : World) (hR : RowAt w b #[strV l] T) :
    Calls Tryd.prog 42 #[.pointer (some ⟨b, 0, none⟩), .int .i32 c.toNat] w (UpTo c l b T w) := by
  have hlc := hR.cell (i := 0) (v := strV l) rfl
  have hlf := hR.fz 0
  have hbl := hR.lt
  obtain ⟨s, hs⟩ : ∃ s : ByteArray, s = ⟨l.toArray⟩ := ⟨_, rfl⟩
  have hsz : s.size = l.length := by rw [hs]; show l.toArray.size = _; simp
  have HR := Lib.hid hR
  have HSZ := Lib.hid hsz
  have HS := Lib.hid hs
  have hit : (w.alloc (.stringIter s 0)).heap[w.heap.size]? = some (.stringIter s 0) := heap_alloc_new w _
  have hb0 := below_alloc w (.stringIter s 0)
  have hlm : s.size ≤ 281474976710656 := by omega
  rw [show strV l = .string s by rw [hs]] at hlc
  clear hR hsz hs
  go_enter Tryd.func42, Tryd.ntmps42
  go_wp2
  change Code.wp _ _ _ _ (w.alloc (.stringIter s 0))
  go_loopw [5, 6] (fun v5 v6 wr => ∃ p : Nat, p ≤ s.size ∧ wr.heap[w.heap.size]? = some (.stringIter s p) ∧ Below w.heap.size w wr ∧ RowKit.Hid (∀ j, j < p → s.get! j ≠ c)) (fun _ _ wr => s.size - wr.iterPos w.heap.size)
  case atStart => exact ⟨0, Nat.zero_le _, hit, hb0, Lib.hid (fun j hj => absurd hj (by omega))⟩
  case round =>
    clear hit hb0
    obtain ⟨p, hp, hit, hB, HI⟩ := hrel
    have hpI : (p : Int) ≤ (s.size : Int) := by omega
    have hpos := iterPos_of hit
    by_cases hlt : p < s.size
    · have hnx := fun ty => Lib.run_next_any_at (P := Tryd.prog) wr w.heap.size s p ty hit hlt
      obtain ⟨r, k, hd, hk1, hk2, hcase⟩ := Dig.dec_cases s p hlt
      rw [hd] at hnx
      have hit3 := Lib.iterAt_heap wr w.heap.size s p (p + k) hit
      have hB2 : Below w.heap.size w (wr.iterAt w.heap.size s (p + k)) := Lib.below_iterAt hB (Nat.le_refl _) _ _
      have hlc2 := (hB2.cell (p := ⟨b, 0, none⟩) hbl).trans hlc
      have hlf2 := (hB2.frozen (p := ⟨b, 0, none⟩) hbl).trans hlf
      obtain ⟨W2, hW2⟩ : ∃ W2, wr.iterAt w.heap.size s (p + k) = W2 := ⟨_, rfl⟩
      simp only [hW2] at hnx hit3 hB2 hlc2 hlf2
      have HPOS := Lib.hid hpos
      have HC := Lib.hid hcase
      clear hd hW2 hcase hB hit hpos
      by_cases hrc : (r : Int) = (c.toNat : Int)
      · have db : ((r : Int) == (c.toNat : Int)) = true := by simp [hrc]
        have hw1 : IntKind.i64.wrap ((p : Int) + 1) = (p : Int) + 1 := by rw [IntKind.wrap_i64]; omega
        have HH := Lib.hid (upTo_hit hc HS.out hlt HI.out HC.out (by omega))
        clear hrc
        go_wp2
        go_ret
        obtain ⟨h1, h2, h3⟩ := HH.out
        unfold UpTo
        rw [h1]
        refine ⟨by show Ending.returned (.string (s.extract 0 p)) = _; rw [h2], (But.of_below hB2).trans (But.setCell _ _ _ (.inl rfl)), ?_⟩
        have := (HR.out.below hB2).set 0 (.string (s.extract (p + 1) s.size))
        rw [h3] at this ⊢
        exact this
      · have db : ((r : Int) == (c.toNat : Int)) = false := by simp; omega
        go_wp2
        go_roundw
        case rel => exact ⟨p + k, hk2, hit3, hB2, Lib.hid (upTo_miss hc HI.out HC.out (by omega))⟩
        case measure => rw [HPOS.out, iterPos_of hit3]; omega
    · have hnx := fun ty => Lib.run_next_end_at (P := Tryd.prog) wr w.heap.size s p ty hit hlt
      go_wp2
      refine ⟨rfl, ?_⟩
      unfold UpTo
      rw [upTo_none HS.out (by omega : p = s.size) HI.out]
      exact ⟨rfl, hB⟩
set_option maxRecDepth 100000 in
theorem rest_c (l : List UInt8) (b : Nat) (T : TypeId) (w : World) (hR : RowAt w b #[strV l] T) :
    Calls Tryd.prog 44 #[.pointer (some ⟨b, 0, none⟩)] w fun en w' => en = .returned (strV l) ∧ But (· = b) w w' := by
  have hlc := hR.cell (i := 0) (v := strV l) rfl
  have hlf := hR.fz 0
  have hbl := hR.lt
  go_enter Tryd.func44, Tryd.ntmps44
  go_wp2
  go_ret
  exact ⟨rfl, But.setCell _ _ _ (.inl rfl)⟩
end Go.Proofs.YtpfgepgjpnekdaaDoor

namespace Go.Proofs.YtpfgepgjpnekdaaDoor
open Go.RowKit
set_option linter.unusedSimpArgs false
set_option linter.unusedVariables false
theorem wp_cut {P : Program} {c : Code} {Q : Exit → Act → World → Prop} {a : Act} {w : World} (J : Act → World → Prop) (h1 : c.wp P (onlyN fun _ a w => J a w) a w) (h2 : ∀ a' w', J a' w' → Q .normal a' w') : c.wp P Q a w :=
  Code.wp_mono (fun e a' w' he => by obtain ⟨rfl, h⟩ := he; exact h2 _ _ h) h1
/-- A range over a function that may be left by 'break': both ways go on alike. -/
theorem wp_range_brk {P : Program} {n id : Nat} {g : Operand} {ps : Array Tmp} {assign body : Code} {R : Exit → Act → World → Prop} {a : Act} {w : World}
    {gf : Nat} {lb : Array Value} (hg : a.eval g = .func (.func gf) #[] lb) (eg : ∀ args w, (callFunc gf args).run P w = .ok (.enter gf args) w)
    {args : Nat → Array Value} {N : Nat} {S : Nat → Prop} {w0 : World} (hseq : SeqX P gf lb args N S w0) (hb0 : Below w0.heap.size w0 w) (hps : ∀ k, (args k).size = ps.size)
    (G0 : Nat → Prop) (hG0 : ∀ k, G0 k → k < w.heap.size) (hS : ∀ k, S k → k < w.heap.size ∧ ¬ G0 k)
    (I : Nat → (Nat → Prop) → World → Prop) (Im : Nat → Act → (Nat → Prop) → World → Prop) (X : Nat → (Nat → Prop) → World → Prop) (hI : ∀ k, Abide w.heap.size (I k)) (hIm : ∀ k a', Abide w.heap.size (Im k a')) (hX : ∀ k, Abide w.heap.size (X k)) (h0 : I 0 G0 w)
    (hassign : ∀ (l k : Nat) (G : Nat → Prop) (W : World) (K : Act → World → Prop), k < N → I k G W → (∀ a' W', But G W W' → Im k a' (newG G W W') W' → K a' W') →
      assign.wpIn (Fence.wide.inRound l) n P (Exit.then K (fun _ _ _ => False)) { tmps := (ps.zip (args k)).foldl (fun t (p, v) => t.setIfInBounds p v) a.tmps, defers := [] } W)
    (hbody : ∀ (l k : Nat) (a' : Act) (G : Nat → Prop) (W : World), k < N → w.heap.size ≤ l → (∃ r, W.heap[l]? = some (.loop r)) → ¬ G l → Im k a' G W → body.wpIn (Fence.wide.inRound l) n P (endX I (fun c k G W => c = .exit id ∧ X k G W) (k + 1) G W) a' W)
    (hend : ∀ (D : Nat) (G : Nat → Prop) (W : World) (k : Nat), w.heap.size ≤ D → ¬ G D → (k = N ∧ I k G W ∨ k ≤ N ∧ X k G W) → W.heap[D]? = some (.deferred (some [])) → R .normal { a with defers := { target := .collected D, args := #[] } :: a.defers } W) :
    (Code.rangeFunc g ps assign body).wpIn Fence.wide n P (Exit.inBlock id R) a w :=
  wp_range hg eg hseq hb0 hps G0 hG0 hS I Im (fun c k G W => c = .exit id ∧ X k G W) hI hIm (fun c k G A B h hb => ⟨h.1, hX k G A B h.2 hb⟩) h0 hassign hbody
    (fun D G W h1 h2 h3 h4 => hend D G W N h1 h2 (.inl ⟨rfl, h3⟩) h4)
    (fun D c k G W h1 h2 h3 h4 h5 => by
      obtain ⟨rfl, hx⟩ := h4
      refine wpIn_exit ?_
      simp only [Exit.inBlock, if_true]
      exact hend D G W (k + 1) h1 h2 (.inr ⟨h3, hx⟩) h5)
theorem max_int2 (a b : Int) (ts : Array TypeId) (t : TypeId) (w : World) : (Builtin.max_ ts t #[.int .i64 a, .int .i64 b]).run Tryd.prog w = .ok (.int .i64 (if a < b then b else a)) w := by
  rw [run_max_int2]
theorem min_int2 (a b : Int) (ts : Array TypeId) (t : TypeId) (w : World) : (Builtin.min_ ts t #[.int .i64 a, .int .i64 b]).run Tryd.prog w = .ok (.int .i64 (if b < a then b else a)) w := by
  rw [run_min_int2]
end Go.Proofs.YtpfgepgjpnekdaaDoor
