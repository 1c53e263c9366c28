/-
  A list of bytes, out of an argument's leaves. (for seats that lack the texts of chapter 01's laws)
-/
import Derived.Test.YtinohligpncpiaaBytes
import Derived.Test.YtinohligpncpiaaOpen
import Derived.Test.YtinohligpncpiaaOctetF
import Derived.SizedLaws
namespace Go.Proofs.Ytinohligpncpiaa
open Go.RowKit Go.ChangeAt
set_option linter.unusedSimpArgs false
set_option linter.unusedVariables false

theorem bytes_of {H : Type} {enc : TypeId × Value → H} {w : World} {base : Nat} {spare : Nat → Bool} {held : Bool} {T : TypeId} (ht : Try.prog.underlying T = some (.int .u8)) {v : Value} {n : Nat} {vs : List Value} (hsl : Sl w 1 v n vs)
    (hl : ∀ i, i < n → ∀ (j : Nat) (U : TypeId), [T][j]? = some U → ∃ c, vs[i * 1 + j]? = some c ∧ Leaf enc Try.prog w base spare held U c) : ∃ l, vs = by8 l := by
  have hlen : vs.length = n := by have := hsl.1; omega
  have : ∀ (vs : List Value), (∀ i, i < vs.length → ∃ x : UInt8, vs[i]? = some (.int .u8 (x.toNat : Int))) → ∃ l, vs = by8 l := by
    intro vs
    induction vs with
    | nil => intro _; exact ⟨[], rfl⟩
    | cons u vs ih =>
      intro h
      obtain ⟨x, hx⟩ := h 0 (by simp)
      obtain ⟨l, hl⟩ := ih (fun i hi => by have := h (i + 1) (by simpa using hi); simpa using this)
      simp at hx
      exact ⟨x :: l, by rw [hx, hl]; rfl⟩
  refine this vs (fun i hi => ?_)
  obtain ⟨c, hc, hL⟩ := hl i (by omega) 0 T rfl
  obtain ⟨m, rfl, hm⟩ := hL.int ht
  simp [Lit.wf, IntKind.min, IntKind.max, IntKind.signed, IntKind.bits] at hm
  refine ⟨UInt8.ofNat m.toNat, ?_⟩
  have e : ((UInt8.ofNat m.toNat).toNat : Int) = m := by simp only [UInt8.toNat_ofNat']; omega
  rw [e]
  simpa using hc

theorem weightsAll_mem {H : Type} {P : Program} {e : TypeId} {ds : List (DataW H)} {d : DataW H} (hd : d ∈ ds) {n : Nat} (hn : n ∈ d.weights P e) : n ∈ DataW.weightsAll P e ds := by
  induction ds with
  | nil => cases hd
  | cons d0 ds ih =>
    simp only [DataW.weightsAll, List.mem_append]
    rcases List.mem_cons.1 hd with rfl | h
    · exact .inl hn
    · exact .inr (ih h)

/-- A LIST OF LISTS OF BYTES, OPENED. -/
theorem open_lists {H : Type} {enc : TypeId × Value → H} {w : World} {base : Nat} {spare : Nat → Bool} {held : Bool} {t e b : TypeId} {fuel : Nat} {cs : List Value} {x : DataW H × List MemPlace}
    (ht : Try.prog.underlying t = some (.slice e)) (he : Try.prog.underlying e = some (.slice b)) (hb : Try.prog.underlying b = some (.int .u8)) (hls : leaves Try.prog 12 b = some [b])
    (c1 : Try.prog.cellsOf e = 1) (c2 : Try.prog.cellsOf b = 1) (hbb : Try.prog.bytesOf b = 1)
    (h : DataW.trod enc Try.prog w base spare held fuel t cs = some x) (hw : ∀ n ∈ x.1.weights Try.prog t, n ≤ reachBytes) :
    ∃ a len cap vs ls, cs = [.slice a len cap] ∧ SlB w (.slice a len cap) len vs ls ∧ ∀ l ∈ ls, l.length ≤ 140737488351232 := by
  rcases Go.Deep.open_slice1 ht c1 h with ⟨rfl, rfl⟩ | ⟨a, len, cap, m, n, V, D, Pl, rfl, hba, hl, hm, hmm, rfl, hall⟩
  · exact ⟨none, 0, 0, [], [], rfl, ⟨Sl.nil _ _, rfl, fun i u l h => by simp at h⟩, fun l h => by cases h⟩
  · have hlm : len ≤ m := by rw [hmm]; split <;> omega
    have hin : ∀ i, i < len → ∃ l : List UInt8, Sl w 1 (V i) l.length (by8 l) ∧ l.length ≤ 140737488351232 := fun i hi => by
      obtain ⟨_, htr⟩ := hall i (by omega)
      obtain ⟨a', len', cap', us, hcs, hsl, hlf, hnl⟩ := open_flat (ls := [b]) (sz := 1) he hls rfl c2 (by decide) htr
      simp only [List.cons.injEq, and_true] at hcs
      obtain ⟨l, rfl⟩ := bytes_of hb hsl hlf
      have hln := hsl.n_len
      refine ⟨l, by rw [hcs, hln]; exact hsl, ?_⟩
      rcases hnl with ⟨_, h0⟩ | ⟨es, sp, h1, h2⟩
      · omega
      · have hmem : (es.length + sp.length) * Try.prog.bytesOf b ∈ (DataW.slice ((List.range len).map D) ((List.range (m - len)).map fun j => D (len + j))).weights Try.prog t := by
          simp only [DataW.weights, ht, List.mem_cons, List.mem_append]
          refine .inr (.inl (weightsAll_mem (d := D i) (List.mem_map.2 ⟨i, List.mem_range.2 hi, rfl⟩) ?_))
          rw [show D i = DataW.slice es sp from h1]
          simp [DataW.weights, he]
        have := hw _ hmem
        rw [hbb] at this
        simp only [reachBytes] at this
        omega
    obtain ⟨F, hF⟩ := Go.Deep.choose_lt (n := len) (p := fun i (l : List UInt8) => Sl w 1 (V i) l.length (by8 l) ∧ l.length ≤ 140737488351232) hin
    refine ⟨some a, len, cap, (List.range len).map V, (List.range len).map F, rfl, ⟨⟨by simp, ?_⟩, by simp, fun i u l h1 h2 => ?_⟩, fun l hl => ?_⟩
    · by_cases hz : len = 0
      · exact .inl ⟨_, _, by rw [hz], hz⟩
      · right
        have hspot : a.spot = none := by
          have h1 := (hall 0 (by omega)).1
          have := World.cell?_spot h1
          simpa [Addr.add] using this
        obtain ⟨bb, off, spot⟩ := a
        simp only at hspot
        subst hspot
        refine ⟨bb, off, cap, rfl, hl, hm, fun j u hj => ?_⟩
        obtain ⟨hjl, hj⟩ := List.getElem?_eq_some_iff.1 hj
        simp only [List.length_map, List.length_range] at hjl
        simp only [List.getElem_map, List.getElem_range] at hj
        have h1 := (hall j (by omega)).1
        rw [hj, Addr.add_lit] at h1
        exact h1
    · obtain ⟨hil, rfl⟩ := List.getElem?_eq_some_iff.1 h1
      obtain ⟨hil', rfl⟩ := List.getElem?_eq_some_iff.1 h2
      simp only [List.length_map, List.length_range] at hil
      simp only [List.getElem_map, List.getElem_range]
      exact (hF i hil).1
    · obtain ⟨i, hi, rfl⟩ := List.mem_map.1 hl
      exact (hF i (List.mem_range.1 hi)).2
end Go.Proofs.Ytinohligpncpiaa
