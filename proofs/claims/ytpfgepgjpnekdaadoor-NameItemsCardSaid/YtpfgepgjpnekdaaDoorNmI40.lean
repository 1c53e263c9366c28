/-
  OctetF, OpenB, CbOp, NmLaid: several texts in one (bundle.py).
-/
import Derived.Test.YtpfgepgjpnekdaaDoorNmI07
import Derived.Test.YtpfgepgjpnekdaaDoorNmI02
import Derived.SizedLaws
import Derived.Test.YtpfgepgjpnekdaaDoorNmI35
import Derived.Test.YtpfgepgjpnekdaaDoorNmI08
import Derived.Test.YtpfgepgjpnekdaaDoorNmI13
import Derived.LaidLaws
import Derived.Lib.LaidTab
import Derived.Lib.LaidU8
import Derived.ChangeBears2
namespace Go.Proofs.YtpfgepgjpnekdaaDoor
open Go.RowKit
set_option linter.unusedSimpArgs false
set_option linter.unusedVariables false

/-- The slice v has slices of bytes as its elements; they read ls. -/
structure SlB (w : World) (v : Value) (n : Nat) (vs : List Value) (ls : List (List UInt8)) : Prop where
  out : Sl w 1 v n vs
  len : vs.length = ls.length
  each : ∀ (i : Nat) (u : Value) (l : List UInt8), vs[i]? = some u → ls[i]? = some l → Sl w 1 u l.length (by8 l)

theorem SlB.up {w w' : World} {v : Value} {n : Nat} {vs : List Value} {ls : List (List UInt8)} (h : SlB w v n vs ls) (hb : Below w.heap.size w w') : SlB w' v n vs ls :=
  ⟨h.out.up hb, h.len, fun i u l h1 h2 => (h.each i u l h1 h2).up hb⟩
theorem SlB.n_len {w : World} {v : Value} {n : Nat} {vs : List Value} {ls : List (List UInt8)} (h : SlB w v n vs ls) : ls.length = n := by have := h.out.1; have := h.len; omega

/-- Element k: its cell, what it reads. -/
theorem SlB.at_ {w : World} {a : Option Addr} {n c : Nat} {vs : List Value} {ls : List (List UInt8)} (h : SlB w (.slice a n c) n vs ls) {k : Nat} (hk : k < n) (hk' : k < ls.length) :
    ∃ b off a' c', a = some ⟨b, off, none⟩ ∧ w.cell? ⟨b, off + k, none⟩ = some (.slice a' ls[k].length c') ∧ Sl w 1 (.slice a' ls[k].length c') ls[k].length (by8 ls[k]) := by
  have hl := h.len
  have hv : k < vs.length := by omega
  obtain ⟨b, off, ha, hc⟩ := h.out.cellAt (k := k) (by omega) (by omega)
  have hs := h.each k vs[k] ls[k] (List.getElem?_eq_getElem hv) (List.getElem?_eq_getElem hk')
  obtain ⟨a', c', e⟩ := hs.len
  rw [List.getElem?_eq_getElem hv, e] at hc
  rw [e] at hs
  exact ⟨b, off, a', c', ha, hc, hs⟩

namespace Oct
theorem flat_take (ls : List (List UInt8)) (k : Nat) (h : k < ls.length) : (ls.take (k + 1)).flatten = (ls.take k).flatten ++ ls[k] := by
  rw [List.take_succ_eq_append_getElem h, List.flatten_append]; simp
theorem flat_le (ls : List (List UInt8)) (k : Nat) : (ls.take k).flatten.length ≤ ls.flatten.length := by
  have : ls.flatten = (ls.take k).flatten ++ (ls.drop k).flatten := by rw [← List.flatten_append, List.take_append_drop]
  rw [this, List.length_append]; omega
end Oct

end Go.Proofs.YtpfgepgjpnekdaaDoor

namespace Go.Proofs.YtpfgepgjpnekdaaDoor
open Go.RowKit Go.ChangeAt
set_option linter.unusedSimpArgs false
set_option linter.unusedVariables false

theorem bytes_of {H : Type} {enc : TypeId × Value → H} {w : World} {base : Nat} {spare : Nat → Bool} {held : Bool} {T : TypeId} (ht : Tryd.prog.underlying T = some (.int .u8)) {v : Value} {n : Nat} {vs : List Value} (hsl : Sl w 1 v n vs)
    (hl : ∀ i, i < n → ∀ (j : Nat) (U : TypeId), [T][j]? = some U → ∃ c, vs[i * 1 + j]? = some c ∧ Leaf enc Tryd.prog w base spare held U c) : ∃ l, vs = by8 l := by
  have hlen : vs.length = n := by have := hsl.1; omega
  have : ∀ (vs : List Value), (∀ i, i < vs.length → ∃ x : UInt8, vs[i]? = some (.int .u8 (x.toNat : Int))) → ∃ l, vs = by8 l := by
    intro vs
    induction vs with
    | nil => intro _; exact ⟨[], rfl⟩
    | cons u vs ih =>
      intro h
      obtain ⟨x, hx⟩ := h 0 (by simp)
      obtain ⟨l, hl⟩ := ih (fun i hi => by have := h (i + 1) (by simpa using hi); simpa using this)
      simp at hx
      exact ⟨x :: l, by rw [hx, hl]; rfl⟩
  refine this vs (fun i hi => ?_)
  obtain ⟨c, hc, hL⟩ := hl i (by omega) 0 T rfl
  obtain ⟨m, rfl, hm⟩ := hL.int ht
  simp [Lit.wf, IntKind.min, IntKind.max, IntKind.signed, IntKind.bits] at hm
  refine ⟨UInt8.ofNat m.toNat, ?_⟩
  have e : ((UInt8.ofNat m.toNat).toNat : Int) = m := by simp only [UInt8.toNat_ofNat']; omega
  rw [e]
  simpa using hc

theorem weightsAll_mem {H : Type} {P : Program} {e : TypeId} {ds : List (DataW H)} {d : DataW H} (hd : d ∈ ds) {n : Nat} (hn : n ∈ d.weights P e) : n ∈ DataW.weightsAll P e ds := by
  induction ds with
  | nil => cases hd
  | cons d0 ds ih =>
    simp only [DataW.weightsAll, List.mem_append]
    rcases List.mem_cons.1 hd with rfl | h
    · exact .inl hn
    · exact .inr (ih h)

/-- A LIST OF LISTS OF BYTES, OPENED. -/
theorem open_lists {H : Type} {enc : TypeId × Value → H} {w : World} {base : Nat} {spare : Nat → Bool} {held : Bool} {t e b : TypeId} {fuel : Nat} {cs : List Value} {x : DataW H × List MemPlace}
    (ht : Tryd.prog.underlying t = some (.slice e)) (he : Tryd.prog.underlying e = some (.slice b)) (hb : Tryd.prog.underlying b = some (.int .u8)) (hls : leaves Tryd.prog 12 b = some [b])
    (c1 : Tryd.prog.cellsOf e = 1) (c2 : Tryd.prog.cellsOf b = 1) (hbb : Tryd.prog.bytesOf b = 1)
    (h : DataW.trod enc Tryd.prog w base spare held fuel t cs = some x) (hw : ∀ n ∈ x.1.weights Tryd.prog t, n ≤ reachBytes) :
    ∃ a len cap vs ls, cs = [.slice a len cap] ∧ SlB w (.slice a len cap) len vs ls ∧ ∀ l ∈ ls, l.length ≤ 140737488351232 := by
  rcases Go.Deep.open_slice1 ht c1 h with ⟨rfl, rfl⟩ | ⟨a, len, cap, m, n, V, D, Pl, rfl, hba, hl, hm, hmm, rfl, hall⟩
  · exact ⟨none, 0, 0, [], [], rfl, ⟨Sl.nil _ _, rfl, fun i u l h => by simp at h⟩, fun l h => by cases h⟩
  · have hlm : len ≤ m := by rw [hmm]; split <;> omega
    have hin : ∀ i, i < len → ∃ l : List UInt8, Sl w 1 (V i) l.length (by8 l) ∧ l.length ≤ 140737488351232 := fun i hi => by
      obtain ⟨_, htr⟩ := hall i (by omega)
      obtain ⟨a', len', cap', us, hcs, hsl, hlf, hnl⟩ := open_flat (ls := [b]) (sz := 1) he hls rfl c2 (by decide) htr
      simp only [List.cons.injEq, and_true] at hcs
      obtain ⟨l, rfl⟩ := bytes_of hb hsl hlf
      have hln := hsl.n_len
      refine ⟨l, by rw [hcs, hln]; exact hsl, ?_⟩
      rcases hnl with ⟨_, h0⟩ | ⟨es, sp, h1, h2⟩
      · omega
      · have hmem : (es.length + sp.length) * Tryd.prog.bytesOf b ∈ (DataW.slice ((List.range len).map D) ((List.range (m - len)).map fun j => D (len + j))).weights Tryd.prog t := by
          simp only [DataW.weights, ht, List.mem_cons, List.mem_append]
          refine .inr (.inl (weightsAll_mem (d := D i) (List.mem_map.2 ⟨i, List.mem_range.2 hi, rfl⟩) ?_))
          rw [show D i = DataW.slice es sp from h1]
          simp [DataW.weights, he]
        have := hw _ hmem
        rw [hbb] at this
        simp only [reachBytes] at this
        omega
    obtain ⟨F, hF⟩ := Go.Deep.choose_lt (n := len) (p := fun i (l : List UInt8) => Sl w 1 (V i) l.length (by8 l) ∧ l.length ≤ 140737488351232) hin
    refine ⟨some a, len, cap, (List.range len).map V, (List.range len).map F, rfl, ⟨⟨by simp, ?_⟩, by simp, fun i u l h1 h2 => ?_⟩, fun l hl => ?_⟩
    · by_cases hz : len = 0
      · exact .inl ⟨_, _, by rw [hz], hz⟩
      · right
        have hspot : a.spot = none := by
          have h1 := (hall 0 (by omega)).1
          have := World.cell?_spot h1
          simpa [Addr.add] using this
        obtain ⟨bb, off, spot⟩ := a
        simp only at hspot
        subst hspot
        refine ⟨bb, off, cap, rfl, hl, hm, fun j u hj => ?_⟩
        obtain ⟨hjl, hj⟩ := List.getElem?_eq_some_iff.1 hj
        simp only [List.length_map, List.length_range] at hjl
        simp only [List.getElem_map, List.getElem_range] at hj
        have h1 := (hall j (by omega)).1
        rw [hj, Addr.add_lit] at h1
        exact h1
    · obtain ⟨hil, rfl⟩ := List.getElem?_eq_some_iff.1 h1
      obtain ⟨hil', rfl⟩ := List.getElem?_eq_some_iff.1 h2
      simp only [List.length_map, List.length_range] at hil
      simp only [List.getElem_map, List.getElem_range]
      exact (hF i hil).1
    · obtain ⟨i, hi, rfl⟩ := List.mem_map.1 hl
      exact (hF i (List.mem_range.1 hi)).2
end Go.Proofs.YtpfgepgjpnekdaaDoor

namespace Go.Proofs.YtpfgepgjpnekdaaDoor
open Go.RowKit Go.ChangeAt Cb
set_option linter.unusedSimpArgs false
set_option linter.unusedVariables false
theorem DataW.trod_slice' {H : Type} {enc : TypeId × Value → H} {P : Program} {w : World} {base : Nat} {spare : Nat → Bool} {held : Bool} {t e : TypeId} {fuel : Nat} {cs : List Value} {x : DataW H × List MemPlace} (ht : P.underlying t = some (.slice e)) (h : DataW.trod enc P w base spare held fuel t cs = some x) :
    (cs = [.slice none 0 0] ∧ x.1 = .nil) ∨ ∃ (a : Addr) (len cap n : Nat) (elems rest : List (DataW H × List MemPlace)), fuel = n + 1 ∧ cs = [.slice (some a) len cap] ∧ len ≤ cap ∧ cap ≤ maxLen ∧ x.1 = .slice (elems.map (·.1)) (rest.map (·.1)) ∧ elems.length = len ∧
      ∀ i, i < len → (w.cells? base (a.add (i * P.cellsOf e)) (P.cellsOf e)).bind (DataW.trod enc P w base spare held n e) = elems[i]? := by
  rcases DataW.trod_slice ht h with ⟨h0, h1⟩ | ⟨a, len, cap, elems, rest, n, hn, h1, h2, hb, hl, hm, hlen, hel, _⟩
  · exact .inl ⟨h0, by rw [h1]⟩
  · exact .inr ⟨a, len, cap, n, elems, rest, hn, h1, hl, hm, by rw [h2], hlen, hel⟩
instance : Inhabited (It × Rw) := ⟨(.mk 0 0 [] ⟨#[]⟩ [], ⟨0, 0, .slice none 0 0, ⟨#[]⟩, .slice none 0 0⟩)⟩
theorem slS_of {S : Nat → Prop} {w : World} {sz n : Nat} {v : Value} {cs : List Value} (h : Sl w sz v n cs) (h0 : 0 < sz) (hS : ∀ k, k < w.heap.size → S k) : SlS S w sz v n cs := ⟨h, (h.blk h0).imp id fun f k hk => hS k (f k hk)⟩
set_option maxHeartbeats 2000000 in
set_option maxRecDepth 100000 in
theorem open_item {H : Type} {enc : TypeId × Value → H} {w : World} {base : Nat} {spare : Nat → Bool} {held : Bool} : ∀ (fuel : Nat) (cs : List Value) (x : DataW H × List MemPlace), DataW.trod enc Tryd.prog w base spare held fuel 48 cs = some x → (∀ n ∈ x.1.weights Tryd.prog 48, n ≤ reachBytes) →
    ∃ (it : It) (r : Rw), cs = rwC r ∧ ItR (fun k => k < w.heap.size) w it r ∧ szOk it ∧ kwB it := by
  intro fuel
  induction fuel using Nat.strongRecOn with
  | ind fuel ih =>
    intro cs x h hw
    obtain ⟨xs, n, rfl, rfl, hcl, hxl, hf⟩ := DataW.trod_struct Tryd.underlying48 h
    have hcl : cs.length = 5 := hcl.trans (by kernel_rfl)
    have hxl : xs.length = 5 := hxl
    match cs, hcl with
    | [c0, c1, c2, c3, c4], _ =>
    match xs, hxl with
    | [y0, y1, y2, y3, y4], _ =>
    have f0 := hf 0 { name := "Kind", type := 44, offset := 0, embedded := false, tag := "", pkgPath := "", byteOffset := 0 } rfl
    have f1 := hf 1 { name := "N", type := 29, offset := 1, embedded := false, tag := "", pkgPath := "", byteOffset := 8 } rfl
    have f2 := hf 2 { name := "B", type := 45, offset := 2, embedded := false, tag := "", pkgPath := "", byteOffset := 16 } rfl
    have f3 := hf 3 { name := "S", type := 9, offset := 3, embedded := false, tag := "", pkgPath := "", byteOffset := 40 } rfl
    have f4 := hf 4 { name := "L", type := 46, offset := 4, embedded := false, tag := "", pkgPath := "", byteOffset := 56 } rfl
    simp only [show Tryd.prog.cellsOf 44 = 1 by kernel_rfl, show Tryd.prog.cellsOf 29 = 1 by kernel_rfl, show Tryd.prog.cellsOf 45 = 1 by kernel_rfl, show Tryd.prog.cellsOf 9 = 1 by kernel_rfl, show Tryd.prog.cellsOf 46 = 1 by kernel_rfl, List.drop_zero, List.drop_succ_cons, List.take_succ_cons, List.take_zero, List.getElem?_cons_zero, List.getElem?_cons_succ] at f0 f1 f2 f3 f4
    have hmem : ∀ (j : Nat) (t : TypeId) (d : DataW H), ([44, 29, 45, 9, 46] : List TypeId)[j]? = some t → ([y0.1, y1.1, y2.1, y3.1, y4.1] : List (DataW H))[j]? = some d → ∀ m ∈ d.weights Tryd.prog t, m ≤ reachBytes := fun j t d h1 h2 m hm => hw m (by
      simp only [DataW.weights, Tryd.underlying48, List.map_cons, List.map_nil]
      exact DataW.weights_mem_each (ts := [44, 29, 45, 9, 46]) (ds := [y0.1, y1.1, y2.1, y3.1, y4.1]) h1 h2 m hm)
    obtain ⟨k, e0, _, wk⟩ := DataW.trod_int Tryd.underlying44 f0
    obtain ⟨m, e1, _, wm⟩ := DataW.trod_int Tryd.underlying29 f1
    obtain ⟨s, e3, e3x, ws⟩ := DataW.trod_string Tryd.underlying9 f3
    obtain ⟨a2, len2, cap2, vs2, e2, sl2, lf2, nl2⟩ := open_flat (ls := [5]) (sz := 1) Tryd.underlying45 (by kernel_rfl) rfl (by kernel_rfl) (by decide) f2
    obtain ⟨b, rfl⟩ := bytes_of Tryd.underlying5 sl2 lf2
    have hbn := sl2.n_len
    subst hbn
    have e0 := (List.cons.inj e0).1
    have e1 := (List.cons.inj e1).1
    have e2 := (List.cons.inj e2).1
    have e3 := (List.cons.inj e3).1
    subst e0; subst e1; subst e2; subst e3
    simp [Lit.wf, IntKind.min, IntKind.max, IntKind.signed, IntKind.bits] at wk wm
    have hbl : b.length ≤ 140737488355328 := by
      rcases nl2 with ⟨_, h0⟩ | ⟨es, sp, h1, h2⟩
      · omega
      · have := hmem 2 _ _ rfl rfl ((es.length + sp.length) * Tryd.prog.bytesOf 5) (by rw [h1]; simp [DataW.weights, Tryd.underlying45])
        rw [show Tryd.prog.bytesOf 5 = 1 by kernel_rfl] at this
        simp only [reachBytes] at this
        omega
    have hsl : s.size ≤ 140737488355328 := by
      have := hmem 3 _ _ rfl rfl s.data.toList.length (by rw [e3x]; simp [DataW.weights])
      have hsz : s.data.toList.length = s.size := Array.length_toList
      simp only [reachBytes] at this
      omega
    have hlist : ∃ (l : List It) (rows : List Rw) (v : Value), c4 = v ∧ SlS (fun k => k < w.heap.size) w 5 v l.length (rows.flatMap rwC) ∧ ItsR (fun k => k < w.heap.size) w l rows ∧ szOkL l ∧ kwL l := by
      rcases DataW.trod_slice' Tryd.underlying46 f4 with ⟨e4, _⟩ | ⟨a, len, cap, n', elems, rest, rfl, e4, hl, hm, hx, hlen, hel⟩
      · have e4 := (List.cons.inj e4).1
        exact ⟨[], [], _, e4, ⟨Sl.nil _ _, .inl rfl⟩, by unfold ItsR; rfl, trivial, trivial⟩
      · have e4 := (List.cons.inj e4).1
        have hin : ∀ i, i < len → ∃ q : It × Rw, w.cells? base (a.add (i * 5)) 5 = some (rwC q.2) ∧ ItR (fun k => k < w.heap.size) w q.1 q.2 ∧ szOk q.1 ∧ kwB q.1 := fun i hi => by
          have h1 := hel i hi
          rw [List.getElem?_eq_getElem (by omega), show Tryd.prog.cellsOf 48 = 5 by kernel_rfl] at h1
          obtain ⟨cs', h2, h3⟩ := Option.bind_eq_some_iff.1 h1
          obtain ⟨it, r, rfl, h4, h5, h6⟩ := ih n' (by omega) cs' _ h3 (fun m hm => by
            refine hmem 4 _ _ rfl rfl m ?_
            rw [hx]
            simp only [DataW.weights, Tryd.underlying46, List.mem_cons, List.mem_append]
            exact .inr (.inl (weightsAll_mem (d := elems[i].1) (List.mem_map.2 ⟨_, List.getElem_mem _, rfl⟩) hm)))
          exact ⟨(it, r), h2, h4, h5, h6⟩
        obtain ⟨F, hF⟩ := Go.Deep.choose_lt hin
        have hfl : ((List.range len).map fun i => (F i).2).flatMap rwC = (List.range len).flatMap fun i => rwC (F i).2 := by rw [List.flatMap_map]
        obtain ⟨g1, g2⟩ := flatMap_get (f := fun i => rwC (F i).2) (sz := 5) len (fun i _ => rfl)
        refine ⟨(List.range len).map fun i => (F i).1, (List.range len).map fun i => (F i).2, _, e4, ?_, ItsR.of (by simp) (fun i hi hr => by simp only [List.getElem_map, List.getElem_range]; exact (hF i (by simpa using hi)).2.1), ?_, kwL_all fun y hy => ?_⟩
        · refine slS_of ⟨by rw [hfl, g1]; simp, ?_⟩ (by decide) (fun k hk => hk)
          simp only [List.length_map, List.length_range]
          by_cases hz : len = 0
          · exact .inl ⟨_, _, by rw [hz], hz⟩
          · right
            have hcell : ∀ i j, i < len → j < 5 → w.cell? ((a.add (i * 5)).add j) = (rwC (F i).2)[j]? := fun i j hi hj => (World.cells?_some (hF i hi).1).2.2 j hj
            have hspot : a.spot = none := by
              have h1 := hcell 0 0 (by omega) (by decide)
              have h2 : (rwC (F 0).2)[0]? = some (.int .i64 (F 0).2.k) := rfl
              rw [h2] at h1
              have := World.cell?_spot h1
              simpa [Addr.add] using this
            obtain ⟨bb, off, spot⟩ := a
            simp only at hspot
            subst hspot
            refine ⟨bb, off, cap, rfl, hl, hm, fun j u hj => ?_⟩
            rw [hfl] at hj
            have hjl : j < len * 5 := by rw [← g1]; exact (List.getElem?_eq_some_iff.1 hj).1
            have hd : j / 5 < len := Nat.div_lt_of_lt_mul (by rw [Nat.mul_comm]; exact hjl)
            have he : j / 5 * 5 + j % 5 = j := by omega
            have h1 := g2 (j / 5) (j % 5) hd (by omega)
            rw [he, hj] at h1
            have h2 := hcell (j / 5) (j % 5) hd (by omega)
            rw [Addr.add_lit, Addr.add_lit, Nat.add_assoc, he, ← h1] at h2
            exact h2
        · clear g1 g2 hfl
          have : ∀ (L : List Nat), (∀ i ∈ L, i < len) → szOkL (L.map fun i => (F i).1) := by
            intro L
            induction L with
            | nil => intro _; trivial
            | cons i L ihL => intro hL; exact ⟨(hF i (hL i (by simp))).2.2.1, ihL fun j hj => hL j (by simp [hj])⟩
          exact this _ (fun i hi => List.mem_range.1 hi)
        · obtain ⟨i, hi, rfl⟩ := List.mem_map.1 hy
          exact (hF i (List.mem_range.1 hi)).2.2.2
    obtain ⟨l, rows, v, rfl, s4, i4, z4, k4⟩ := hlist
    refine ⟨.mk k m b s l, ⟨k, m, _, s, _⟩, rfl, ?_, ⟨⟨hbl, hsl⟩, z4⟩, ⟨⟨by omega, by omega⟩, k4⟩⟩
    unfold ItR
    exact ⟨rfl, rfl, rfl, ⟨by omega, by omega⟩, slS_of sl2 (by decide) (fun k hk => hk), rows, s4, i4⟩
end Go.Proofs.YtpfgepgjpnekdaaDoor

namespace Go.Proofs.YtpfgepgjpnekdaaDoor
open Go.RowKit
set_option linter.unusedVariables false
/-- The cells that a flat datum of integers stands for. -/
def cellsD : DataW Unit → Array Value
  | .agg l => (l.map fun | .lit (.int k z) => Value.int k z | _ => .int .i64 0).toArray
  | _ => #[]
theorem errVar {W : World} {n nm : String} {g : Nat} {d : DataW Unit} (hr : Lib.VarReads Tryd.prog W n (.iface nm d)) (hg : Tryd.prog.globalNamed n = some g) (hty : (Tryd.prog.globals[g]?).map (·.type) = some 121) :
    ∃ v, W.cell? ⟨g, 0, none⟩ = some v ∧ (v = .nilIface ∨ ∃ te pe, v = .iface te pe) := by
  obtain ⟨g', t, cs, fuel, p, h1, h2, h3, h4⟩ := hr
  obtain rfl := Option.some.inj (hg.symm.trans h1)
  obtain rfl := Option.some.inj (hty.symm.trans h2)
  obtain ⟨f1, u, v, hcs, _, _⟩ := iface_of_trod Tryd.underlying121 h4
  refine ⟨.iface u v, ?_, .inr ⟨u, v, rfl⟩⟩
  rw [World.var?_cell hg h3 0]
  obtain ⟨l⟩ := cs
  simp only at hcs
  subst hcs
  rfl
theorem powVar {W : World} {d : DataW Unit} (hd : d = Lib.tabData .u64 Lib.pow10Tab) (hr : Lib.VarReads Tryd.prog W "internal/strconv.uint64pow10" d) : Lib.TabIs Tryd.prog W "internal/strconv.uint64pow10" .u64 Lib.pow10Tab := by
  subst hd
  obtain ⟨g', t, cs, fuel, p, h1, h2, h3, h4⟩ := hr
  obtain rfl := Option.some.inj ((show Tryd.prog.globalNamed "internal/strconv.uint64pow10" = some 2 by kernel_rfl).symm.trans h1)
  obtain rfl := Option.some.inj ((show (Tryd.prog.globals[2]?).map (·.type) = some 160 by kernel_rfl).symm.trans h2)
  unfold Lib.TabIs
  rw [h3, ← Lib.cells_of_tab Tryd.underlying160 Tryd.underlying29 (by kernel_rfl) (by kernel_rfl) h4]
theorem nmT_of {W : World} {d0 d1 d2 : DataW Unit} {n1 n2 : String} (hd : d0 = Lib.tabData .u64 Lib.pow10Tab) (h0 : Lib.VarReads Tryd.prog W "internal/strconv.uint64pow10" d0) (h1 : Lib.VarReads Tryd.prog W "strconv.ErrRange" (.iface n1 d1)) (h2 : Lib.VarReads Tryd.prog W "strconv.ErrSyntax" (.iface n2 d2)) : NmT W :=
  ⟨powVar hd h0, errVar h2 (by kernel_rfl) (by kernel_rfl), errVar h1 (by kernel_rfl) (by kernel_rfl)⟩
end Go.Proofs.YtpfgepgjpnekdaaDoor
