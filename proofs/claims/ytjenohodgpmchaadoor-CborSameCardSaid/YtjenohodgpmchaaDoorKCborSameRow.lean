/-
  CbOp, CbUi, CborSame, CborSameRow: several texts in one (bundle.py).
-/
import Derived.Test.YtjenohodgpmchaaDoorCbK44
import Derived.Test.YtjenohodgpmchaaDoorCbK31
import Derived.Test.YtjenohodgpmchaaDoorCbK05
import Derived.Test.YtjenohodgpmchaaDoorCbK13
import Derived.Test.YtjenohodgpmchaaDoorCbK43
import Derived.Sort.LoopGhostIn
import Derived.Deep.LoopGhost
import Derived.Test.YtjenohodgpmchaaDoorRows
import Derived.Test.YtjenohodgpmchaaDoorCbK02
import Derived.SizedLaws
import Derived.Test.YtjenohodgpmchaaDoorTie
import Derived.Test.YtjenohodgpmchaaDoorCards
import Derived.Lib.LaidIn
import Derived.Lib.LaidU8T
import Derived.Deep.DeepHandedRow
import Derived.Deep.DeepWitnessRowRef
import Derived.PinnedBridge
import Derived.ProofKit
import Derived.SevenTiedAt
namespace Go.Proofs.YtjenohodgpmchaaDoor
open Go.RowKit Go.ChangeAt Cb
set_option linter.unusedSimpArgs false
set_option linter.unusedVariables false
theorem DataW.trod_slice' {H : Type} {enc : TypeId × Value → H} {P : Program} {w : World} {base : Nat} {spare : Nat → Bool} {held : Bool} {t e : TypeId} {fuel : Nat} {cs : List Value} {x : DataW H × List MemPlace} (ht : P.underlying t = some (.slice e)) (h : DataW.trod enc P w base spare held fuel t cs = some x) :
    (cs = [.slice none 0 0] ∧ x.1 = .nil) ∨ ∃ (a : Addr) (len cap n : Nat) (elems rest : List (DataW H × List MemPlace)), fuel = n + 1 ∧ cs = [.slice (some a) len cap] ∧ len ≤ cap ∧ cap ≤ maxLen ∧ x.1 = .slice (elems.map (·.1)) (rest.map (·.1)) ∧ elems.length = len ∧
      ∀ i, i < len → (w.cells? base (a.add (i * P.cellsOf e)) (P.cellsOf e)).bind (DataW.trod enc P w base spare held n e) = elems[i]? := by
  rcases DataW.trod_slice ht h with ⟨h0, h1⟩ | ⟨a, len, cap, elems, rest, n, hn, h1, h2, hb, hl, hm, hlen, hel, _⟩
  · exact .inl ⟨h0, by rw [h1]⟩
  · exact .inr ⟨a, len, cap, n, elems, rest, hn, h1, hl, hm, by rw [h2], hlen, hel⟩
instance : Inhabited (It × Rw) := ⟨(.mk 0 0 [] noS [], ⟨0, 0, .slice none 0 0, ⟨#[]⟩, .slice none 0 0⟩)⟩
theorem slS_of {S : Nat → Prop} {w : World} {sz n : Nat} {v : Value} {cs : List Value} (h : Sl w sz v n cs) (h0 : 0 < sz) (hS : ∀ k, k < w.heap.size → S k) : SlS S w sz v n cs := ⟨h, (h.blk h0).imp id fun f k hk => hS k (f k hk)⟩
set_option maxHeartbeats 2000000 in
set_option maxRecDepth 100000 in
theorem open_item {H : Type} {enc : TypeId × Value → H} {w : World} {base : Nat} {spare : Nat → Bool} {held : Bool} : ∀ (fuel : Nat) (cs : List Value) (x : DataW H × List MemPlace), DataW.trod enc Tryd.prog w base spare held fuel 28 cs = some x → (∀ n ∈ x.1.weights Tryd.prog 28, n ≤ reachBytes) →
    ∃ (it : It) (r : Rw), cs = rwC r ∧ ItR (fun k => k < w.heap.size) w it r ∧ szOk it ∧ kwB it := by
  intro fuel
  induction fuel using Nat.strongRecOn with
  | ind fuel ih =>
    intro cs x h hw
    obtain ⟨xs, n, rfl, rfl, hcl, hxl, hf⟩ := DataW.trod_struct Tryd.underlying28 h
    have hcl : cs.length = 5 := hcl.trans (by kernel_rfl)
    have hxl : xs.length = 5 := hxl
    match cs, hcl with
    | [c0, c1, c2, c3, c4], _ =>
    match xs, hxl with
    | [y0, y1, y2, y3, y4], _ =>
    have f0 := hf 0 { name := "Kind", type := 24, offset := 0, embedded := false, tag := "", pkgPath := "", byteOffset := 0 } rfl
    have f1 := hf 1 { name := "N", type := 25, offset := 1, embedded := false, tag := "", pkgPath := "", byteOffset := 8 } rfl
    have f2 := hf 2 { name := "B", type := 22, offset := 2, embedded := false, tag := "", pkgPath := "", byteOffset := 16 } rfl
    have f3 := hf 3 { name := "S", type := 9, offset := 3, embedded := false, tag := "", pkgPath := "", byteOffset := 40 } rfl
    have f4 := hf 4 { name := "L", type := 26, offset := 4, embedded := false, tag := "", pkgPath := "", byteOffset := 56 } rfl
    simp only [show Tryd.prog.cellsOf 24 = 1 by kernel_rfl, show Tryd.prog.cellsOf 25 = 1 by kernel_rfl, show Tryd.prog.cellsOf 22 = 1 by kernel_rfl, show Tryd.prog.cellsOf 9 = 1 by kernel_rfl, show Tryd.prog.cellsOf 26 = 1 by kernel_rfl, List.drop_zero, List.drop_succ_cons, List.take_succ_cons, List.take_zero, List.getElem?_cons_zero, List.getElem?_cons_succ] at f0 f1 f2 f3 f4
    have hmem : ∀ (j : Nat) (t : TypeId) (d : DataW H), ([24, 25, 22, 9, 26] : List TypeId)[j]? = some t → ([y0.1, y1.1, y2.1, y3.1, y4.1] : List (DataW H))[j]? = some d → ∀ m ∈ d.weights Tryd.prog t, m ≤ reachBytes := fun j t d h1 h2 m hm => hw m (by
      simp only [DataW.weights, Tryd.underlying28, List.map_cons, List.map_nil]
      exact DataW.weights_mem_each (ts := [24, 25, 22, 9, 26]) (ds := [y0.1, y1.1, y2.1, y3.1, y4.1]) h1 h2 m hm)
    obtain ⟨k, e0, _, wk⟩ := DataW.trod_int Tryd.underlying24 f0
    obtain ⟨m, e1, _, wm⟩ := DataW.trod_int Tryd.underlying25 f1
    obtain ⟨s, e3, e3x, ws⟩ := DataW.trod_string Tryd.underlying9 f3
    obtain ⟨a2, len2, cap2, vs2, e2, sl2, lf2, nl2⟩ := open_flat (ls := [5]) (sz := 1) Tryd.underlying22 (by kernel_rfl) rfl (by kernel_rfl) (by decide) f2
    obtain ⟨b, rfl⟩ := bytes_of Tryd.underlying5 sl2 lf2
    have hbn := sl2.n_len
    subst hbn
    have e0 := (List.cons.inj e0).1
    have e1 := (List.cons.inj e1).1
    have e2 := (List.cons.inj e2).1
    have e3 := (List.cons.inj e3).1
    subst e0; subst e1; subst e2; subst e3
    simp [Lit.wf, IntKind.min, IntKind.max, IntKind.signed, IntKind.bits] at wk wm
    have hbl : b.length ≤ 140737488355328 := by
      rcases nl2 with ⟨_, h0⟩ | ⟨es, sp, h1, h2⟩
      · omega
      · have := hmem 2 _ _ rfl rfl ((es.length + sp.length) * Tryd.prog.bytesOf 5) (by rw [h1]; simp [DataW.weights, Tryd.underlying22])
        rw [show Tryd.prog.bytesOf 5 = 1 by kernel_rfl] at this
        simp only [reachBytes] at this
        omega
    have hsl : s.size ≤ 140737488355328 := by
      have := hmem 3 _ _ rfl rfl s.data.toList.length (by rw [e3x]; simp [DataW.weights])
      have hsz : s.data.toList.length = s.size := Array.length_toList
      simp only [reachBytes] at this
      omega
    have hlist : ∃ (l : List It) (rows : List Rw) (v : Value), c4 = v ∧ SlS (fun k => k < w.heap.size) w 5 v l.length (rows.flatMap rwC) ∧ ItsR (fun k => k < w.heap.size) w l rows ∧ szOkL l ∧ kwL l := by
      rcases DataW.trod_slice' Tryd.underlying26 f4 with ⟨e4, _⟩ | ⟨a, len, cap, n', elems, rest, rfl, e4, hl, hm, hx, hlen, hel⟩
      · have e4 := (List.cons.inj e4).1
        exact ⟨[], [], _, e4, ⟨Sl.nil _ _, .inl rfl⟩, by unfold ItsR; rfl, trivial, trivial⟩
      · have e4 := (List.cons.inj e4).1
        have hin : ∀ i, i < len → ∃ q : It × Rw, w.cells? base (a.add (i * 5)) 5 = some (rwC q.2) ∧ ItR (fun k => k < w.heap.size) w q.1 q.2 ∧ szOk q.1 ∧ kwB q.1 := fun i hi => by
          have h1 := hel i hi
          rw [List.getElem?_eq_getElem (by omega), show Tryd.prog.cellsOf 28 = 5 by kernel_rfl] at h1
          obtain ⟨cs', h2, h3⟩ := Option.bind_eq_some_iff.1 h1
          obtain ⟨it, r, rfl, h4, h5, h6⟩ := ih n' (by omega) cs' _ h3 (fun m hm => by
            refine hmem 4 _ _ rfl rfl m ?_
            rw [hx]
            simp only [DataW.weights, Tryd.underlying26, List.mem_cons, List.mem_append]
            exact .inr (.inl (weightsAll_mem (d := elems[i].1) (List.mem_map.2 ⟨_, List.getElem_mem _, rfl⟩) hm)))
          exact ⟨(it, r), h2, h4, h5, h6⟩
        obtain ⟨F, hF⟩ := Go.Deep.choose_lt hin
        have hfl : ((List.range len).map fun i => (F i).2).flatMap rwC = (List.range len).flatMap fun i => rwC (F i).2 := by rw [List.flatMap_map]
        obtain ⟨g1, g2⟩ := flatMap_get (f := fun i => rwC (F i).2) (sz := 5) len (fun i _ => rfl)
        refine ⟨(List.range len).map fun i => (F i).1, (List.range len).map fun i => (F i).2, _, e4, ?_, ItsR.of (by simp) (fun i hi hr => by simp only [List.getElem_map, List.getElem_range]; exact (hF i (by simpa using hi)).2.1), ?_, kwL_all fun y hy => ?_⟩
        · refine slS_of ⟨by rw [hfl, g1]; simp, ?_⟩ (by decide) (fun k hk => hk)
          simp only [List.length_map, List.length_range]
          by_cases hz : len = 0
          · exact .inl ⟨_, _, by rw [hz], hz⟩
          · right
            have hcell : ∀ i j, i < len → j < 5 → w.cell? ((a.add (i * 5)).add j) = (rwC (F i).2)[j]? := fun i j hi hj => (World.cells?_some (hF i hi).1).2.2 j hj
            have hspot : a.spot = none := by
              have h1 := hcell 0 0 (by omega) (by decide)
              have h2 : (rwC (F 0).2)[0]? = some (.int .i64 (F 0).2.k) := rfl
              rw [h2] at h1
              have := World.cell?_spot h1
              simpa [Addr.add] using this
            obtain ⟨bb, off, spot⟩ := a
            simp only at hspot
            subst hspot
            refine ⟨bb, off, cap, rfl, hl, hm, fun j u hj => ?_⟩
            rw [hfl] at hj
            have hjl : j < len * 5 := by rw [← g1]; exact (List.getElem?_eq_some_iff.1 hj).1
            have hd : j / 5 < len := Nat.div_lt_of_lt_mul (by rw [Nat.mul_comm]; exact hjl)
            have he : j / 5 * 5 + j % 5 = j := by omega
            have h1 := g2 (j / 5) (j % 5) hd (by omega)
            rw [he, hj] at h1
            have h2 := hcell (j / 5) (j % 5) hd (by omega)
            rw [Addr.add_lit, Addr.add_lit, Nat.add_assoc, he, ← h1] at h2
            exact h2
        · clear g1 g2 hfl
          have : ∀ (L : List Nat), (∀ i ∈ L, i < len) → szOkL (L.map fun i => (F i).1) := by
            intro L
            induction L with
            | nil => intro _; trivial
            | cons i L ihL => intro hL; exact ⟨(hF i (hL i (by simp))).2.2.1, ihL fun j hj => hL j (by simp [hj])⟩
          exact this _ (fun i hi => List.mem_range.1 hi)
        · obtain ⟨i, hi, rfl⟩ := List.mem_map.1 hy
          exact (hF i (List.mem_range.1 hi)).2.2.2
    obtain ⟨l, rows, v, rfl, s4, i4, z4, k4⟩ := hlist
    refine ⟨.mk k m b s l, ⟨k, m, _, s, _⟩, rfl, ?_, ⟨⟨hbl, hsl⟩, z4⟩, ⟨⟨by omega, by omega⟩, k4⟩⟩
    unfold ItR
    exact ⟨rfl, rfl, rfl, ⟨by omega, by omega⟩, slS_of sl2 (by decide) (fun k hk => hk), rows, s4, i4⟩
end Go.Proofs.YtjenohodgpmchaaDoor

namespace Go.Proofs.YtjenohodgpmchaaDoor
open Go.RowKit Cb
set_option linter.unusedSimpArgs false
set_option linter.unusedVariables false
attribute [local go_sem] Oper.semAt_some
theorem wpIn_scopeS {P : Program} {n : Nat} {c : Code} {Q : Exit → Act → World → Prop} {a : Act} {w : World} (h : c.wpIn Fence.wide n P (Exit.noGoto Q) a w) : (Code.scope c).wpIn Fence.wide n P Q a w := wpIn_wide.2 (wp_scope_straight ((wpIn_wide (n := n)).1 h))
/-- The numbers among the records. -/
def usR (L : List Rw) : List Int := (L.filter fun r => r.k == 1).map (·.n)
theorem usR_split (L : List Rw) (j : Nat) : usR L = usR (L.take j) ++ usR (L.drop j) := by
  unfold usR
  rw [← List.map_append, ← List.filter_append, List.take_append_drop]
theorem usR_le (L : List Rw) (j : Nat) : (usR (L.take j)).length ≤ (usR L).length := by
  rw [usR_split L j, List.length_append]; omega
theorem usR_len (L : List Rw) : (usR L).length ≤ L.length := by
  unfold usR
  rw [List.length_map]
  exact List.length_filter_le _ _
theorem usR_one (L : List Rw) {j : Nat} (hj : j < L.length) : usR (L.take (j + 1)) = usR (L.take j) ++ if L[j].k = 1 then [L[j].n] else [] := by
  rw [List.take_succ_eq_append_getElem hj]
  unfold usR
  rw [List.filter_append, List.map_append]
  congr 1
  by_cases h : L[j].k = 1
  · simp [h]
  · simp [h]
def usAt (U : List Int) (k : Nat) : Int := U.getD k 0
theorem usR_yes (L : List Rw) {j : Nat} (hj : j < L.length) (h : L[j].k = 1) : (usR (L.take (j + 1))).length = (usR (L.take j)).length + 1 ∧ (usR (L.take j)).length < (usR L).length ∧ usAt (usR L) (usR (L.take j)).length = L[j].n := by
  have h1 := usR_one L hj
  rw [if_pos h] at h1
  have h2 : (usR (L.take (j + 1))).length = (usR (L.take j)).length + 1 := by rw [h1]; simp
  have h3 := usR_le L (j + 1)
  refine ⟨h2, by omega, ?_⟩
  unfold usAt
  rw [usR_split L (j + 1), h1]
  simp
theorem usR_no (L : List Rw) {j : Nat} (hj : j < L.length) (h : L[j].k ≠ 1) : (usR (L.take (j + 1))).length = (usR (L.take j)).length := by
  rw [usR_one L hj, if_neg h]; simp
def usI (r : Rw) (L : List Rw) : List Int := if r.k = 4 then usR L else []
def usArgs (U : List Int) (k : Nat) : Array Value := #[.int .u64 (usAt U k)]
set_option maxRecDepth 100000 in
theorem uints_c (r : Rw) (hsh : Shp r) (w : World) : Calls Tryd.prog 22 #[rwV r] w fun en w' => en = .returned (.func (.func 42) #[] #[.pointer (some ⟨w.heap.size, 0, none⟩)]) ∧ w' = w.alloc (.cells (rwC r).toArray 28) := by
  have hmf : ∀ (fn : Fn) (first cap : Array Value) (w : World), (Instr.makeFunc fn first cap).run Tryd.prog w = .ok (.func fn first cap) w := fun _ _ _ _ => rfl
  obtain ⟨k, n, ba, bn, bc, s, la, ln, lc, rfl⟩ := hsh
  go_enter Tryd.func22, Tryd.ntmps22
  go_wp2
  go_ret
  exact ⟨rfl, rfl⟩
theorem enters_ui1 : Enters Tryd.prog 42 := enters_of Tryd.func42 (by kernel_rfl) rfl
set_option maxHeartbeats 2000000 in
set_option maxRecDepth 100000 in
theorem ui1_x (r : Rw) (L : List Rw) (C n : Nat) (S : Nat → Prop) (w : World) (hr : RowAt w C (rwC r).toArray 28) (hl : Sl w 5 r.l n (L.flatMap rwC)) (hsh : ∀ r ∈ L, Shp r) (hs : Shp r) (hSS : S C ∧ (n = 0 ∨ ∀ k, r.l.ownBlock = some k → S k)) :
    SeqX Tryd.prog 42 #[.pointer (some ⟨C, 0, none⟩)] (usArgs (usI r L)) (usI r L).length S w := by
  intro l' G J Jx W hW hS hG hJ hJx hY h0
  have hE := hl.up hW
  have hR := hr.below hW
  have Hln := Lib.hid (Sl.recs (cells := rwC) (sz := 5) (fun _ => rfl) (by decide) hE)
  have hn := hE.n_max
  obtain ⟨k0, n0, ba, bn, bc, s, la, ln, lc, rfl⟩ := hs
  obtain rfl : n = ln := by obtain ⟨a, c, h⟩ := hE.len; simp at h; exact h.2.1.symm
  simp only at hE hSS
  have c0 : W.cell? ⟨C, 0, none⟩ = some (.int .i64 k0) := hR.cell (i := 0) rfl
  have c4 : W.cell? ⟨C, 4, none⟩ = some (.slice la n lc) := hR.cell (i := 4) rfl
  clear hl hr hR
  refine (callsIn_wide (n := 3)).1 ?_
  refine callsIn_of_wp Tryd.func42 rfl trivial ?_ rfl
  simp only [Tryd.ntmps42, List.size_toArray, List.length_cons, List.length_nil, Nat.reduceAdd, Nat.reduceSub, Array.replicate_succ, Array.replicate_zero, List.push_toArray, List.append_toArray, List.nil_append, List.cons_append]
  by_cases h4 : k0 = 4
  · subst h4
    have hU : usI ⟨4, n0, .slice ba bn bc, s, .slice la n lc⟩ L = usR L := rfl
    rw [hU] at hY ⊢
    clear hU
    gi_wp2
    refine wpIn_scopeS ?_
    gi_wp2
    refine wpIn_label ?_
    gi_wp2
    gi_loopw [11] (fun i wr => ∃ (j : Nat) (G : Nat → Prop), j ≤ n ∧ i = .int .i64 j ∧ J (usR (L.take j)).length G wr ∧ Sl wr 5 (.slice la n lc) n (L.flatMap rwC) ∧ (∀ k, S k → ¬ G k) ∧ W.heap.size ≤ wr.heap.size) (fun i _ => n - (intOf i).toNat)
    case atStart => exact ⟨0, G, Nat.zero_le _, rfl, h0, hE, fun k hk => (hS k hk).2, Nat.le_refl _⟩
    case round =>
      obtain ⟨j, G1, hk, rfl, hj, hE1, hG1, hsz⟩ := hrel
      by_cases hlt : j < n
      · have hlt' : j < L.length := by rw [Hln.out]; exact hlt
        obtain ⟨b, off, rfl, hr⟩ := hE1.rec_at (cells := rwC) (sz := 5) (fun _ => rfl) hlt hlt'
        have hjn : (j : Int) < (n : Int) := by omega
        have hes := hsh L[j] (List.getElem_mem hlt')
        have HY := Lib.hid (usR_yes L hlt')
        have HNo := Lib.hid (usR_no L hlt')
        generalize L[j] = e at *
        obtain ⟨k1, n1, ba1, bn1, bc1, s1, la1, ln1, lc1, rfl⟩ := hes
        have hJa := (hJ _).alloc (.cells (rwC ⟨k1, n1, .slice ba1 bn1 bc1, s1, .slice la1 ln1 lc1⟩).toArray 28) (((hJ _).up (Nat.le_refl _)) _ _ _ hj (But.refl _ _))
        have E1 := RowAt.new wr (rwC ⟨k1, n1, .slice ba1 bn1 bc1, s1, .slice la1 ln1 lc1⟩).toArray 28
        have hEa := hE1.but (But.alloc (O := fun _ => False) wr (.cells (rwC ⟨k1, n1, .slice ba1 bn1 bc1, s1, .slice la1 ln1 lc1⟩).toArray 28)) (.inr fun _ _ h => h)
        by_cases h1 : k1 = 1
        · subst h1
          obtain ⟨hy1, hy2, hy3⟩ := HY.out rfl
          have hpa : usArgs (usR L) (usR (L.take j)).length = #[.int .u64 n1] := by unfold usArgs; rw [hy3]
          obtain ⟨fn, tmps, assign, body, hy, hR⟩ := yieldAt_wide (m' := 2) (hY _ _ _ hy2 hJa)
          rw [hpa] at hy
          clear hpa
          have HY1 := Lib.hid hy1
          have HY2 := Lib.hid hy2
          clear hy1 hy2 hy3
          gi_wp2_with (first
            | (refine wpListIn_loadr rfl 28 (.tmp 13) rfl b (off + j * 5) rfl (rwC ⟨1, n1, .slice ba1 bn1 bc1, s1, .slice la1 ln1 lc1⟩) _ hr Tryd.underlying28 rfl (by kernel_rfl) ?_))
          refine hR.mono ?_
          rintro en W3 ⟨g, rfl, hw⟩
          have hE3 := hEa.but hw.but (hSS.2.elim .inl fun h => .inr fun k hk => hG1 k (h k hk))
          have hs3 := hw.but.size
          simp only [World.size_alloc] at hs3
          cases g with
          | true =>
            gi_wp2
            go_roundw
            case rel => exact ⟨j + 1, _, by omega, by go_num, by rw [HY1.out]; exact hw.on rfl, hE3, fun k hk => newG_not (hG1 k hk) (by have := (hS k hk).1; simp; omega), by omega⟩
            case measure => simp [intOf]; omega
          | false =>
            gi_wp2
            rw [Exit.noGoto_normal]
            go_end0
            exact ⟨⟨_, rfl⟩, _, .inr ⟨_, HY2.out, hw.off rfl⟩⟩
        · have hno := HNo.out h1
          have Hno := Lib.hid hno
          clear hno
          have hkb : (k1 == 1) = false := by simpa using h1
          gi_wp2_with (first
            | (refine wpListIn_loadr rfl 28 (.tmp 13) rfl b (off + j * 5) rfl (rwC ⟨k1, n1, .slice ba1 bn1 bc1, s1, .slice la1 ln1 lc1⟩) _ hr Tryd.underlying28 rfl (by kernel_rfl) ?_))
          repeat (refine ⟨fun f hf => (by cases hf), ?_⟩; gi_wp2)
          go_roundw
          case rel => exact ⟨j + 1, G1, by omega, by go_num, by rw [Hno.out]; exact hJa, hEa, hG1, by simp; omega⟩
          case measure => simp [intOf]; omega
      · obtain rfl : j = n := by omega
        have Hall := Lib.hid (show L.take j = L from List.take_of_length_le (by rw [Hln.out]; exact Nat.le_refl _))
        gi_wp2
        rw [Exit.noGoto_normal]
        go_end0
        exact ⟨⟨_, rfl⟩, _, .inl (by rw [Hall.out] at hj; exact hj)⟩
  · have hU : usI ⟨k0, n0, .slice ba bn bc, s, .slice la n lc⟩ L = [] := if_neg h4
    rw [hU]
    gi_wp2
    refine wpIn_scopeS ?_
    gi_wp2
    rw [Exit.noGoto_ret]
    refine bodyPost_ret (results_none rfl _ _ _) rfl ?_
    exact ⟨⟨_, rfl⟩, _, .inl h0⟩
end Go.Proofs.YtjenohodgpmchaaDoor

namespace Go.Proofs.YtjenohodgpmchaaDoor
open Go.RowKit Cb
set_option linter.unusedSimpArgs false
set_option linter.unusedVariables false
attribute [local go_sem] Oper.semAt_some
/-- The law's own first blocks. -/
structure OwC (w wr : World) (r t : Rw) (many : Int) : Prop where
  below : Below w.heap.size w wr
  a : RowAt wr w.heap.size (rwC r).toArray 28
  b : RowAt wr (w.heap.size + 1) (rwC t).toArray 28
  num : RowAt wr (w.heap.size + 2) #[.int .i64 many] 3
  res : RowAt wr (w.heap.size + 3) #[.bool false] 4
theorem OwC.up {w wr w2 : World} {r t : Rw} {many : Int} (h : OwC w wr r t many) (hb : Below wr.heap.size wr w2) : OwC w w2 r t many := ⟨below_up h.below hb, h.a.below hb, h.b.below hb, h.num.below hb, h.res.below hb⟩
theorem OwC.start (w : World) (r t : Rw) (many : Int) : OwC w ((((w.alloc (.cells (rwC r).toArray 28)).alloc (.cells (rwC t).toArray 28)).alloc (.cells #[.int .i64 many] 3)).alloc (.cells #[.bool false] 4)) r t many := by
  have h1 := RowAt.new w (rwC r).toArray 28
  have h2 := RowAt.new (w.alloc (.cells (rwC r).toArray 28)) (rwC t).toArray 28
  have h3 := RowAt.new ((w.alloc (.cells (rwC r).toArray 28)).alloc (.cells (rwC t).toArray 28)) #[.int .i64 many] 3
  have h4 := RowAt.new (((w.alloc (.cells (rwC r).toArray 28)).alloc (.cells (rwC t).toArray 28)).alloc (.cells #[.int .i64 many] 3)) #[.bool false] 4
  simp only [World.size_alloc, Nat.add_assoc, Nat.reduceAdd] at h2 h3 h4
  exact ⟨(((below_alloc w _).alloc (by simp) _).alloc (by simp only [World.size_alloc]; omega) _).alloc (by simp only [World.size_alloc]; omega) _, ((h1.below (below_alloc _ _)).below (below_alloc _ _)).below (below_alloc _ _), (h2.below (below_alloc _ _)).below (below_alloc _ _), h3.below (below_alloc _ _), h4⟩
/-- A turn's counters: numbers told, the place behind the last of them. -/
structure CtS (wr : World) (k at_ : Nat) (G : Nat → Prop) (W : World) : Prop where
  below : Below wr.heap.size wr W
  cnt : RowAt W wr.heap.size #[.int .i64 k] 3
  pos : RowAt W (wr.heap.size + 1) #[.int .i64 at_] 3
  g0 : G wr.heap.size
  g1 : G (wr.heap.size + 1)
  glow : ∀ j, G j → wr.heap.size ≤ j
theorem CtS.start (wr : World) : CtS wr 0 0 (fun j => j = wr.heap.size ∨ j = wr.heap.size + 1) ((wr.alloc (.cells #[.int .i64 0] 3)).alloc (.cells #[.int .i64 0] 3)) := by
  have h2 := RowAt.new (wr.alloc (.cells #[.int .i64 0] 3)) #[.int .i64 0] 3
  simp only [World.size_alloc] at h2
  exact ⟨(below_alloc _ _).alloc (by simp) _, (RowAt.new _ _ _).below (below_alloc _ _), h2, .inl rfl, .inr rfl, fun j h => by omega⟩
theorem CtS.abide {wr : World} {k q B : Nat} (hB : wr.heap.size + 1 ≤ B) : Abide B (CtS wr k q) := fun G A C h hb =>
  ⟨h.below.trans (hb.below (fun j e => by have := e.1; omega) h.below.size), (hb.same _ h.cnt.lt (fun e => e.2 h.g0)).trans h.cnt, (hb.same _ h.pos.lt (fun e => e.2 h.g1)).trans h.pos, h.g0, h.g1, h.glow⟩
theorem CtS.but {wr : World} {k q k' q' : Nat} {G : Nat → Prop} {W W' : World} (h : CtS wr k q G W) (hb : But G W W') (h1 : RowAt W' wr.heap.size #[.int .i64 k'] 3) (h2 : RowAt W' (wr.heap.size + 1) #[.int .i64 q'] 3) : CtS wr k' q' G W' :=
  ⟨h.below.trans (hb.below h.glow h.below.size), h1, h2, h.g0, h.g1, h.glow⟩
theorem CtS.pos1 {wr : World} {k q : Nat} {G : Nat → Prop} {W : World} (h : CtS wr k q G W) : But G W (W.setCell ⟨wr.heap.size + 1, 0, none⟩ (.int .i64 ((q : Int) + 1))) ∧ CtS wr k (q + 1) G (W.setCell ⟨wr.heap.size + 1, 0, none⟩ (.int .i64 ((q : Int) + 1))) := by
  have hb : But G W (W.setCell ⟨wr.heap.size + 1, 0, none⟩ (.int .i64 ((q : Int) + 1))) := But.setCell _ _ _ (.inl h.g1)
  exact ⟨hb, h.but hb (by
    have h0 : RowAt (W.setCell ⟨wr.heap.size + 1, 0, none⟩ (.int .i64 ((q : Int) + 1))) wr.heap.size #[.int .i64 k] 3 := by
      have := h.cnt
      unfold RowAt at this ⊢
      rw [Below.heap_setCell _ _ _ _ (by simp)]
      exact this
    exact h0) (h.pos.set 0 (.int .i64 ((q : Int) + 1)))⟩
theorem CtS.cnt1 {wr : World} {k q : Nat} {G : Nat → Prop} {W : World} (h : CtS wr k q G W) : But G W (W.setCell ⟨wr.heap.size, 0, none⟩ (.int .i64 ((k : Int) + 1))) ∧ CtS wr (k + 1) q G (W.setCell ⟨wr.heap.size, 0, none⟩ (.int .i64 ((k : Int) + 1))) := by
  have hb : But G W (W.setCell ⟨wr.heap.size, 0, none⟩ (.int .i64 ((k : Int) + 1))) := But.setCell _ _ _ (.inl h.g0)
  exact ⟨hb, h.but hb (h.cnt.set 0 (.int .i64 ((k : Int) + 1))) (by
    have h0 : RowAt (W.setCell ⟨wr.heap.size, 0, none⟩ (.int .i64 ((k : Int) + 1))) (wr.heap.size + 1) #[.int .i64 q] 3 := by
      have := h.pos
      unfold RowAt at this ⊢
      rw [Below.heap_setCell _ _ _ _ (by simp)]
      exact this
    exact h0)⟩
theorem CtS.new {wr : World} {k q : Nat} {G : Nat → Prop} {W0 W : World} (h : CtS wr k q G W) (hw : wr.heap.size ≤ W0.heap.size) : CtS wr k q (newG G W0 W) W :=
  ⟨h.below, h.cnt, h.pos, .inl h.g0, .inl h.g1, fun j e => by rcases e with e | e; exact h.glow j e; omega⟩
set_option maxHeartbeats 16000000 in
set_option maxRecDepth 100000 in
theorem cborSame_law (x y : It) (r ry : Rw) (many : Int) (w0 : World) (hr : ItR (fun k => k < w0.heap.size) w0 x r) (hsz : szOk x) (hkw : kwB x) (hry : ItR (fun k => k < w0.heap.size) w0 y ry) (hszy : szOk y) (hkwy : kwB y) (hT : Tabs w0) :
    Calls Tryd.prog 7 #[rwV r, rwV ry, .int .i64 many] w0 (Ret (.bool true) w0) := by
  have HT0 := Lib.hid hT
  obtain ⟨rows, p⟩ := hr.parts
  have hu := p.l
  have hshp := p.each.shp
  have hcl := cntL_len x.l
  have hcl2 : cntL x.l < cnt x := by cases x; simp only [cnt, It.l]; omega
  clear p
  have hsh := hr.shape
  obtain ⟨k0, n0, ba0, bn0, bc0, s0, la0, NL, lc0, rfl⟩ := hsh
  have hsh := hry.shape
  obtain ⟨k1, n1, ba1, bn1, bc1, s1, la1, ln1, lc1, rfl⟩ := hsh
  simp only at hu
  have hnl : NL = x.l.length := by obtain ⟨a, c, h⟩ := hu.cell; simp at h; exact h.2.1
  rw [← hnl] at hu hcl
  have HNX := Lib.hid hnl
  clear hnl
  have HLn := Lib.hid (Sl.recs (cells := rwC) (sz := 5) (fun _ => rfl) (by decide) hu.1)
  have O1 := OwC.start w0 ⟨k0, n0, .slice ba0 bn0 bc0, s0, .slice la0 NL lc0⟩ ⟨k1, n1, .slice ba1 bn1 bc1, s1, .slice la1 ln1 lc1⟩ many
  have HB := Lib.hid O1.below
  have HO := Lib.hid O1
  have HA := Lib.hid (hr.up O1.below)
  have HBI := Lib.hid (hry.up O1.below)
  have HU := Lib.hid (hu.1.up O1.below)
  have hud := hu.2
  have hlf : NL = 0 ∨ ∀ k, (Value.slice la0 NL lc0).ownBlock = some k → k < w0.heap.size := hud
  clear hud hu hr hry hT
  refine (callsIn_wide (n := 3)).1 ?_
  refine callsIn_of_wp_marks Tryd.func7 rfl trivial ?_ rfl
  simp only [Tryd.ntmps7, List.size_toArray, List.length_cons, List.length_nil, Nat.reduceAdd, Nat.reduceSub, Array.replicate_succ, Array.replicate_zero, List.push_toArray, List.append_toArray, List.nil_append, List.cons_append]
  refine wpIn_wide.2 ?_
  have hcx0 := count_c _ x 12 _ _ (by decide) HA.out hsz
  clear O1
  have fa0 := HO.out.a.cell (i := 0) rfl
  have fa1 := HO.out.a.cell (i := 1) rfl
  have fa2 := HO.out.a.cell (i := 2) rfl
  have fa3 := HO.out.a.cell (i := 3) rfl
  have fa4 := HO.out.a.cell (i := 4) rfl
  have fb0 := HO.out.b.cell (i := 0) rfl
  have fb1 := HO.out.b.cell (i := 1) rfl
  have fb2 := HO.out.b.cell (i := 2) rfl
  have fb3 := HO.out.b.cell (i := 3) rfl
  have fb4 := HO.out.b.cell (i := 4) rfl
  go_wp2_with fail
  clear fa0 fa1 fa2 fa3 fa4
  clear fb0 fb1 fb2 fb3 fb4
  go_at_call 17
  refine hcx0.mono ?_
  rintro en wq ⟨hq, v1, rfl, hv1, hcv1⟩
  replace HB := Lib.hid (below_up HB.out hq)
  replace HO := Lib.hid (HO.out.up hq)
  replace HA := Lib.hid (HA.out.up hq)
  replace HBI := Lib.hid (HBI.out.up hq)
  replace HU := Lib.hid (HU.out.up hq)
  clear hq
  clear hcx0
  by_cases hle1 : v1 ≤ 3000
  · have hl1 : decide (3000 < v1) = false := decide_eq_false (by omega)
    have hl12 : decide (v1 > 3000) = false := decide_eq_false (by omega)
    have hcx : cnt x ≤ 3000 := by have := hcv1 hle1; omega
    have fa0 := HO.out.a.cell (i := 0) rfl
    have fa1 := HO.out.a.cell (i := 1) rfl
    have fa2 := HO.out.a.cell (i := 2) rfl
    have fa3 := HO.out.a.cell (i := 3) rfl
    have fa4 := HO.out.a.cell (i := 4) rfl
    have fb0 := HO.out.b.cell (i := 0) rfl
    have fb1 := HO.out.b.cell (i := 1) rfl
    have fb2 := HO.out.b.cell (i := 2) rfl
    have fb3 := HO.out.b.cell (i := 3) rfl
    have fb4 := HO.out.b.cell (i := 4) rfl
    go_wp2_with fail
    clear fa0 fa1 fa2 fa3 fa4
    clear fb0 fb1 fb2 fb3 fb4
    have hcy0 := count_c _ y 12 _ _ (by decide) HBI.out hszy
    go_at_call 17
    refine hcy0.mono ?_
    rintro en wq ⟨hq, v2, rfl, hv2, hcv2⟩
    replace HB := Lib.hid (below_up HB.out hq)
    replace HO := Lib.hid (HO.out.up hq)
    replace HA := Lib.hid (HA.out.up hq)
    replace HBI := Lib.hid (HBI.out.up hq)
    replace HU := Lib.hid (HU.out.up hq)
    clear hq
    clear hcy0
    by_cases hle2 : v2 ≤ 3000
    · have hl2 : decide (3000 < v2) = false := decide_eq_false (by omega)
      have hl22 : decide (v2 > 3000) = false := decide_eq_false (by omega)
      have hcy : cnt y ≤ 3000 := by have := hcv2 hle2; omega
      clear hcv1 hcv2
      have fa0 := HO.out.a.cell (i := 0) rfl
      have fa1 := HO.out.a.cell (i := 1) rfl
      have fa2 := HO.out.a.cell (i := 2) rfl
      have fa3 := HO.out.a.cell (i := 3) rfl
      have fa4 := HO.out.a.cell (i := 4) rfl
      have fb0 := HO.out.b.cell (i := 0) rfl
      have fb1 := HO.out.b.cell (i := 1) rfl
      have fb2 := HO.out.b.cell (i := 2) rfl
      have fb3 := HO.out.b.cell (i := 3) rfl
      have fb4 := HO.out.b.cell (i := 4) rfl
      go_wp2_with fail
      clear fa0 fa1 fa2 fa3 fa4
      clear fb0 fb1 fb2 fb3 fb4
      obtain ⟨SB, hSB⟩ : ∃ b, sameB x y = b := ⟨_, rfl⟩
      have hne : (SB != SB) = false := by simp
      have hsm := sameR_c _ x y ⟨k0, n0, .slice ba0 bn0 bc0, s0, .slice la0 NL lc0⟩ ⟨k1, n1, .slice ba1 bn1 bc1, s1, .slice la1 ln1 lc1⟩ _ HA.out HBI.out (by omega) (by omega)
      rw [hSB] at hsm
      go_at_call 14
      refine hsm.mono ?_
      rintro en wq ⟨rfl, hq⟩
      clear hsm
      replace HB := Lib.hid (below_up HB.out hq)
      replace HO := Lib.hid (HO.out.up hq)
      replace HA := Lib.hid (HA.out.up hq)
      replace HBI := Lib.hid (HBI.out.up hq)
      replace HU := Lib.hid (HU.out.up hq)
      clear hq
      have fa0 := HO.out.a.cell (i := 0) rfl
      have fa1 := HO.out.a.cell (i := 1) rfl
      have fa2 := HO.out.a.cell (i := 2) rfl
      have fa3 := HO.out.a.cell (i := 3) rfl
      have fa4 := HO.out.a.cell (i := 4) rfl
      have fb0 := HO.out.b.cell (i := 0) rfl
      have fb1 := HO.out.b.cell (i := 1) rfl
      have fb2 := HO.out.b.cell (i := 2) rfl
      have fb3 := HO.out.b.cell (i := 3) rfl
      have fb4 := HO.out.b.cell (i := 4) rfl
      go_wp2_with fail
      clear fa0 fa1 fa2 fa3 fa4
      clear fb0 fb1 fb2 fb3 fb4
      have hsm := cbSame_c _ x y ⟨k0, n0, .slice ba0 bn0 bc0, s0, .slice la0 NL lc0⟩ ⟨k1, n1, .slice ba1 bn1 bc1, s1, .slice la1 ln1 lc1⟩ _ HA.out HBI.out (by omega) (by omega)
      rw [hSB] at hsm
      go_at_call 18
      refine hsm.mono ?_
      rintro en wq ⟨rfl, hq⟩
      clear hsm
      replace HB := Lib.hid (below_up HB.out hq)
      replace HO := Lib.hid (HO.out.up hq)
      replace HA := Lib.hid (HA.out.up hq)
      replace HBI := Lib.hid (HBI.out.up hq)
      replace HU := Lib.hid (HU.out.up hq)
      clear hq
      have fa0 := HO.out.a.cell (i := 0) rfl
      have fa1 := HO.out.a.cell (i := 1) rfl
      have fa2 := HO.out.a.cell (i := 2) rfl
      have fa3 := HO.out.a.cell (i := 3) rfl
      have fa4 := HO.out.a.cell (i := 4) rfl
      have fb0 := HO.out.b.cell (i := 0) rfl
      have fb1 := HO.out.b.cell (i := 1) rfl
      have fb2 := HO.out.b.cell (i := 2) rfl
      have fb3 := HO.out.b.cell (i := 3) rfl
      have fb4 := HO.out.b.cell (i := 4) rfl
      go_wp2_with fail
      clear fa0 fa1 fa2 fa3 fa4
      clear fb0 fb1 fb2 fb3 fb4
      have hsm := cbSame_c _ y x ⟨k1, n1, .slice ba1 bn1 bc1, s1, .slice la1 ln1 lc1⟩ ⟨k0, n0, .slice ba0 bn0 bc0, s0, .slice la0 NL lc0⟩ _ HBI.out HA.out (by omega) (by omega)
      rw [sameB_comm, hSB] at hsm
      go_at_call 18
      refine hsm.mono ?_
      rintro en wq ⟨rfl, hq⟩
      clear hsm
      replace HB := Lib.hid (below_up HB.out hq)
      replace HO := Lib.hid (HO.out.up hq)
      replace HA := Lib.hid (HA.out.up hq)
      replace HBI := Lib.hid (HBI.out.up hq)
      replace HU := Lib.hid (HU.out.up hq)
      clear hq
      have fa0 := HO.out.a.cell (i := 0) rfl
      have fa1 := HO.out.a.cell (i := 1) rfl
      have fa2 := HO.out.a.cell (i := 2) rfl
      have fa3 := HO.out.a.cell (i := 3) rfl
      have fa4 := HO.out.a.cell (i := 4) rfl
      have fb0 := HO.out.b.cell (i := 0) rfl
      have fb1 := HO.out.b.cell (i := 1) rfl
      have fb2 := HO.out.b.cell (i := 2) rfl
      have fb3 := HO.out.b.cell (i := 3) rfl
      have fb4 := HO.out.b.cell (i := 4) rfl
      go_wp2_with fail
      clear fa0 fa1 fa2 fa3 fa4
      clear fb0 fb1 fb2 fb3 fb4
      have hsm := cbSame_c _ x x ⟨k0, n0, .slice ba0 bn0 bc0, s0, .slice la0 NL lc0⟩ ⟨k0, n0, .slice ba0 bn0 bc0, s0, .slice la0 NL lc0⟩ _ HA.out HA.out (by omega) (by omega)
      rw [sameB_refl] at hsm
      go_at_call 18
      refine hsm.mono ?_
      rintro en wq ⟨rfl, hq⟩
      clear hsm
      replace HB := Lib.hid (below_up HB.out hq)
      replace HO := Lib.hid (HO.out.up hq)
      replace HA := Lib.hid (HA.out.up hq)
      replace HBI := Lib.hid (HBI.out.up hq)
      replace HU := Lib.hid (HU.out.up hq)
      clear hq
      have fa0 := HO.out.a.cell (i := 0) rfl
      have fa1 := HO.out.a.cell (i := 1) rfl
      have fa2 := HO.out.a.cell (i := 2) rfl
      have fa3 := HO.out.a.cell (i := 3) rfl
      have fa4 := HO.out.a.cell (i := 4) rfl
      have fb0 := HO.out.b.cell (i := 0) rfl
      have fb1 := HO.out.b.cell (i := 1) rfl
      have fb2 := HO.out.b.cell (i := 2) rfl
      have fb3 := HO.out.b.cell (i := 3) rfl
      have fb4 := HO.out.b.cell (i := 4) rfl
      go_wp2_with fail
      clear fa0 fa1 fa2 fa3 fa4
      clear fb0 fb1 fb2 fb3 fb4
      clear hne hle1 hle2 hv1 hv2
      go_at_call 22
      refine (uints_c ⟨k0, n0, .slice ba0 bn0 bc0, s0, .slice la0 NL lc0⟩ ⟨_, _, _, _, _, _, _, _, _, rfl⟩ wq).mono ?_
      rintro en wz ⟨rfl, rfl⟩
      have HX := Lib.hid (RowAt.new wq (rwC ⟨k0, n0, .slice ba0 bn0 bc0, s0, .slice la0 NL lc0⟩).toArray 28)
      have hq := below_alloc wq (.cells (rwC ⟨k0, n0, .slice ba0 bn0 bc0, s0, .slice la0 NL lc0⟩).toArray 28)
      obtain ⟨X, hX⟩ : ∃ X, wq.heap.size = X := ⟨_, rfl⟩
      have hX2 : w0.heap.size + 3 < X := by have := HO.out.res.lt; omega
      replace HB := Lib.hid (below_up HB.out hq)
      replace HO := Lib.hid (HO.out.up hq)
      replace HA := Lib.hid (HA.out.up hq)
      replace HBI := Lib.hid (HBI.out.up hq)
      replace HU := Lib.hid (HU.out.up hq)
      clear hq
      rw [hX] at HX
      have hw2X : RowKit.Hid ((wq.alloc (.cells (rwC ⟨k0, n0, .slice ba0 bn0 bc0, s0, .slice la0 NL lc0⟩).toArray 28)).heap.size = X + 1) := Lib.hid (by rw [World.size_alloc, hX])
      rw [hX]
      obtain ⟨w2, hw2⟩ : ∃ w2, wq.alloc (.cells (rwC ⟨k0, n0, .slice ba0 bn0 bc0, s0, .slice la0 NL lc0⟩).toArray 28) = w2 := ⟨_, rfl⟩
      rw [hw2] at HX HB HO HA HBI HU hw2X ⊢
      clear hw2 hX
      have fa0 := HO.out.a.cell (i := 0) rfl
      have fa1 := HO.out.a.cell (i := 1) rfl
      have fa2 := HO.out.a.cell (i := 2) rfl
      have fa3 := HO.out.a.cell (i := 3) rfl
      have fa4 := HO.out.a.cell (i := 4) rfl
      have fb0 := HO.out.b.cell (i := 0) rfl
      have fb1 := HO.out.b.cell (i := 1) rfl
      have fb2 := HO.out.b.cell (i := 2) rfl
      have fb3 := HO.out.b.cell (i := 3) rfl
      have fb4 := HO.out.b.cell (i := 4) rfl
      go_wp2_with fail
      clear fa0 fa1 fa2 fa3 fa4
      clear fb0 fb1 fb2 fb3 fb4
      refine wp_loop_ghost_k (fun q a' W => ∃ (tn T : Nat) (Ds : List Nat), tn ≤ 2 ∧ q = 2 - tn ∧ a' = { tmps := #[a'.tmps.getD 0 undef, a'.tmps.getD 1 undef, a'.tmps.getD 2 undef, .pointer (some ⟨w0.heap.size, 0, none⟩), .pointer (some ⟨w0.heap.size + 1, 0, none⟩), .pointer (some ⟨w0.heap.size + 2, 0, none⟩), .pointer (some ⟨w0.heap.size + 3, 0, none⟩), a'.tmps.getD 7 undef, .func (.func 42) #[] #[.pointer (some ⟨X, 0, none⟩)], .pointer (some ⟨T, 0, none⟩), a'.tmps.getD 10 undef, a'.tmps.getD 11 undef, a'.tmps.getD 12 undef, a'.tmps.getD 13 undef, a'.tmps.getD 14 undef, a'.tmps.getD 15 undef, a'.tmps.getD 16 undef, a'.tmps.getD 17 undef, a'.tmps.getD 18 undef, a'.tmps.getD 19 undef, a'.tmps.getD 20 undef, a'.tmps.getD 21 undef, a'.tmps.getD 22 undef, a'.tmps.getD 23 undef, a'.tmps.getD 24 undef, a'.tmps.getD 25 undef, a'.tmps.getD 26 undef, a'.tmps.getD 27 undef, a'.tmps.getD 28 undef, a'.tmps.getD 29 undef, a'.tmps.getD 30 undef, a'.tmps.getD 31 undef, a'.tmps.getD 32 undef, a'.tmps.getD 33 undef, a'.tmps.getD 34 undef, a'.tmps.getD 35 undef, a'.tmps.getD 36 undef, a'.tmps.getD 37 undef, a'.tmps.getD 38 undef, a'.tmps.getD 39 undef, a'.tmps.getD 40 undef, a'.tmps.getD 41 undef, a'.tmps.getD 42 undef, a'.tmps.getD 43 undef, a'.tmps.getD 44 undef, a'.tmps.getD 45 undef, a'.tmps.getD 46 undef, a'.tmps.getD 47 undef, a'.tmps.getD 48 undef, a'.tmps.getD 49 undef, a'.tmps.getD 50 undef, a'.tmps.getD 51 undef, a'.tmps.getD 52 undef, a'.tmps.getD 53 undef, a'.tmps.getD 54 undef, a'.tmps.getD 55 undef, a'.tmps.getD 56 undef, a'.tmps.getD 57 undef, a'.tmps.getD 58 undef, a'.tmps.getD 59 undef, a'.tmps.getD 60 undef, a'.tmps.getD 61 undef, a'.tmps.getD 62 undef, a'.tmps.getD 63 undef, a'.tmps.getD 64 undef, a'.tmps.getD 65 undef, a'.tmps.getD 66 undef, a'.tmps.getD 67 undef, a'.tmps.getD 68 undef, a'.tmps.getD 69 undef, a'.tmps.getD 70 undef, a'.tmps.getD 71 undef, a'.tmps.getD 72 undef, a'.tmps.getD 73 undef, a'.tmps.getD 74 undef, a'.tmps.getD 75 undef, a'.tmps.getD 76 undef, a'.tmps.getD 77 undef, a'.tmps.getD 78 undef, a'.tmps.getD 79 undef, a'.tmps.getD 80 undef, a'.tmps.getD 81 undef, a'.tmps.getD 82 undef, a'.tmps.getD 83 undef, a'.tmps.getD 84 undef, a'.tmps.getD 85 undef, a'.tmps.getD 86 undef, a'.tmps.getD 87 undef, a'.tmps.getD 88 undef, a'.tmps.getD 89 undef, a'.tmps.getD 90 undef, a'.tmps.getD 91 undef, a'.tmps.getD 92 undef, a'.tmps.getD 93 undef, a'.tmps.getD 94 undef, a'.tmps.getD 95 undef, a'.tmps.getD 96 undef, a'.tmps.getD 97 undef, a'.tmps.getD 98 undef, a'.tmps.getD 99 undef, a'.tmps.getD 100 undef, a'.tmps.getD 101 undef, a'.tmps.getD 102 undef, a'.tmps.getD 103 undef, a'.tmps.getD 104 undef, a'.tmps.getD 105 undef, a'.tmps.getD 106 undef, a'.tmps.getD 107 undef, a'.tmps.getD 108 undef, a'.tmps.getD 109 undef, a'.tmps.getD 110 undef, a'.tmps.getD 111 undef, a'.tmps.getD 112 undef, a'.tmps.getD 113 undef, a'.tmps.getD 114 undef, a'.tmps.getD 115 undef, a'.tmps.getD 116 undef, a'.tmps.getD 117 undef, a'.tmps.getD 118 undef, a'.tmps.getD 119 undef, a'.tmps.getD 120 undef, a'.tmps.getD 121 undef, a'.tmps.getD 122 undef], defers := Ds.map markD } ∧ TuI w2 T tn Ds W) 2 ⟨0, w2.heap.size, [], by omega, rfl, rfl, TuI.start w2⟩ ?round
      case round =>
        intro q a' W hinv J K hJ hK
        obtain ⟨tn, T, Ds, htn, hm, ha, hI⟩ := hinv
        obtain ⟨u, hu⟩ : ∃ u : Nat → Value, ∀ i, a'.tmps.getD i undef = u i := ⟨_, fun _ => rfl⟩
        simp only [hu] at ha
        clear hu
        subst ha hm
        have HJ := Lib.hid hJ
        clear hJ
        have O5 := Lib.hid (HO.out.up hI.below)
        have U5 := Lib.hid (HU.out.up hI.below)
        have X5 := Lib.hid (HX.out.below hI.below)
        have HI := Lib.hid hI
        have hT := hI.turn.cell (i := 0) rfl
        have fT := hI.turn.fz 0
        have hTl := hI.turn.lt
        have hT0 := hI.low
        have hWs := hI.below.size
        have hXW : X < W.heap.size := by have := hw2X.out; omega
        have hXT : X < T := by have := hw2X.out; omega
        clear hI
        rcases (show tn = 0 ∨ tn = 1 ∨ tn = 2 by omega) with rfl | rfl | rfl
        · replace hT : W.cell? ⟨T, 0, none⟩ = some (.int .i64 0) := hT
          replace HI := Lib.hid (show TuI w2 T 0 Ds W from HI.out)
          go_wp2
          have hba : Below W.heap.size W ((W.alloc (.cells #[.int .i64 0] 3)).alloc (.cells #[.int .i64 0] 3)) := (below_alloc _ _).alloc (by simp) _
          refine wpIn_wide.1 (wp_range_brk (n := 3) (S := fun q => q = X ∨ (0 < NL ∧ (Value.slice la0 NL lc0).ownBlock = some q)) (gf := 42) (lb := #[.pointer (some ⟨X, 0, none⟩)]) rfl enters_ui1
            (ui1_x ⟨k0, n0, .slice ba0 bn0 bc0, s0, .slice la0 NL lc0⟩ rows X NL _ _ (X5.out.below hba) (U5.out.up hba) hshp ⟨_, _, _, _, _, _, _, _, _, rfl⟩ ⟨.inl rfl, (Nat.eq_zero_or_pos NL).elim .inl fun h => .inr fun k hk => .inr ⟨h, hk⟩⟩) (Below.refl _ _) (fun _ => rfl)
            (fun j => j = W.heap.size ∨ j = W.heap.size + 1) (fun k h => by simp only [World.size_alloc]; omega) ?hS
            (fun k G W3 => ∃ q, q ≤ NL ∧ (usR (rows.take q)).length = k ∧ CtS W k q G W3)
            (fun k a' G W3 => a' = { tmps := #[u 0, u 1, u 2, .pointer (some ⟨w0.heap.size, 0, none⟩), .pointer (some ⟨w0.heap.size + 1, 0, none⟩), .pointer (some ⟨w0.heap.size + 2, 0, none⟩), .pointer (some ⟨w0.heap.size + 3, 0, none⟩), u 7, .func (.func 42) #[] #[.pointer (some ⟨X, 0, none⟩)], .pointer (some ⟨T, 0, none⟩), .pointer (some ⟨W.heap.size, 0, none⟩), .pointer (some ⟨W.heap.size + 1, 0, none⟩), .int .u64 (usAt (usI ⟨k0, n0, .slice ba0 bn0 bc0, s0, .slice la0 NL lc0⟩ rows) k), u 13, u 14, u 15, u 16, u 17, u 18, u 19, u 20, u 21, u 22, u 23, u 24, u 25, u 26, u 27, u 28, u 29, u 30, u 31, u 32, u 33, u 34, u 35, u 36, u 37, u 38, u 39, u 40, u 41, u 42, u 43, u 44, .int .i64 0, .bool true, u 47, u 48, .func (.func 42) #[] #[.pointer (some ⟨X, 0, none⟩)], .int .u64 (usAt (usI ⟨k0, n0, .slice ba0 bn0 bc0, s0, .slice la0 NL lc0⟩ rows) k), u 51, u 52, u 53, u 54, u 55, u 56, u 57, u 58, u 59, u 60, u 61, u 62, u 63, u 64, u 65, u 66, u 67, u 68, u 69, u 70, u 71, u 72, u 73, u 74, u 75, u 76, u 77, u 78, u 79, u 80, u 81, u 82, u 83, u 84, u 85, u 86, u 87, u 88, u 89, u 90, u 91, u 92, u 93, u 94, u 95, u 96, u 97, u 98, u 99, u 100, u 101, u 102, u 103, u 104, u 105, u 106, u 107, u 108, u 109, u 110, u 111, u 112, u 113, u 114, u 115, u 116, u 117, u 118, u 119, u 120, u 121, u 122], defers := [] } ∧ ∃ q, q ≤ NL ∧ (usR (rows.take q)).length = k ∧ CtS W k q G W3)
            (fun k G W3 => ∃ q, CtS W k q G W3)
            ?abI ?abM ?abX ⟨0, Nat.zero_le _, rfl, CtS.start W⟩ ?assign ?body ?done)
          case hS =>
            rintro q (rfl | ⟨hp, hq⟩)
            · exact ⟨by simp only [World.size_alloc]; omega, by omega⟩
            · rcases hlf with h | h
              · omega
              · have := h q hq
                have := HB.out.size
                exact ⟨by simp only [World.size_alloc]; omega, by omega⟩
          case abI =>
            rintro k G A B ⟨q, h1, h2, h⟩ hb
            exact ⟨q, h1, h2, CtS.abide (by simp only [World.size_alloc]; omega) G A B h hb⟩
          case abM =>
            rintro k a' G A B ⟨ha, q, h1, h2, h⟩ hb
            exact ⟨ha, q, h1, h2, CtS.abide (by simp only [World.size_alloc]; omega) G A B h hb⟩
          case abX =>
            rintro k G A B ⟨q, h⟩ hb
            exact ⟨q, CtS.abide (by simp only [World.size_alloc]; omega) G A B h hb⟩
          case assign =>
            intro l2 k G W3 K3 hk hi hK3
            simp only [usArgs]
            gi_wp2
            obtain ⟨q, h1, h2, h⟩ := hi
            exact hK3 _ _ (But.refl _ _) ⟨rfl, q, h1, h2, h.new h.below.size⟩
          case body =>
            rintro l2 k a' G W3 hk hl2 _ hGl ⟨rfl, q0, hq0, hq1, hR0⟩
            have hk4 : k0 = 4 := by
              by_cases h : k0 = 4
              · exact h
              · exact absurd hk (by simp [usI, h])
            have hUI : usI ⟨k0, n0, .slice ba0 bn0 bc0, s0, .slice la0 NL lc0⟩ rows = usR rows := if_pos hk4
            rw [hUI] at hk ⊢
            have hb0 : But G W3 W3 := But.refl _ _
            gi_wp2
            gi_loopg [] (NL - q0) (fun gh wr => ∃ q, q ≤ NL ∧ gh = NL - q ∧ (usR (rows.take q)).length = k ∧ CtS W k q G wr ∧ But G W3 wr)
            case atStart => exact ⟨q0, hq0, rfl, hq1, hR0, hb0⟩
            case round =>
              obtain ⟨q, hqn, rfl, hqk, hR, hbt⟩ := hrel
              have O6 := O5.out.up hR.below
              have U6 := U5.out.up hR.below
              have X6 := X5.out.below hR.below
              have hql : q < NL := by
                rcases Nat.lt_or_ge q NL with h | h
                · exact h
                · rw [List.take_of_length_le (by rw [HLn.out]; exact h)] at hqk
                  omega
              have hqr : q < rows.length := by rw [HLn.out]; exact hql
              obtain ⟨b, off, rfl, hr⟩ := U6.rec_at (cells := rwC) (sz := 5) (fun _ => rfl) hql hqr
              have hsx := hshp rows[q] (List.getElem_mem hqr)
              have HY := Lib.hid (usR_yes rows hqr)
              have HNo := Lib.hid (usR_no rows hqr)
              generalize rows[q] = e at *
              obtain ⟨ke, ne, bae, bne, bce, se, lae, lne, lce, rfl⟩ := hsx
              have e0 := hr 0 _ rfl
              have e1 := hr 1 _ rfl
              simp only [Nat.add_zero] at e0
              have c0 : wr.cell? ⟨w0.heap.size, 0, none⟩ = some (.int .i64 k0) := O6.a.cell (i := 0) rfl
              rw [hk4] at c0
              have c4 : wr.cell? ⟨w0.heap.size, 4, none⟩ = some (.slice (some ⟨b, off, none⟩) NL lc0) := O6.a.cell (i := 4) rfl
              have cm : wr.cell? ⟨w0.heap.size + 2, 0, none⟩ = some (.int .i64 many) := O6.num.cell (i := 0) rfl
              have p0 : wr.cell? ⟨W.heap.size + 1, 0, none⟩ = some (.int .i64 q) := hR.pos.cell (i := 0) rfl
              have fp := hR.pos.fz 0
              have n0' : wr.cell? ⟨W.heap.size, 0, none⟩ = some (.int .i64 k) := hR.cnt.cell (i := 0) rfl
              have fn := hR.cnt.fz 0
              have aT := cell_up hR.below hT
              have hqi : (q : Int) < (NL : Int) := by omega
              have hqi2 : ¬ (NL : Int) ≤ (q : Int) := by omega
              have hqs : decide ((q : Int) < (NL : Int)) = true := decide_eq_true hqi
              have hkb : (k : Int) ≤ 5000 := by have := usR_len rows; rw [HLn.out] at this; omega
              have P1 := Lib.hid hR.pos1
              have P2 := Lib.hid (hR.pos1.2.cnt1)
              have hbW := Lib.hid hR0.below.size
              have HRR := Lib.hid hR
              by_cases he : ke = 1
              · subst he
                obtain ⟨hy1, hy2, hy3⟩ := HY.out rfl
                rw [hqk] at hy3 hy1
                have HY1 := Lib.hid hy1
                clear hy1 hy2 HY HNo hqk
                by_cases hmq : many ≤ (k : Int) + 1
                · gi_wp2
                  exact ⟨(hbt.trans P1.out.1).trans P2.out.1, rfl, q + 1, P2.out.2.new hbW.out⟩
                · have hmq2 : (k : Int) + 1 < many := by omega
                  gi_wp2
                  exact ⟨(hbt.trans P1.out.1).trans P2.out.1, q + 1, by omega, HY1.out, P2.out.2.new hbW.out⟩
              · have hek : (ke == 1) = false := by simpa using he
                have hek2 : (ke != 1) = true := by simpa using he
                have Hno := Lib.hid (show (usR (rows.take (q + 1))).length = k by rw [HNo.out he]; exact hqk)
                clear HY HNo hqk
                gi_wp2
                gi_roundg (NL - (q + 1))
                case rel => exact ⟨q + 1, by omega, rfl, Hno.out, P1.out.2, hbt.trans P1.out.1⟩
                case measure => omega
          case done =>
            rintro D G W3 k hD hGD hcase hKD
            have hDW : W.heap.size ≤ D := by simp only [World.size_alloc] at hD; omega
            obtain ⟨q, hR⟩ : ∃ q, CtS W k q G W3 := by
              rcases hcase with ⟨_, q, _, _, h⟩ | ⟨_, h⟩
              · exact ⟨q, h⟩
              · exact h
            clear hcase
            have aT := cell_up hR.below hT
            have HN := Lib.hid (fun v => HI.out.next hR.below hKD hDW v)
            clear hKD
            go_wp2
            go_loopg [] 0 (fun gh wr => gh = 0 ∧ wr = W3)
            case atStart => exact ⟨rfl, rfl⟩
            case round =>
              obtain ⟨rfl, rfl⟩ := hrel
              go_wp2
              refine Handed.intro 1 (by omega) (HJ.out _ _ _ ?_)
              exact ⟨1, wr.heap.size, D :: Ds, by omega, rfl, rfl, HN.out 1⟩
        · replace hT : W.cell? ⟨T, 0, none⟩ = some (.int .i64 1) := hT
          replace HI := Lib.hid (show TuI w2 T 1 Ds W from HI.out)
          go_wp2
          have hba : Below W.heap.size W ((W.alloc (.cells #[.int .i64 0] 3)).alloc (.cells #[.int .i64 0] 3)) := (below_alloc _ _).alloc (by simp) _
          refine wpIn_wide.1 (wp_range_brk (n := 3) (S := fun q => q = X ∨ (0 < NL ∧ (Value.slice la0 NL lc0).ownBlock = some q)) (gf := 42) (lb := #[.pointer (some ⟨X, 0, none⟩)]) rfl enters_ui1
            (ui1_x ⟨k0, n0, .slice ba0 bn0 bc0, s0, .slice la0 NL lc0⟩ rows X NL _ _ (X5.out.below hba) (U5.out.up hba) hshp ⟨_, _, _, _, _, _, _, _, _, rfl⟩ ⟨.inl rfl, (Nat.eq_zero_or_pos NL).elim .inl fun h => .inr fun k hk => .inr ⟨h, hk⟩⟩) (Below.refl _ _) (fun _ => rfl)
            (fun j => j = W.heap.size ∨ j = W.heap.size + 1) (fun k h => by simp only [World.size_alloc]; omega) ?hS
            (fun k G W3 => ∃ q, q ≤ NL ∧ (usR (rows.take q)).length = k ∧ CtS W k q G W3)
            (fun k a' G W3 => a' = { tmps := #[u 0, u 1, u 2, .pointer (some ⟨w0.heap.size, 0, none⟩), .pointer (some ⟨w0.heap.size + 1, 0, none⟩), .pointer (some ⟨w0.heap.size + 2, 0, none⟩), .pointer (some ⟨w0.heap.size + 3, 0, none⟩), u 7, .func (.func 42) #[] #[.pointer (some ⟨X, 0, none⟩)], .pointer (some ⟨T, 0, none⟩), .pointer (some ⟨W.heap.size, 0, none⟩), .pointer (some ⟨W.heap.size + 1, 0, none⟩), .int .u64 (usAt (usI ⟨k0, n0, .slice ba0 bn0 bc0, s0, .slice la0 NL lc0⟩ rows) k), u 13, u 14, u 15, u 16, u 17, u 18, u 19, u 20, u 21, u 22, u 23, u 24, u 25, u 26, u 27, u 28, u 29, u 30, u 31, u 32, u 33, u 34, u 35, u 36, u 37, u 38, u 39, u 40, u 41, u 42, u 43, u 44, .int .i64 1, .bool true, u 47, u 48, .func (.func 42) #[] #[.pointer (some ⟨X, 0, none⟩)], .int .u64 (usAt (usI ⟨k0, n0, .slice ba0 bn0 bc0, s0, .slice la0 NL lc0⟩ rows) k), u 51, u 52, u 53, u 54, u 55, u 56, u 57, u 58, u 59, u 60, u 61, u 62, u 63, u 64, u 65, u 66, u 67, u 68, u 69, u 70, u 71, u 72, u 73, u 74, u 75, u 76, u 77, u 78, u 79, u 80, u 81, u 82, u 83, u 84, u 85, u 86, u 87, u 88, u 89, u 90, u 91, u 92, u 93, u 94, u 95, u 96, u 97, u 98, u 99, u 100, u 101, u 102, u 103, u 104, u 105, u 106, u 107, u 108, u 109, u 110, u 111, u 112, u 113, u 114, u 115, u 116, u 117, u 118, u 119, u 120, u 121, u 122], defers := [] } ∧ ∃ q, q ≤ NL ∧ (usR (rows.take q)).length = k ∧ CtS W k q G W3)
            (fun k G W3 => False)
            ?abI ?abM ?abX ⟨0, Nat.zero_le _, rfl, CtS.start W⟩ ?assign ?body ?done)
          case hS =>
            rintro q (rfl | ⟨hp, hq⟩)
            · exact ⟨by simp only [World.size_alloc]; omega, by omega⟩
            · rcases hlf with h | h
              · omega
              · have := h q hq
                have := HB.out.size
                exact ⟨by simp only [World.size_alloc]; omega, by omega⟩
          case abI =>
            rintro k G A B ⟨q, h1, h2, h⟩ hb
            exact ⟨q, h1, h2, CtS.abide (by simp only [World.size_alloc]; omega) G A B h hb⟩
          case abM =>
            rintro k a' G A B ⟨ha, q, h1, h2, h⟩ hb
            exact ⟨ha, q, h1, h2, CtS.abide (by simp only [World.size_alloc]; omega) G A B h hb⟩
          case abX => exact fun k G A B h hb => h.elim
          case assign =>
            intro l2 k G W3 K3 hk hi hK3
            simp only [usArgs]
            gi_wp2
            obtain ⟨q, h1, h2, h⟩ := hi
            exact hK3 _ _ (But.refl _ _) ⟨rfl, q, h1, h2, h.new h.below.size⟩
          case body =>
            rintro l2 k a' G W3 hk hl2 _ hGl ⟨rfl, q0, hq0, hq1, hR0⟩
            have hk4 : k0 = 4 := by
              by_cases h : k0 = 4
              · exact h
              · exact absurd hk (by simp [usI, h])
            have hUI : usI ⟨k0, n0, .slice ba0 bn0 bc0, s0, .slice la0 NL lc0⟩ rows = usR rows := if_pos hk4
            rw [hUI] at hk ⊢
            have hb0 : But G W3 W3 := But.refl _ _
            gi_wp2
            gi_loopg [] (NL - q0) (fun gh wr => ∃ q, q ≤ NL ∧ gh = NL - q ∧ (usR (rows.take q)).length = k ∧ CtS W k q G wr ∧ But G W3 wr)
            case atStart => exact ⟨q0, hq0, rfl, hq1, hR0, hb0⟩
            case round =>
              obtain ⟨q, hqn, rfl, hqk, hR, hbt⟩ := hrel
              have O6 := O5.out.up hR.below
              have U6 := U5.out.up hR.below
              have X6 := X5.out.below hR.below
              have hql : q < NL := by
                rcases Nat.lt_or_ge q NL with h | h
                · exact h
                · rw [List.take_of_length_le (by rw [HLn.out]; exact h)] at hqk
                  omega
              have hqr : q < rows.length := by rw [HLn.out]; exact hql
              obtain ⟨b, off, rfl, hr⟩ := U6.rec_at (cells := rwC) (sz := 5) (fun _ => rfl) hql hqr
              have hsx := hshp rows[q] (List.getElem_mem hqr)
              have HY := Lib.hid (usR_yes rows hqr)
              have HNo := Lib.hid (usR_no rows hqr)
              generalize rows[q] = e at *
              obtain ⟨ke, ne, bae, bne, bce, se, lae, lne, lce, rfl⟩ := hsx
              have e0 := hr 0 _ rfl
              have e1 := hr 1 _ rfl
              simp only [Nat.add_zero] at e0
              have c0 : wr.cell? ⟨w0.heap.size, 0, none⟩ = some (.int .i64 k0) := O6.a.cell (i := 0) rfl
              rw [hk4] at c0
              have c4 : wr.cell? ⟨w0.heap.size, 4, none⟩ = some (.slice (some ⟨b, off, none⟩) NL lc0) := O6.a.cell (i := 4) rfl
              have cm : wr.cell? ⟨w0.heap.size + 2, 0, none⟩ = some (.int .i64 many) := O6.num.cell (i := 0) rfl
              have p0 : wr.cell? ⟨W.heap.size + 1, 0, none⟩ = some (.int .i64 q) := hR.pos.cell (i := 0) rfl
              have fp := hR.pos.fz 0
              have n0' : wr.cell? ⟨W.heap.size, 0, none⟩ = some (.int .i64 k) := hR.cnt.cell (i := 0) rfl
              have fn := hR.cnt.fz 0
              have aT := cell_up hR.below hT
              have hqi : (q : Int) < (NL : Int) := by omega
              have hqi2 : ¬ (NL : Int) ≤ (q : Int) := by omega
              have hqs : decide ((q : Int) < (NL : Int)) = true := decide_eq_true hqi
              have hkb : (k : Int) ≤ 5000 := by have := usR_len rows; rw [HLn.out] at this; omega
              have P1 := Lib.hid hR.pos1
              have P2 := Lib.hid (hR.pos1.2.cnt1)
              have hbW := Lib.hid hR0.below.size
              have HRR := Lib.hid hR
              by_cases he : ke = 1
              · subst he
                obtain ⟨hy1, hy2, hy3⟩ := HY.out rfl
                rw [hqk] at hy3 hy1
                have HY1 := Lib.hid hy1
                clear hy1 hy2 HY HNo hqk
                gi_wp2
                exact ⟨(hbt.trans P1.out.1).trans P2.out.1, q + 1, by omega, HY1.out, P2.out.2.new hbW.out⟩
              · have hek : (ke == 1) = false := by simpa using he
                have hek2 : (ke != 1) = true := by simpa using he
                have Hno := Lib.hid (show (usR (rows.take (q + 1))).length = k by rw [HNo.out he]; exact hqk)
                clear HY HNo hqk
                gi_wp2
                gi_roundg (NL - (q + 1))
                case rel => exact ⟨q + 1, by omega, rfl, Hno.out, P1.out.2, hbt.trans P1.out.1⟩
                case measure => omega
          case done =>
            rintro D G W3 k hD hGD hcase hKD
            have hDW : W.heap.size ≤ D := by simp only [World.size_alloc] at hD; omega
            obtain ⟨hkN, q0, hq0, hq1, hR0⟩ : k = (usI ⟨k0, n0, .slice ba0 bn0 bc0, s0, .slice la0 NL lc0⟩ rows).length ∧ ∃ q, q ≤ NL ∧ (usR (rows.take q)).length = k ∧ CtS W k q G W3 := hcase.elim id (fun h => h.2.elim)
            clear hcase
            have hbt0 : But G W3 W3 := But.refl _ _
            have hkk : k0 = 4 → (usR (rows.take q0)).length = (usR rows).length := fun h => by rw [hq1, hkN]; exact congrArg List.length (if_pos h)
            have Hkk := Lib.hid hkk
            clear hkk hkN hq1
            go_wp2
            go_loopg [] (NL - q0) (fun gh wr => ∃ q, q ≤ NL ∧ gh = NL - q ∧ (k0 = 4 → (usR (rows.take q)).length = (usR rows).length) ∧ CtS W k q G wr ∧ But G W3 wr)
            case atStart => exact ⟨q0, hq0, rfl, Hkk.out, hR0, hbt0⟩
            case round =>
              obtain ⟨q, hqn, rfl, hqk, hR, hbt⟩ := hrel
              have O6 := O5.out.up hR.below
              have U6 := U5.out.up hR.below
              have HQ := Lib.hid hqk
              clear hqk
              have c0 : wr.cell? ⟨w0.heap.size, 0, none⟩ = some (.int .i64 k0) := O6.a.cell (i := 0) rfl
              have c4 : wr.cell? ⟨w0.heap.size, 4, none⟩ = some (.slice la0 NL lc0) := O6.a.cell (i := 4) rfl
              have p0 : wr.cell? ⟨W.heap.size + 1, 0, none⟩ = some (.int .i64 q) := hR.pos.cell (i := 0) rfl
              have fp := hR.pos.fz 0
              have aT := cell_up hR.below hT
              have HN := Lib.hid (fun v => HI.out.next hR.below ((hbt.same D (Array.getElem?_eq_some_iff.1 hKD).1 hGD).trans hKD) hDW v)
              have P1 := Lib.hid hR.pos1
              by_cases hk4 : k0 = 4
              · subst hk4
                by_cases hql : q < NL
                · have hqr : q < rows.length := by rw [HLn.out]; exact hql
                  obtain ⟨b, off, rfl, hr⟩ := U6.rec_at (cells := rwC) (sz := 5) (fun _ => rfl) hql hqr
                  have he : rows[q].k ≠ 1 := fun h => by have := (usR_yes rows hqr h).2.1; have := HQ.out rfl; omega
                  have HNo := Lib.hid ((usR_no rows hqr he).trans (HQ.out rfl))
                  have hsx := hshp rows[q] (List.getElem_mem hqr)
                  generalize rows[q] = e at *
                  obtain ⟨ke, ne, bae, bne, bce, se, lae, lne, lce, rfl⟩ := hsx
                  have e0 := hr 0 _ rfl
                  simp only [Nat.add_zero] at e0
                  replace he : ¬ ke = 1 := he
                  have hek : (ke == 1) = false := by simpa using he
                  have hqi : (q : Int) < (NL : Int) := by omega
                  have hqi2 : ¬ (NL : Int) ≤ (q : Int) := by omega
                  have hqs : decide ((q : Int) < (NL : Int)) = true := decide_eq_true hqi
                  go_wp2
                  go_roundg (NL - (q + 1))
                  case rel => exact ⟨q + 1, by omega, rfl, fun _ => HNo.out, P1.out.2, hbt.trans P1.out.1⟩
                  case measure => omega
                · obtain rfl : q = NL := by omega
                  have hqs : decide ((q : Int) < (q : Int)) = false := decide_eq_false (by omega)
                  go_wp2
                  refine Handed.intro 0 (by omega) (HJ.out _ _ _ ?_)
                  exact ⟨2, wr.heap.size, D :: Ds, by omega, rfl, rfl, HN.out 2⟩
              · have hk5 : (k0 == 4) = false := by simpa using hk4
                go_wp2
                refine Handed.intro 0 (by omega) (HJ.out _ _ _ ?_)
                exact ⟨2, wr.heap.size, D :: Ds, by omega, rfl, rfl, HN.out 2⟩
        · replace hT : W.cell? ⟨T, 0, none⟩ = some (.int .i64 2) := hT
          go_wp2_with (go_at_call 8; refine (cbWorks_a W W (Lib.hid (Below.refl _ _)) (Lib.hid ((HT0.out.up HB.out).up HI.out.below))).mono ?_; rintro en wx ⟨rfl, hq⟩; have O6 := O5.out.up hq; have x6 := O6.res.cell (i := 0) rfl; have f6 := O6.res.fz 0)
          have hx4 := O6.res.set 0 (.bool true)
          have hDm : ∀ D ∈ Ds, D ≠ w0.heap.size + 3 := fun D hD => by have := (HI.out.marks D hD).2; have := hw2X.out; omega
          refine leaves_marks Ds _ HI.out.nodup (fun D hD => ?_) (fun w9 hb9 => ?_)
          · have hm := HI.out.marks D hD
            have hDlt : D < W.heap.size := (Array.getElem?_eq_some_iff.1 hm.1).1
            rw [Below.heap_setCell _ _ _ _ (by simpa using hDm D hD)]
            exact (hq.block D hDlt).trans hm.1
          · have hx5 := (hb9.same _ hx4.lt (fun hD => hDm _ hD rfl)).trans hx4
            have hx5c := RowAt.cell (i := 0) (v := .bool true) hx5 rfl
            refine ⟨.bool true, by simp [results, Tryd.results7, go_sem, hx5c], rfl, ?_⟩
            have hB3 := O6.below.setCell (show w0.heap.size ≤ (⟨w0.heap.size + 3, 0, none⟩ : Addr).block by simp) (.bool true)
            exact hB3.trans (hb9.below (fun D hD => by have := (HI.out.marks D hD).2; have := HB.out.size; omega) hB3.size)
    · have hl2 : decide (3000 < v2) = true := decide_eq_true (by omega)
      have hl22 : decide (v2 > 3000) = true := decide_eq_true (by omega)
      have fa0 := HO.out.a.cell (i := 0) rfl
      have fa1 := HO.out.a.cell (i := 1) rfl
      have fa2 := HO.out.a.cell (i := 2) rfl
      have fa3 := HO.out.a.cell (i := 3) rfl
      have fa4 := HO.out.a.cell (i := 4) rfl
      have fb0 := HO.out.b.cell (i := 0) rfl
      have fb1 := HO.out.b.cell (i := 1) rfl
      have fb2 := HO.out.b.cell (i := 2) rfl
      have fb3 := HO.out.b.cell (i := 3) rfl
      have fb4 := HO.out.b.cell (i := 4) rfl
      go_wp2_with fail
      clear fa0 fa1 fa2 fa3 fa4
      clear fb0 fb1 fb2 fb3 fb4
      go_at_call 8
      refine (cbWorks_a wq wq (Lib.hid (Below.refl _ _)) (Lib.hid (HT0.out.up HB.out))).mono ?_
      rintro en wx ⟨rfl, hq⟩
      replace HB := Lib.hid (below_up HB.out hq)
      replace HO := Lib.hid (HO.out.up hq)
      replace HA := Lib.hid (HA.out.up hq)
      replace HBI := Lib.hid (HBI.out.up hq)
      replace HU := Lib.hid (HU.out.up hq)
      clear hq
      have x6 := HO.out.res.cell (i := 0) rfl
      have f6 := HO.out.res.fz 0
      go_wp2
      have hx4 := HO.out.res.set 0 (.bool true)
      refine leaves_marks [] _ List.nodup_nil (fun D hD => by cases hD) (fun w9 hb9 => ?_)
      have hx5 := (hb9.same _ hx4.lt (fun hD => by cases hD)).trans hx4
      have hx5c := RowAt.cell (i := 0) (v := .bool true) hx5 rfl
      refine ⟨.bool true, by simp [results, Tryd.results7, go_sem, hx5c], rfl, ?_⟩
      have hB3 := HB.out.setCell (show w0.heap.size ≤ (⟨w0.heap.size + 3, 0, none⟩ : Addr).block by simp) (.bool true)
      exact hB3.trans (hb9.below (fun D hD => by cases hD) hB3.size)
  · have hl1 : decide (3000 < v1) = true := decide_eq_true (by omega)
    have hl12 : decide (v1 > 3000) = true := decide_eq_true (by omega)
    have fa0 := HO.out.a.cell (i := 0) rfl
    have fa1 := HO.out.a.cell (i := 1) rfl
    have fa2 := HO.out.a.cell (i := 2) rfl
    have fa3 := HO.out.a.cell (i := 3) rfl
    have fa4 := HO.out.a.cell (i := 4) rfl
    have fb0 := HO.out.b.cell (i := 0) rfl
    have fb1 := HO.out.b.cell (i := 1) rfl
    have fb2 := HO.out.b.cell (i := 2) rfl
    have fb3 := HO.out.b.cell (i := 3) rfl
    have fb4 := HO.out.b.cell (i := 4) rfl
    go_wp2_with fail
    clear fa0 fa1 fa2 fa3 fa4
    clear fb0 fb1 fb2 fb3 fb4
    go_at_call 8
    refine (cbWorks_a wq wq (Lib.hid (Below.refl _ _)) (Lib.hid (HT0.out.up HB.out))).mono ?_
    rintro en wx ⟨rfl, hq⟩
    replace HB := Lib.hid (below_up HB.out hq)
    replace HO := Lib.hid (HO.out.up hq)
    replace HA := Lib.hid (HA.out.up hq)
    replace HBI := Lib.hid (HBI.out.up hq)
    replace HU := Lib.hid (HU.out.up hq)
    clear hq
    have x6 := HO.out.res.cell (i := 0) rfl
    have f6 := HO.out.res.fz 0
    go_wp2
    have hx4 := HO.out.res.set 0 (.bool true)
    refine leaves_marks [] _ List.nodup_nil (fun D hD => by cases hD) (fun w9 hb9 => ?_)
    have hx5 := (hb9.same _ hx4.lt (fun hD => by cases hD)).trans hx4
    have hx5c := RowAt.cell (i := 0) (v := .bool true) hx5 rfl
    refine ⟨.bool true, by simp [results, Tryd.results7, go_sem, hx5c], rfl, ?_⟩
    have hB3 := HB.out.setCell (show w0.heap.size ≤ (⟨w0.heap.size + 3, 0, none⟩ : Addr).block by simp) (.bool true)
    exact hB3.trans (hb9.below (fun D hD => by cases hD) hB3.size)
end Go.Proofs.YtjenohodgpmchaaDoor

namespace Go.Proofs.YtjenohodgpmchaaDoor.cborSameRow
open Go.ChangeShapes Go.WideShapes Go.ChangeAt Go.RowKit
open Go.ChangeMaps (open_string shut_string)
set_option linter.unusedVariables false

theorem own : ownKnob Tryd.prog.godebug = none := by kernel_rfl
theorem laidOut : laidOutB Tryd.prog = true := by kernel_rfl

open Go.Lib
/-- A world that meets the condition: the settled one, the two tables laid. -/
noncomputable def laidWorld (os : Os) : World :=
  let w0 := World.holding Tryd.prog os ⟨#[], #[], []⟩
  let put (h : Array Obj) (g : Nat) (cs : Array Value) : Array Obj := h.modify g fun
    | .cells _ t frozen => .cells cs t frozen
    | o => o
  let h1 := put w0.heap 0 (Lib.firstTab.map fun z => Value.int .u8 z).toArray
  let h2 := put h1 1 ((List.range 16).flatMap fun i => [Value.int .u8 (Lib.accLo i), Value.int .u8 (Lib.accHi i)]).toArray
  { w0 with heap := h2 }
theorem laid_met (os : Os) (args : Array Value) : laidMet Tryd.prog Rows.cborSameRow.laid ((laidWorld os).forCall (fun _ _ => 0) ⟨#[], args, []⟩).memory :=
  (LaidIn.of_run (l := [("unicode/utf8.acceptRanges", Rows.laid_unicode_utf8_acceptRanges), ("unicode/utf8.first", Rows.laid_unicode_utf8_first)]) [0, 1] 8 (by kernel_rfl) (by kernel_rfl) (by kernel_rfl) (by kernel_rfl)).met
theorem witness_row (os : Os) {H : Type} (enc : TypeId × Value → H) :
    (OpenSpec.ofChange Rows.cborSameSpec).preRow enc Tryd.prog Tryd.f7 Rows.cborSameRow.domain false Rows.cborSameRow.laid ((laidWorld os).forCall (fun _ _ => 0) ⟨#[], #[.agg #[.int .i64 0, .int .u64 0, .slice none 0 0, .string ⟨#[]⟩, .slice none 0 0], .agg #[.int .i64 0, .int .u64 0, .slice none 0 0, .string ⟨#[]⟩, .slice none 0 0], .int .i64 0], []⟩).memory #[.agg #[.int .i64 0, .int .u64 0, .slice none 0 0, .string ⟨#[]⟩, .slice none 0 0], .agg #[.int .i64 0, .int .u64 0, .slice none 0 0, .string ⟨#[]⟩, .slice none 0 0], .int .i64 0] := by
  have hw : (DataW.whole enc Tryd.prog ((laidWorld os).forCall (fun _ _ => 0) ⟨#[], #[.agg #[.int .i64 0, .int .u64 0, .slice none 0 0, .string ⟨#[]⟩, .slice none 0 0], .agg #[.int .i64 0, .int .u64 0, .slice none 0 0, .string ⟨#[]⟩, .slice none 0 0], .int .i64 0], []⟩).memory Tryd.f7.params.toList (OpenSpec.ofChange Rows.cborSameSpec).vars false (#[.agg #[.int .i64 0, .int .u64 0, .slice none 0 0, .string ⟨#[]⟩, .slice none 0 0], .agg #[.int .i64 0, .int .u64 0, .slice none 0 0, .string ⟨#[]⟩, .slice none 0 0], .int .i64 0] : Array Value).toList 8).map (fun x => (x.1, x.2.1)) =
      some ([.agg [.lit (.int .i64 0), .lit (.int .u64 0), .nil, .lit (.string []), .nil], .agg [.lit (.int .i64 0), .lit (.int .u64 0), .nil, .lit (.string []), .nil], .lit (.int .i64 0)], []) := by kernel_rfl
  obtain ⟨⟨x1, x2, x3⟩, hx, hx1⟩ := Option.map_eq_some_iff.1 hw
  simp only [Prod.mk.injEq] at hx1
  obtain ⟨rfl, rfl⟩ := hx1
  exact OpenSpec.preRow_of_cond 8 hx (by kernel_rfl) (fun k hk => by cases hk) (by kernel_rfl) (laid_met os _)

set_option maxRecDepth 100000 in
theorem lifted (os : Os) (started : os.Started) (H : Type) (enc : TypeId × Value → H) :
    ReturnsInHanded {} Tryd.checked os 7 .any ((OpenSpec.ofChange Rows.cborSameSpec).preRow enc Tryd.prog Tryd.f7 Rows.cborSameRow.domain false Rows.cborSameRow.laid) (Rows.cborSameSpec.post enc Tryd.prog Tryd.f7 false true false false) := by
  refine returnsInHanded_of_row (C := Tryd.checked) (s := OpenSpec.ofChange Rows.cborSameSpec) (F := fun _ _ _ => 0) own started (by kernel_rfl) Tryd.func7
    (witness_row_atRef (enc := enc) (C := Tryd.checked) false (laidWorld os) #[.agg #[.int .i64 0, .int .u64 0, .slice none 0 0, .string ⟨#[]⟩, .slice none 0 0], .agg #[.int .i64 0, .int .u64 0, .slice none 0 0, .string ⟨#[]⟩, .slice none 0 0], .int .i64 0] rfl (by kernel_rfl) (by kernel_rfl) (by kernel_rfl) (witness_row os enc)) ?_
  intro W base args ds gs before hval0 hW hcnd _ hsz0 hL hshp _
  have hsz : (DataW.weightsEach Tryd.prog (Tryd.f7.params.toList ++ Rows.cborSameSpec.plain.varTypes Tryd.prog) (ds ++ gs)).all (· ≤ reachBytes) = true := hsz0
  have hval : ∀ (j : Nat) t v, Tryd.f7.params[j]? = some t → args[j]? = some v → Value.okWide Tryd.prog W .any base t v := hval0
  have hT : Tabs W :=
    utf8Tabs_of_readsT (ρ := lays197_ren) { lays197 with } ⟨by kernel_rfl, by kernel_rfl, by kernel_rfl, by kernel_rfl, by kernel_rfl, by kernel_rfl, by kernel_rfl⟩
      (by have := Lib.laidMet.reads hL (n := "unicode/utf8.first") (d := Rows.laid_unicode_utf8_first) (.tail _ (.head _)); exact Pinned.utf8First_eq ▸ this) (by have := Lib.laidMet.reads hL (n := "unicode/utf8.acceptRanges") (d := Rows.laid_unicode_utf8_acceptRanges) (.head _); rwa [show (Rows.laid_unicode_utf8_acceptRanges : DataW Unit) = acceptData by kernel_rfl] at this)
  have hW' := hW
  obtain ⟨p, q, hA0, hV, rfl, hfz, hnd⟩ := hW
  have hA : DataW.TrodAll enc Tryd.prog W 0 (fun _ => true) true Tryd.f7.params.toList args.toList ds p := hA0
  rw [Tryd.params7] at hA hval hsz
  obtain ⟨v0, vs0, d0, ds0, p0, q0, hargs, rfl, rfl, h0, r0⟩ := trodAll_cons hA
  obtain ⟨v1, vs1, d1, ds1, p1, q1, rfl, rfl, rfl, h1, r1⟩ := trodAll_cons r0
  obtain ⟨v2, vs2, d2, ds2, p2, q2, rfl, rfl, rfl, h2, r2⟩ := trodAll_cons r1
  obtain ⟨rfl, rfl, rfl⟩ := trodAll_nil r2
  obtain rfl : args = #[v0, v1, v2] := by cases args; simp_all
  obtain ⟨rfl, rfl⟩ := trodVars_none hV
  have k0 := h0
  have lt0 : ∀ x ∈ p0, x.block < W.heap.size := by obtain ⟨m, hm⟩ := k0; exact DataW.trod_lt m _ _ _ hm
  have k1 := h1
  have lt1 : ∀ x ∈ p1, x.block < W.heap.size := by obtain ⟨m, hm⟩ := k1; exact DataW.trod_lt m _ _ _ hm
  have k2 := h2
  have lt2 : ∀ x ∈ p2, x.block < W.heap.size := by obtain ⟨m, hm⟩ := k2; exact DataW.trod_lt m _ _ _ hm
  obtain ⟨cs0, rfl, hsz0⟩ : ∃ cs, v0 = .agg cs ∧ cs.size = 5 := by
    have := hval 0 28 v0 rfl rfl
    simp only [Value.okWide, Tryd.underlying28] at this
    obtain ⟨cs, h1, h2, _⟩ := this
    exact ⟨cs, h1, h2.trans (by kernel_rfl)⟩
  obtain ⟨fu0, hf0⟩ := h0
  obtain ⟨x, rx, hc0, hI0, hz0, hk0⟩ := open_item _ _ _ hf0 (fun n hn => of_decide_eq_true (List.all_eq_true.1 hsz _ (DataW.weights_mem_each (j := 0) (t := 28) rfl rfl _ hn)))
  obtain ⟨l0⟩ := cs0
  obtain rfl : l0 = rwC rx := hc0
  obtain ⟨cs1, rfl, hsz1⟩ : ∃ cs, v1 = .agg cs ∧ cs.size = 5 := by
    have := hval 1 28 v1 rfl rfl
    simp only [Value.okWide, Tryd.underlying28] at this
    obtain ⟨cs, h1, h2, _⟩ := this
    exact ⟨cs, h1, h2.trans (by kernel_rfl)⟩
  obtain ⟨fu1, hf1⟩ := h1
  obtain ⟨y, ry, hc1, hI1, hz1, hk1⟩ := open_item _ _ _ hf1 (fun n hn => of_decide_eq_true (List.all_eq_true.1 hsz _ (DataW.weights_mem_each (j := 1) (t := 28) rfl rfl _ hn)))
  obtain ⟨l1⟩ := cs1
  obtain rfl : l1 = rwC ry := hc1
  obtain ⟨many, rfl, _, _, wmany⟩ := open_int Tryd.underlying3 (hval 2 3 v2 rfl rfl) h2
  clear hA0 hval0
  refine (cborSame_law x y rx ry many W hI0 hz0 hk0 hI1 hz1 hk1 hT).mono fun e W' ⟨he, bel⟩ => ?_
  subst he
  exact ⟨_, rfl, _, _, _, [], _, [], hW', trodAll_mk1 (shut_bool Tryd.underlying4 _), (trodAll_cons_mk (Below.trod laidOut (by kernel_rfl) (of_decide_eq_true (by kernel_rfl)) k0 bel lt0) (trodAll_cons_mk (Below.trod laidOut (by kernel_rfl) (of_decide_eq_true (by kernel_rfl)) k1 bel lt1) (trodAll_cons_mk (Below.trod laidOut (by kernel_rfl) (of_decide_eq_true (by kernel_rfl)) k2 bel lt2) trodAll_mk0))), rfl, bel.frame _, fun h => by cases h⟩

theorem over : Rows.cborSameRow.holds Tryd.pinned (OpenSpec.ofChange Rows.cborSameSpec) :=
  OpenClaim.holds_of_wide 7 Tryd.f7 rfl rfl rfl rfl rfl rfl rfl ⟨rfl, rfl, rfl, rfl, rfl⟩ rfl rfl rfl rfl rfl (by kernel_rfl) Tryd.func7 (by kernel_rfl)
    (of_decide_eq_true (by kernel_rfl)) (by unfold Func.isWrapper; first | (rw [if_pos (by decide +kernel)]; kernel_rfl) | (rw [if_neg (by decide +kernel)]; exact ⟨rfl, rfl⟩))
    (fun os started H enc _ => by rw [OpenClaim.pre_eq_preRow]; exact lifted os started H enc)

theorem proved : Rows.CborSameCardSaid :=
  Claim7.holds_tied_plain_at .later [] [.data, .pinned] true (true, "0ece3b67bcc1c0921f4ca99338b3de9fb5b1d54749c680f8d782d7ca69802733") true
    over (fun _ h => by cases h) (by kernel_rfl) (fun _ h => by cases h) cborSame_row_tie rfl ⟨rfl, rfl⟩ (by kernel_rfl) rfl
    (fun f fn hf hfn => by
      obtain rfl : f = 7 := Option.some.inj ((show Tryd.prog.funcNamed "packsaddle/packsaddlelaw03.CborSame" = some 7 by kernel_rfl).symm.trans hf) |>.symm
      obtain rfl : fn = Tryd.f7 := (Option.some.inj (Tryd.func7.symm.trans hfn)).symm
      exact ⟨by kernel_rfl, fun j t ht => by
        rw [Tryd.params7] at ht
        have h3 : t ∈ [28, 28, 3] := by
          have := List.mem_of_getElem? (by simpa using ht : ([28, 28, 3] : List TypeId)[j]? = some t)
          exact this
        simp only [List.mem_cons, List.not_mem_nil, or_false] at h3
        rcases h3 with rfl | rfl | rfl
        · exact (show Tryd.prog.wantsStandIn 28 = false by kernel_rfl)
        · exact (show Tryd.prog.wantsStandIn 28 = false by kernel_rfl)
        · exact (show Tryd.prog.wantsStandIn 3 = false by kernel_rfl)⟩)
    (by kernel_rfl)
#print axioms proved
end Go.Proofs.YtjenohodgpmchaaDoor.cborSameRow
