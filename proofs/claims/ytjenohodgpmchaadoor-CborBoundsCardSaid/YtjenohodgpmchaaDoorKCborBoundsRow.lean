/-
  CbOp, CborBounds, CborBoundsL, CborBoundsRow: several texts in one (bundle.py).
-/
import Derived.Test.YtjenohodgpmchaaDoorCbK44
import Derived.Test.YtjenohodgpmchaaDoorCbK31
import Derived.Test.YtjenohodgpmchaaDoorCbK43
import Derived.Lib.AppendZerosOnto
import Derived.Test.YtjenohodgpmchaaDoorRows
import Derived.Test.YtjenohodgpmchaaDoorCbK02
import Derived.SizedLaws
import Derived.Test.YtjenohodgpmchaaDoorTie
import Derived.Test.YtjenohodgpmchaaDoorCards
import Derived.Lib.LaidIn
import Derived.Lib.LaidU8T
import Derived.Deep.DeepHandedRow
import Derived.Deep.DeepWitnessRowRef
import Derived.PinnedBridge
import Derived.ProofKit
import Derived.SevenTiedAt
namespace Go.Proofs.YtjenohodgpmchaaDoor
open Go.RowKit Go.ChangeAt Cb
set_option linter.unusedSimpArgs false
set_option linter.unusedVariables false
theorem DataW.trod_slice' {H : Type} {enc : TypeId × Value → H} {P : Program} {w : World} {base : Nat} {spare : Nat → Bool} {held : Bool} {t e : TypeId} {fuel : Nat} {cs : List Value} {x : DataW H × List MemPlace} (ht : P.underlying t = some (.slice e)) (h : DataW.trod enc P w base spare held fuel t cs = some x) :
    (cs = [.slice none 0 0] ∧ x.1 = .nil) ∨ ∃ (a : Addr) (len cap n : Nat) (elems rest : List (DataW H × List MemPlace)), fuel = n + 1 ∧ cs = [.slice (some a) len cap] ∧ len ≤ cap ∧ cap ≤ maxLen ∧ x.1 = .slice (elems.map (·.1)) (rest.map (·.1)) ∧ elems.length = len ∧
      ∀ i, i < len → (w.cells? base (a.add (i * P.cellsOf e)) (P.cellsOf e)).bind (DataW.trod enc P w base spare held n e) = elems[i]? := by
  rcases DataW.trod_slice ht h with ⟨h0, h1⟩ | ⟨a, len, cap, elems, rest, n, hn, h1, h2, hb, hl, hm, hlen, hel, _⟩
  · exact .inl ⟨h0, by rw [h1]⟩
  · exact .inr ⟨a, len, cap, n, elems, rest, hn, h1, hl, hm, by rw [h2], hlen, hel⟩
instance : Inhabited (It × Rw) := ⟨(.mk 0 0 [] noS [], ⟨0, 0, .slice none 0 0, ⟨#[]⟩, .slice none 0 0⟩)⟩
theorem slS_of {S : Nat → Prop} {w : World} {sz n : Nat} {v : Value} {cs : List Value} (h : Sl w sz v n cs) (h0 : 0 < sz) (hS : ∀ k, k < w.heap.size → S k) : SlS S w sz v n cs := ⟨h, (h.blk h0).imp id fun f k hk => hS k (f k hk)⟩
set_option maxHeartbeats 2000000 in
set_option maxRecDepth 100000 in
theorem open_item {H : Type} {enc : TypeId × Value → H} {w : World} {base : Nat} {spare : Nat → Bool} {held : Bool} : ∀ (fuel : Nat) (cs : List Value) (x : DataW H × List MemPlace), DataW.trod enc Tryd.prog w base spare held fuel 28 cs = some x → (∀ n ∈ x.1.weights Tryd.prog 28, n ≤ reachBytes) →
    ∃ (it : It) (r : Rw), cs = rwC r ∧ ItR (fun k => k < w.heap.size) w it r ∧ szOk it ∧ kwB it := by
  intro fuel
  induction fuel using Nat.strongRecOn with
  | ind fuel ih =>
    intro cs x h hw
    obtain ⟨xs, n, rfl, rfl, hcl, hxl, hf⟩ := DataW.trod_struct Tryd.underlying28 h
    have hcl : cs.length = 5 := hcl.trans (by kernel_rfl)
    have hxl : xs.length = 5 := hxl
    match cs, hcl with
    | [c0, c1, c2, c3, c4], _ =>
    match xs, hxl with
    | [y0, y1, y2, y3, y4], _ =>
    have f0 := hf 0 { name := "Kind", type := 24, offset := 0, embedded := false, tag := "", pkgPath := "", byteOffset := 0 } rfl
    have f1 := hf 1 { name := "N", type := 25, offset := 1, embedded := false, tag := "", pkgPath := "", byteOffset := 8 } rfl
    have f2 := hf 2 { name := "B", type := 22, offset := 2, embedded := false, tag := "", pkgPath := "", byteOffset := 16 } rfl
    have f3 := hf 3 { name := "S", type := 9, offset := 3, embedded := false, tag := "", pkgPath := "", byteOffset := 40 } rfl
    have f4 := hf 4 { name := "L", type := 26, offset := 4, embedded := false, tag := "", pkgPath := "", byteOffset := 56 } rfl
    simp only [show Tryd.prog.cellsOf 24 = 1 by kernel_rfl, show Tryd.prog.cellsOf 25 = 1 by kernel_rfl, show Tryd.prog.cellsOf 22 = 1 by kernel_rfl, show Tryd.prog.cellsOf 9 = 1 by kernel_rfl, show Tryd.prog.cellsOf 26 = 1 by kernel_rfl, List.drop_zero, List.drop_succ_cons, List.take_succ_cons, List.take_zero, List.getElem?_cons_zero, List.getElem?_cons_succ] at f0 f1 f2 f3 f4
    have hmem : ∀ (j : Nat) (t : TypeId) (d : DataW H), ([24, 25, 22, 9, 26] : List TypeId)[j]? = some t → ([y0.1, y1.1, y2.1, y3.1, y4.1] : List (DataW H))[j]? = some d → ∀ m ∈ d.weights Tryd.prog t, m ≤ reachBytes := fun j t d h1 h2 m hm => hw m (by
      simp only [DataW.weights, Tryd.underlying28, List.map_cons, List.map_nil]
      exact DataW.weights_mem_each (ts := [24, 25, 22, 9, 26]) (ds := [y0.1, y1.1, y2.1, y3.1, y4.1]) h1 h2 m hm)
    obtain ⟨k, e0, _, wk⟩ := DataW.trod_int Tryd.underlying24 f0
    obtain ⟨m, e1, _, wm⟩ := DataW.trod_int Tryd.underlying25 f1
    obtain ⟨s, e3, e3x, ws⟩ := DataW.trod_string Tryd.underlying9 f3
    obtain ⟨a2, len2, cap2, vs2, e2, sl2, lf2, nl2⟩ := open_flat (ls := [5]) (sz := 1) Tryd.underlying22 (by kernel_rfl) rfl (by kernel_rfl) (by decide) f2
    obtain ⟨b, rfl⟩ := bytes_of Tryd.underlying5 sl2 lf2
    have hbn := sl2.n_len
    subst hbn
    have e0 := (List.cons.inj e0).1
    have e1 := (List.cons.inj e1).1
    have e2 := (List.cons.inj e2).1
    have e3 := (List.cons.inj e3).1
    subst e0; subst e1; subst e2; subst e3
    simp [Lit.wf, IntKind.min, IntKind.max, IntKind.signed, IntKind.bits] at wk wm
    have hbl : b.length ≤ 140737488355328 := by
      rcases nl2 with ⟨_, h0⟩ | ⟨es, sp, h1, h2⟩
      · omega
      · have := hmem 2 _ _ rfl rfl ((es.length + sp.length) * Tryd.prog.bytesOf 5) (by rw [h1]; simp [DataW.weights, Tryd.underlying22])
        rw [show Tryd.prog.bytesOf 5 = 1 by kernel_rfl] at this
        simp only [reachBytes] at this
        omega
    have hsl : s.size ≤ 140737488355328 := by
      have := hmem 3 _ _ rfl rfl s.data.toList.length (by rw [e3x]; simp [DataW.weights])
      have hsz : s.data.toList.length = s.size := Array.length_toList
      simp only [reachBytes] at this
      omega
    have hlist : ∃ (l : List It) (rows : List Rw) (v : Value), c4 = v ∧ SlS (fun k => k < w.heap.size) w 5 v l.length (rows.flatMap rwC) ∧ ItsR (fun k => k < w.heap.size) w l rows ∧ szOkL l ∧ kwL l := by
      rcases DataW.trod_slice' Tryd.underlying26 f4 with ⟨e4, _⟩ | ⟨a, len, cap, n', elems, rest, rfl, e4, hl, hm, hx, hlen, hel⟩
      · have e4 := (List.cons.inj e4).1
        exact ⟨[], [], _, e4, ⟨Sl.nil _ _, .inl rfl⟩, by unfold ItsR; rfl, trivial, trivial⟩
      · have e4 := (List.cons.inj e4).1
        have hin : ∀ i, i < len → ∃ q : It × Rw, w.cells? base (a.add (i * 5)) 5 = some (rwC q.2) ∧ ItR (fun k => k < w.heap.size) w q.1 q.2 ∧ szOk q.1 ∧ kwB q.1 := fun i hi => by
          have h1 := hel i hi
          rw [List.getElem?_eq_getElem (by omega), show Tryd.prog.cellsOf 28 = 5 by kernel_rfl] at h1
          obtain ⟨cs', h2, h3⟩ := Option.bind_eq_some_iff.1 h1
          obtain ⟨it, r, rfl, h4, h5, h6⟩ := ih n' (by omega) cs' _ h3 (fun m hm => by
            refine hmem 4 _ _ rfl rfl m ?_
            rw [hx]
            simp only [DataW.weights, Tryd.underlying26, List.mem_cons, List.mem_append]
            exact .inr (.inl (weightsAll_mem (d := elems[i].1) (List.mem_map.2 ⟨_, List.getElem_mem _, rfl⟩) hm)))
          exact ⟨(it, r), h2, h4, h5, h6⟩
        obtain ⟨F, hF⟩ := Go.Deep.choose_lt hin
        have hfl : ((List.range len).map fun i => (F i).2).flatMap rwC = (List.range len).flatMap fun i => rwC (F i).2 := by rw [List.flatMap_map]
        obtain ⟨g1, g2⟩ := flatMap_get (f := fun i => rwC (F i).2) (sz := 5) len (fun i _ => rfl)
        refine ⟨(List.range len).map fun i => (F i).1, (List.range len).map fun i => (F i).2, _, e4, ?_, ItsR.of (by simp) (fun i hi hr => by simp only [List.getElem_map, List.getElem_range]; exact (hF i (by simpa using hi)).2.1), ?_, kwL_all fun y hy => ?_⟩
        · refine slS_of ⟨by rw [hfl, g1]; simp, ?_⟩ (by decide) (fun k hk => hk)
          simp only [List.length_map, List.length_range]
          by_cases hz : len = 0
          · exact .inl ⟨_, _, by rw [hz], hz⟩
          · right
            have hcell : ∀ i j, i < len → j < 5 → w.cell? ((a.add (i * 5)).add j) = (rwC (F i).2)[j]? := fun i j hi hj => (World.cells?_some (hF i hi).1).2.2 j hj
            have hspot : a.spot = none := by
              have h1 := hcell 0 0 (by omega) (by decide)
              have h2 : (rwC (F 0).2)[0]? = some (.int .i64 (F 0).2.k) := rfl
              rw [h2] at h1
              have := World.cell?_spot h1
              simpa [Addr.add] using this
            obtain ⟨bb, off, spot⟩ := a
            simp only at hspot
            subst hspot
            refine ⟨bb, off, cap, rfl, hl, hm, fun j u hj => ?_⟩
            rw [hfl] at hj
            have hjl : j < len * 5 := by rw [← g1]; exact (List.getElem?_eq_some_iff.1 hj).1
            have hd : j / 5 < len := Nat.div_lt_of_lt_mul (by rw [Nat.mul_comm]; exact hjl)
            have he : j / 5 * 5 + j % 5 = j := by omega
            have h1 := g2 (j / 5) (j % 5) hd (by omega)
            rw [he, hj] at h1
            have h2 := hcell (j / 5) (j % 5) hd (by omega)
            rw [Addr.add_lit, Addr.add_lit, Nat.add_assoc, he, ← h1] at h2
            exact h2
        · clear g1 g2 hfl
          have : ∀ (L : List Nat), (∀ i ∈ L, i < len) → szOkL (L.map fun i => (F i).1) := by
            intro L
            induction L with
            | nil => intro _; trivial
            | cons i L ihL => intro hL; exact ⟨(hF i (hL i (by simp))).2.2.1, ihL fun j hj => hL j (by simp [hj])⟩
          exact this _ (fun i hi => List.mem_range.1 hi)
        · obtain ⟨i, hi, rfl⟩ := List.mem_map.1 hy
          exact (hF i (List.mem_range.1 hi)).2.2.2
    obtain ⟨l, rows, v, rfl, s4, i4, z4, k4⟩ := hlist
    refine ⟨.mk k m b s l, ⟨k, m, _, s, _⟩, rfl, ?_, ⟨⟨hbl, hsl⟩, z4⟩, ⟨⟨by omega, by omega⟩, k4⟩⟩
    unfold ItR
    exact ⟨rfl, rfl, rfl, ⟨by omega, by omega⟩, slS_of sl2 (by decide) (fun k hk => hk), rows, s4, i4⟩
end Go.Proofs.YtjenohodgpmchaaDoor

namespace Go.Proofs.YtjenohodgpmchaaDoor
open Go.RowKit Cb
set_option linter.unusedSimpArgs false
set_option linter.unusedVariables false
theorem Sl.of_rowB {w : World} {B sz : Nat} {T : TypeId} {cs : List Value} (h : RowAt w B cs.toArray T) (n : Nat) (hn : n ≤ 100000) (hl : cs.length = n) (hsz : sz = 1 := by rfl) : Sl w sz (.slice (some ⟨B, 0, none⟩) n n) n cs := by
  subst hsz
  refine ⟨by rw [hl, Nat.mul_one], .inr ⟨_, 0, n, rfl, Nat.le_refl _, by simp only [maxLen]; omega, fun j u hj => ?_⟩⟩
  rw [Nat.zero_add]
  exact h.cell (by simpa using hj)
theorem make_bytesB {bl : List UInt8} (m : Nat) (hm : m ≤ 100000) (hbl : bl.length = m) (hb0 : bl = List.replicate m 0) (w : World) : (Instr.makeSlice 22 (.int .i64 (m : Int)) (.int .i64 (m : Int))).run Tryd.prog w = .ok (.slice (some ⟨w.heap.size, 0, none⟩) m m) (w.alloc (.cells (by8 bl).toArray 5)) := by
  have h := run_make (P := Tryd.prog) w 22 5 Tryd.t5 (.int .u8 0) Tryd.underlying22 (by kernel_rfl) (by kernel_rfl) .i64 .i64 (m : Int) (m : Int) (by omega) (Int.le_refl _) (by rw [show Tryd.t5.bytes = 1 from by kernel_rfl]; omega) (by omega)
  rw [h, hb0]
  have e : madeCells (Value.int .u8 0).cells ((m : Int).toNat * Tryd.t5.size) = (by8 (List.replicate m 0)).toArray := by
    rw [show Tryd.t5.size = 1 from by kernel_rfl, Int.toNat_natCast, Nat.mul_one]
    apply Array.ext
    · rw [size_madeCells, List.size_toArray, by8_len, List.length_replicate]
    · intro i h1 h2
      simp [madeCells, by8, Value.cells, Nat.mod_one]
  rw [e, Int.toNat_natCast]
theorem zeros_by8 (k : Nat) : Builtin.zeroCells (Value.int .u8 0).cells k = (by8 (List.replicate k 0)).toArray := by
  apply Array.ext
  · rw [size_zeroCells]; simp [by8, Value.cells]
  · intro i h1 h2
    simp [Builtin.zeroCells, by8, Value.cells, Nat.mod_one]
/-- 'append(l, make([]byte, k)...)' where there is no room. -/
theorem app_zeros (w : World) (B : Nat) (l bl : List UInt8) (k : Nat) (hb0 : bl = List.replicate k 0) (h0 : 0 < k) (hk : k ≤ 100000) (h : RowAt w B (by8 l).toArray 5) (hl : l.length = 3) :
    ∃ v' w', (∀ ty, (Builtin.append_ #[22, 3] ty #[.slice (some ⟨B, 0, none⟩) 3 3, .int .i64 k]).run Tryd.prog w = .ok v' w') ∧ Sl w' 1 v' (3 + k) (by8 (l ++ bl)) ∧ Below w.heap.size w w' := by
  obtain ⟨i, z, hi, hz, hsize, hby, hzs, hsz⟩ := slT_u8.inf
  have hz' : z = .int .u8 0 := by
    have : (Tryd.prog.info? 5).map (·.zero) = some (some (.int .u8 0)) := by kernel_rfl
    rw [hi] at this
    simp only [Option.map_some, Option.some.injEq] at this
    rw [hz] at this
    exact Option.some.inj this
  subst hz'
  have hold : (Builtin.firstCells i.size 3 (.slice (some ⟨B, 0, none⟩) 3 3)).run Tryd.prog w.drew = .ok (by8 l).toArray w.drew :=
    run_firstCells_some w.drew i.size 3 ⟨B, 0, none⟩ 3 3 (by8 l) (by rw [by8_len, hl, hsize]) (fun j v hj => by rw [Addr.add_lit, Nat.zero_add]; exact h.cell (by simpa using hj))
  have hr := fun ty => Lib.run_append_grow_zeros (P := Tryd.prog) w 22 3 ty 5 i (.int .u8 0) .i64 .i64 Tryd.underlying22 Tryd.underlying3 hi hz (some ⟨B, 0, none⟩) 3 3 (by8 l) hold k h0 (by rw [hsize]; decide) (by omega) (by omega) (by rw [hby]; omega) (growslice_fits (by omega) (by rw [hby]; omega))
  have hge := grownCap_ge w (3 + k) 3 5
  have hcm : grownCap w (3 + k) 3 5 ≤ maxLen := grownCap_le_maxLen w (3 + k) 3 5 (by simp only [maxLen]; omega)
  refine ⟨_, _, hr, ⟨by rw [by8_len, List.length_append, hl, hb0, List.length_replicate, Nat.mul_one], .inr ⟨_, 0, _, rfl, hge, hcm, fun j u hj => ?_⟩⟩, (Below.refl _ w).drew.alloc (by exact Nat.le_refl _) _⟩
  rw [Nat.zero_add]
  refine (RowAt.new w.drew _ 5).cell ?_
  have hjl : j < (by8 (l ++ bl)).length := (List.getElem?_eq_some_iff.1 hj).1
  rw [zeros_by8]
  have e : (by8 l).toArray ++ (by8 (List.replicate k 0)).toArray = (by8 (l ++ bl)).toArray := by rw [hb0]; simp [by8]
  rw [e, Array.getElem?_append_left (by simpa using hjl)]
  simpa using hj
theorem wpList_appz {P : Program} {w : World} {ops : Array Oper} {rest : List Oper} {o : Oper} {a : Act} {Q : Exit → Act → World → Prop} (hgd : o.guard = none) (s x : Operand) (t tn : TypeId)
    (ho : o.op = .call { callee := .builtin .append, args := #[s, x], argTypes := #[t, tn] }) (vs vx : Value) (hs : a.eval s = vs) (hx : a.eval x = vx)
    (v' : Value) (w' : World) (hr : (Builtin.append_ #[t, tn] o.type #[vs, vx]).run P w = .ok v' w') (h : wpList P ops Q rest (a.put o.dst v') w') : wpList P ops Q (o :: rest) a w :=
  wpList_plain hgd fun _ hK => Lib.wp_append_run w s x t tn ho vs vx hs hx v' w' hr (hK _ _ h)
namespace Cb
def itB (bl : List UInt8) : It := .mk 2 0 bl noS []
theorem itB_cnt (bl : List UInt8) : cnt (itB bl) = 1 + bl.length := by simp [itB, cnt, cntL, noS, ByteArray.size]
theorem itB_ok (bl : List UInt8) : nOk (itB bl) := ⟨⟨by decide, by decide⟩, trivial⟩
theorem itB_right (bl : List UInt8) : rightB (itB bl) = true := right_flat (by simp [ownB, bareB, It.k, It.n, It.b, It.s, It.l, runes_none, noS, ByteArray.size])
theorem head_2 (K : Nat) (h0 : 65531 ≤ K) (h1 : K ≤ 65535) : headB 2 (K : Int) = [89, 255, UInt8.ofNat (K - 65280)] := by
  have hc : K = 65531 ∨ K = 65532 ∨ K = 65533 ∨ K = 65534 ∨ K = 65535 := by omega
  rcases hc with rfl | rfl | rfl | rfl | rfl <;> decide
theorem itB_bytes (bl : List UInt8) (K : Nat) (hl : bl.length = K) (h0 : 65531 ≤ K) (h1 : K ≤ 65535) : bytesOf (itB bl) = [89, 255, UInt8.ofNat (K - 65280)] ++ bl := by
  rw [show bytesOf (itB bl) = headB 2 bl.length ++ bl from rfl, hl, head_2 K h0 h1]
theorem itB_len (bl : List UInt8) (K : Nat) (hl : bl.length = K) (h0 : 65531 ≤ K) (h1 : K ≤ 65535) : (bytesOf (itB bl)).length = K + 3 := by
  rw [itB_bytes bl K hl h0 h1, List.length_append, hl]; simp; omega
theorem itB_chk (bl : List UInt8) (K : Nat) (hl : bl.length = K) (h0 : 65531 ≤ K) (h1 : K ≤ 65535) : chk (itB bl) = if 65536 < K + 3 then 3 else 0 := by
  unfold chk
  rw [if_neg (by rw [itB_right]; decide), if_neg (by simp [itB, depth, depthL]), itB_len bl K hl h0 h1]
theorem dec_long {b : List UInt8} (h : 65536 < b.length) : decP b = .error 3 := by unfold decP firstP; rw [if_pos h]
end Cb
set_option maxHeartbeats 8000000 in
set_option maxRecDepth 100000 in
theorem cborBounds_m2 (w0 : World) (hT : Tabs w0) : Calls Tryd.prog 4 #[.int .i64 (-2)] w0 (Ret (.bool true) w0) := by
  have HT0 := Lib.hid hT
  obtain ⟨bl, hbl0⟩ : ∃ bl : List UInt8, bl = List.replicate 65531 0 := ⟨_, rfl⟩
  have hbl : bl.length = 65531 := by rw [hbl0, List.length_replicate]
  have hz1 : w0.heap.size < (w0.alloc (.cells (by8 bl).toArray 5)).heap.size := by rw [World.size_alloc]; omega
  have HB := Lib.hid (below_alloc w0 (.cells (by8 bl).toArray 5))
  have SB : RowKit.Hid (Sl (w0.alloc (.cells (by8 bl).toArray 5)) 1 (.slice (some ⟨w0.heap.size, 0, none⟩) 65531 65531) 65531 (by8 bl)) := Lib.hid (Sl.of_rowB (RowAt.new w0 _ _) 65531 (by decide) (by rw [by8_len, hbl]))
  have hmk : ∀ w : World, (Instr.makeSlice 22 (.int .i64 65531) (.int .i64 65531)).run Tryd.prog w = .ok (.slice (some ⟨w.heap.size, 0, none⟩) 65531 65531) (w.alloc (.cells (by8 bl).toArray 5)) := make_bytesB 65531 (by decide) hbl hbl0
  replace hbl0 := Lib.hid hbl0
  replace hbl := Lib.hid hbl
  go_enter Tryd.func4, Tryd.ntmps4
  go_wp2_with fail
  go_at_call 16
  refine (mkOctets_c _ _ _ _).mono ?_
  rintro en wq ⟨rfl, hq⟩
  replace HB := Lib.hid (below_up HB.out hq)
  replace SB := Lib.hid (SB.out.up hq)
  clear hq
  have X4 := Lib.hid (RowAt.new wq #[.int .i64 2, .int .u64 0, .slice (some ⟨w0.heap.size, 0, none⟩) 65531 65531, .string ⟨#[]⟩, .slice none 0 0] 28)
  have f0 := X4.out.cell (i := 0) rfl
  have f1 := X4.out.cell (i := 1) rfl
  have f2 := X4.out.cell (i := 2) rfl
  have f3 := X4.out.cell (i := 3) rfl
  have f4 := X4.out.cell (i := 4) rfl
  go_wp2_with fail
  clear f0 f1 f2 f3 f4
  have hq := below_alloc wq (.cells #[.int .i64 2, .int .u64 0, .slice (some ⟨w0.heap.size, 0, none⟩) 65531 65531, .string ⟨#[]⟩, .slice none 0 0] 28)
  replace HB := Lib.hid (below_up HB.out hq)
  replace SB := Lib.hid (SB.out.up hq)
  clear hq
  have hIT : ItR (fun k => k < (wq.alloc (.cells #[.int .i64 2, .int .u64 0, .slice (some ⟨w0.heap.size, 0, none⟩) 65531 65531, .string ⟨#[]⟩, .slice none 0 0] 28)).heap.size) (wq.alloc (.cells #[.int .i64 2, .int .u64 0, .slice (some ⟨w0.heap.size, 0, none⟩) 65531 65531, .string ⟨#[]⟩, .slice none 0 0] 28)) (itB bl) ⟨2, 0, .slice (some ⟨w0.heap.size, 0, none⟩) 65531 65531, ⟨#[]⟩, .slice none 0 0⟩ := itR_flat (by decide) (by decide) (slS_of (by rw [hbl.out]; exact SB.out) (by decide) fun k hk => hk)
  have hen := encode_c _ (itB bl) ⟨2, 0, .slice (some ⟨w0.heap.size, 0, none⟩) 65531 65531, ⟨#[]⟩, .slice none 0 0⟩ _ hIT (by rw [itB_cnt, hbl.out]; decide) ⟨⟨by decide, by decide⟩, trivial⟩ (HT0.out.up HB.out) (fun k hk => hk)
  unfold EncE at hen
  rw [itB_chk bl 65531 hbl.out (by decide) (by decide), itB_len bl 65531 hbl.out (by decide) (by decide)] at hen
  go_at_call 15
  refine hen.mono ?_
  clear hen hIT
  rintro en wq ⟨hq, v6, hen6, ho, hn⟩
  replace ho := ho (by decide)
  obtain ⟨a6, c6, rfl⟩ := own_slice ho
  have hen6 : en = .returned (.tuple #[.slice a6 65534 c6, .int .i64 0]) := hen6
  subst hen6
  clear ho hn
  replace HB := Lib.hid (below_up HB.out hq)
  replace SB := Lib.hid (SB.out.up hq)
  clear hq
  obtain ⟨v7, w7, hr7, S7, hb7⟩ := app_zeros (wq.alloc (.cells #[.int .u8 89, .int .u8 255, .int .u8 251] 5)) wq.heap.size [89, 255, 251] bl 65531 hbl0.out (by decide) (by decide) (RowAt.new wq _ _) rfl
  have hq := below_up (below_alloc wq (.cells #[.int .u8 89, .int .u8 255, .int .u8 251] 5)) hb7
  go_wp2_with (at_builtin; refine wpList_appz rfl _ _ 22 3 rfl _ _ rfl rfl v7 w7 (hr7 _) ?_)
  replace HB := Lib.hid (below_up HB.out hq)
  replace SB := Lib.hid (SB.out.up hq)
  clear hq hb7 hr7
  generalize w7 = wq at *
  have hlen : (bytesOf (itB bl)).length = 65534 := itB_len bl 65531 hbl.out (by decide) (by decide)
  have hbe : bytesOf (itB bl) = [89, 255, 251] ++ bl := itB_bytes bl 65531 hbl.out (by decide) (by decide)
  have hde := decode_c _ v7 (bytesOf (itB bl)) (by rw [hlen, hbe]; exact S7) (HT0.out.up HB.out)
  unfold DecE at hde
  rw [dec_read (itB_chk bl 65531 hbl.out (by decide) (by decide)) (itB_ok bl) (by rw [itB_cnt, hbl.out]; decide)] at hde
  go_at_call 9
  refine hde.mono ?_
  clear hde hlen hbe S7
  rintro en wq ⟨hq, r8, rfl, I8⟩
  have hsh := I8.shape
  obtain ⟨k8, n8, ba8, bn8, bc8, s8, la8, ln8, lc8, rfl⟩ := hsh
  clear I8
  replace HB := Lib.hid (below_up HB.out hq)
  replace SB := Lib.hid (SB.out.up hq)
  clear hq
  go_wp2_with fail
  have hq := below_alloc wq (.cells #[.int .i64 k8, .int .u64 n8, .slice ba8 bn8 bc8, .string s8, .slice la8 ln8 lc8] 28)
  replace HB := Lib.hid (below_up HB.out hq)
  replace SB := Lib.hid (SB.out.up hq)
  clear hq
  go_at_call 13
  refine (numE_c 0 _).mono ?_
  rintro en wz ⟨rfl, rfl⟩
  go_wp2_with fail
  go_at_call 13
  refine (numE_c 0 _).mono ?_
  rintro en wz ⟨rfl, rfl⟩
  go_wp2_with fail
  go_at_call 8
  refine (cbWorks_a w0 _ HB (Lib.hid (HT0.out.up HB.out))).mono ?_
  rintro en wq ⟨rfl, hq⟩
  go_wp2
  go_ret
  exact ⟨rfl, hq⟩
set_option maxHeartbeats 8000000 in
set_option maxRecDepth 100000 in
theorem cborBounds_m1 (w0 : World) (hT : Tabs w0) : Calls Tryd.prog 4 #[.int .i64 (-1)] w0 (Ret (.bool true) w0) := by
  have HT0 := Lib.hid hT
  obtain ⟨bl, hbl0⟩ : ∃ bl : List UInt8, bl = List.replicate 65532 0 := ⟨_, rfl⟩
  have hbl : bl.length = 65532 := by rw [hbl0, List.length_replicate]
  have hz1 : w0.heap.size < (w0.alloc (.cells (by8 bl).toArray 5)).heap.size := by rw [World.size_alloc]; omega
  have HB := Lib.hid (below_alloc w0 (.cells (by8 bl).toArray 5))
  have SB : RowKit.Hid (Sl (w0.alloc (.cells (by8 bl).toArray 5)) 1 (.slice (some ⟨w0.heap.size, 0, none⟩) 65532 65532) 65532 (by8 bl)) := Lib.hid (Sl.of_rowB (RowAt.new w0 _ _) 65532 (by decide) (by rw [by8_len, hbl]))
  have hmk : ∀ w : World, (Instr.makeSlice 22 (.int .i64 65532) (.int .i64 65532)).run Tryd.prog w = .ok (.slice (some ⟨w.heap.size, 0, none⟩) 65532 65532) (w.alloc (.cells (by8 bl).toArray 5)) := make_bytesB 65532 (by decide) hbl hbl0
  replace hbl0 := Lib.hid hbl0
  replace hbl := Lib.hid hbl
  go_enter Tryd.func4, Tryd.ntmps4
  go_wp2_with fail
  go_at_call 16
  refine (mkOctets_c _ _ _ _).mono ?_
  rintro en wq ⟨rfl, hq⟩
  replace HB := Lib.hid (below_up HB.out hq)
  replace SB := Lib.hid (SB.out.up hq)
  clear hq
  have X4 := Lib.hid (RowAt.new wq #[.int .i64 2, .int .u64 0, .slice (some ⟨w0.heap.size, 0, none⟩) 65532 65532, .string ⟨#[]⟩, .slice none 0 0] 28)
  have f0 := X4.out.cell (i := 0) rfl
  have f1 := X4.out.cell (i := 1) rfl
  have f2 := X4.out.cell (i := 2) rfl
  have f3 := X4.out.cell (i := 3) rfl
  have f4 := X4.out.cell (i := 4) rfl
  go_wp2_with fail
  clear f0 f1 f2 f3 f4
  have hq := below_alloc wq (.cells #[.int .i64 2, .int .u64 0, .slice (some ⟨w0.heap.size, 0, none⟩) 65532 65532, .string ⟨#[]⟩, .slice none 0 0] 28)
  replace HB := Lib.hid (below_up HB.out hq)
  replace SB := Lib.hid (SB.out.up hq)
  clear hq
  have hIT : ItR (fun k => k < (wq.alloc (.cells #[.int .i64 2, .int .u64 0, .slice (some ⟨w0.heap.size, 0, none⟩) 65532 65532, .string ⟨#[]⟩, .slice none 0 0] 28)).heap.size) (wq.alloc (.cells #[.int .i64 2, .int .u64 0, .slice (some ⟨w0.heap.size, 0, none⟩) 65532 65532, .string ⟨#[]⟩, .slice none 0 0] 28)) (itB bl) ⟨2, 0, .slice (some ⟨w0.heap.size, 0, none⟩) 65532 65532, ⟨#[]⟩, .slice none 0 0⟩ := itR_flat (by decide) (by decide) (slS_of (by rw [hbl.out]; exact SB.out) (by decide) fun k hk => hk)
  have hen := encode_c _ (itB bl) ⟨2, 0, .slice (some ⟨w0.heap.size, 0, none⟩) 65532 65532, ⟨#[]⟩, .slice none 0 0⟩ _ hIT (by rw [itB_cnt, hbl.out]; decide) ⟨⟨by decide, by decide⟩, trivial⟩ (HT0.out.up HB.out) (fun k hk => hk)
  unfold EncE at hen
  rw [itB_chk bl 65532 hbl.out (by decide) (by decide), itB_len bl 65532 hbl.out (by decide) (by decide)] at hen
  go_at_call 15
  refine hen.mono ?_
  clear hen hIT
  rintro en wq ⟨hq, v6, hen6, ho, hn⟩
  replace ho := ho (by decide)
  obtain ⟨a6, c6, rfl⟩ := own_slice ho
  have hen6 : en = .returned (.tuple #[.slice a6 65535 c6, .int .i64 0]) := hen6
  subst hen6
  clear ho hn
  replace HB := Lib.hid (below_up HB.out hq)
  replace SB := Lib.hid (SB.out.up hq)
  clear hq
  obtain ⟨v7, w7, hr7, S7, hb7⟩ := app_zeros (wq.alloc (.cells #[.int .u8 89, .int .u8 255, .int .u8 252] 5)) wq.heap.size [89, 255, 252] bl 65532 hbl0.out (by decide) (by decide) (RowAt.new wq _ _) rfl
  have hq := below_up (below_alloc wq (.cells #[.int .u8 89, .int .u8 255, .int .u8 252] 5)) hb7
  go_wp2_with (at_builtin; refine wpList_appz rfl _ _ 22 3 rfl _ _ rfl rfl v7 w7 (hr7 _) ?_)
  replace HB := Lib.hid (below_up HB.out hq)
  replace SB := Lib.hid (SB.out.up hq)
  clear hq hb7 hr7
  generalize w7 = wq at *
  have hlen : (bytesOf (itB bl)).length = 65535 := itB_len bl 65532 hbl.out (by decide) (by decide)
  have hbe : bytesOf (itB bl) = [89, 255, 252] ++ bl := itB_bytes bl 65532 hbl.out (by decide) (by decide)
  have hde := decode_c _ v7 (bytesOf (itB bl)) (by rw [hlen, hbe]; exact S7) (HT0.out.up HB.out)
  unfold DecE at hde
  rw [dec_read (itB_chk bl 65532 hbl.out (by decide) (by decide)) (itB_ok bl) (by rw [itB_cnt, hbl.out]; decide)] at hde
  go_at_call 9
  refine hde.mono ?_
  clear hde hlen hbe S7
  rintro en wq ⟨hq, r8, rfl, I8⟩
  have hsh := I8.shape
  obtain ⟨k8, n8, ba8, bn8, bc8, s8, la8, ln8, lc8, rfl⟩ := hsh
  clear I8
  replace HB := Lib.hid (below_up HB.out hq)
  replace SB := Lib.hid (SB.out.up hq)
  clear hq
  go_wp2_with fail
  have hq := below_alloc wq (.cells #[.int .i64 k8, .int .u64 n8, .slice ba8 bn8 bc8, .string s8, .slice la8 ln8 lc8] 28)
  replace HB := Lib.hid (below_up HB.out hq)
  replace SB := Lib.hid (SB.out.up hq)
  clear hq
  go_at_call 13
  refine (numE_c 0 _).mono ?_
  rintro en wz ⟨rfl, rfl⟩
  go_wp2_with fail
  go_at_call 13
  refine (numE_c 0 _).mono ?_
  rintro en wz ⟨rfl, rfl⟩
  go_wp2_with fail
  go_at_call 8
  refine (cbWorks_a w0 _ HB (Lib.hid (HT0.out.up HB.out))).mono ?_
  rintro en wq ⟨rfl, hq⟩
  go_wp2
  go_ret
  exact ⟨rfl, hq⟩
set_option maxHeartbeats 8000000 in
set_option maxRecDepth 100000 in
theorem cborBounds_0 (w0 : World) (hT : Tabs w0) : Calls Tryd.prog 4 #[.int .i64 (0)] w0 (Ret (.bool true) w0) := by
  have HT0 := Lib.hid hT
  obtain ⟨bl, hbl0⟩ : ∃ bl : List UInt8, bl = List.replicate 65533 0 := ⟨_, rfl⟩
  have hbl : bl.length = 65533 := by rw [hbl0, List.length_replicate]
  have hz1 : w0.heap.size < (w0.alloc (.cells (by8 bl).toArray 5)).heap.size := by rw [World.size_alloc]; omega
  have HB := Lib.hid (below_alloc w0 (.cells (by8 bl).toArray 5))
  have SB : RowKit.Hid (Sl (w0.alloc (.cells (by8 bl).toArray 5)) 1 (.slice (some ⟨w0.heap.size, 0, none⟩) 65533 65533) 65533 (by8 bl)) := Lib.hid (Sl.of_rowB (RowAt.new w0 _ _) 65533 (by decide) (by rw [by8_len, hbl]))
  have hmk : ∀ w : World, (Instr.makeSlice 22 (.int .i64 65533) (.int .i64 65533)).run Tryd.prog w = .ok (.slice (some ⟨w.heap.size, 0, none⟩) 65533 65533) (w.alloc (.cells (by8 bl).toArray 5)) := make_bytesB 65533 (by decide) hbl hbl0
  replace hbl0 := Lib.hid hbl0
  replace hbl := Lib.hid hbl
  go_enter Tryd.func4, Tryd.ntmps4
  go_wp2_with fail
  go_at_call 16
  refine (mkOctets_c _ _ _ _).mono ?_
  rintro en wq ⟨rfl, hq⟩
  replace HB := Lib.hid (below_up HB.out hq)
  replace SB := Lib.hid (SB.out.up hq)
  clear hq
  have X4 := Lib.hid (RowAt.new wq #[.int .i64 2, .int .u64 0, .slice (some ⟨w0.heap.size, 0, none⟩) 65533 65533, .string ⟨#[]⟩, .slice none 0 0] 28)
  have f0 := X4.out.cell (i := 0) rfl
  have f1 := X4.out.cell (i := 1) rfl
  have f2 := X4.out.cell (i := 2) rfl
  have f3 := X4.out.cell (i := 3) rfl
  have f4 := X4.out.cell (i := 4) rfl
  go_wp2_with fail
  clear f0 f1 f2 f3 f4
  have hq := below_alloc wq (.cells #[.int .i64 2, .int .u64 0, .slice (some ⟨w0.heap.size, 0, none⟩) 65533 65533, .string ⟨#[]⟩, .slice none 0 0] 28)
  replace HB := Lib.hid (below_up HB.out hq)
  replace SB := Lib.hid (SB.out.up hq)
  clear hq
  have hIT : ItR (fun k => k < (wq.alloc (.cells #[.int .i64 2, .int .u64 0, .slice (some ⟨w0.heap.size, 0, none⟩) 65533 65533, .string ⟨#[]⟩, .slice none 0 0] 28)).heap.size) (wq.alloc (.cells #[.int .i64 2, .int .u64 0, .slice (some ⟨w0.heap.size, 0, none⟩) 65533 65533, .string ⟨#[]⟩, .slice none 0 0] 28)) (itB bl) ⟨2, 0, .slice (some ⟨w0.heap.size, 0, none⟩) 65533 65533, ⟨#[]⟩, .slice none 0 0⟩ := itR_flat (by decide) (by decide) (slS_of (by rw [hbl.out]; exact SB.out) (by decide) fun k hk => hk)
  have hen := encode_c _ (itB bl) ⟨2, 0, .slice (some ⟨w0.heap.size, 0, none⟩) 65533 65533, ⟨#[]⟩, .slice none 0 0⟩ _ hIT (by rw [itB_cnt, hbl.out]; decide) ⟨⟨by decide, by decide⟩, trivial⟩ (HT0.out.up HB.out) (fun k hk => hk)
  unfold EncE at hen
  rw [itB_chk bl 65533 hbl.out (by decide) (by decide), itB_len bl 65533 hbl.out (by decide) (by decide)] at hen
  go_at_call 15
  refine hen.mono ?_
  clear hen hIT
  rintro en wq ⟨hq, v6, hen6, ho, hn⟩
  replace ho := ho (by decide)
  obtain ⟨a6, c6, rfl⟩ := own_slice ho
  have hen6 : en = .returned (.tuple #[.slice a6 65536 c6, .int .i64 0]) := hen6
  subst hen6
  clear ho hn
  replace HB := Lib.hid (below_up HB.out hq)
  replace SB := Lib.hid (SB.out.up hq)
  clear hq
  obtain ⟨v7, w7, hr7, S7, hb7⟩ := app_zeros (wq.alloc (.cells #[.int .u8 89, .int .u8 255, .int .u8 253] 5)) wq.heap.size [89, 255, 253] bl 65533 hbl0.out (by decide) (by decide) (RowAt.new wq _ _) rfl
  have hq := below_up (below_alloc wq (.cells #[.int .u8 89, .int .u8 255, .int .u8 253] 5)) hb7
  go_wp2_with (at_builtin; refine wpList_appz rfl _ _ 22 3 rfl _ _ rfl rfl v7 w7 (hr7 _) ?_)
  replace HB := Lib.hid (below_up HB.out hq)
  replace SB := Lib.hid (SB.out.up hq)
  clear hq hb7 hr7
  generalize w7 = wq at *
  have hlen : (bytesOf (itB bl)).length = 65536 := itB_len bl 65533 hbl.out (by decide) (by decide)
  have hbe : bytesOf (itB bl) = [89, 255, 253] ++ bl := itB_bytes bl 65533 hbl.out (by decide) (by decide)
  have hde := decode_c _ v7 (bytesOf (itB bl)) (by rw [hlen, hbe]; exact S7) (HT0.out.up HB.out)
  unfold DecE at hde
  rw [dec_read (itB_chk bl 65533 hbl.out (by decide) (by decide)) (itB_ok bl) (by rw [itB_cnt, hbl.out]; decide)] at hde
  go_at_call 9
  refine hde.mono ?_
  clear hde hlen hbe S7
  rintro en wq ⟨hq, r8, rfl, I8⟩
  have hsh := I8.shape
  obtain ⟨k8, n8, ba8, bn8, bc8, s8, la8, ln8, lc8, rfl⟩ := hsh
  clear I8
  replace HB := Lib.hid (below_up HB.out hq)
  replace SB := Lib.hid (SB.out.up hq)
  clear hq
  go_wp2_with fail
  have hq := below_alloc wq (.cells #[.int .i64 k8, .int .u64 n8, .slice ba8 bn8 bc8, .string s8, .slice la8 ln8 lc8] 28)
  replace HB := Lib.hid (below_up HB.out hq)
  replace SB := Lib.hid (SB.out.up hq)
  clear hq
  go_at_call 13
  refine (numE_c 0 _).mono ?_
  rintro en wz ⟨rfl, rfl⟩
  go_wp2_with fail
  go_at_call 13
  refine (numE_c 0 _).mono ?_
  rintro en wz ⟨rfl, rfl⟩
  go_wp2_with fail
  go_at_call 8
  refine (cbWorks_a w0 _ HB (Lib.hid (HT0.out.up HB.out))).mono ?_
  rintro en wq ⟨rfl, hq⟩
  go_wp2
  go_ret
  exact ⟨rfl, hq⟩
set_option maxHeartbeats 8000000 in
set_option maxRecDepth 100000 in
theorem cborBounds_1 (w0 : World) (hT : Tabs w0) : Calls Tryd.prog 4 #[.int .i64 (1)] w0 (Ret (.bool true) w0) := by
  have HT0 := Lib.hid hT
  obtain ⟨bl, hbl0⟩ : ∃ bl : List UInt8, bl = List.replicate 65534 0 := ⟨_, rfl⟩
  have hbl : bl.length = 65534 := by rw [hbl0, List.length_replicate]
  have hz1 : w0.heap.size < (w0.alloc (.cells (by8 bl).toArray 5)).heap.size := by rw [World.size_alloc]; omega
  have HB := Lib.hid (below_alloc w0 (.cells (by8 bl).toArray 5))
  have SB : RowKit.Hid (Sl (w0.alloc (.cells (by8 bl).toArray 5)) 1 (.slice (some ⟨w0.heap.size, 0, none⟩) 65534 65534) 65534 (by8 bl)) := Lib.hid (Sl.of_rowB (RowAt.new w0 _ _) 65534 (by decide) (by rw [by8_len, hbl]))
  have hmk : ∀ w : World, (Instr.makeSlice 22 (.int .i64 65534) (.int .i64 65534)).run Tryd.prog w = .ok (.slice (some ⟨w.heap.size, 0, none⟩) 65534 65534) (w.alloc (.cells (by8 bl).toArray 5)) := make_bytesB 65534 (by decide) hbl hbl0
  replace hbl0 := Lib.hid hbl0
  replace hbl := Lib.hid hbl
  go_enter Tryd.func4, Tryd.ntmps4
  go_wp2_with fail
  go_at_call 16
  refine (mkOctets_c _ _ _ _).mono ?_
  rintro en wq ⟨rfl, hq⟩
  replace HB := Lib.hid (below_up HB.out hq)
  replace SB := Lib.hid (SB.out.up hq)
  clear hq
  have X4 := Lib.hid (RowAt.new wq #[.int .i64 2, .int .u64 0, .slice (some ⟨w0.heap.size, 0, none⟩) 65534 65534, .string ⟨#[]⟩, .slice none 0 0] 28)
  have f0 := X4.out.cell (i := 0) rfl
  have f1 := X4.out.cell (i := 1) rfl
  have f2 := X4.out.cell (i := 2) rfl
  have f3 := X4.out.cell (i := 3) rfl
  have f4 := X4.out.cell (i := 4) rfl
  go_wp2_with fail
  clear f0 f1 f2 f3 f4
  have hq := below_alloc wq (.cells #[.int .i64 2, .int .u64 0, .slice (some ⟨w0.heap.size, 0, none⟩) 65534 65534, .string ⟨#[]⟩, .slice none 0 0] 28)
  replace HB := Lib.hid (below_up HB.out hq)
  replace SB := Lib.hid (SB.out.up hq)
  clear hq
  have hIT : ItR (fun k => k < (wq.alloc (.cells #[.int .i64 2, .int .u64 0, .slice (some ⟨w0.heap.size, 0, none⟩) 65534 65534, .string ⟨#[]⟩, .slice none 0 0] 28)).heap.size) (wq.alloc (.cells #[.int .i64 2, .int .u64 0, .slice (some ⟨w0.heap.size, 0, none⟩) 65534 65534, .string ⟨#[]⟩, .slice none 0 0] 28)) (itB bl) ⟨2, 0, .slice (some ⟨w0.heap.size, 0, none⟩) 65534 65534, ⟨#[]⟩, .slice none 0 0⟩ := itR_flat (by decide) (by decide) (slS_of (by rw [hbl.out]; exact SB.out) (by decide) fun k hk => hk)
  have hen := encode_c _ (itB bl) ⟨2, 0, .slice (some ⟨w0.heap.size, 0, none⟩) 65534 65534, ⟨#[]⟩, .slice none 0 0⟩ _ hIT (by rw [itB_cnt, hbl.out]; decide) ⟨⟨by decide, by decide⟩, trivial⟩ (HT0.out.up HB.out) (fun k hk => hk)
  unfold EncE at hen
  rw [itB_chk bl 65534 hbl.out (by decide) (by decide), itB_len bl 65534 hbl.out (by decide) (by decide)] at hen
  go_at_call 15
  refine hen.mono ?_
  clear hen hIT
  rintro en wq ⟨hq, v6, hen6, ho, hn⟩
  obtain rfl := hn (by decide)
  have hen6 : en = .returned (.tuple #[.slice none 0 0, .int .i64 3]) := hen6
  subst hen6
  clear ho hn
  replace HB := Lib.hid (below_up HB.out hq)
  replace SB := Lib.hid (SB.out.up hq)
  clear hq
  obtain ⟨v7, w7, hr7, S7, hb7⟩ := app_zeros (wq.alloc (.cells #[.int .u8 89, .int .u8 255, .int .u8 254] 5)) wq.heap.size [89, 255, 254] bl 65534 hbl0.out (by decide) (by decide) (RowAt.new wq _ _) rfl
  have hq := below_up (below_alloc wq (.cells #[.int .u8 89, .int .u8 255, .int .u8 254] 5)) hb7
  go_wp2_with (at_builtin; refine wpList_appz rfl _ _ 22 3 rfl _ _ rfl rfl v7 w7 (hr7 _) ?_)
  replace HB := Lib.hid (below_up HB.out hq)
  replace SB := Lib.hid (SB.out.up hq)
  clear hq hb7 hr7
  generalize w7 = wq at *
  have hlen : (bytesOf (itB bl)).length = 65537 := itB_len bl 65534 hbl.out (by decide) (by decide)
  have hbe : bytesOf (itB bl) = [89, 255, 254] ++ bl := itB_bytes bl 65534 hbl.out (by decide) (by decide)
  have hde := decode_c _ v7 (bytesOf (itB bl)) (by rw [hlen, hbe]; exact S7) (HT0.out.up HB.out)
  unfold DecE at hde
  rw [dec_long (by rw [hlen]; decide)] at hde
  go_at_call 9
  refine hde.mono ?_
  clear hde hlen hbe S7
  rintro en wq ⟨hq, rfl⟩
  replace HB := Lib.hid (below_up HB.out hq)
  replace SB := Lib.hid (SB.out.up hq)
  clear hq
  go_wp2_with fail
  have hq := below_alloc wq (.cells #[.int .i64 0, .int .u64 0, .slice none 0 0, .string ⟨#[]⟩, .slice none 0 0] 28)
  replace HB := Lib.hid (below_up HB.out hq)
  replace SB := Lib.hid (SB.out.up hq)
  clear hq
  go_at_call 13
  refine (numE_c 3 _).mono ?_
  rintro en wz ⟨rfl, rfl⟩
  go_wp2_with fail
  go_at_call 13
  refine (numE_c 3 _).mono ?_
  rintro en wz ⟨rfl, rfl⟩
  go_wp2_with fail
  go_at_call 8
  refine (cbWorks_a w0 _ HB (Lib.hid (HT0.out.up HB.out))).mono ?_
  rintro en wq ⟨rfl, hq⟩
  go_wp2
  go_ret
  exact ⟨rfl, hq⟩
set_option maxHeartbeats 8000000 in
set_option maxRecDepth 100000 in
theorem cborBounds_2 (w0 : World) (hT : Tabs w0) : Calls Tryd.prog 4 #[.int .i64 (2)] w0 (Ret (.bool true) w0) := by
  have HT0 := Lib.hid hT
  obtain ⟨bl, hbl0⟩ : ∃ bl : List UInt8, bl = List.replicate 65535 0 := ⟨_, rfl⟩
  have hbl : bl.length = 65535 := by rw [hbl0, List.length_replicate]
  have hz1 : w0.heap.size < (w0.alloc (.cells (by8 bl).toArray 5)).heap.size := by rw [World.size_alloc]; omega
  have HB := Lib.hid (below_alloc w0 (.cells (by8 bl).toArray 5))
  have SB : RowKit.Hid (Sl (w0.alloc (.cells (by8 bl).toArray 5)) 1 (.slice (some ⟨w0.heap.size, 0, none⟩) 65535 65535) 65535 (by8 bl)) := Lib.hid (Sl.of_rowB (RowAt.new w0 _ _) 65535 (by decide) (by rw [by8_len, hbl]))
  have hmk : ∀ w : World, (Instr.makeSlice 22 (.int .i64 65535) (.int .i64 65535)).run Tryd.prog w = .ok (.slice (some ⟨w.heap.size, 0, none⟩) 65535 65535) (w.alloc (.cells (by8 bl).toArray 5)) := make_bytesB 65535 (by decide) hbl hbl0
  replace hbl0 := Lib.hid hbl0
  replace hbl := Lib.hid hbl
  go_enter Tryd.func4, Tryd.ntmps4
  go_wp2_with fail
  go_at_call 16
  refine (mkOctets_c _ _ _ _).mono ?_
  rintro en wq ⟨rfl, hq⟩
  replace HB := Lib.hid (below_up HB.out hq)
  replace SB := Lib.hid (SB.out.up hq)
  clear hq
  have X4 := Lib.hid (RowAt.new wq #[.int .i64 2, .int .u64 0, .slice (some ⟨w0.heap.size, 0, none⟩) 65535 65535, .string ⟨#[]⟩, .slice none 0 0] 28)
  have f0 := X4.out.cell (i := 0) rfl
  have f1 := X4.out.cell (i := 1) rfl
  have f2 := X4.out.cell (i := 2) rfl
  have f3 := X4.out.cell (i := 3) rfl
  have f4 := X4.out.cell (i := 4) rfl
  go_wp2_with fail
  clear f0 f1 f2 f3 f4
  have hq := below_alloc wq (.cells #[.int .i64 2, .int .u64 0, .slice (some ⟨w0.heap.size, 0, none⟩) 65535 65535, .string ⟨#[]⟩, .slice none 0 0] 28)
  replace HB := Lib.hid (below_up HB.out hq)
  replace SB := Lib.hid (SB.out.up hq)
  clear hq
  have hIT : ItR (fun k => k < (wq.alloc (.cells #[.int .i64 2, .int .u64 0, .slice (some ⟨w0.heap.size, 0, none⟩) 65535 65535, .string ⟨#[]⟩, .slice none 0 0] 28)).heap.size) (wq.alloc (.cells #[.int .i64 2, .int .u64 0, .slice (some ⟨w0.heap.size, 0, none⟩) 65535 65535, .string ⟨#[]⟩, .slice none 0 0] 28)) (itB bl) ⟨2, 0, .slice (some ⟨w0.heap.size, 0, none⟩) 65535 65535, ⟨#[]⟩, .slice none 0 0⟩ := itR_flat (by decide) (by decide) (slS_of (by rw [hbl.out]; exact SB.out) (by decide) fun k hk => hk)
  have hen := encode_c _ (itB bl) ⟨2, 0, .slice (some ⟨w0.heap.size, 0, none⟩) 65535 65535, ⟨#[]⟩, .slice none 0 0⟩ _ hIT (by rw [itB_cnt, hbl.out]; decide) ⟨⟨by decide, by decide⟩, trivial⟩ (HT0.out.up HB.out) (fun k hk => hk)
  unfold EncE at hen
  rw [itB_chk bl 65535 hbl.out (by decide) (by decide), itB_len bl 65535 hbl.out (by decide) (by decide)] at hen
  go_at_call 15
  refine hen.mono ?_
  clear hen hIT
  rintro en wq ⟨hq, v6, hen6, ho, hn⟩
  obtain rfl := hn (by decide)
  have hen6 : en = .returned (.tuple #[.slice none 0 0, .int .i64 3]) := hen6
  subst hen6
  clear ho hn
  replace HB := Lib.hid (below_up HB.out hq)
  replace SB := Lib.hid (SB.out.up hq)
  clear hq
  obtain ⟨v7, w7, hr7, S7, hb7⟩ := app_zeros (wq.alloc (.cells #[.int .u8 89, .int .u8 255, .int .u8 255] 5)) wq.heap.size [89, 255, 255] bl 65535 hbl0.out (by decide) (by decide) (RowAt.new wq _ _) rfl
  have hq := below_up (below_alloc wq (.cells #[.int .u8 89, .int .u8 255, .int .u8 255] 5)) hb7
  go_wp2_with (at_builtin; refine wpList_appz rfl _ _ 22 3 rfl _ _ rfl rfl v7 w7 (hr7 _) ?_)
  replace HB := Lib.hid (below_up HB.out hq)
  replace SB := Lib.hid (SB.out.up hq)
  clear hq hb7 hr7
  generalize w7 = wq at *
  have hlen : (bytesOf (itB bl)).length = 65538 := itB_len bl 65535 hbl.out (by decide) (by decide)
  have hbe : bytesOf (itB bl) = [89, 255, 255] ++ bl := itB_bytes bl 65535 hbl.out (by decide) (by decide)
  have hde := decode_c _ v7 (bytesOf (itB bl)) (by rw [hlen, hbe]; exact S7) (HT0.out.up HB.out)
  unfold DecE at hde
  rw [dec_long (by rw [hlen]; decide)] at hde
  go_at_call 9
  refine hde.mono ?_
  clear hde hlen hbe S7
  rintro en wq ⟨hq, rfl⟩
  replace HB := Lib.hid (below_up HB.out hq)
  replace SB := Lib.hid (SB.out.up hq)
  clear hq
  go_wp2_with fail
  have hq := below_alloc wq (.cells #[.int .i64 0, .int .u64 0, .slice none 0 0, .string ⟨#[]⟩, .slice none 0 0] 28)
  replace HB := Lib.hid (below_up HB.out hq)
  replace SB := Lib.hid (SB.out.up hq)
  clear hq
  go_at_call 13
  refine (numE_c 3 _).mono ?_
  rintro en wz ⟨rfl, rfl⟩
  go_wp2_with fail
  go_at_call 13
  refine (numE_c 3 _).mono ?_
  rintro en wz ⟨rfl, rfl⟩
  go_wp2_with fail
  go_at_call 8
  refine (cbWorks_a w0 _ HB (Lib.hid (HT0.out.up HB.out))).mono ?_
  rintro en wq ⟨rfl, hq⟩
  go_wp2
  go_ret
  exact ⟨rfl, hq⟩
end Go.Proofs.YtjenohodgpmchaaDoor

namespace Go.Proofs.YtjenohodgpmchaaDoor
open Go.RowKit Cb
set_option linter.unusedSimpArgs false
set_option linter.unusedVariables false
set_option maxRecDepth 100000 in
theorem cborBounds_law (m : Int) (w : World) (hT : Tabs w) : Calls Tryd.prog 4 #[.int .i64 m] w (Ret (.bool true) w) := by
  by_cases h1 : m < -2
  · have hd : decide (m < -2) = true := decide_eq_true h1
    go_enter Tryd.func4, Tryd.ntmps4
    go_wp2_with (go_at_call 8; refine (cbWorks_a w _ (Lib.hid (Below.refl _ _)) (Lib.hid hT)).mono ?_; rintro en w1 ⟨rfl, hb⟩)
    go_ret
    exact ⟨rfl, hb⟩
  · by_cases h2 : 2 < m
    · have hd : decide (m < -2) = false := decide_eq_false h1
      have hd2 : decide (2 < m) = true := decide_eq_true h2
      have hd3 : decide (m > 2) = true := decide_eq_true h2
      go_enter Tryd.func4, Tryd.ntmps4
      go_wp2_with (go_at_call 8; refine (cbWorks_a w _ (Lib.hid (Below.refl _ _)) (Lib.hid hT)).mono ?_; rintro en w1 ⟨rfl, hb⟩)
      go_ret
      exact ⟨rfl, hb⟩
    · have hc : m = -2 ∨ m = -1 ∨ m = 0 ∨ m = 1 ∨ m = 2 := by omega
      rcases hc with rfl | rfl | rfl | rfl | rfl
      · exact cborBounds_m2 w hT
      · exact cborBounds_m1 w hT
      · exact cborBounds_0 w hT
      · exact cborBounds_1 w hT
      · exact cborBounds_2 w hT
end Go.Proofs.YtjenohodgpmchaaDoor

namespace Go.Proofs.YtjenohodgpmchaaDoor.cborBoundsRow
open Go.ChangeShapes Go.WideShapes Go.ChangeAt Go.RowKit
open Go.ChangeMaps (open_string shut_string)
set_option linter.unusedVariables false

theorem own : ownKnob Tryd.prog.godebug = none := by kernel_rfl
theorem laidOut : laidOutB Tryd.prog = true := by kernel_rfl

open Go.Lib
/-- A world that meets the condition: the settled one, the two tables laid. -/
noncomputable def laidWorld (os : Os) : World :=
  let w0 := World.holding Tryd.prog os ⟨#[], #[], []⟩
  let put (h : Array Obj) (g : Nat) (cs : Array Value) : Array Obj := h.modify g fun
    | .cells _ t frozen => .cells cs t frozen
    | o => o
  let h1 := put w0.heap 0 (Lib.firstTab.map fun z => Value.int .u8 z).toArray
  let h2 := put h1 1 ((List.range 16).flatMap fun i => [Value.int .u8 (Lib.accLo i), Value.int .u8 (Lib.accHi i)]).toArray
  { w0 with heap := h2 }
theorem laid_met (os : Os) (args : Array Value) : laidMet Tryd.prog Rows.cborBoundsRow.laid ((laidWorld os).forCall (fun _ _ => 0) ⟨#[], args, []⟩).memory :=
  (LaidIn.of_run (l := [("unicode/utf8.acceptRanges", Rows.laid_unicode_utf8_acceptRanges), ("unicode/utf8.first", Rows.laid_unicode_utf8_first)]) [0, 1] 8 (by kernel_rfl) (by kernel_rfl) (by kernel_rfl) (by kernel_rfl)).met
theorem witness_row (os : Os) {H : Type} (enc : TypeId × Value → H) :
    (OpenSpec.ofChange Rows.cborBoundsSpec).preRow enc Tryd.prog Tryd.f4 Rows.cborBoundsRow.domain false Rows.cborBoundsRow.laid ((laidWorld os).forCall (fun _ _ => 0) ⟨#[], #[.int .i64 0], []⟩).memory #[.int .i64 0] := by
  have hw : (DataW.whole enc Tryd.prog ((laidWorld os).forCall (fun _ _ => 0) ⟨#[], #[.int .i64 0], []⟩).memory Tryd.f4.params.toList (OpenSpec.ofChange Rows.cborBoundsSpec).vars false (#[.int .i64 0] : Array Value).toList 8).map (fun x => (x.1, x.2.1)) =
      some ([.lit (.int .i64 0)], []) := by kernel_rfl
  obtain ⟨⟨x1, x2, x3⟩, hx, hx1⟩ := Option.map_eq_some_iff.1 hw
  simp only [Prod.mk.injEq] at hx1
  obtain ⟨rfl, rfl⟩ := hx1
  exact OpenSpec.preRow_of_cond 8 hx (by kernel_rfl) (fun k hk => by cases hk) (by kernel_rfl) (laid_met os _)

set_option maxRecDepth 100000 in
theorem lifted (os : Os) (started : os.Started) (H : Type) (enc : TypeId × Value → H) :
    ReturnsInHanded {} Tryd.checked os 4 .any ((OpenSpec.ofChange Rows.cborBoundsSpec).preRow enc Tryd.prog Tryd.f4 Rows.cborBoundsRow.domain false Rows.cborBoundsRow.laid) (Rows.cborBoundsSpec.post enc Tryd.prog Tryd.f4 false true false false) := by
  refine returnsInHanded_of_row (C := Tryd.checked) (s := OpenSpec.ofChange Rows.cborBoundsSpec) (F := fun _ _ _ => 0) own started (by kernel_rfl) Tryd.func4
    (witness_row_atRef (enc := enc) (C := Tryd.checked) false (laidWorld os) #[.int .i64 0] rfl (by kernel_rfl) (by kernel_rfl) (by kernel_rfl) (witness_row os enc)) ?_
  intro W base args ds gs before hval0 hW hcnd _ hsz0 hL hshp _
  have hsz : (DataW.weightsEach Tryd.prog (Tryd.f4.params.toList ++ Rows.cborBoundsSpec.plain.varTypes Tryd.prog) (ds ++ gs)).all (· ≤ reachBytes) = true := hsz0
  have hval : ∀ (j : Nat) t v, Tryd.f4.params[j]? = some t → args[j]? = some v → Value.okWide Tryd.prog W .any base t v := hval0
  have hT : Tabs W :=
    utf8Tabs_of_readsT (ρ := lays197_ren) { lays197 with } ⟨by kernel_rfl, by kernel_rfl, by kernel_rfl, by kernel_rfl, by kernel_rfl, by kernel_rfl, by kernel_rfl⟩
      (by have := Lib.laidMet.reads hL (n := "unicode/utf8.first") (d := Rows.laid_unicode_utf8_first) (.tail _ (.head _)); exact Pinned.utf8First_eq ▸ this) (by have := Lib.laidMet.reads hL (n := "unicode/utf8.acceptRanges") (d := Rows.laid_unicode_utf8_acceptRanges) (.head _); rwa [show (Rows.laid_unicode_utf8_acceptRanges : DataW Unit) = acceptData by kernel_rfl] at this)
  have hW' := hW
  obtain ⟨p, q, hA0, hV, rfl, hfz, hnd⟩ := hW
  have hA : DataW.TrodAll enc Tryd.prog W 0 (fun _ => true) true Tryd.f4.params.toList args.toList ds p := hA0
  rw [Tryd.params4] at hA hval hsz
  obtain ⟨v0, vs0, d0, ds0, p0, q0, hargs, rfl, rfl, h0, r0⟩ := trodAll_cons hA
  obtain ⟨rfl, rfl, rfl⟩ := trodAll_nil r0
  obtain rfl : args = #[v0] := by cases args; simp_all
  obtain ⟨rfl, rfl⟩ := trodVars_none hV
  have k0 := h0
  have lt0 : ∀ x ∈ p0, x.block < W.heap.size := by obtain ⟨m, hm⟩ := k0; exact DataW.trod_lt m _ _ _ hm
  obtain ⟨more, rfl, _, _, wmore⟩ := open_int Tryd.underlying3 (hval 0 3 v0 rfl rfl) h0
  clear hA0 hval0
  refine (cborBounds_law more W hT).mono fun e W' ⟨he, bel⟩ => ?_
  subst he
  exact ⟨_, rfl, _, _, _, [], _, [], hW', trodAll_mk1 (shut_bool Tryd.underlying4 _), (trodAll_cons_mk (Below.trod laidOut (by kernel_rfl) (of_decide_eq_true (by kernel_rfl)) k0 bel lt0) trodAll_mk0), rfl, bel.frame _, fun h => by cases h⟩

theorem over : Rows.cborBoundsRow.holds Tryd.pinned (OpenSpec.ofChange Rows.cborBoundsSpec) :=
  OpenClaim.holds_of_wide 4 Tryd.f4 rfl rfl rfl rfl rfl rfl rfl ⟨rfl, rfl, rfl, rfl, rfl⟩ rfl rfl rfl rfl rfl (by kernel_rfl) Tryd.func4 (by kernel_rfl)
    (of_decide_eq_true (by kernel_rfl)) (by unfold Func.isWrapper; first | (rw [if_pos (by decide +kernel)]; kernel_rfl) | (rw [if_neg (by decide +kernel)]; exact ⟨rfl, rfl⟩))
    (fun os started H enc _ => by rw [OpenClaim.pre_eq_preRow]; exact lifted os started H enc)

theorem proved : Rows.CborBoundsCardSaid :=
  Claim7.holds_tied_plain_at .later [] [.data, .pinned] true (true, "0ece3b67bcc1c0921f4ca99338b3de9fb5b1d54749c680f8d782d7ca69802733") true
    over (fun _ h => by cases h) (by kernel_rfl) (fun _ h => by cases h) cborBounds_row_tie rfl ⟨rfl, rfl⟩ (by kernel_rfl) rfl
    (fun f fn hf hfn => by
      obtain rfl : f = 4 := Option.some.inj ((show Tryd.prog.funcNamed "packsaddle/packsaddlelaw03.CborBounds" = some 4 by kernel_rfl).symm.trans hf) |>.symm
      obtain rfl : fn = Tryd.f4 := (Option.some.inj (Tryd.func4.symm.trans hfn)).symm
      exact ⟨by kernel_rfl, fun j t ht => by
        rw [Tryd.params4] at ht
        have h3 : t ∈ [3] := by
          have := List.mem_of_getElem? (by simpa using ht : ([3] : List TypeId)[j]? = some t)
          exact this
        simp only [List.mem_cons, List.not_mem_nil, or_false] at h3
        rcases h3 with rfl
        · exact (show Tryd.prog.wantsStandIn 3 = false by kernel_rfl)⟩)
    (by kernel_rfl)
#print axioms proved
end Go.Proofs.YtjenohodgpmchaaDoor.cborBoundsRow
