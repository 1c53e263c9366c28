/-
  CbOp, CborHolds, CborHoldsRow: several texts in one (bundle.py).
-/
import Derived.Test.YtjenohodgpmchaaDoorCbK44
import Derived.Test.YtjenohodgpmchaaDoorCbK31
import Derived.Test.YtjenohodgpmchaaDoorCbK43
import Derived.Test.YtjenohodgpmchaaDoorRows
import Derived.Test.YtjenohodgpmchaaDoorCbK02
import Derived.SizedLaws
import Derived.Test.YtjenohodgpmchaaDoorTie
import Derived.Test.YtjenohodgpmchaaDoorCards
import Derived.Lib.LaidIn
import Derived.Lib.LaidU8T
import Derived.Deep.DeepHandedRow
import Derived.Deep.DeepWitnessRowRef
import Derived.PinnedBridge
import Derived.ProofKit
import Derived.SevenTiedAt
namespace Go.Proofs.YtjenohodgpmchaaDoor
open Go.RowKit Go.ChangeAt Cb
set_option linter.unusedSimpArgs false
set_option linter.unusedVariables false
theorem DataW.trod_slice' {H : Type} {enc : TypeId × Value → H} {P : Program} {w : World} {base : Nat} {spare : Nat → Bool} {held : Bool} {t e : TypeId} {fuel : Nat} {cs : List Value} {x : DataW H × List MemPlace} (ht : P.underlying t = some (.slice e)) (h : DataW.trod enc P w base spare held fuel t cs = some x) :
    (cs = [.slice none 0 0] ∧ x.1 = .nil) ∨ ∃ (a : Addr) (len cap n : Nat) (elems rest : List (DataW H × List MemPlace)), fuel = n + 1 ∧ cs = [.slice (some a) len cap] ∧ len ≤ cap ∧ cap ≤ maxLen ∧ x.1 = .slice (elems.map (·.1)) (rest.map (·.1)) ∧ elems.length = len ∧
      ∀ i, i < len → (w.cells? base (a.add (i * P.cellsOf e)) (P.cellsOf e)).bind (DataW.trod enc P w base spare held n e) = elems[i]? := by
  rcases DataW.trod_slice ht h with ⟨h0, h1⟩ | ⟨a, len, cap, elems, rest, n, hn, h1, h2, hb, hl, hm, hlen, hel, _⟩
  · exact .inl ⟨h0, by rw [h1]⟩
  · exact .inr ⟨a, len, cap, n, elems, rest, hn, h1, hl, hm, by rw [h2], hlen, hel⟩
instance : Inhabited (It × Rw) := ⟨(.mk 0 0 [] noS [], ⟨0, 0, .slice none 0 0, ⟨#[]⟩, .slice none 0 0⟩)⟩
theorem slS_of {S : Nat → Prop} {w : World} {sz n : Nat} {v : Value} {cs : List Value} (h : Sl w sz v n cs) (h0 : 0 < sz) (hS : ∀ k, k < w.heap.size → S k) : SlS S w sz v n cs := ⟨h, (h.blk h0).imp id fun f k hk => hS k (f k hk)⟩
set_option maxHeartbeats 2000000 in
set_option maxRecDepth 100000 in
theorem open_item {H : Type} {enc : TypeId × Value → H} {w : World} {base : Nat} {spare : Nat → Bool} {held : Bool} : ∀ (fuel : Nat) (cs : List Value) (x : DataW H × List MemPlace), DataW.trod enc Tryd.prog w base spare held fuel 28 cs = some x → (∀ n ∈ x.1.weights Tryd.prog 28, n ≤ reachBytes) →
    ∃ (it : It) (r : Rw), cs = rwC r ∧ ItR (fun k => k < w.heap.size) w it r ∧ szOk it ∧ kwB it := by
  intro fuel
  induction fuel using Nat.strongRecOn with
  | ind fuel ih =>
    intro cs x h hw
    obtain ⟨xs, n, rfl, rfl, hcl, hxl, hf⟩ := DataW.trod_struct Tryd.underlying28 h
    have hcl : cs.length = 5 := hcl.trans (by kernel_rfl)
    have hxl : xs.length = 5 := hxl
    match cs, hcl with
    | [c0, c1, c2, c3, c4], _ =>
    match xs, hxl with
    | [y0, y1, y2, y3, y4], _ =>
    have f0 := hf 0 { name := "Kind", type := 24, offset := 0, embedded := false, tag := "", pkgPath := "", byteOffset := 0 } rfl
    have f1 := hf 1 { name := "N", type := 25, offset := 1, embedded := false, tag := "", pkgPath := "", byteOffset := 8 } rfl
    have f2 := hf 2 { name := "B", type := 22, offset := 2, embedded := false, tag := "", pkgPath := "", byteOffset := 16 } rfl
    have f3 := hf 3 { name := "S", type := 9, offset := 3, embedded := false, tag := "", pkgPath := "", byteOffset := 40 } rfl
    have f4 := hf 4 { name := "L", type := 26, offset := 4, embedded := false, tag := "", pkgPath := "", byteOffset := 56 } rfl
    simp only [show Tryd.prog.cellsOf 24 = 1 by kernel_rfl, show Tryd.prog.cellsOf 25 = 1 by kernel_rfl, show Tryd.prog.cellsOf 22 = 1 by kernel_rfl, show Tryd.prog.cellsOf 9 = 1 by kernel_rfl, show Tryd.prog.cellsOf 26 = 1 by kernel_rfl, List.drop_zero, List.drop_succ_cons, List.take_succ_cons, List.take_zero, List.getElem?_cons_zero, List.getElem?_cons_succ] at f0 f1 f2 f3 f4
    have hmem : ∀ (j : Nat) (t : TypeId) (d : DataW H), ([24, 25, 22, 9, 26] : List TypeId)[j]? = some t → ([y0.1, y1.1, y2.1, y3.1, y4.1] : List (DataW H))[j]? = some d → ∀ m ∈ d.weights Tryd.prog t, m ≤ reachBytes := fun j t d h1 h2 m hm => hw m (by
      simp only [DataW.weights, Tryd.underlying28, List.map_cons, List.map_nil]
      exact DataW.weights_mem_each (ts := [24, 25, 22, 9, 26]) (ds := [y0.1, y1.1, y2.1, y3.1, y4.1]) h1 h2 m hm)
    obtain ⟨k, e0, _, wk⟩ := DataW.trod_int Tryd.underlying24 f0
    obtain ⟨m, e1, _, wm⟩ := DataW.trod_int Tryd.underlying25 f1
    obtain ⟨s, e3, e3x, ws⟩ := DataW.trod_string Tryd.underlying9 f3
    obtain ⟨a2, len2, cap2, vs2, e2, sl2, lf2, nl2⟩ := open_flat (ls := [5]) (sz := 1) Tryd.underlying22 (by kernel_rfl) rfl (by kernel_rfl) (by decide) f2
    obtain ⟨b, rfl⟩ := bytes_of Tryd.underlying5 sl2 lf2
    have hbn := sl2.n_len
    subst hbn
    have e0 := (List.cons.inj e0).1
    have e1 := (List.cons.inj e1).1
    have e2 := (List.cons.inj e2).1
    have e3 := (List.cons.inj e3).1
    subst e0; subst e1; subst e2; subst e3
    simp [Lit.wf, IntKind.min, IntKind.max, IntKind.signed, IntKind.bits] at wk wm
    have hbl : b.length ≤ 140737488355328 := by
      rcases nl2 with ⟨_, h0⟩ | ⟨es, sp, h1, h2⟩
      · omega
      · have := hmem 2 _ _ rfl rfl ((es.length + sp.length) * Tryd.prog.bytesOf 5) (by rw [h1]; simp [DataW.weights, Tryd.underlying22])
        rw [show Tryd.prog.bytesOf 5 = 1 by kernel_rfl] at this
        simp only [reachBytes] at this
        omega
    have hsl : s.size ≤ 140737488355328 := by
      have := hmem 3 _ _ rfl rfl s.data.toList.length (by rw [e3x]; simp [DataW.weights])
      have hsz : s.data.toList.length = s.size := Array.length_toList
      simp only [reachBytes] at this
      omega
    have hlist : ∃ (l : List It) (rows : List Rw) (v : Value), c4 = v ∧ SlS (fun k => k < w.heap.size) w 5 v l.length (rows.flatMap rwC) ∧ ItsR (fun k => k < w.heap.size) w l rows ∧ szOkL l ∧ kwL l := by
      rcases DataW.trod_slice' Tryd.underlying26 f4 with ⟨e4, _⟩ | ⟨a, len, cap, n', elems, rest, rfl, e4, hl, hm, hx, hlen, hel⟩
      · have e4 := (List.cons.inj e4).1
        exact ⟨[], [], _, e4, ⟨Sl.nil _ _, .inl rfl⟩, by unfold ItsR; rfl, trivial, trivial⟩
      · have e4 := (List.cons.inj e4).1
        have hin : ∀ i, i < len → ∃ q : It × Rw, w.cells? base (a.add (i * 5)) 5 = some (rwC q.2) ∧ ItR (fun k => k < w.heap.size) w q.1 q.2 ∧ szOk q.1 ∧ kwB q.1 := fun i hi => by
          have h1 := hel i hi
          rw [List.getElem?_eq_getElem (by omega), show Tryd.prog.cellsOf 28 = 5 by kernel_rfl] at h1
          obtain ⟨cs', h2, h3⟩ := Option.bind_eq_some_iff.1 h1
          obtain ⟨it, r, rfl, h4, h5, h6⟩ := ih n' (by omega) cs' _ h3 (fun m hm => by
            refine hmem 4 _ _ rfl rfl m ?_
            rw [hx]
            simp only [DataW.weights, Tryd.underlying26, List.mem_cons, List.mem_append]
            exact .inr (.inl (weightsAll_mem (d := elems[i].1) (List.mem_map.2 ⟨_, List.getElem_mem _, rfl⟩) hm)))
          exact ⟨(it, r), h2, h4, h5, h6⟩
        obtain ⟨F, hF⟩ := Go.Deep.choose_lt hin
        have hfl : ((List.range len).map fun i => (F i).2).flatMap rwC = (List.range len).flatMap fun i => rwC (F i).2 := by rw [List.flatMap_map]
        obtain ⟨g1, g2⟩ := flatMap_get (f := fun i => rwC (F i).2) (sz := 5) len (fun i _ => rfl)
        refine ⟨(List.range len).map fun i => (F i).1, (List.range len).map fun i => (F i).2, _, e4, ?_, ItsR.of (by simp) (fun i hi hr => by simp only [List.getElem_map, List.getElem_range]; exact (hF i (by simpa using hi)).2.1), ?_, kwL_all fun y hy => ?_⟩
        · refine slS_of ⟨by rw [hfl, g1]; simp, ?_⟩ (by decide) (fun k hk => hk)
          simp only [List.length_map, List.length_range]
          by_cases hz : len = 0
          · exact .inl ⟨_, _, by rw [hz], hz⟩
          · right
            have hcell : ∀ i j, i < len → j < 5 → w.cell? ((a.add (i * 5)).add j) = (rwC (F i).2)[j]? := fun i j hi hj => (World.cells?_some (hF i hi).1).2.2 j hj
            have hspot : a.spot = none := by
              have h1 := hcell 0 0 (by omega) (by decide)
              have h2 : (rwC (F 0).2)[0]? = some (.int .i64 (F 0).2.k) := rfl
              rw [h2] at h1
              have := World.cell?_spot h1
              simpa [Addr.add] using this
            obtain ⟨bb, off, spot⟩ := a
            simp only at hspot
            subst hspot
            refine ⟨bb, off, cap, rfl, hl, hm, fun j u hj => ?_⟩
            rw [hfl] at hj
            have hjl : j < len * 5 := by rw [← g1]; exact (List.getElem?_eq_some_iff.1 hj).1
            have hd : j / 5 < len := Nat.div_lt_of_lt_mul (by rw [Nat.mul_comm]; exact hjl)
            have he : j / 5 * 5 + j % 5 = j := by omega
            have h1 := g2 (j / 5) (j % 5) hd (by omega)
            rw [he, hj] at h1
            have h2 := hcell (j / 5) (j % 5) hd (by omega)
            rw [Addr.add_lit, Addr.add_lit, Nat.add_assoc, he, ← h1] at h2
            exact h2
        · clear g1 g2 hfl
          have : ∀ (L : List Nat), (∀ i ∈ L, i < len) → szOkL (L.map fun i => (F i).1) := by
            intro L
            induction L with
            | nil => intro _; trivial
            | cons i L ihL => intro hL; exact ⟨(hF i (hL i (by simp))).2.2.1, ihL fun j hj => hL j (by simp [hj])⟩
          exact this _ (fun i hi => List.mem_range.1 hi)
        · obtain ⟨i, hi, rfl⟩ := List.mem_map.1 hy
          exact (hF i (List.mem_range.1 hi)).2.2.2
    obtain ⟨l, rows, v, rfl, s4, i4, z4, k4⟩ := hlist
    refine ⟨.mk k m b s l, ⟨k, m, _, s, _⟩, rfl, ?_, ⟨⟨hbl, hsl⟩, z4⟩, ⟨⟨by omega, by omega⟩, k4⟩⟩
    unfold ItR
    exact ⟨rfl, rfl, rfl, ⟨by omega, by omega⟩, slS_of sl2 (by decide) (fun k hk => hk), rows, s4, i4⟩
end Go.Proofs.YtjenohodgpmchaaDoor

namespace Go.Proofs.YtjenohodgpmchaaDoor
open Go.RowKit Cb
set_option linter.unusedSimpArgs false
set_option linter.unusedVariables false
theorem exec_strne {ρ : Operand → Value} {o : Oper} {x y : Operand} {t : TypeId} {s : ByteArray} (ho : o.op = .binOp .neq 9 x y t) (hx : ρ x = .string s) (hy : ρ y = .string s) (w : World) :
    (execOp ρ o).run Tryd.prog w = .ok (.value (.bool false)) w := by
  unfold execOp
  simp only [ho, hx, hy]
  simp [go_sem]
theorem exec_streqN {ρ : Operand → Value} {o : Oper} {x y : Operand} {t : TypeId} {s u : ByteArray} (hne : ¬ s = u) (ho : o.op = .binOp .eql 9 x y t) (hx : ρ x = .string s) (hy : ρ y = .string u) (w : World) :
    (execOp ρ o).run Tryd.prog w = .ok (.value (.bool false)) w := by
  have hl : ¬ s.toList = u.toList := fun h => hne (by rw [ByteArray.toList_eq, ByteArray.toList_eq] at h; exact ByteArray.ext (Array.toList_inj.1 h))
  unfold execOp
  simp only [ho, hx, hy]
  simp [go_sem, hl]
set_option maxHeartbeats 16000000 in
set_option maxRecDepth 100000 in
theorem cborHolds_law (x y : It) (r ry : Rw) (v : Value) (b : List UInt8) (BL : Nat) (hbL : b.length = BL) (w0 : World) (hr : ItR (fun k => k < w0.heap.size) w0 x r) (hsz : szOk x) (hkw : kwB x) (hry : ItR (fun k => k < w0.heap.size) w0 y ry) (hszy : szOk y) (hkwy : kwB y) (hv : Sl w0 1 v BL (by8 b)) (hbd : BL ≤ 140737488355328) (hT : Tabs w0) :
    Calls Tryd.prog 5 #[rwV r, rwV ry, v] w0 (Ret (.bool true) w0) := by
  have HT0 := Lib.hid hT
  have hsh := hr.shape
  obtain ⟨k0, n0, ba0, bn0, bc0, s0, la0, ln0, lc0, rfl⟩ := hsh
  have hsh := hry.shape
  obtain ⟨k1, n1, ba1, bn1, bc1, s1, la1, ln1, lc1, rfl⟩ := hsh
  obtain ⟨ab, cb, rfl⟩ := hv.len
  have HB := Lib.hid ((below_alloc w0 (.cells #[.int .i64 k0, .int .u64 n0, .slice ba0 bn0 bc0, .string s0, .slice la0 ln0 lc0] 28)).alloc (by simp) (.cells #[.int .i64 k1, .int .u64 n1, .slice ba1 bn1 bc1, .string s1, .slice la1 ln1 lc1] 28))
  have X3 := Lib.hid ((RowAt.new w0 #[.int .i64 k0, .int .u64 n0, .slice ba0 bn0 bc0, .string s0, .slice la0 ln0 lc0] 28).below (below_alloc _ (.cells #[.int .i64 k1, .int .u64 n1, .slice ba1 bn1 bc1, .string s1, .slice la1 ln1 lc1] 28)))
  have X4 := Lib.hid (RowAt.new (w0.alloc (.cells #[.int .i64 k0, .int .u64 n0, .slice ba0 bn0 bc0, .string s0, .slice la0 ln0 lc0] 28)) #[.int .i64 k1, .int .u64 n1, .slice ba1 bn1 bc1, .string s1, .slice la1 ln1 lc1] 28)
  have I0 := Lib.hid (hr.up HB.out)
  have I1 := Lib.hid (hry.up HB.out)
  have S2 := Lib.hid (hv.up HB.out)
  rw [World.size_alloc] at X4
  clear hv
  have hcx0 : Calls Tryd.prog 17 #[rwV ⟨k0, n0, .slice ba0 bn0 bc0, s0, .slice la0 ln0 lc0⟩, .int .i64 12] ((w0.alloc (.cells #[.int .i64 k0, .int .u64 n0, .slice ba0 bn0 bc0, .string s0, .slice la0 ln0 lc0] 28)).alloc (.cells #[.int .i64 k1, .int .u64 n1, .slice ba1 bn1 bc1, .string s1, .slice la1 ln1 lc1] 28)) (CntE x ((w0.alloc (.cells #[.int .i64 k0, .int .u64 n0, .slice ba0 bn0 bc0, .string s0, .slice la0 ln0 lc0] 28)).alloc (.cells #[.int .i64 k1, .int .u64 n1, .slice ba1 bn1 bc1, .string s1, .slice la1 ln1 lc1] 28))) := count_c _ x 12 _ _ (by decide) I0.out hsz
  have fX30 := X3.out.cell (i := 0) rfl
  have fX31 := X3.out.cell (i := 1) rfl
  have fX32 := X3.out.cell (i := 2) rfl
  have fX33 := X3.out.cell (i := 3) rfl
  have fX34 := X3.out.cell (i := 4) rfl
  have fX40 := X4.out.cell (i := 0) rfl
  have fX41 := X4.out.cell (i := 1) rfl
  have fX42 := X4.out.cell (i := 2) rfl
  have fX43 := X4.out.cell (i := 3) rfl
  have fX44 := X4.out.cell (i := 4) rfl
  go_enter Tryd.func5, Tryd.ntmps5
  go_wp2_with fail
  clear fX30 fX31 fX32 fX33 fX34
  clear fX40 fX41 fX42 fX43 fX44
  go_at_call 17
  refine (hcx0).mono ?_
  rintro en wq ⟨hq, v1, rfl, hv1, hcv1⟩
  replace HB := Lib.hid (below_up HB.out hq)
  replace I0 := Lib.hid (I0.out.up hq)
  replace I1 := Lib.hid (I1.out.up hq)
  replace S2 := Lib.hid (S2.out.up hq)
  replace X3 := Lib.hid (X3.out.below hq)
  replace X4 := Lib.hid (X4.out.below hq)
  clear hq
  clear hcx0
  by_cases hle1 : v1 ≤ 3000
  · have hl1 : decide (3000 < v1) = false := decide_eq_false (by omega)
    have hl12 : decide (v1 > 3000) = false := decide_eq_false (by omega)
    have hcx : cnt x ≤ 3000 := by have := hcv1 hle1; omega
    have fX30 := X3.out.cell (i := 0) rfl
    have fX31 := X3.out.cell (i := 1) rfl
    have fX32 := X3.out.cell (i := 2) rfl
    have fX33 := X3.out.cell (i := 3) rfl
    have fX34 := X3.out.cell (i := 4) rfl
    have fX40 := X4.out.cell (i := 0) rfl
    have fX41 := X4.out.cell (i := 1) rfl
    have fX42 := X4.out.cell (i := 2) rfl
    have fX43 := X4.out.cell (i := 3) rfl
    have fX44 := X4.out.cell (i := 4) rfl
    go_wp2_with fail
    clear fX30 fX31 fX32 fX33 fX34
    clear fX40 fX41 fX42 fX43 fX44
    have hcy0 : Calls Tryd.prog 17 #[rwV ⟨k1, n1, .slice ba1 bn1 bc1, s1, .slice la1 ln1 lc1⟩, .int .i64 12] wq (CntE y wq) := count_c _ y 12 _ _ (by decide) I1.out hszy
    go_at_call 17
    refine (hcy0).mono ?_
    rintro en wq ⟨hq, v2, rfl, hv2, hcv2⟩
    replace HB := Lib.hid (below_up HB.out hq)
    replace I0 := Lib.hid (I0.out.up hq)
    replace I1 := Lib.hid (I1.out.up hq)
    replace S2 := Lib.hid (S2.out.up hq)
    replace X3 := Lib.hid (X3.out.below hq)
    replace X4 := Lib.hid (X4.out.below hq)
    clear hq
    clear hcy0
    by_cases hle2 : v2 ≤ 3000
    · have hl2 : decide (3000 < v2) = false := decide_eq_false (by omega)
      have hl22 : decide (v2 > 3000) = false := decide_eq_false (by omega)
      have hcy : cnt y ≤ 3000 := by have := hcv2 hle2; omega
      by_cases hle3 : BL ≤ 2000
      · have hl3 : decide ((2000 : Int) < (BL : Int)) = false := decide_eq_false (by omega)
        have hl32 : decide ((BL : Int) > 2000) = false := decide_eq_false (by omega)
        clear hcv1 hcv2
        obtain ⟨EF, hEF⟩ : ∃ e, fstErr b = e := ⟨_, rfl⟩
        obtain ⟨FM, hFM⟩ : ∃ e, fstMany b = e := ⟨_, rfl⟩
        obtain ⟨CX, hCX⟩ : ∃ c, chk x = c := ⟨_, rfl⟩
        obtain ⟨CY, hCY⟩ : ∃ c, chk y = c := ⟨_, rfl⟩
        obtain ⟨BSX, hBSX⟩ : ∃ l, bytesOf x = l := ⟨_, rfl⟩
        obtain ⟨BSY, hBSY⟩ : ∃ l, bytesOf y = l := ⟨_, rfl⟩
        have HG : RowKit.Hid (w0.heap.size < wq.heap.size) := Lib.hid (by have := X4.out.lt; omega)
        have fX30 := X3.out.cell (i := 0) rfl
        have fX31 := X3.out.cell (i := 1) rfl
        have fX32 := X3.out.cell (i := 2) rfl
        have fX33 := X3.out.cell (i := 3) rfl
        have fX34 := X3.out.cell (i := 4) rfl
        have fX40 := X4.out.cell (i := 0) rfl
        have fX41 := X4.out.cell (i := 1) rfl
        have fX42 := X4.out.cell (i := 2) rfl
        have fX43 := X4.out.cell (i := 3) rfl
        have fX44 := X4.out.cell (i := 4) rfl
        go_wp2_with fail
        clear fX30 fX31 fX32 fX33 fX34
        clear fX40 fX41 fX42 fX43 fX44
        have hen := encode_c (fun k => k < w0.heap.size) x ⟨k0, n0, .slice ba0 bn0 bc0, s0, .slice la0 ln0 lc0⟩ _ I0.out (by omega) hkw (HT0.out.up HB.out) (fun k hk => Nat.lt_of_lt_of_le hk HB.out.size)
        unfold EncE at hen
        rw [hCX, hBSX] at hen
        obtain ⟨LX, hLX⟩ : ∃ n, BSX.length = n := ⟨_, rfl⟩
        rw [hLX] at hen
        go_at_call 15
        refine hen.mono ?_
        clear hen
        rintro en wq ⟨hq, v7, rfl, ho, hn⟩
        by_cases hz : CX = 0
        · subst hz
          replace ho := ho rfl
          clear hn
          obtain ⟨a7, c7, rfl⟩ := own_slice ho
          have S7 : RowKit.Hid (Sl wq 1 (.slice a7 LX c7) LX (by8 BSX)) := Lib.hid (Sl.of_own ho)
          replace HB := Lib.hid (below_up HB.out hq)
          replace I0 := Lib.hid (I0.out.up hq)
          replace I1 := Lib.hid (I1.out.up hq)
          replace S2 := Lib.hid (S2.out.up hq)
          replace X3 := Lib.hid (X3.out.below hq)
          replace X4 := Lib.hid (X4.out.below hq)
          replace HG := Lib.hid (Nat.lt_of_lt_of_le HG.out (by have := hq.size; first | exact this | (simp only [World.size_alloc] at this ⊢; omega)))
          clear hq ho
          have hlx : LX ≤ 27000 := by have := bytes_le x; rw [hBSX, hLX] at this; omega
          go_wp2_with fail
          go_at_call 13
          refine (numE_c 0 _).mono ?_
          rintro en wz ⟨rfl, rfl⟩
          go_wp2_with (first
            | (at_builtin; refine wpList_app rfl _ _ 22 rfl slT_u8 wq.heap.size rfl ho1 rfl (S2.out.up hb1) (one_by8 _) (by simp only [maxLen]; omega) (by omega) (by have := hb1.size; omega) ?_; intro v2' w2 ho2 hg2 _; have hb2 := grown_below hb1 hg2 (fun q hq => (own_of_some ho1 hq).1))
            | (at_builtin; refine wpList_app rfl _ _ 22 rfl slT_u8 wq.heap.size rfl (World.ownsRow_lit wq #[] 0 (Nat.le_refl _) (by decide) rfl) rfl (S7.out.up (below_alloc wq (.cells #[] 5))) (one_by8 _) (by simp only [maxLen]; omega) (by omega) (by rw [World.size_alloc]; omega) ?_; intro v1' w1 ho1 hg1 _; rw [Nat.zero_add, List.nil_append] at ho1; have hb1 := grown_below (below_alloc wq (.cells #[] 5)) hg1 (fun q hq => by have : wq.heap.size = q := Option.some.inj hq; omega); obtain ⟨p1, c1, rfl⟩ := own_slice ho1)
            | fail)
          have hq := hb2
          have SF := Sl.of_own ho2
          rw [show by8 BSX ++ by8 b = by8 (BSX ++ b) by simp [by8]] at SF
          replace HB := Lib.hid (below_up HB.out hq)
          replace I0 := Lib.hid (I0.out.up hq)
          replace I1 := Lib.hid (I1.out.up hq)
          replace S2 := Lib.hid (S2.out.up hq)
          replace X3 := Lib.hid (X3.out.below hq)
          replace X4 := Lib.hid (X4.out.below hq)
          replace S7 := Lib.hid (S7.out.up hq)
          replace HG := Lib.hid (Nat.lt_of_lt_of_le HG.out (by have := hq.size; first | exact this | (simp only [World.size_alloc] at this ⊢; omega)))
          clear hq hb1 hb2 hg1 hg2 ho1
          generalize w2 = wq at *
          have hfl : (BSX ++ b).length = LX + BL := by rw [List.length_append, hLX, hbL]
          have hfr : firstP (BSX ++ b) = .ok (x, LX) := by rw [← hBSX, ← hLX, ← hBSX]; exact first_read b hCX (ItR.nOk _ _ hr) (by omega) (by rw [hBSX, hfl]; omega)
          have hfi := cbFirst_c _ _ (BSX ++ b) (by rw [hfl]; exact SF) (HT0.out.up HB.out)
          unfold FstE at hfi
          rw [hfr] at hfi
          go_at_call 10
          refine hfi.mono ?_
          clear hfi SF ho2
          rintro en wq ⟨hq, r8, rfl, I8⟩
          have hsh := I8.shape
          obtain ⟨k8, n8, ba8, bn8, bc8, s8, la8, ln8, lc8, rfl⟩ := hsh
          replace I8 := Lib.hid (I8.mono (S' := fun _ => True) fun _ _ => trivial)
          replace HB := Lib.hid (below_up HB.out hq)
          replace I0 := Lib.hid (I0.out.up hq)
          replace I1 := Lib.hid (I1.out.up hq)
          replace S2 := Lib.hid (S2.out.up hq)
          replace X3 := Lib.hid (X3.out.below hq)
          replace X4 := Lib.hid (X4.out.below hq)
          replace S7 := Lib.hid (S7.out.up hq)
          replace HG := Lib.hid (Nat.lt_of_lt_of_le HG.out (by have := hq.size; first | exact this | (simp only [World.size_alloc] at this ⊢; omega)))
          clear hq
          have fX30 := X3.out.cell (i := 0) rfl
          have fX31 := X3.out.cell (i := 1) rfl
          have fX32 := X3.out.cell (i := 2) rfl
          have fX33 := X3.out.cell (i := 3) rfl
          have fX34 := X3.out.cell (i := 4) rfl
          have fX40 := X4.out.cell (i := 0) rfl
          have fX41 := X4.out.cell (i := 1) rfl
          have fX42 := X4.out.cell (i := 2) rfl
          have fX43 := X4.out.cell (i := 3) rfl
          have fX44 := X4.out.cell (i := 4) rfl
          go_wp2_with fail
          clear fX30 fX31 fX32 fX33 fX34
          clear fX40 fX41 fX42 fX43 fX44
          have X8 := Lib.hid (RowAt.new wq #[.int .i64 k8, .int .u64 n8, .slice ba8 bn8 bc8, .string s8, .slice la8 ln8 lc8] 28)
          have hq := below_alloc wq (.cells #[.int .i64 k8, .int .u64 n8, .slice ba8 bn8 bc8, .string s8, .slice la8 ln8 lc8] 28)
          obtain ⟨BX8, hBX8⟩ : ∃ B, wq.heap.size = B := ⟨_, rfl⟩
          replace HB := Lib.hid (below_up HB.out hq)
          replace I0 := Lib.hid (I0.out.up hq)
          replace I1 := Lib.hid (I1.out.up hq)
          replace S2 := Lib.hid (S2.out.up hq)
          replace X3 := Lib.hid (X3.out.below hq)
          replace X4 := Lib.hid (X4.out.below hq)
          replace S7 := Lib.hid (S7.out.up hq)
          replace I8 := Lib.hid (I8.out.up hq)
          replace HG := Lib.hid (Nat.lt_of_lt_of_le HG.out (by have := hq.size; first | exact this | (simp only [World.size_alloc] at this ⊢; omega)))
          clear hq
          rw [hBX8] at X8 ⊢
          replace hBX8 := Lib.hid hBX8
          go_at_call 13
          refine (numE_c 0 _).mono ?_
          rintro en wz ⟨rfl, rfl⟩
          have fX30 := X3.out.cell (i := 0) rfl
          have fX31 := X3.out.cell (i := 1) rfl
          have fX32 := X3.out.cell (i := 2) rfl
          have fX33 := X3.out.cell (i := 3) rfl
          have fX34 := X3.out.cell (i := 4) rfl
          have fX40 := X4.out.cell (i := 0) rfl
          have fX41 := X4.out.cell (i := 1) rfl
          have fX42 := X4.out.cell (i := 2) rfl
          have fX43 := X4.out.cell (i := 3) rfl
          have fX44 := X4.out.cell (i := 4) rfl
          have fX80 := X8.out.cell (i := 0) rfl
          have fX81 := X8.out.cell (i := 1) rfl
          have fX82 := X8.out.cell (i := 2) rfl
          have fX83 := X8.out.cell (i := 3) rfl
          have fX84 := X8.out.cell (i := 4) rfl
          go_wp2_with fail
          clear fX30 fX31 fX32 fX33 fX34
          clear fX40 fX41 fX42 fX43 fX44
          clear fX80 fX81 fX82 fX83 fX84
          have hsm := cbSame_c (fun _ => True) x x ⟨k8, n8, .slice ba8 bn8 bc8, s8, .slice la8 ln8 lc8⟩ ⟨k0, n0, .slice ba0 bn0 bc0, s0, .slice la0 ln0 lc0⟩ _ I8.out (I0.out.mono fun _ _ => trivial) (by omega) (by omega)
          rw [sameB_refl] at hsm
          go_at_call 18
          refine (hsm).mono ?_
          rintro en wq ⟨rfl, hq⟩
          clear hsm
          replace HB := Lib.hid (below_up HB.out hq)
          replace I0 := Lib.hid (I0.out.up hq)
          replace I1 := Lib.hid (I1.out.up hq)
          replace S2 := Lib.hid (S2.out.up hq)
          replace X3 := Lib.hid (X3.out.below hq)
          replace X4 := Lib.hid (X4.out.below hq)
          replace S7 := Lib.hid (S7.out.up hq)
          replace I8 := Lib.hid (I8.out.up hq)
          replace X8 := Lib.hid (X8.out.below hq)
          replace HG := Lib.hid (Nat.lt_of_lt_of_le HG.out (by have := hq.size; first | exact this | (simp only [World.size_alloc] at this ⊢; omega)))
          clear hq
          have fX30 := X3.out.cell (i := 0) rfl
          have fX31 := X3.out.cell (i := 1) rfl
          have fX32 := X3.out.cell (i := 2) rfl
          have fX33 := X3.out.cell (i := 3) rfl
          have fX34 := X3.out.cell (i := 4) rfl
          have fX40 := X4.out.cell (i := 0) rfl
          have fX41 := X4.out.cell (i := 1) rfl
          have fX42 := X4.out.cell (i := 2) rfl
          have fX43 := X4.out.cell (i := 3) rfl
          have fX44 := X4.out.cell (i := 4) rfl
          have fX80 := X8.out.cell (i := 0) rfl
          have fX81 := X8.out.cell (i := 1) rfl
          have fX82 := X8.out.cell (i := 2) rfl
          have fX83 := X8.out.cell (i := 3) rfl
          have fX84 := X8.out.cell (i := 4) rfl
          go_wp2_with fail
          clear fX30 fX31 fX32 fX33 fX34
          clear fX40 fX41 fX42 fX43 fX44
          clear fX80 fX81 fX82 fX83 fX84
          have hen := encode_c (fun k => k < w0.heap.size) y ⟨k1, n1, .slice ba1 bn1 bc1, s1, .slice la1 ln1 lc1⟩ _ I1.out (by omega) hkwy (HT0.out.up HB.out) (fun k hk => Nat.lt_of_lt_of_le hk HB.out.size)
          unfold EncE at hen
          rw [hCY, hBSY] at hen
          obtain ⟨LY, hLY⟩ : ∃ n, BSY.length = n := ⟨_, rfl⟩
          rw [hLY] at hen
          go_at_call 15
          refine hen.mono ?_
          clear hen
          rintro en wq ⟨hq, v12, rfl, ho, hn⟩
          by_cases hzy : CY = 0
          · subst hzy
            replace ho := ho rfl
            clear hn
            obtain ⟨a12, c12, rfl⟩ := own_slice ho
            have S12 : RowKit.Hid (Sl wq 1 (.slice a12 LY c12) LY (by8 BSY)) := Lib.hid (Sl.of_own ho)
            replace HB := Lib.hid (below_up HB.out hq)
            replace I0 := Lib.hid (I0.out.up hq)
            replace I1 := Lib.hid (I1.out.up hq)
            replace S2 := Lib.hid (S2.out.up hq)
            replace X3 := Lib.hid (X3.out.below hq)
            replace X4 := Lib.hid (X4.out.below hq)
            replace S7 := Lib.hid (S7.out.up hq)
            replace I8 := Lib.hid (I8.out.up hq)
            replace X8 := Lib.hid (X8.out.below hq)
            replace HG := Lib.hid (Nat.lt_of_lt_of_le HG.out (by have := hq.size; first | exact this | (simp only [World.size_alloc] at this ⊢; omega)))
            clear hq ho
            have hly : LY ≤ 27000 := by have := bytes_le y; rw [hBSY, hLY] at this; omega
            by_cases hgl : LX < LY
            · have hg1 : decide ((LX : Int) < (LY : Int)) = true := decide_eq_true (by omega)
              have hg2 : decide ((LY : Int) > (LX : Int)) = true := decide_eq_true (by omega)
              go_wp2_with fail
              obtain ⟨a14, hr14, hs14⟩ := cut_h slT_u8 S12.out LX (by omega)
              rw [Nat.mul_one, ← by8_take] at hs14
              have hs14 := Lib.hid hs14
              have HNE := Lib.hid (show ¬ BSY.take LX = BSX from fun e => by
                have h1 := first_read (x := y) [] hCY (ItR.nOk _ _ hry) (by omega) (by rw [List.append_nil, hBSY, hLY]; omega)
                have h2 := first_read (x := x) (BSY.drop LX) hCX (ItR.nOk _ _ hr) (by omega) (by rw [hBSX, ← e, List.take_append_drop, hLY]; omega)
                rw [List.append_nil, hBSY] at h1
                rw [hBSX, ← e, List.take_append_drop, h1] at h2
                simp only [Except.ok.injEq, Prod.mk.injEq] at h2
                have h3 := h2.2
                rw [hLY, List.length_take] at h3
                omega)
              obtain ⟨SA, hSA⟩ : ∃ S : ByteArray, S = ⟨(BSY.take LX).toArray⟩ := ⟨_, rfl⟩
              obtain ⟨SC, hSC⟩ : ∃ S : ByteArray, S = ⟨BSX.toArray⟩ := ⟨_, rfl⟩
              have HSS := Lib.hid (show ¬ SA = SC from fun h => HNE.out (by rw [hSA, hSC] at h; have := congrArg (fun s : ByteArray => s.data.toList) h; simpa using this))
              replace hSA := Lib.hid hSA
              replace hSC := Lib.hid hSC
              refine wp_region_piL [(0, false), (1, true), (2, false), (3, false), (4, false), (5, false), (6, false), (7, false), (8, false), (9, false), (10, false), (11, false), (12, false), (13, false), (14, false), (15, false), (16, false), (17, false), (18, false), (19, false)] (by kernel_rfl) (by kernel_rfl) (by kernel_rfl) rfl (fun _ _ d _ _ h => by cases d <;> exact h) (fun OPS HO Wd hBd => ?_)
              try simp only [Act.put, List.getElem_toArray, List.getElem_cons_zero, List.getElem_cons_succ, List.setIfInBounds_toArray, List.set_cons_zero, List.set_cons_succ]
              have T14 := hs14.out.up hBd
              have T7 := S7.out.up hBd
              have HBc := Lib.hid (below_up HB.out hBd)
              refine pi_q (v := ?_) (by rw [← HO.out]; simp only [List.getElem?_toArray, List.getElem?_cons_zero, List.getElem?_cons_succ]; rfl) (by rw [← HO.out]; kernel_rfl) ?_ ?_
              rotate_left
              · intro w' hBw'
                first | (go_simp; done) | (go_simp; with_reducible rfl)
              try simp only [Act.put, List.getElem_toArray, List.getElem_cons_zero, List.getElem_cons_succ, List.setIfInBounds_toArray, List.set_cons_zero, List.set_cons_succ]
              refine pi_call (by rw [← HO.out]; simp only [List.getElem?_toArray, List.getElem?_cons_zero, List.getElem?_cons_succ]; rfl) (by rw [← HO.out]; kernel_rfl) (numE_c 0 _) cbEnters_num (by rfl) (by kernel_rfl) ?_
              rintro en wN ⟨rfl, rfl⟩
              refine ⟨_, rfl, (Below.refl _ _), ?_⟩
              try simp only [Act.put, List.getElem_toArray, List.getElem_cons_zero, List.getElem_cons_succ, List.setIfInBounds_toArray, List.set_cons_zero, List.set_cons_succ]
              refine pi_q (v := ?_) (by rw [← HO.out]; simp only [List.getElem?_toArray, List.getElem?_cons_zero, List.getElem?_cons_succ]; rfl) (by rw [← HO.out]; kernel_rfl) ?_ ?_
              rotate_left
              · intro w' hBw'
                first | (go_simp; done) | (go_simp; with_reducible rfl)
              try simp only [Act.put, List.getElem_toArray, List.getElem_cons_zero, List.getElem_cons_succ, List.setIfInBounds_toArray, List.set_cons_zero, List.set_cons_succ]
              refine pi_q (v := ?_) (by rw [← HO.out]; simp only [List.getElem?_toArray, List.getElem?_cons_zero, List.getElem?_cons_succ]; rfl) (by rw [← HO.out]; kernel_rfl) ?_ ?_
              rotate_left
              · intro w' hBw'
                first | (go_simp; done) | (go_simp; with_reducible rfl)
              try simp only [Act.put, List.getElem_toArray, List.getElem_cons_zero, List.getElem_cons_succ, List.setIfInBounds_toArray, List.set_cons_zero, List.set_cons_succ]
              refine pi_q (v := ?_) (by rw [← HO.out]; simp only [List.getElem?_toArray, List.getElem?_cons_zero, List.getElem?_cons_succ]; rfl) (by rw [← HO.out]; kernel_rfl) ?_ ?_
              rotate_left
              · intro w' hBw'
                first | (go_simp; done) | (go_simp; with_reducible rfl)
              try simp only [Act.put, List.getElem_toArray, List.getElem_cons_zero, List.getElem_cons_succ, List.setIfInBounds_toArray, List.set_cons_zero, List.set_cons_succ]
              refine pi_q (v := ?_) (by rw [← HO.out]; simp only [List.getElem?_toArray, List.getElem?_cons_zero, List.getElem?_cons_succ]; rfl) (by rw [← HO.out]; kernel_rfl) ?_ ?_
              rotate_left
              · intro w' hBw'
                first | (go_simp; done) | (go_simp; with_reducible rfl)
              try simp only [Act.put, List.getElem_toArray, List.getElem_cons_zero, List.getElem_cons_succ, List.setIfInBounds_toArray, List.set_cons_zero, List.set_cons_succ]
              refine pi_q (v := ?_) (by rw [← HO.out]; simp only [List.getElem?_toArray, List.getElem?_cons_zero, List.getElem?_cons_succ]; rfl) (by rw [← HO.out]; kernel_rfl) ?_ ?_
              rotate_left
              · intro w' hBw'
                first | (go_simp; done) | (go_simp; with_reducible rfl)
              try simp only [Act.put, List.getElem_toArray, List.getElem_cons_zero, List.getElem_cons_succ, List.setIfInBounds_toArray, List.set_cons_zero, List.set_cons_succ]
              refine pi_q (v := ?_) (by rw [← HO.out]; simp only [List.getElem?_toArray, List.getElem?_cons_zero, List.getElem?_cons_succ]; rfl) (by rw [← HO.out]; kernel_rfl) ?_ ?_
              rotate_left
              · intro w' hBw'
                first | (go_simp; done) | (go_simp; with_reducible rfl)
              try simp only [Act.put, List.getElem_toArray, List.getElem_cons_zero, List.getElem_cons_succ, List.setIfInBounds_toArray, List.set_cons_zero, List.set_cons_succ]
              refine pi_q (v := ?_) (by rw [← HO.out]; simp only [List.getElem?_toArray, List.getElem?_cons_zero, List.getElem?_cons_succ]; rfl) (by rw [← HO.out]; kernel_rfl) ?_ ?_
              rotate_left
              · intro w' hBw'
                first | (go_simp; done) | (go_simp; with_reducible rfl)
              try simp only [Act.put, List.getElem_toArray, List.getElem_cons_zero, List.getElem_cons_succ, List.setIfInBounds_toArray, List.set_cons_zero, List.set_cons_succ]
              refine pi_q (v := ?_) (by rw [← HO.out]; simp only [List.getElem?_toArray, List.getElem?_cons_zero, List.getElem?_cons_succ]; rfl) (by rw [← HO.out]; kernel_rfl) ?_ ?_
              rotate_left
              · intro w' hBw'
                first | (go_simp; done) | (go_simp; with_reducible rfl)
              try simp only [Act.put, List.getElem_toArray, List.getElem_cons_zero, List.getElem_cons_succ, List.setIfInBounds_toArray, List.set_cons_zero, List.set_cons_succ]
              refine pi_q (v := ?_) (by rw [← HO.out]; simp only [List.getElem?_toArray, List.getElem?_cons_zero, List.getElem?_cons_succ]; rfl) (by rw [← HO.out]; kernel_rfl) ?_ ?_
              rotate_left
              · intro w' hBw'
                first | (go_simp; done) | (go_simp; with_reducible rfl)
              try simp only [Act.put, List.getElem_toArray, List.getElem_cons_zero, List.getElem_cons_succ, List.setIfInBounds_toArray, List.set_cons_zero, List.set_cons_succ]
              refine pi_q (v := ?_) (by rw [← HO.out]; simp only [List.getElem?_toArray, List.getElem?_cons_zero, List.getElem?_cons_succ]; rfl) (by rw [← HO.out]; kernel_rfl) ?_ ?_
              rotate_left
              · intro w' hBw'
                first | (go_simp; done) | (go_simp; with_reducible rfl)
              try simp only [Act.put, List.getElem_toArray, List.getElem_cons_zero, List.getElem_cons_succ, List.setIfInBounds_toArray, List.set_cons_zero, List.set_cons_succ]
              refine pi_q (v := ?_) (by rw [← HO.out]; simp only [List.getElem?_toArray, List.getElem?_cons_zero, List.getElem?_cons_succ]; rfl) (by rw [← HO.out]; kernel_rfl) ?_ ?_
              rotate_left
              · intro w' hBw'
                first | (go_simp; done) | (go_simp; with_reducible rfl)
              try simp only [Act.put, List.getElem_toArray, List.getElem_cons_zero, List.getElem_cons_succ, List.setIfInBounds_toArray, List.set_cons_zero, List.set_cons_succ]
              refine pi_q (v := ?_) (by rw [← HO.out]; simp only [List.getElem?_toArray, List.getElem?_cons_zero, List.getElem?_cons_succ]; rfl) (by rw [← HO.out]; kernel_rfl) ?_ ?_
              rotate_left
              · intro w' hBw'
                first | (go_simp; done) | (go_simp; with_reducible rfl)
              try simp only [Act.put, List.getElem_toArray, List.getElem_cons_zero, List.getElem_cons_succ, List.setIfInBounds_toArray, List.set_cons_zero, List.set_cons_succ]
              refine pi_q (v := ?_) (by rw [← HO.out]; simp only [List.getElem?_toArray, List.getElem?_cons_zero, List.getElem?_cons_succ]; rfl) (by rw [← HO.out]; kernel_rfl) ?_ ?_
              rotate_left
              · intro w' hBw'
                first | (go_simp; done) | (go_simp; with_reducible rfl)
              try simp only [Act.put, List.getElem_toArray, List.getElem_cons_zero, List.getElem_cons_succ, List.setIfInBounds_toArray, List.set_cons_zero, List.set_cons_succ]
              refine pi_q (v := .string SA) (by rw [← HO.out]; simp only [List.getElem?_toArray, List.getElem?_cons_zero, List.getElem?_cons_succ]; rfl) (by rw [← HO.out]; kernel_rfl) (by exact fun w' hb' => by rw [hSA.out]; exact exec_str rfl (by kernel_rfl) (T14.up hb')) ?_
              try simp only [Act.put, List.getElem_toArray, List.getElem_cons_zero, List.getElem_cons_succ, List.setIfInBounds_toArray, List.set_cons_zero, List.set_cons_succ]
              refine pi_q (v := ?_) (by rw [← HO.out]; simp only [List.getElem?_toArray, List.getElem?_cons_zero, List.getElem?_cons_succ]; rfl) (by rw [← HO.out]; kernel_rfl) ?_ ?_
              rotate_left
              · intro w' hBw'
                first | (go_simp; done) | (go_simp; with_reducible rfl)
              try simp only [Act.put, List.getElem_toArray, List.getElem_cons_zero, List.getElem_cons_succ, List.setIfInBounds_toArray, List.set_cons_zero, List.set_cons_succ]
              refine pi_q (v := .string SC) (by rw [← HO.out]; simp only [List.getElem?_toArray, List.getElem?_cons_zero, List.getElem?_cons_succ]; rfl) (by rw [← HO.out]; kernel_rfl) (by exact fun w' hb' => by rw [hSC.out]; exact exec_str rfl (by kernel_rfl) (T7.up hb')) ?_
              try simp only [Act.put, List.getElem_toArray, List.getElem_cons_zero, List.getElem_cons_succ, List.setIfInBounds_toArray, List.set_cons_zero, List.set_cons_succ]
              refine pi_q (v := .bool false) (by rw [← HO.out]; simp only [List.getElem?_toArray, List.getElem?_cons_zero, List.getElem?_cons_succ]; rfl) (by rw [← HO.out]; kernel_rfl) (by exact fun w' _ => exec_streqN HSS.out rfl (by kernel_rfl) (by kernel_rfl) w') ?_
              try simp only [Act.put, List.getElem_toArray, List.getElem_cons_zero, List.getElem_cons_succ, List.setIfInBounds_toArray, List.set_cons_zero, List.set_cons_succ]
              refine pi_q (v := ?_) (by rw [← HO.out]; simp only [List.getElem?_toArray, List.getElem?_cons_zero, List.getElem?_cons_succ]; rfl) (by rw [← HO.out]; kernel_rfl) ?_ ?_
              rotate_left
              · intro w' hBw'
                first | (go_simp; done) | (go_simp; with_reducible rfl)
              try simp only [Act.put, List.getElem_toArray, List.getElem_cons_zero, List.getElem_cons_succ, List.setIfInBounds_toArray, List.set_cons_zero, List.set_cons_succ]
              refine pi_nil ?_
              have hq := hBd
              replace HB := Lib.hid (below_up HB.out hq)
              replace I0 := Lib.hid (I0.out.up hq)
              replace I1 := Lib.hid (I1.out.up hq)
              replace S2 := Lib.hid (S2.out.up hq)
              replace X3 := Lib.hid (X3.out.below hq)
              replace X4 := Lib.hid (X4.out.below hq)
              replace S7 := Lib.hid (S7.out.up hq)
              replace I8 := Lib.hid (I8.out.up hq)
              replace X8 := Lib.hid (X8.out.below hq)
              replace S12 := Lib.hid (S12.out.up hq)
              replace HG := Lib.hid (Nat.lt_of_lt_of_le HG.out (by have := hq.size; first | exact this | (simp only [World.size_alloc] at this ⊢; omega)))
              clear hq HBc
              generalize Wd = wq at *
              have fX30 := X3.out.cell (i := 0) rfl
              have fX31 := X3.out.cell (i := 1) rfl
              have fX32 := X3.out.cell (i := 2) rfl
              have fX33 := X3.out.cell (i := 3) rfl
              have fX34 := X3.out.cell (i := 4) rfl
              have fX40 := X4.out.cell (i := 0) rfl
              have fX41 := X4.out.cell (i := 1) rfl
              have fX42 := X4.out.cell (i := 2) rfl
              have fX43 := X4.out.cell (i := 3) rfl
              have fX44 := X4.out.cell (i := 4) rfl
              have fX80 := X8.out.cell (i := 0) rfl
              have fX81 := X8.out.cell (i := 1) rfl
              have fX82 := X8.out.cell (i := 2) rfl
              have fX83 := X8.out.cell (i := 3) rfl
              have fX84 := X8.out.cell (i := 4) rfl
              go_wp2_with fail
              clear fX30 fX31 fX32 fX33 fX34
              clear fX40 fX41 fX42 fX43 fX44
              clear fX80 fX81 fX82 fX83 fX84
              have hfi := (cbFirst_c _ _ b (by rw [hbL]; exact S2.out) (HT0.out.up HB.out)).mono (fun en w' h => fstU_of (g := w0.heap.size) h HG.out)
              unfold FstU at hfi
              rw [hEF, hFM] at hfi
              go_at_call 10
              refine hfi.mono ?_
              clear hfi
              rintro en wq ⟨hq, k9, n9, ba9, bn9, bc9, s9, la9, ln9, lc9, rfl, I9⟩
              replace I9 := Lib.hid I9
              replace HB := Lib.hid (below_up HB.out hq)
              replace I0 := Lib.hid (I0.out.up hq)
              replace I1 := Lib.hid (I1.out.up hq)
              replace S2 := Lib.hid (S2.out.up hq)
              replace X3 := Lib.hid (X3.out.below hq)
              replace X4 := Lib.hid (X4.out.below hq)
              replace S7 := Lib.hid (S7.out.up hq)
              replace I8 := Lib.hid (I8.out.up hq)
              replace X8 := Lib.hid (X8.out.below hq)
              replace S12 := Lib.hid (S12.out.up hq)
              replace HG := Lib.hid (Nat.lt_of_lt_of_le HG.out (by have := hq.size; first | exact this | (simp only [World.size_alloc] at this ⊢; omega)))
              clear hq
              have fX30 := X3.out.cell (i := 0) rfl
              have fX31 := X3.out.cell (i := 1) rfl
              have fX32 := X3.out.cell (i := 2) rfl
              have fX33 := X3.out.cell (i := 3) rfl
              have fX34 := X3.out.cell (i := 4) rfl
              have fX40 := X4.out.cell (i := 0) rfl
              have fX41 := X4.out.cell (i := 1) rfl
              have fX42 := X4.out.cell (i := 2) rfl
              have fX43 := X4.out.cell (i := 3) rfl
              have fX44 := X4.out.cell (i := 4) rfl
              have fX80 := X8.out.cell (i := 0) rfl
              have fX81 := X8.out.cell (i := 1) rfl
              have fX82 := X8.out.cell (i := 2) rfl
              have fX83 := X8.out.cell (i := 3) rfl
              have fX84 := X8.out.cell (i := 4) rfl
              go_wp2_with fail
              clear fX30 fX31 fX32 fX33 fX34
              clear fX40 fX41 fX42 fX43 fX44
              clear fX80 fX81 fX82 fX83 fX84
              have X9 := Lib.hid (RowAt.new wq #[.int .i64 k9, .int .u64 n9, .slice ba9 bn9 bc9, .string s9, .slice la9 ln9 lc9] 28)
              have hq := below_alloc wq (.cells #[.int .i64 k9, .int .u64 n9, .slice ba9 bn9 bc9, .string s9, .slice la9 ln9 lc9] 28)
              obtain ⟨BX9, hBX9⟩ : ∃ B, wq.heap.size = B := ⟨_, rfl⟩
              replace HB := Lib.hid (below_up HB.out hq)
              replace I0 := Lib.hid (I0.out.up hq)
              replace I1 := Lib.hid (I1.out.up hq)
              replace S2 := Lib.hid (S2.out.up hq)
              replace X3 := Lib.hid (X3.out.below hq)
              replace X4 := Lib.hid (X4.out.below hq)
              replace S7 := Lib.hid (S7.out.up hq)
              replace I8 := Lib.hid (I8.out.up hq)
              replace X8 := Lib.hid (X8.out.below hq)
              replace S12 := Lib.hid (S12.out.up hq)
              replace I9 := Lib.hid (I9.out.up hq)
              replace HG := Lib.hid (Nat.lt_of_lt_of_le HG.out (by have := hq.size; first | exact this | (simp only [World.size_alloc] at this ⊢; omega)))
              clear hq
              rw [hBX9] at X9 ⊢
              replace hBX9 := Lib.hid hBX9
              go_at_call 13
              refine (numE_c EF _).mono ?_
              rintro en wz ⟨rfl, rfl⟩
              by_cases hE : EF = 0
              · subst hE
                have hok := fst_ok hEF
                rw [hFM] at hok
                have fX30 := X3.out.cell (i := 0) rfl
                have fX31 := X3.out.cell (i := 1) rfl
                have fX32 := X3.out.cell (i := 2) rfl
                have fX33 := X3.out.cell (i := 3) rfl
                have fX34 := X3.out.cell (i := 4) rfl
                have fX40 := X4.out.cell (i := 0) rfl
                have fX41 := X4.out.cell (i := 1) rfl
                have fX42 := X4.out.cell (i := 2) rfl
                have fX43 := X4.out.cell (i := 3) rfl
                have fX44 := X4.out.cell (i := 4) rfl
                have fX80 := X8.out.cell (i := 0) rfl
                have fX81 := X8.out.cell (i := 1) rfl
                have fX82 := X8.out.cell (i := 2) rfl
                have fX83 := X8.out.cell (i := 3) rfl
                have fX84 := X8.out.cell (i := 4) rfl
                have fX90 := X9.out.cell (i := 0) rfl
                have fX91 := X9.out.cell (i := 1) rfl
                have fX92 := X9.out.cell (i := 2) rfl
                have fX93 := X9.out.cell (i := 3) rfl
                have fX94 := X9.out.cell (i := 4) rfl
                go_wp2_with fail
                clear fX30 fX31 fX32 fX33 fX34
                clear fX40 fX41 fX42 fX43 fX44
                clear fX80 fX81 fX82 fX83 fX84
                clear fX90 fX91 fX92 fX93 fX94
                have hen := encode_c _ (fstIt b) ⟨k9, n9, .slice ba9 bn9 bc9, s9, .slice la9 ln9 lc9⟩ _ I9.out (Nat.le_trans (fstIt_cnt b) (by decide)) (kw_right _ hok.2.2.1) (HT0.out.up HB.out) (fun k h => h.2)
                unfold EncE at hen
                rw [hok.2.1, hok.1] at hen
                have hFL : (b.take FM).length = FM := by rw [List.length_take]; have := hok.2.2.2.2; omega
                rw [hFL] at hen
                go_at_call 15
                refine hen.mono ?_
                clear hen
                rintro en wq ⟨hq, v17, rfl, ho, _⟩
                replace ho := ho rfl
                obtain ⟨a17, c17, rfl⟩ := own_slice ho
                have S17 : RowKit.Hid (Sl wq 1 (.slice a17 FM c17) FM (by8 (b.take FM))) := Lib.hid (Sl.of_own ho)
                replace HB := Lib.hid (below_up HB.out hq)
                replace I0 := Lib.hid (I0.out.up hq)
                replace I1 := Lib.hid (I1.out.up hq)
                replace S2 := Lib.hid (S2.out.up hq)
                replace X3 := Lib.hid (X3.out.below hq)
                replace X4 := Lib.hid (X4.out.below hq)
                replace S7 := Lib.hid (S7.out.up hq)
                replace I8 := Lib.hid (I8.out.up hq)
                replace X8 := Lib.hid (X8.out.below hq)
                replace S12 := Lib.hid (S12.out.up hq)
                replace I9 := Lib.hid (I9.out.up hq)
                replace X9 := Lib.hid (X9.out.below hq)
                replace HG := Lib.hid (Nat.lt_of_lt_of_le HG.out (by have := hq.size; first | exact this | (simp only [World.size_alloc] at this ⊢; omega)))
                clear hq ho
                go_wp2_with fail
                have hFle : FM ≤ BL := by have := hok.2.2.2.2; omega
                have hgt : decide ((BL : Int) < (FM : Int)) = false := decide_eq_false (by omega)
                have hgt2 : decide ((FM : Int) > (BL : Int)) = false := decide_eq_false (by omega)
                have hgt3 : ¬ BL < FM := by omega
                obtain ⟨a21, hr21, hs21⟩ := cut_h slT_u8 S2.out FM hFle
                rw [Nat.mul_one, ← by8_take] at hs21
                have hs21 := Lib.hid hs21
                refine wp_region_piL [(0, false), (1, true), (2, false), (3, false), (4, false), (5, false), (6, false), (7, false), (8, false), (9, false), (10, false), (11, false), (12, false), (13, false), (14, false), (15, false), (16, false), (17, false), (18, false), (19, false), (20, false), (21, false), (22, false), (23, false)] (by kernel_rfl) (by kernel_rfl) (by kernel_rfl) rfl (fun _ _ d _ _ h => by cases d <;> exact h) (fun OPS HO Wd hBd => ?_)
                try simp only [Act.put, List.getElem_toArray, List.getElem_cons_zero, List.getElem_cons_succ, List.setIfInBounds_toArray, List.set_cons_zero, List.set_cons_succ]
                have T17 := S17.out.up hBd
                have T21 := hs21.out.up hBd
                have HBc := Lib.hid (below_up HB.out hBd)
                refine pi_q (v := ?_) (by rw [← HO.out]; simp only [List.getElem?_toArray, List.getElem?_cons_zero, List.getElem?_cons_succ]; rfl) (by rw [← HO.out]; kernel_rfl) ?_ ?_
                rotate_left
                · intro w' hBw'
                  first | (go_simp; done) | (go_simp; with_reducible rfl)
                try simp only [Act.put, List.getElem_toArray, List.getElem_cons_zero, List.getElem_cons_succ, List.setIfInBounds_toArray, List.set_cons_zero, List.set_cons_succ]
                refine pi_call (by rw [← HO.out]; simp only [List.getElem?_toArray, List.getElem?_cons_zero, List.getElem?_cons_succ]; rfl) (by rw [← HO.out]; kernel_rfl) (numE_c 0 _) cbEnters_num (by rfl) (by kernel_rfl) ?_
                rintro en wN ⟨rfl, rfl⟩
                refine ⟨_, rfl, (Below.refl _ _), ?_⟩
                try simp only [Act.put, List.getElem_toArray, List.getElem_cons_zero, List.getElem_cons_succ, List.setIfInBounds_toArray, List.set_cons_zero, List.set_cons_succ]
                refine pi_q (v := ?_) (by rw [← HO.out]; simp only [List.getElem?_toArray, List.getElem?_cons_zero, List.getElem?_cons_succ]; rfl) (by rw [← HO.out]; kernel_rfl) ?_ ?_
                rotate_left
                · intro w' hBw'
                  first | (go_simp; done) | (go_simp; with_reducible rfl)
                try simp only [Act.put, List.getElem_toArray, List.getElem_cons_zero, List.getElem_cons_succ, List.setIfInBounds_toArray, List.set_cons_zero, List.set_cons_succ]
                refine pi_q (v := ?_) (by rw [← HO.out]; simp only [List.getElem?_toArray, List.getElem?_cons_zero, List.getElem?_cons_succ]; rfl) (by rw [← HO.out]; kernel_rfl) ?_ ?_
                rotate_left
                · intro w' hBw'
                  first | (go_simp; done) | (go_simp; with_reducible rfl)
                try simp only [Act.put, List.getElem_toArray, List.getElem_cons_zero, List.getElem_cons_succ, List.setIfInBounds_toArray, List.set_cons_zero, List.set_cons_succ]
                refine pi_q (v := ?_) (by rw [← HO.out]; simp only [List.getElem?_toArray, List.getElem?_cons_zero, List.getElem?_cons_succ]; rfl) (by rw [← HO.out]; kernel_rfl) ?_ ?_
                rotate_left
                · intro w' hBw'
                  first | (go_simp; done) | (go_simp; with_reducible rfl)
                try simp only [Act.put, List.getElem_toArray, List.getElem_cons_zero, List.getElem_cons_succ, List.setIfInBounds_toArray, List.set_cons_zero, List.set_cons_succ]
                refine pi_q (v := ?_) (by rw [← HO.out]; simp only [List.getElem?_toArray, List.getElem?_cons_zero, List.getElem?_cons_succ]; rfl) (by rw [← HO.out]; kernel_rfl) ?_ ?_
                rotate_left
                · intro w' hBw'
                  first | (go_simp; done) | (go_simp; with_reducible rfl)
                try simp only [Act.put, List.getElem_toArray, List.getElem_cons_zero, List.getElem_cons_succ, List.setIfInBounds_toArray, List.set_cons_zero, List.set_cons_succ]
                refine pi_q (v := ?_) (by rw [← HO.out]; simp only [List.getElem?_toArray, List.getElem?_cons_zero, List.getElem?_cons_succ]; rfl) (by rw [← HO.out]; kernel_rfl) ?_ ?_
                rotate_left
                · intro w' hBw'
                  first | (go_simp; done) | (go_simp; with_reducible rfl)
                try simp only [Act.put, List.getElem_toArray, List.getElem_cons_zero, List.getElem_cons_succ, List.setIfInBounds_toArray, List.set_cons_zero, List.set_cons_succ]
                refine pi_q (v := ?_) (by rw [← HO.out]; simp only [List.getElem?_toArray, List.getElem?_cons_zero, List.getElem?_cons_succ]; rfl) (by rw [← HO.out]; kernel_rfl) ?_ ?_
                rotate_left
                · intro w' hBw'
                  first | (go_simp; done) | (go_simp; with_reducible rfl)
                try simp only [Act.put, List.getElem_toArray, List.getElem_cons_zero, List.getElem_cons_succ, List.setIfInBounds_toArray, List.set_cons_zero, List.set_cons_succ]
                refine pi_q (v := ?_) (by rw [← HO.out]; simp only [List.getElem?_toArray, List.getElem?_cons_zero, List.getElem?_cons_succ]; rfl) (by rw [← HO.out]; kernel_rfl) ?_ ?_
                rotate_left
                · intro w' hBw'
                  first | (go_simp; done) | (go_simp; with_reducible rfl)
                try simp only [Act.put, List.getElem_toArray, List.getElem_cons_zero, List.getElem_cons_succ, List.setIfInBounds_toArray, List.set_cons_zero, List.set_cons_succ]
                refine pi_q (v := ?_) (by rw [← HO.out]; simp only [List.getElem?_toArray, List.getElem?_cons_zero, List.getElem?_cons_succ]; rfl) (by rw [← HO.out]; kernel_rfl) ?_ ?_
                rotate_left
                · intro w' hBw'
                  first | (go_simp; done) | (go_simp; with_reducible rfl)
                try simp only [Act.put, List.getElem_toArray, List.getElem_cons_zero, List.getElem_cons_succ, List.setIfInBounds_toArray, List.set_cons_zero, List.set_cons_succ]
                refine pi_q (v := ?_) (by rw [← HO.out]; simp only [List.getElem?_toArray, List.getElem?_cons_zero, List.getElem?_cons_succ]; rfl) (by rw [← HO.out]; kernel_rfl) ?_ ?_
                rotate_left
                · intro w' hBw'
                  first | (go_simp; done) | (go_simp; with_reducible rfl)
                try simp only [Act.put, List.getElem_toArray, List.getElem_cons_zero, List.getElem_cons_succ, List.setIfInBounds_toArray, List.set_cons_zero, List.set_cons_succ]
                refine pi_q (v := ?_) (by rw [← HO.out]; simp only [List.getElem?_toArray, List.getElem?_cons_zero, List.getElem?_cons_succ]; rfl) (by rw [← HO.out]; kernel_rfl) ?_ ?_
                rotate_left
                · intro w' hBw'
                  first | (go_simp; done) | (go_simp; with_reducible rfl)
                try simp only [Act.put, List.getElem_toArray, List.getElem_cons_zero, List.getElem_cons_succ, List.setIfInBounds_toArray, List.set_cons_zero, List.set_cons_succ]
                refine pi_q (v := ?_) (by rw [← HO.out]; simp only [List.getElem?_toArray, List.getElem?_cons_zero, List.getElem?_cons_succ]; rfl) (by rw [← HO.out]; kernel_rfl) ?_ ?_
                rotate_left
                · intro w' hBw'
                  first | (go_simp; done) | (go_simp; with_reducible rfl)
                try simp only [Act.put, List.getElem_toArray, List.getElem_cons_zero, List.getElem_cons_succ, List.setIfInBounds_toArray, List.set_cons_zero, List.set_cons_succ]
                refine pi_q (v := ?_) (by rw [← HO.out]; simp only [List.getElem?_toArray, List.getElem?_cons_zero, List.getElem?_cons_succ]; rfl) (by rw [← HO.out]; kernel_rfl) ?_ ?_
                rotate_left
                · intro w' hBw'
                  first | (go_simp; done) | (go_simp; with_reducible rfl)
                try simp only [Act.put, List.getElem_toArray, List.getElem_cons_zero, List.getElem_cons_succ, List.setIfInBounds_toArray, List.set_cons_zero, List.set_cons_succ]
                refine pi_q (v := ?_) (by rw [← HO.out]; simp only [List.getElem?_toArray, List.getElem?_cons_zero, List.getElem?_cons_succ]; rfl) (by rw [← HO.out]; kernel_rfl) ?_ ?_
                rotate_left
                · intro w' hBw'
                  first | (go_simp; done) | (go_simp; with_reducible rfl)
                try simp only [Act.put, List.getElem_toArray, List.getElem_cons_zero, List.getElem_cons_succ, List.setIfInBounds_toArray, List.set_cons_zero, List.set_cons_succ]
                refine pi_q (v := ?_) (by rw [← HO.out]; simp only [List.getElem?_toArray, List.getElem?_cons_zero, List.getElem?_cons_succ]; rfl) (by rw [← HO.out]; kernel_rfl) ?_ ?_
                rotate_left
                · intro w' hBw'
                  first | (go_simp; done) | (go_simp; with_reducible rfl)
                try simp only [Act.put, List.getElem_toArray, List.getElem_cons_zero, List.getElem_cons_succ, List.setIfInBounds_toArray, List.set_cons_zero, List.set_cons_succ]
                refine pi_q (v := ?_) (by rw [← HO.out]; simp only [List.getElem?_toArray, List.getElem?_cons_zero, List.getElem?_cons_succ]; rfl) (by rw [← HO.out]; kernel_rfl) ?_ ?_
                rotate_left
                · intro w' hBw'
                  first | (go_simp; done) | (go_simp; with_reducible rfl)
                try simp only [Act.put, List.getElem_toArray, List.getElem_cons_zero, List.getElem_cons_succ, List.setIfInBounds_toArray, List.set_cons_zero, List.set_cons_succ]
                refine pi_q (v := .string ⟨(b.take FM).toArray⟩) (by rw [← HO.out]; simp only [List.getElem?_toArray, List.getElem?_cons_zero, List.getElem?_cons_succ]; rfl) (by rw [← HO.out]; kernel_rfl) (by exact fun w' hb' => exec_str rfl (by kernel_rfl) (T17.up hb')) ?_
                try simp only [Act.put, List.getElem_toArray, List.getElem_cons_zero, List.getElem_cons_succ, List.setIfInBounds_toArray, List.set_cons_zero, List.set_cons_succ]
                refine pi_q (v := ?_) (by rw [← HO.out]; simp only [List.getElem?_toArray, List.getElem?_cons_zero, List.getElem?_cons_succ]; rfl) (by rw [← HO.out]; kernel_rfl) ?_ ?_
                rotate_left
                · intro w' hBw'
                  first | (go_simp; done) | (go_simp; with_reducible rfl)
                try simp only [Act.put, List.getElem_toArray, List.getElem_cons_zero, List.getElem_cons_succ, List.setIfInBounds_toArray, List.set_cons_zero, List.set_cons_succ]
                refine pi_q (v := ?_) (by rw [← HO.out]; simp only [List.getElem?_toArray, List.getElem?_cons_zero, List.getElem?_cons_succ]; rfl) (by rw [← HO.out]; kernel_rfl) ?_ ?_
                rotate_left
                · intro w' hBw'
                  first | (go_simp; done) | (go_simp; with_reducible rfl)
                try simp only [Act.put, List.getElem_toArray, List.getElem_cons_zero, List.getElem_cons_succ, List.setIfInBounds_toArray, List.set_cons_zero, List.set_cons_succ]
                refine pi_q (v := ?_) (by rw [← HO.out]; simp only [List.getElem?_toArray, List.getElem?_cons_zero, List.getElem?_cons_succ]; rfl) (by rw [← HO.out]; kernel_rfl) ?_ ?_
                rotate_left
                · intro w' hBw'
                  first | (go_simp; done) | (go_simp; with_reducible rfl)
                try simp only [Act.put, List.getElem_toArray, List.getElem_cons_zero, List.getElem_cons_succ, List.setIfInBounds_toArray, List.set_cons_zero, List.set_cons_succ]
                refine pi_q (v := .string ⟨(b.take FM).toArray⟩) (by rw [← HO.out]; simp only [List.getElem?_toArray, List.getElem?_cons_zero, List.getElem?_cons_succ]; rfl) (by rw [← HO.out]; kernel_rfl) (by exact fun w' hb' => exec_str rfl (by kernel_rfl) (T21.up hb')) ?_
                try simp only [Act.put, List.getElem_toArray, List.getElem_cons_zero, List.getElem_cons_succ, List.setIfInBounds_toArray, List.set_cons_zero, List.set_cons_succ]
                refine pi_q (v := .bool false) (by rw [← HO.out]; simp only [List.getElem?_toArray, List.getElem?_cons_zero, List.getElem?_cons_succ]; rfl) (by rw [← HO.out]; kernel_rfl) (by exact fun w' _ => exec_strne (s := ⟨(b.take FM).toArray⟩) rfl (by kernel_rfl) (by kernel_rfl) w') ?_
                try simp only [Act.put, List.getElem_toArray, List.getElem_cons_zero, List.getElem_cons_succ, List.setIfInBounds_toArray, List.set_cons_zero, List.set_cons_succ]
                refine pi_q (v := ?_) (by rw [← HO.out]; simp only [List.getElem?_toArray, List.getElem?_cons_zero, List.getElem?_cons_succ]; rfl) (by rw [← HO.out]; kernel_rfl) ?_ ?_
                rotate_left
                · intro w' hBw'
                  first | (go_simp; done) | (go_simp; with_reducible rfl)
                try simp only [Act.put, List.getElem_toArray, List.getElem_cons_zero, List.getElem_cons_succ, List.setIfInBounds_toArray, List.set_cons_zero, List.set_cons_succ]
                refine pi_nil ?_
                have HB := HBc
                go_wp2_with fail
                go_at_call 8
                refine (cbWorks_a w0 _ HB (Lib.hid (HT0.out.up HB.out))).mono ?_
                rintro en wq ⟨rfl, hq⟩
                go_wp2
                go_ret
                exact ⟨rfl, hq⟩
              · have hE1 : (EF == 0) = false := by rw [beq_eq_false_iff_ne]; exact hE
                go_wp2_with fail
                go_at_call 8
                refine (cbWorks_a w0 _ HB (Lib.hid (HT0.out.up HB.out))).mono ?_
                rintro en wq ⟨rfl, hq⟩
                go_wp2
                go_ret
                exact ⟨rfl, hq⟩
            · have hg1 : decide ((LX : Int) < (LY : Int)) = false := decide_eq_false (by omega)
              have hg2 : decide ((LY : Int) > (LX : Int)) = false := decide_eq_false (by omega)
              go_wp2_with fail
              refine wp_region_piL [(0, false), (1, true), (2, false), (3, false), (4, false), (5, false), (6, false), (7, false), (8, false), (9, false), (10, false), (11, false), (12, false), (13, false), (14, false), (15, false), (16, false), (17, false), (18, false), (19, false)] (by kernel_rfl) (by kernel_rfl) (by kernel_rfl) rfl (fun _ _ d _ _ h => by cases d <;> exact h) (fun OPS HO Wd hBd => ?_)
              try simp only [Act.put, List.getElem_toArray, List.getElem_cons_zero, List.getElem_cons_succ, List.setIfInBounds_toArray, List.set_cons_zero, List.set_cons_succ]
              have HBc := Lib.hid (below_up HB.out hBd)
              refine pi_q (v := ?_) (by rw [← HO.out]; simp only [List.getElem?_toArray, List.getElem?_cons_zero, List.getElem?_cons_succ]; rfl) (by rw [← HO.out]; kernel_rfl) ?_ ?_
              rotate_left
              · intro w' hBw'
                first | (go_simp; done) | (go_simp; with_reducible rfl)
              try simp only [Act.put, List.getElem_toArray, List.getElem_cons_zero, List.getElem_cons_succ, List.setIfInBounds_toArray, List.set_cons_zero, List.set_cons_succ]
              refine pi_call (by rw [← HO.out]; simp only [List.getElem?_toArray, List.getElem?_cons_zero, List.getElem?_cons_succ]; rfl) (by rw [← HO.out]; kernel_rfl) (numE_c 0 _) cbEnters_num (by rfl) (by kernel_rfl) ?_
              rintro en wN ⟨rfl, rfl⟩
              refine ⟨_, rfl, (Below.refl _ _), ?_⟩
              try simp only [Act.put, List.getElem_toArray, List.getElem_cons_zero, List.getElem_cons_succ, List.setIfInBounds_toArray, List.set_cons_zero, List.set_cons_succ]
              refine pi_q (v := ?_) (by rw [← HO.out]; simp only [List.getElem?_toArray, List.getElem?_cons_zero, List.getElem?_cons_succ]; rfl) (by rw [← HO.out]; kernel_rfl) ?_ ?_
              rotate_left
              · intro w' hBw'
                first | (go_simp; done) | (go_simp; with_reducible rfl)
              try simp only [Act.put, List.getElem_toArray, List.getElem_cons_zero, List.getElem_cons_succ, List.setIfInBounds_toArray, List.set_cons_zero, List.set_cons_succ]
              refine pi_q (v := ?_) (by rw [← HO.out]; simp only [List.getElem?_toArray, List.getElem?_cons_zero, List.getElem?_cons_succ]; rfl) (by rw [← HO.out]; kernel_rfl) ?_ ?_
              rotate_left
              · intro w' hBw'
                first | (go_simp; done) | (go_simp; with_reducible rfl)
              try simp only [Act.put, List.getElem_toArray, List.getElem_cons_zero, List.getElem_cons_succ, List.setIfInBounds_toArray, List.set_cons_zero, List.set_cons_succ]
              refine pi_q (v := ?_) (by rw [← HO.out]; simp only [List.getElem?_toArray, List.getElem?_cons_zero, List.getElem?_cons_succ]; rfl) (by rw [← HO.out]; kernel_rfl) ?_ ?_
              rotate_left
              · intro w' hBw'
                first | (go_simp; done) | (go_simp; with_reducible rfl)
              try simp only [Act.put, List.getElem_toArray, List.getElem_cons_zero, List.getElem_cons_succ, List.setIfInBounds_toArray, List.set_cons_zero, List.set_cons_succ]
              refine pi_q (v := ?_) (by rw [← HO.out]; simp only [List.getElem?_toArray, List.getElem?_cons_zero, List.getElem?_cons_succ]; rfl) (by rw [← HO.out]; kernel_rfl) ?_ ?_
              rotate_left
              · intro w' hBw'
                first | (go_simp; done) | (go_simp; with_reducible rfl)
              try simp only [Act.put, List.getElem_toArray, List.getElem_cons_zero, List.getElem_cons_succ, List.setIfInBounds_toArray, List.set_cons_zero, List.set_cons_succ]
              refine pi_q (v := ?_) (by rw [← HO.out]; simp only [List.getElem?_toArray, List.getElem?_cons_zero, List.getElem?_cons_succ]; rfl) (by rw [← HO.out]; kernel_rfl) ?_ ?_
              rotate_left
              · intro w' hBw'
                first | (go_simp; done) | (go_simp; with_reducible rfl)
              try simp only [Act.put, List.getElem_toArray, List.getElem_cons_zero, List.getElem_cons_succ, List.setIfInBounds_toArray, List.set_cons_zero, List.set_cons_succ]
              refine pi_q (v := ?_) (by rw [← HO.out]; simp only [List.getElem?_toArray, List.getElem?_cons_zero, List.getElem?_cons_succ]; rfl) (by rw [← HO.out]; kernel_rfl) ?_ ?_
              rotate_left
              · intro w' hBw'
                first | (go_simp; done) | (go_simp; with_reducible rfl)
              try simp only [Act.put, List.getElem_toArray, List.getElem_cons_zero, List.getElem_cons_succ, List.setIfInBounds_toArray, List.set_cons_zero, List.set_cons_succ]
              refine pi_q (v := ?_) (by rw [← HO.out]; simp only [List.getElem?_toArray, List.getElem?_cons_zero, List.getElem?_cons_succ]; rfl) (by rw [← HO.out]; kernel_rfl) ?_ ?_
              rotate_left
              · intro w' hBw'
                first | (go_simp; done) | (go_simp; with_reducible rfl)
              try simp only [Act.put, List.getElem_toArray, List.getElem_cons_zero, List.getElem_cons_succ, List.setIfInBounds_toArray, List.set_cons_zero, List.set_cons_succ]
              refine pi_q (v := ?_) (by rw [← HO.out]; simp only [List.getElem?_toArray, List.getElem?_cons_zero, List.getElem?_cons_succ]; rfl) (by rw [← HO.out]; kernel_rfl) ?_ ?_
              rotate_left
              · intro w' hBw'
                first | (go_simp; done) | (go_simp; with_reducible rfl)
              try simp only [Act.put, List.getElem_toArray, List.getElem_cons_zero, List.getElem_cons_succ, List.setIfInBounds_toArray, List.set_cons_zero, List.set_cons_succ]
              refine pi_q (v := ?_) (by rw [← HO.out]; simp only [List.getElem?_toArray, List.getElem?_cons_zero, List.getElem?_cons_succ]; rfl) (by rw [← HO.out]; kernel_rfl) ?_ ?_
              rotate_left
              · intro w' hBw'
                first | (go_simp; done) | (go_simp; with_reducible rfl)
              try simp only [Act.put, List.getElem_toArray, List.getElem_cons_zero, List.getElem_cons_succ, List.setIfInBounds_toArray, List.set_cons_zero, List.set_cons_succ]
              refine pi_no (by rw [← HO.out]; simp only [List.getElem?_toArray, List.getElem?_cons_zero, List.getElem?_cons_succ]; rfl) (by rw [← HO.out]; kernel_rfl) ?_
              try simp only [Act.put, List.getElem_toArray, List.getElem_cons_zero, List.getElem_cons_succ, List.setIfInBounds_toArray, List.set_cons_zero, List.set_cons_succ]
              refine pi_no (by rw [← HO.out]; simp only [List.getElem?_toArray, List.getElem?_cons_zero, List.getElem?_cons_succ]; rfl) (by rw [← HO.out]; kernel_rfl) ?_
              try simp only [Act.put, List.getElem_toArray, List.getElem_cons_zero, List.getElem_cons_succ, List.setIfInBounds_toArray, List.set_cons_zero, List.set_cons_succ]
              refine pi_no (by rw [← HO.out]; simp only [List.getElem?_toArray, List.getElem?_cons_zero, List.getElem?_cons_succ]; rfl) (by rw [← HO.out]; kernel_rfl) ?_
              try simp only [Act.put, List.getElem_toArray, List.getElem_cons_zero, List.getElem_cons_succ, List.setIfInBounds_toArray, List.set_cons_zero, List.set_cons_succ]
              refine pi_no (by rw [← HO.out]; simp only [List.getElem?_toArray, List.getElem?_cons_zero, List.getElem?_cons_succ]; rfl) (by rw [← HO.out]; kernel_rfl) ?_
              try simp only [Act.put, List.getElem_toArray, List.getElem_cons_zero, List.getElem_cons_succ, List.setIfInBounds_toArray, List.set_cons_zero, List.set_cons_succ]
              refine pi_no (by rw [← HO.out]; simp only [List.getElem?_toArray, List.getElem?_cons_zero, List.getElem?_cons_succ]; rfl) (by rw [← HO.out]; kernel_rfl) ?_
              try simp only [Act.put, List.getElem_toArray, List.getElem_cons_zero, List.getElem_cons_succ, List.setIfInBounds_toArray, List.set_cons_zero, List.set_cons_succ]
              refine pi_no (by rw [← HO.out]; simp only [List.getElem?_toArray, List.getElem?_cons_zero, List.getElem?_cons_succ]; rfl) (by rw [← HO.out]; kernel_rfl) ?_
              try simp only [Act.put, List.getElem_toArray, List.getElem_cons_zero, List.getElem_cons_succ, List.setIfInBounds_toArray, List.set_cons_zero, List.set_cons_succ]
              refine pi_no (by rw [← HO.out]; simp only [List.getElem?_toArray, List.getElem?_cons_zero, List.getElem?_cons_succ]; rfl) (by rw [← HO.out]; kernel_rfl) ?_
              try simp only [Act.put, List.getElem_toArray, List.getElem_cons_zero, List.getElem_cons_succ, List.setIfInBounds_toArray, List.set_cons_zero, List.set_cons_succ]
              refine pi_no (by rw [← HO.out]; simp only [List.getElem?_toArray, List.getElem?_cons_zero, List.getElem?_cons_succ]; rfl) (by rw [← HO.out]; kernel_rfl) ?_
              try simp only [Act.put, List.getElem_toArray, List.getElem_cons_zero, List.getElem_cons_succ, List.setIfInBounds_toArray, List.set_cons_zero, List.set_cons_succ]
              refine pi_q (v := ?_) (by rw [← HO.out]; simp only [List.getElem?_toArray, List.getElem?_cons_zero, List.getElem?_cons_succ]; rfl) (by rw [← HO.out]; kernel_rfl) ?_ ?_
              rotate_left
              · intro w' hBw'
                first | (go_simp; done) | (go_simp; with_reducible rfl)
              try simp only [Act.put, List.getElem_toArray, List.getElem_cons_zero, List.getElem_cons_succ, List.setIfInBounds_toArray, List.set_cons_zero, List.set_cons_succ]
              refine pi_nil ?_
              have hq := hBd
              replace HB := Lib.hid (below_up HB.out hq)
              replace I0 := Lib.hid (I0.out.up hq)
              replace I1 := Lib.hid (I1.out.up hq)
              replace S2 := Lib.hid (S2.out.up hq)
              replace X3 := Lib.hid (X3.out.below hq)
              replace X4 := Lib.hid (X4.out.below hq)
              replace S7 := Lib.hid (S7.out.up hq)
              replace I8 := Lib.hid (I8.out.up hq)
              replace X8 := Lib.hid (X8.out.below hq)
              replace S12 := Lib.hid (S12.out.up hq)
              replace HG := Lib.hid (Nat.lt_of_lt_of_le HG.out (by have := hq.size; first | exact this | (simp only [World.size_alloc] at this ⊢; omega)))
              clear hq HBc
              generalize Wd = wq at *
              have fX30 := X3.out.cell (i := 0) rfl
              have fX31 := X3.out.cell (i := 1) rfl
              have fX32 := X3.out.cell (i := 2) rfl
              have fX33 := X3.out.cell (i := 3) rfl
              have fX34 := X3.out.cell (i := 4) rfl
              have fX40 := X4.out.cell (i := 0) rfl
              have fX41 := X4.out.cell (i := 1) rfl
              have fX42 := X4.out.cell (i := 2) rfl
              have fX43 := X4.out.cell (i := 3) rfl
              have fX44 := X4.out.cell (i := 4) rfl
              have fX80 := X8.out.cell (i := 0) rfl
              have fX81 := X8.out.cell (i := 1) rfl
              have fX82 := X8.out.cell (i := 2) rfl
              have fX83 := X8.out.cell (i := 3) rfl
              have fX84 := X8.out.cell (i := 4) rfl
              go_wp2_with fail
              clear fX30 fX31 fX32 fX33 fX34
              clear fX40 fX41 fX42 fX43 fX44
              clear fX80 fX81 fX82 fX83 fX84
              have hfi := (cbFirst_c _ _ b (by rw [hbL]; exact S2.out) (HT0.out.up HB.out)).mono (fun en w' h => fstU_of (g := w0.heap.size) h HG.out)
              unfold FstU at hfi
              rw [hEF, hFM] at hfi
              go_at_call 10
              refine hfi.mono ?_
              clear hfi
              rintro en wq ⟨hq, k9, n9, ba9, bn9, bc9, s9, la9, ln9, lc9, rfl, I9⟩
              replace I9 := Lib.hid I9
              replace HB := Lib.hid (below_up HB.out hq)
              replace I0 := Lib.hid (I0.out.up hq)
              replace I1 := Lib.hid (I1.out.up hq)
              replace S2 := Lib.hid (S2.out.up hq)
              replace X3 := Lib.hid (X3.out.below hq)
              replace X4 := Lib.hid (X4.out.below hq)
              replace S7 := Lib.hid (S7.out.up hq)
              replace I8 := Lib.hid (I8.out.up hq)
              replace X8 := Lib.hid (X8.out.below hq)
              replace S12 := Lib.hid (S12.out.up hq)
              replace HG := Lib.hid (Nat.lt_of_lt_of_le HG.out (by have := hq.size; first | exact this | (simp only [World.size_alloc] at this ⊢; omega)))
              clear hq
              have fX30 := X3.out.cell (i := 0) rfl
              have fX31 := X3.out.cell (i := 1) rfl
              have fX32 := X3.out.cell (i := 2) rfl
              have fX33 := X3.out.cell (i := 3) rfl
              have fX34 := X3.out.cell (i := 4) rfl
              have fX40 := X4.out.cell (i := 0) rfl
              have fX41 := X4.out.cell (i := 1) rfl
              have fX42 := X4.out.cell (i := 2) rfl
              have fX43 := X4.out.cell (i := 3) rfl
              have fX44 := X4.out.cell (i := 4) rfl
              have fX80 := X8.out.cell (i := 0) rfl
              have fX81 := X8.out.cell (i := 1) rfl
              have fX82 := X8.out.cell (i := 2) rfl
              have fX83 := X8.out.cell (i := 3) rfl
              have fX84 := X8.out.cell (i := 4) rfl
              go_wp2_with fail
              clear fX30 fX31 fX32 fX33 fX34
              clear fX40 fX41 fX42 fX43 fX44
              clear fX80 fX81 fX82 fX83 fX84
              have X9 := Lib.hid (RowAt.new wq #[.int .i64 k9, .int .u64 n9, .slice ba9 bn9 bc9, .string s9, .slice la9 ln9 lc9] 28)
              have hq := below_alloc wq (.cells #[.int .i64 k9, .int .u64 n9, .slice ba9 bn9 bc9, .string s9, .slice la9 ln9 lc9] 28)
              obtain ⟨BX9, hBX9⟩ : ∃ B, wq.heap.size = B := ⟨_, rfl⟩
              replace HB := Lib.hid (below_up HB.out hq)
              replace I0 := Lib.hid (I0.out.up hq)
              replace I1 := Lib.hid (I1.out.up hq)
              replace S2 := Lib.hid (S2.out.up hq)
              replace X3 := Lib.hid (X3.out.below hq)
              replace X4 := Lib.hid (X4.out.below hq)
              replace S7 := Lib.hid (S7.out.up hq)
              replace I8 := Lib.hid (I8.out.up hq)
              replace X8 := Lib.hid (X8.out.below hq)
              replace S12 := Lib.hid (S12.out.up hq)
              replace I9 := Lib.hid (I9.out.up hq)
              replace HG := Lib.hid (Nat.lt_of_lt_of_le HG.out (by have := hq.size; first | exact this | (simp only [World.size_alloc] at this ⊢; omega)))
              clear hq
              rw [hBX9] at X9 ⊢
              replace hBX9 := Lib.hid hBX9
              go_at_call 13
              refine (numE_c EF _).mono ?_
              rintro en wz ⟨rfl, rfl⟩
              by_cases hE : EF = 0
              · subst hE
                have hok := fst_ok hEF
                rw [hFM] at hok
                have fX30 := X3.out.cell (i := 0) rfl
                have fX31 := X3.out.cell (i := 1) rfl
                have fX32 := X3.out.cell (i := 2) rfl
                have fX33 := X3.out.cell (i := 3) rfl
                have fX34 := X3.out.cell (i := 4) rfl
                have fX40 := X4.out.cell (i := 0) rfl
                have fX41 := X4.out.cell (i := 1) rfl
                have fX42 := X4.out.cell (i := 2) rfl
                have fX43 := X4.out.cell (i := 3) rfl
                have fX44 := X4.out.cell (i := 4) rfl
                have fX80 := X8.out.cell (i := 0) rfl
                have fX81 := X8.out.cell (i := 1) rfl
                have fX82 := X8.out.cell (i := 2) rfl
                have fX83 := X8.out.cell (i := 3) rfl
                have fX84 := X8.out.cell (i := 4) rfl
                have fX90 := X9.out.cell (i := 0) rfl
                have fX91 := X9.out.cell (i := 1) rfl
                have fX92 := X9.out.cell (i := 2) rfl
                have fX93 := X9.out.cell (i := 3) rfl
                have fX94 := X9.out.cell (i := 4) rfl
                go_wp2_with fail
                clear fX30 fX31 fX32 fX33 fX34
                clear fX40 fX41 fX42 fX43 fX44
                clear fX80 fX81 fX82 fX83 fX84
                clear fX90 fX91 fX92 fX93 fX94
                have hen := encode_c _ (fstIt b) ⟨k9, n9, .slice ba9 bn9 bc9, s9, .slice la9 ln9 lc9⟩ _ I9.out (Nat.le_trans (fstIt_cnt b) (by decide)) (kw_right _ hok.2.2.1) (HT0.out.up HB.out) (fun k h => h.2)
                unfold EncE at hen
                rw [hok.2.1, hok.1] at hen
                have hFL : (b.take FM).length = FM := by rw [List.length_take]; have := hok.2.2.2.2; omega
                rw [hFL] at hen
                go_at_call 15
                refine hen.mono ?_
                clear hen
                rintro en wq ⟨hq, v17, rfl, ho, _⟩
                replace ho := ho rfl
                obtain ⟨a17, c17, rfl⟩ := own_slice ho
                have S17 : RowKit.Hid (Sl wq 1 (.slice a17 FM c17) FM (by8 (b.take FM))) := Lib.hid (Sl.of_own ho)
                replace HB := Lib.hid (below_up HB.out hq)
                replace I0 := Lib.hid (I0.out.up hq)
                replace I1 := Lib.hid (I1.out.up hq)
                replace S2 := Lib.hid (S2.out.up hq)
                replace X3 := Lib.hid (X3.out.below hq)
                replace X4 := Lib.hid (X4.out.below hq)
                replace S7 := Lib.hid (S7.out.up hq)
                replace I8 := Lib.hid (I8.out.up hq)
                replace X8 := Lib.hid (X8.out.below hq)
                replace S12 := Lib.hid (S12.out.up hq)
                replace I9 := Lib.hid (I9.out.up hq)
                replace X9 := Lib.hid (X9.out.below hq)
                replace HG := Lib.hid (Nat.lt_of_lt_of_le HG.out (by have := hq.size; first | exact this | (simp only [World.size_alloc] at this ⊢; omega)))
                clear hq ho
                go_wp2_with fail
                have hFle : FM ≤ BL := by have := hok.2.2.2.2; omega
                have hgt : decide ((BL : Int) < (FM : Int)) = false := decide_eq_false (by omega)
                have hgt2 : decide ((FM : Int) > (BL : Int)) = false := decide_eq_false (by omega)
                have hgt3 : ¬ BL < FM := by omega
                obtain ⟨a21, hr21, hs21⟩ := cut_h slT_u8 S2.out FM hFle
                rw [Nat.mul_one, ← by8_take] at hs21
                have hs21 := Lib.hid hs21
                refine wp_region_piL [(0, false), (1, true), (2, false), (3, false), (4, false), (5, false), (6, false), (7, false), (8, false), (9, false), (10, false), (11, false), (12, false), (13, false), (14, false), (15, false), (16, false), (17, false), (18, false), (19, false), (20, false), (21, false), (22, false), (23, false)] (by kernel_rfl) (by kernel_rfl) (by kernel_rfl) rfl (fun _ _ d _ _ h => by cases d <;> exact h) (fun OPS HO Wd hBd => ?_)
                try simp only [Act.put, List.getElem_toArray, List.getElem_cons_zero, List.getElem_cons_succ, List.setIfInBounds_toArray, List.set_cons_zero, List.set_cons_succ]
                have T17 := S17.out.up hBd
                have T21 := hs21.out.up hBd
                have HBc := Lib.hid (below_up HB.out hBd)
                refine pi_q (v := ?_) (by rw [← HO.out]; simp only [List.getElem?_toArray, List.getElem?_cons_zero, List.getElem?_cons_succ]; rfl) (by rw [← HO.out]; kernel_rfl) ?_ ?_
                rotate_left
                · intro w' hBw'
                  first | (go_simp; done) | (go_simp; with_reducible rfl)
                try simp only [Act.put, List.getElem_toArray, List.getElem_cons_zero, List.getElem_cons_succ, List.setIfInBounds_toArray, List.set_cons_zero, List.set_cons_succ]
                refine pi_call (by rw [← HO.out]; simp only [List.getElem?_toArray, List.getElem?_cons_zero, List.getElem?_cons_succ]; rfl) (by rw [← HO.out]; kernel_rfl) (numE_c 0 _) cbEnters_num (by rfl) (by kernel_rfl) ?_
                rintro en wN ⟨rfl, rfl⟩
                refine ⟨_, rfl, (Below.refl _ _), ?_⟩
                try simp only [Act.put, List.getElem_toArray, List.getElem_cons_zero, List.getElem_cons_succ, List.setIfInBounds_toArray, List.set_cons_zero, List.set_cons_succ]
                refine pi_q (v := ?_) (by rw [← HO.out]; simp only [List.getElem?_toArray, List.getElem?_cons_zero, List.getElem?_cons_succ]; rfl) (by rw [← HO.out]; kernel_rfl) ?_ ?_
                rotate_left
                · intro w' hBw'
                  first | (go_simp; done) | (go_simp; with_reducible rfl)
                try simp only [Act.put, List.getElem_toArray, List.getElem_cons_zero, List.getElem_cons_succ, List.setIfInBounds_toArray, List.set_cons_zero, List.set_cons_succ]
                refine pi_q (v := ?_) (by rw [← HO.out]; simp only [List.getElem?_toArray, List.getElem?_cons_zero, List.getElem?_cons_succ]; rfl) (by rw [← HO.out]; kernel_rfl) ?_ ?_
                rotate_left
                · intro w' hBw'
                  first | (go_simp; done) | (go_simp; with_reducible rfl)
                try simp only [Act.put, List.getElem_toArray, List.getElem_cons_zero, List.getElem_cons_succ, List.setIfInBounds_toArray, List.set_cons_zero, List.set_cons_succ]
                refine pi_q (v := ?_) (by rw [← HO.out]; simp only [List.getElem?_toArray, List.getElem?_cons_zero, List.getElem?_cons_succ]; rfl) (by rw [← HO.out]; kernel_rfl) ?_ ?_
                rotate_left
                · intro w' hBw'
                  first | (go_simp; done) | (go_simp; with_reducible rfl)
                try simp only [Act.put, List.getElem_toArray, List.getElem_cons_zero, List.getElem_cons_succ, List.setIfInBounds_toArray, List.set_cons_zero, List.set_cons_succ]
                refine pi_q (v := ?_) (by rw [← HO.out]; simp only [List.getElem?_toArray, List.getElem?_cons_zero, List.getElem?_cons_succ]; rfl) (by rw [← HO.out]; kernel_rfl) ?_ ?_
                rotate_left
                · intro w' hBw'
                  first | (go_simp; done) | (go_simp; with_reducible rfl)
                try simp only [Act.put, List.getElem_toArray, List.getElem_cons_zero, List.getElem_cons_succ, List.setIfInBounds_toArray, List.set_cons_zero, List.set_cons_succ]
                refine pi_q (v := ?_) (by rw [← HO.out]; simp only [List.getElem?_toArray, List.getElem?_cons_zero, List.getElem?_cons_succ]; rfl) (by rw [← HO.out]; kernel_rfl) ?_ ?_
                rotate_left
                · intro w' hBw'
                  first | (go_simp; done) | (go_simp; with_reducible rfl)
                try simp only [Act.put, List.getElem_toArray, List.getElem_cons_zero, List.getElem_cons_succ, List.setIfInBounds_toArray, List.set_cons_zero, List.set_cons_succ]
                refine pi_q (v := ?_) (by rw [← HO.out]; simp only [List.getElem?_toArray, List.getElem?_cons_zero, List.getElem?_cons_succ]; rfl) (by rw [← HO.out]; kernel_rfl) ?_ ?_
                rotate_left
                · intro w' hBw'
                  first | (go_simp; done) | (go_simp; with_reducible rfl)
                try simp only [Act.put, List.getElem_toArray, List.getElem_cons_zero, List.getElem_cons_succ, List.setIfInBounds_toArray, List.set_cons_zero, List.set_cons_succ]
                refine pi_q (v := ?_) (by rw [← HO.out]; simp only [List.getElem?_toArray, List.getElem?_cons_zero, List.getElem?_cons_succ]; rfl) (by rw [← HO.out]; kernel_rfl) ?_ ?_
                rotate_left
                · intro w' hBw'
                  first | (go_simp; done) | (go_simp; with_reducible rfl)
                try simp only [Act.put, List.getElem_toArray, List.getElem_cons_zero, List.getElem_cons_succ, List.setIfInBounds_toArray, List.set_cons_zero, List.set_cons_succ]
                refine pi_q (v := ?_) (by rw [← HO.out]; simp only [List.getElem?_toArray, List.getElem?_cons_zero, List.getElem?_cons_succ]; rfl) (by rw [← HO.out]; kernel_rfl) ?_ ?_
                rotate_left
                · intro w' hBw'
                  first | (go_simp; done) | (go_simp; with_reducible rfl)
                try simp only [Act.put, List.getElem_toArray, List.getElem_cons_zero, List.getElem_cons_succ, List.setIfInBounds_toArray, List.set_cons_zero, List.set_cons_succ]
                refine pi_q (v := ?_) (by rw [← HO.out]; simp only [List.getElem?_toArray, List.getElem?_cons_zero, List.getElem?_cons_succ]; rfl) (by rw [← HO.out]; kernel_rfl) ?_ ?_
                rotate_left
                · intro w' hBw'
                  first | (go_simp; done) | (go_simp; with_reducible rfl)
                try simp only [Act.put, List.getElem_toArray, List.getElem_cons_zero, List.getElem_cons_succ, List.setIfInBounds_toArray, List.set_cons_zero, List.set_cons_succ]
                refine pi_q (v := ?_) (by rw [← HO.out]; simp only [List.getElem?_toArray, List.getElem?_cons_zero, List.getElem?_cons_succ]; rfl) (by rw [← HO.out]; kernel_rfl) ?_ ?_
                rotate_left
                · intro w' hBw'
                  first | (go_simp; done) | (go_simp; with_reducible rfl)
                try simp only [Act.put, List.getElem_toArray, List.getElem_cons_zero, List.getElem_cons_succ, List.setIfInBounds_toArray, List.set_cons_zero, List.set_cons_succ]
                refine pi_q (v := ?_) (by rw [← HO.out]; simp only [List.getElem?_toArray, List.getElem?_cons_zero, List.getElem?_cons_succ]; rfl) (by rw [← HO.out]; kernel_rfl) ?_ ?_
                rotate_left
                · intro w' hBw'
                  first | (go_simp; done) | (go_simp; with_reducible rfl)
                try simp only [Act.put, List.getElem_toArray, List.getElem_cons_zero, List.getElem_cons_succ, List.setIfInBounds_toArray, List.set_cons_zero, List.set_cons_succ]
                refine pi_q (v := ?_) (by rw [← HO.out]; simp only [List.getElem?_toArray, List.getElem?_cons_zero, List.getElem?_cons_succ]; rfl) (by rw [← HO.out]; kernel_rfl) ?_ ?_
                rotate_left
                · intro w' hBw'
                  first | (go_simp; done) | (go_simp; with_reducible rfl)
                try simp only [Act.put, List.getElem_toArray, List.getElem_cons_zero, List.getElem_cons_succ, List.setIfInBounds_toArray, List.set_cons_zero, List.set_cons_succ]
                refine pi_q (v := ?_) (by rw [← HO.out]; simp only [List.getElem?_toArray, List.getElem?_cons_zero, List.getElem?_cons_succ]; rfl) (by rw [← HO.out]; kernel_rfl) ?_ ?_
                rotate_left
                · intro w' hBw'
                  first | (go_simp; done) | (go_simp; with_reducible rfl)
                try simp only [Act.put, List.getElem_toArray, List.getElem_cons_zero, List.getElem_cons_succ, List.setIfInBounds_toArray, List.set_cons_zero, List.set_cons_succ]
                refine pi_q (v := ?_) (by rw [← HO.out]; simp only [List.getElem?_toArray, List.getElem?_cons_zero, List.getElem?_cons_succ]; rfl) (by rw [← HO.out]; kernel_rfl) ?_ ?_
                rotate_left
                · intro w' hBw'
                  first | (go_simp; done) | (go_simp; with_reducible rfl)
                try simp only [Act.put, List.getElem_toArray, List.getElem_cons_zero, List.getElem_cons_succ, List.setIfInBounds_toArray, List.set_cons_zero, List.set_cons_succ]
                refine pi_q (v := ?_) (by rw [← HO.out]; simp only [List.getElem?_toArray, List.getElem?_cons_zero, List.getElem?_cons_succ]; rfl) (by rw [← HO.out]; kernel_rfl) ?_ ?_
                rotate_left
                · intro w' hBw'
                  first | (go_simp; done) | (go_simp; with_reducible rfl)
                try simp only [Act.put, List.getElem_toArray, List.getElem_cons_zero, List.getElem_cons_succ, List.setIfInBounds_toArray, List.set_cons_zero, List.set_cons_succ]
                refine pi_q (v := .string ⟨(b.take FM).toArray⟩) (by rw [← HO.out]; simp only [List.getElem?_toArray, List.getElem?_cons_zero, List.getElem?_cons_succ]; rfl) (by rw [← HO.out]; kernel_rfl) (by exact fun w' hb' => exec_str rfl (by kernel_rfl) (T17.up hb')) ?_
                try simp only [Act.put, List.getElem_toArray, List.getElem_cons_zero, List.getElem_cons_succ, List.setIfInBounds_toArray, List.set_cons_zero, List.set_cons_succ]
                refine pi_q (v := ?_) (by rw [← HO.out]; simp only [List.getElem?_toArray, List.getElem?_cons_zero, List.getElem?_cons_succ]; rfl) (by rw [← HO.out]; kernel_rfl) ?_ ?_
                rotate_left
                · intro w' hBw'
                  first | (go_simp; done) | (go_simp; with_reducible rfl)
                try simp only [Act.put, List.getElem_toArray, List.getElem_cons_zero, List.getElem_cons_succ, List.setIfInBounds_toArray, List.set_cons_zero, List.set_cons_succ]
                refine pi_q (v := ?_) (by rw [← HO.out]; simp only [List.getElem?_toArray, List.getElem?_cons_zero, List.getElem?_cons_succ]; rfl) (by rw [← HO.out]; kernel_rfl) ?_ ?_
                rotate_left
                · intro w' hBw'
                  first | (go_simp; done) | (go_simp; with_reducible rfl)
                try simp only [Act.put, List.getElem_toArray, List.getElem_cons_zero, List.getElem_cons_succ, List.setIfInBounds_toArray, List.set_cons_zero, List.set_cons_succ]
                refine pi_q (v := ?_) (by rw [← HO.out]; simp only [List.getElem?_toArray, List.getElem?_cons_zero, List.getElem?_cons_succ]; rfl) (by rw [← HO.out]; kernel_rfl) ?_ ?_
                rotate_left
                · intro w' hBw'
                  first | (go_simp; done) | (go_simp; with_reducible rfl)
                try simp only [Act.put, List.getElem_toArray, List.getElem_cons_zero, List.getElem_cons_succ, List.setIfInBounds_toArray, List.set_cons_zero, List.set_cons_succ]
                refine pi_q (v := .string ⟨(b.take FM).toArray⟩) (by rw [← HO.out]; simp only [List.getElem?_toArray, List.getElem?_cons_zero, List.getElem?_cons_succ]; rfl) (by rw [← HO.out]; kernel_rfl) (by exact fun w' hb' => exec_str rfl (by kernel_rfl) (T21.up hb')) ?_
                try simp only [Act.put, List.getElem_toArray, List.getElem_cons_zero, List.getElem_cons_succ, List.setIfInBounds_toArray, List.set_cons_zero, List.set_cons_succ]
                refine pi_q (v := .bool false) (by rw [← HO.out]; simp only [List.getElem?_toArray, List.getElem?_cons_zero, List.getElem?_cons_succ]; rfl) (by rw [← HO.out]; kernel_rfl) (by exact fun w' _ => exec_strne (s := ⟨(b.take FM).toArray⟩) rfl (by kernel_rfl) (by kernel_rfl) w') ?_
                try simp only [Act.put, List.getElem_toArray, List.getElem_cons_zero, List.getElem_cons_succ, List.setIfInBounds_toArray, List.set_cons_zero, List.set_cons_succ]
                refine pi_q (v := ?_) (by rw [← HO.out]; simp only [List.getElem?_toArray, List.getElem?_cons_zero, List.getElem?_cons_succ]; rfl) (by rw [← HO.out]; kernel_rfl) ?_ ?_
                rotate_left
                · intro w' hBw'
                  first | (go_simp; done) | (go_simp; with_reducible rfl)
                try simp only [Act.put, List.getElem_toArray, List.getElem_cons_zero, List.getElem_cons_succ, List.setIfInBounds_toArray, List.set_cons_zero, List.set_cons_succ]
                refine pi_nil ?_
                have HB := HBc
                go_wp2_with fail
                go_at_call 8
                refine (cbWorks_a w0 _ HB (Lib.hid (HT0.out.up HB.out))).mono ?_
                rintro en wq ⟨rfl, hq⟩
                go_wp2
                go_ret
                exact ⟨rfl, hq⟩
              · have hE1 : (EF == 0) = false := by rw [beq_eq_false_iff_ne]; exact hE
                go_wp2_with fail
                go_at_call 8
                refine (cbWorks_a w0 _ HB (Lib.hid (HT0.out.up HB.out))).mono ?_
                rintro en wq ⟨rfl, hq⟩
                go_wp2
                go_ret
                exact ⟨rfl, hq⟩
          · have hzy1 : (CY == 0) = false := by rw [beq_eq_false_iff_ne]; exact hzy
            replace hn := hn hzy
            subst hn
            clear ho
            replace HB := Lib.hid (below_up HB.out hq)
            replace I0 := Lib.hid (I0.out.up hq)
            replace I1 := Lib.hid (I1.out.up hq)
            replace S2 := Lib.hid (S2.out.up hq)
            replace X3 := Lib.hid (X3.out.below hq)
            replace X4 := Lib.hid (X4.out.below hq)
            replace S7 := Lib.hid (S7.out.up hq)
            replace I8 := Lib.hid (I8.out.up hq)
            replace X8 := Lib.hid (X8.out.below hq)
            replace HG := Lib.hid (Nat.lt_of_lt_of_le HG.out (by have := hq.size; first | exact this | (simp only [World.size_alloc] at this ⊢; omega)))
            clear hq
            go_wp2_with fail
            refine wp_region_piL [(0, false), (1, true), (2, false), (3, false), (4, false), (5, false), (6, false), (7, false), (8, false), (9, false), (10, false), (11, false), (12, false), (13, false), (14, false), (15, false), (16, false), (17, false), (18, false), (19, false)] (by kernel_rfl) (by kernel_rfl) (by kernel_rfl) rfl (fun _ _ d _ _ h => by cases d <;> exact h) (fun OPS HO Wd hBd => ?_)
            try simp only [Act.put, List.getElem_toArray, List.getElem_cons_zero, List.getElem_cons_succ, List.setIfInBounds_toArray, List.set_cons_zero, List.set_cons_succ]
            have HBc := Lib.hid (below_up HB.out hBd)
            refine pi_q (v := ?_) (by rw [← HO.out]; simp only [List.getElem?_toArray, List.getElem?_cons_zero, List.getElem?_cons_succ]; rfl) (by rw [← HO.out]; kernel_rfl) ?_ ?_
            rotate_left
            · intro w' hBw'
              first | (go_simp; done) | (go_simp; with_reducible rfl)
            try simp only [Act.put, List.getElem_toArray, List.getElem_cons_zero, List.getElem_cons_succ, List.setIfInBounds_toArray, List.set_cons_zero, List.set_cons_succ]
            refine pi_call (by rw [← HO.out]; simp only [List.getElem?_toArray, List.getElem?_cons_zero, List.getElem?_cons_succ]; rfl) (by rw [← HO.out]; kernel_rfl) (numE_c CY _) cbEnters_num (by rfl) (by kernel_rfl) ?_
            rintro en wN ⟨rfl, rfl⟩
            refine ⟨_, rfl, (Below.refl _ _), ?_⟩
            try simp only [Act.put, List.getElem_toArray, List.getElem_cons_zero, List.getElem_cons_succ, List.setIfInBounds_toArray, List.set_cons_zero, List.set_cons_succ]
            refine pi_q (v := ?_) (by rw [← HO.out]; simp only [List.getElem?_toArray, List.getElem?_cons_zero, List.getElem?_cons_succ]; rfl) (by rw [← HO.out]; kernel_rfl) ?_ ?_
            rotate_left
            · intro w' hBw'
              first | (go_simp; done) | (go_simp; with_reducible rfl)
            try simp only [Act.put, List.getElem_toArray, List.getElem_cons_zero, List.getElem_cons_succ, List.setIfInBounds_toArray, List.set_cons_zero, List.set_cons_succ]
            refine pi_q (v := ?_) (by rw [← HO.out]; simp only [List.getElem?_toArray, List.getElem?_cons_zero, List.getElem?_cons_succ]; rfl) (by rw [← HO.out]; kernel_rfl) ?_ ?_
            rotate_left
            · intro w' hBw'
              first | (go_simp; done) | (go_simp; with_reducible rfl)
            try simp only [Act.put, List.getElem_toArray, List.getElem_cons_zero, List.getElem_cons_succ, List.setIfInBounds_toArray, List.set_cons_zero, List.set_cons_succ]
            refine pi_no (by rw [← HO.out]; simp only [List.getElem?_toArray, List.getElem?_cons_zero, List.getElem?_cons_succ]; rfl) (by rw [← HO.out]; kernel_rfl) ?_
            try simp only [Act.put, List.getElem_toArray, List.getElem_cons_zero, List.getElem_cons_succ, List.setIfInBounds_toArray, List.set_cons_zero, List.set_cons_succ]
            refine pi_no (by rw [← HO.out]; simp only [List.getElem?_toArray, List.getElem?_cons_zero, List.getElem?_cons_succ]; rfl) (by rw [← HO.out]; kernel_rfl) ?_
            try simp only [Act.put, List.getElem_toArray, List.getElem_cons_zero, List.getElem_cons_succ, List.setIfInBounds_toArray, List.set_cons_zero, List.set_cons_succ]
            refine pi_no (by rw [← HO.out]; simp only [List.getElem?_toArray, List.getElem?_cons_zero, List.getElem?_cons_succ]; rfl) (by rw [← HO.out]; kernel_rfl) ?_
            try simp only [Act.put, List.getElem_toArray, List.getElem_cons_zero, List.getElem_cons_succ, List.setIfInBounds_toArray, List.set_cons_zero, List.set_cons_succ]
            refine pi_no (by rw [← HO.out]; simp only [List.getElem?_toArray, List.getElem?_cons_zero, List.getElem?_cons_succ]; rfl) (by rw [← HO.out]; kernel_rfl) ?_
            try simp only [Act.put, List.getElem_toArray, List.getElem_cons_zero, List.getElem_cons_succ, List.setIfInBounds_toArray, List.set_cons_zero, List.set_cons_succ]
            refine pi_no (by rw [← HO.out]; simp only [List.getElem?_toArray, List.getElem?_cons_zero, List.getElem?_cons_succ]; rfl) (by rw [← HO.out]; kernel_rfl) ?_
            try simp only [Act.put, List.getElem_toArray, List.getElem_cons_zero, List.getElem_cons_succ, List.setIfInBounds_toArray, List.set_cons_zero, List.set_cons_succ]
            refine pi_q (v := ?_) (by rw [← HO.out]; simp only [List.getElem?_toArray, List.getElem?_cons_zero, List.getElem?_cons_succ]; rfl) (by rw [← HO.out]; kernel_rfl) ?_ ?_
            rotate_left
            · intro w' hBw'
              first | (go_simp; done) | (go_simp; with_reducible rfl)
            try simp only [Act.put, List.getElem_toArray, List.getElem_cons_zero, List.getElem_cons_succ, List.setIfInBounds_toArray, List.set_cons_zero, List.set_cons_succ]
            refine pi_q (v := ?_) (by rw [← HO.out]; simp only [List.getElem?_toArray, List.getElem?_cons_zero, List.getElem?_cons_succ]; rfl) (by rw [← HO.out]; kernel_rfl) ?_ ?_
            rotate_left
            · intro w' hBw'
              first | (go_simp; done) | (go_simp; with_reducible rfl)
            try simp only [Act.put, List.getElem_toArray, List.getElem_cons_zero, List.getElem_cons_succ, List.setIfInBounds_toArray, List.set_cons_zero, List.set_cons_succ]
            refine pi_no (by rw [← HO.out]; simp only [List.getElem?_toArray, List.getElem?_cons_zero, List.getElem?_cons_succ]; rfl) (by rw [← HO.out]; kernel_rfl) ?_
            try simp only [Act.put, List.getElem_toArray, List.getElem_cons_zero, List.getElem_cons_succ, List.setIfInBounds_toArray, List.set_cons_zero, List.set_cons_succ]
            refine pi_no (by rw [← HO.out]; simp only [List.getElem?_toArray, List.getElem?_cons_zero, List.getElem?_cons_succ]; rfl) (by rw [← HO.out]; kernel_rfl) ?_
            try simp only [Act.put, List.getElem_toArray, List.getElem_cons_zero, List.getElem_cons_succ, List.setIfInBounds_toArray, List.set_cons_zero, List.set_cons_succ]
            refine pi_no (by rw [← HO.out]; simp only [List.getElem?_toArray, List.getElem?_cons_zero, List.getElem?_cons_succ]; rfl) (by rw [← HO.out]; kernel_rfl) ?_
            try simp only [Act.put, List.getElem_toArray, List.getElem_cons_zero, List.getElem_cons_succ, List.setIfInBounds_toArray, List.set_cons_zero, List.set_cons_succ]
            refine pi_no (by rw [← HO.out]; simp only [List.getElem?_toArray, List.getElem?_cons_zero, List.getElem?_cons_succ]; rfl) (by rw [← HO.out]; kernel_rfl) ?_
            try simp only [Act.put, List.getElem_toArray, List.getElem_cons_zero, List.getElem_cons_succ, List.setIfInBounds_toArray, List.set_cons_zero, List.set_cons_succ]
            refine pi_no (by rw [← HO.out]; simp only [List.getElem?_toArray, List.getElem?_cons_zero, List.getElem?_cons_succ]; rfl) (by rw [← HO.out]; kernel_rfl) ?_
            try simp only [Act.put, List.getElem_toArray, List.getElem_cons_zero, List.getElem_cons_succ, List.setIfInBounds_toArray, List.set_cons_zero, List.set_cons_succ]
            refine pi_no (by rw [← HO.out]; simp only [List.getElem?_toArray, List.getElem?_cons_zero, List.getElem?_cons_succ]; rfl) (by rw [← HO.out]; kernel_rfl) ?_
            try simp only [Act.put, List.getElem_toArray, List.getElem_cons_zero, List.getElem_cons_succ, List.setIfInBounds_toArray, List.set_cons_zero, List.set_cons_succ]
            refine pi_no (by rw [← HO.out]; simp only [List.getElem?_toArray, List.getElem?_cons_zero, List.getElem?_cons_succ]; rfl) (by rw [← HO.out]; kernel_rfl) ?_
            try simp only [Act.put, List.getElem_toArray, List.getElem_cons_zero, List.getElem_cons_succ, List.setIfInBounds_toArray, List.set_cons_zero, List.set_cons_succ]
            refine pi_no (by rw [← HO.out]; simp only [List.getElem?_toArray, List.getElem?_cons_zero, List.getElem?_cons_succ]; rfl) (by rw [← HO.out]; kernel_rfl) ?_
            try simp only [Act.put, List.getElem_toArray, List.getElem_cons_zero, List.getElem_cons_succ, List.setIfInBounds_toArray, List.set_cons_zero, List.set_cons_succ]
            refine pi_q (v := ?_) (by rw [← HO.out]; simp only [List.getElem?_toArray, List.getElem?_cons_zero, List.getElem?_cons_succ]; rfl) (by rw [← HO.out]; kernel_rfl) ?_ ?_
            rotate_left
            · intro w' hBw'
              first | (go_simp; done) | (go_simp; with_reducible rfl)
            try simp only [Act.put, List.getElem_toArray, List.getElem_cons_zero, List.getElem_cons_succ, List.setIfInBounds_toArray, List.set_cons_zero, List.set_cons_succ]
            refine pi_nil ?_
            have hq := hBd
            replace HB := Lib.hid (below_up HB.out hq)
            replace I0 := Lib.hid (I0.out.up hq)
            replace I1 := Lib.hid (I1.out.up hq)
            replace S2 := Lib.hid (S2.out.up hq)
            replace X3 := Lib.hid (X3.out.below hq)
            replace X4 := Lib.hid (X4.out.below hq)
            replace S7 := Lib.hid (S7.out.up hq)
            replace I8 := Lib.hid (I8.out.up hq)
            replace X8 := Lib.hid (X8.out.below hq)
            replace HG := Lib.hid (Nat.lt_of_lt_of_le HG.out (by have := hq.size; first | exact this | (simp only [World.size_alloc] at this ⊢; omega)))
            clear hq HBc
            generalize Wd = wq at *
            have fX30 := X3.out.cell (i := 0) rfl
            have fX31 := X3.out.cell (i := 1) rfl
            have fX32 := X3.out.cell (i := 2) rfl
            have fX33 := X3.out.cell (i := 3) rfl
            have fX34 := X3.out.cell (i := 4) rfl
            have fX40 := X4.out.cell (i := 0) rfl
            have fX41 := X4.out.cell (i := 1) rfl
            have fX42 := X4.out.cell (i := 2) rfl
            have fX43 := X4.out.cell (i := 3) rfl
            have fX44 := X4.out.cell (i := 4) rfl
            have fX80 := X8.out.cell (i := 0) rfl
            have fX81 := X8.out.cell (i := 1) rfl
            have fX82 := X8.out.cell (i := 2) rfl
            have fX83 := X8.out.cell (i := 3) rfl
            have fX84 := X8.out.cell (i := 4) rfl
            go_wp2_with fail
            clear fX30 fX31 fX32 fX33 fX34
            clear fX40 fX41 fX42 fX43 fX44
            clear fX80 fX81 fX82 fX83 fX84
            have hfi := (cbFirst_c _ _ b (by rw [hbL]; exact S2.out) (HT0.out.up HB.out)).mono (fun en w' h => fstU_of (g := w0.heap.size) h HG.out)
            unfold FstU at hfi
            rw [hEF, hFM] at hfi
            go_at_call 10
            refine hfi.mono ?_
            clear hfi
            rintro en wq ⟨hq, k9, n9, ba9, bn9, bc9, s9, la9, ln9, lc9, rfl, I9⟩
            replace I9 := Lib.hid I9
            replace HB := Lib.hid (below_up HB.out hq)
            replace I0 := Lib.hid (I0.out.up hq)
            replace I1 := Lib.hid (I1.out.up hq)
            replace S2 := Lib.hid (S2.out.up hq)
            replace X3 := Lib.hid (X3.out.below hq)
            replace X4 := Lib.hid (X4.out.below hq)
            replace S7 := Lib.hid (S7.out.up hq)
            replace I8 := Lib.hid (I8.out.up hq)
            replace X8 := Lib.hid (X8.out.below hq)
            replace HG := Lib.hid (Nat.lt_of_lt_of_le HG.out (by have := hq.size; first | exact this | (simp only [World.size_alloc] at this ⊢; omega)))
            clear hq
            have fX30 := X3.out.cell (i := 0) rfl
            have fX31 := X3.out.cell (i := 1) rfl
            have fX32 := X3.out.cell (i := 2) rfl
            have fX33 := X3.out.cell (i := 3) rfl
            have fX34 := X3.out.cell (i := 4) rfl
            have fX40 := X4.out.cell (i := 0) rfl
            have fX41 := X4.out.cell (i := 1) rfl
            have fX42 := X4.out.cell (i := 2) rfl
            have fX43 := X4.out.cell (i := 3) rfl
            have fX44 := X4.out.cell (i := 4) rfl
            have fX80 := X8.out.cell (i := 0) rfl
            have fX81 := X8.out.cell (i := 1) rfl
            have fX82 := X8.out.cell (i := 2) rfl
            have fX83 := X8.out.cell (i := 3) rfl
            have fX84 := X8.out.cell (i := 4) rfl
            go_wp2_with fail
            clear fX30 fX31 fX32 fX33 fX34
            clear fX40 fX41 fX42 fX43 fX44
            clear fX80 fX81 fX82 fX83 fX84
            have X9 := Lib.hid (RowAt.new wq #[.int .i64 k9, .int .u64 n9, .slice ba9 bn9 bc9, .string s9, .slice la9 ln9 lc9] 28)
            have hq := below_alloc wq (.cells #[.int .i64 k9, .int .u64 n9, .slice ba9 bn9 bc9, .string s9, .slice la9 ln9 lc9] 28)
            obtain ⟨BX9, hBX9⟩ : ∃ B, wq.heap.size = B := ⟨_, rfl⟩
            replace HB := Lib.hid (below_up HB.out hq)
            replace I0 := Lib.hid (I0.out.up hq)
            replace I1 := Lib.hid (I1.out.up hq)
            replace S2 := Lib.hid (S2.out.up hq)
            replace X3 := Lib.hid (X3.out.below hq)
            replace X4 := Lib.hid (X4.out.below hq)
            replace S7 := Lib.hid (S7.out.up hq)
            replace I8 := Lib.hid (I8.out.up hq)
            replace X8 := Lib.hid (X8.out.below hq)
            replace I9 := Lib.hid (I9.out.up hq)
            replace HG := Lib.hid (Nat.lt_of_lt_of_le HG.out (by have := hq.size; first | exact this | (simp only [World.size_alloc] at this ⊢; omega)))
            clear hq
            rw [hBX9] at X9 ⊢
            replace hBX9 := Lib.hid hBX9
            go_at_call 13
            refine (numE_c EF _).mono ?_
            rintro en wz ⟨rfl, rfl⟩
            by_cases hE : EF = 0
            · subst hE
              have hok := fst_ok hEF
              rw [hFM] at hok
              have fX30 := X3.out.cell (i := 0) rfl
              have fX31 := X3.out.cell (i := 1) rfl
              have fX32 := X3.out.cell (i := 2) rfl
              have fX33 := X3.out.cell (i := 3) rfl
              have fX34 := X3.out.cell (i := 4) rfl
              have fX40 := X4.out.cell (i := 0) rfl
              have fX41 := X4.out.cell (i := 1) rfl
              have fX42 := X4.out.cell (i := 2) rfl
              have fX43 := X4.out.cell (i := 3) rfl
              have fX44 := X4.out.cell (i := 4) rfl
              have fX80 := X8.out.cell (i := 0) rfl
              have fX81 := X8.out.cell (i := 1) rfl
              have fX82 := X8.out.cell (i := 2) rfl
              have fX83 := X8.out.cell (i := 3) rfl
              have fX84 := X8.out.cell (i := 4) rfl
              have fX90 := X9.out.cell (i := 0) rfl
              have fX91 := X9.out.cell (i := 1) rfl
              have fX92 := X9.out.cell (i := 2) rfl
              have fX93 := X9.out.cell (i := 3) rfl
              have fX94 := X9.out.cell (i := 4) rfl
              go_wp2_with fail
              clear fX30 fX31 fX32 fX33 fX34
              clear fX40 fX41 fX42 fX43 fX44
              clear fX80 fX81 fX82 fX83 fX84
              clear fX90 fX91 fX92 fX93 fX94
              have hen := encode_c _ (fstIt b) ⟨k9, n9, .slice ba9 bn9 bc9, s9, .slice la9 ln9 lc9⟩ _ I9.out (Nat.le_trans (fstIt_cnt b) (by decide)) (kw_right _ hok.2.2.1) (HT0.out.up HB.out) (fun k h => h.2)
              unfold EncE at hen
              rw [hok.2.1, hok.1] at hen
              have hFL : (b.take FM).length = FM := by rw [List.length_take]; have := hok.2.2.2.2; omega
              rw [hFL] at hen
              go_at_call 15
              refine hen.mono ?_
              clear hen
              rintro en wq ⟨hq, v17, rfl, ho, _⟩
              replace ho := ho rfl
              obtain ⟨a17, c17, rfl⟩ := own_slice ho
              have S17 : RowKit.Hid (Sl wq 1 (.slice a17 FM c17) FM (by8 (b.take FM))) := Lib.hid (Sl.of_own ho)
              replace HB := Lib.hid (below_up HB.out hq)
              replace I0 := Lib.hid (I0.out.up hq)
              replace I1 := Lib.hid (I1.out.up hq)
              replace S2 := Lib.hid (S2.out.up hq)
              replace X3 := Lib.hid (X3.out.below hq)
              replace X4 := Lib.hid (X4.out.below hq)
              replace S7 := Lib.hid (S7.out.up hq)
              replace I8 := Lib.hid (I8.out.up hq)
              replace X8 := Lib.hid (X8.out.below hq)
              replace I9 := Lib.hid (I9.out.up hq)
              replace X9 := Lib.hid (X9.out.below hq)
              replace HG := Lib.hid (Nat.lt_of_lt_of_le HG.out (by have := hq.size; first | exact this | (simp only [World.size_alloc] at this ⊢; omega)))
              clear hq ho
              go_wp2_with fail
              have hFle : FM ≤ BL := by have := hok.2.2.2.2; omega
              have hgt : decide ((BL : Int) < (FM : Int)) = false := decide_eq_false (by omega)
              have hgt2 : decide ((FM : Int) > (BL : Int)) = false := decide_eq_false (by omega)
              have hgt3 : ¬ BL < FM := by omega
              obtain ⟨a21, hr21, hs21⟩ := cut_h slT_u8 S2.out FM hFle
              rw [Nat.mul_one, ← by8_take] at hs21
              have hs21 := Lib.hid hs21
              refine wp_region_piL [(0, false), (1, true), (2, false), (3, false), (4, false), (5, false), (6, false), (7, false), (8, false), (9, false), (10, false), (11, false), (12, false), (13, false), (14, false), (15, false), (16, false), (17, false), (18, false), (19, false), (20, false), (21, false), (22, false), (23, false)] (by kernel_rfl) (by kernel_rfl) (by kernel_rfl) rfl (fun _ _ d _ _ h => by cases d <;> exact h) (fun OPS HO Wd hBd => ?_)
              try simp only [Act.put, List.getElem_toArray, List.getElem_cons_zero, List.getElem_cons_succ, List.setIfInBounds_toArray, List.set_cons_zero, List.set_cons_succ]
              have T17 := S17.out.up hBd
              have T21 := hs21.out.up hBd
              have HBc := Lib.hid (below_up HB.out hBd)
              refine pi_q (v := ?_) (by rw [← HO.out]; simp only [List.getElem?_toArray, List.getElem?_cons_zero, List.getElem?_cons_succ]; rfl) (by rw [← HO.out]; kernel_rfl) ?_ ?_
              rotate_left
              · intro w' hBw'
                first | (go_simp; done) | (go_simp; with_reducible rfl)
              try simp only [Act.put, List.getElem_toArray, List.getElem_cons_zero, List.getElem_cons_succ, List.setIfInBounds_toArray, List.set_cons_zero, List.set_cons_succ]
              refine pi_call (by rw [← HO.out]; simp only [List.getElem?_toArray, List.getElem?_cons_zero, List.getElem?_cons_succ]; rfl) (by rw [← HO.out]; kernel_rfl) (numE_c 0 _) cbEnters_num (by rfl) (by kernel_rfl) ?_
              rintro en wN ⟨rfl, rfl⟩
              refine ⟨_, rfl, (Below.refl _ _), ?_⟩
              try simp only [Act.put, List.getElem_toArray, List.getElem_cons_zero, List.getElem_cons_succ, List.setIfInBounds_toArray, List.set_cons_zero, List.set_cons_succ]
              refine pi_q (v := ?_) (by rw [← HO.out]; simp only [List.getElem?_toArray, List.getElem?_cons_zero, List.getElem?_cons_succ]; rfl) (by rw [← HO.out]; kernel_rfl) ?_ ?_
              rotate_left
              · intro w' hBw'
                first | (go_simp; done) | (go_simp; with_reducible rfl)
              try simp only [Act.put, List.getElem_toArray, List.getElem_cons_zero, List.getElem_cons_succ, List.setIfInBounds_toArray, List.set_cons_zero, List.set_cons_succ]
              refine pi_q (v := ?_) (by rw [← HO.out]; simp only [List.getElem?_toArray, List.getElem?_cons_zero, List.getElem?_cons_succ]; rfl) (by rw [← HO.out]; kernel_rfl) ?_ ?_
              rotate_left
              · intro w' hBw'
                first | (go_simp; done) | (go_simp; with_reducible rfl)
              try simp only [Act.put, List.getElem_toArray, List.getElem_cons_zero, List.getElem_cons_succ, List.setIfInBounds_toArray, List.set_cons_zero, List.set_cons_succ]
              refine pi_q (v := ?_) (by rw [← HO.out]; simp only [List.getElem?_toArray, List.getElem?_cons_zero, List.getElem?_cons_succ]; rfl) (by rw [← HO.out]; kernel_rfl) ?_ ?_
              rotate_left
              · intro w' hBw'
                first | (go_simp; done) | (go_simp; with_reducible rfl)
              try simp only [Act.put, List.getElem_toArray, List.getElem_cons_zero, List.getElem_cons_succ, List.setIfInBounds_toArray, List.set_cons_zero, List.set_cons_succ]
              refine pi_q (v := ?_) (by rw [← HO.out]; simp only [List.getElem?_toArray, List.getElem?_cons_zero, List.getElem?_cons_succ]; rfl) (by rw [← HO.out]; kernel_rfl) ?_ ?_
              rotate_left
              · intro w' hBw'
                first | (go_simp; done) | (go_simp; with_reducible rfl)
              try simp only [Act.put, List.getElem_toArray, List.getElem_cons_zero, List.getElem_cons_succ, List.setIfInBounds_toArray, List.set_cons_zero, List.set_cons_succ]
              refine pi_q (v := ?_) (by rw [← HO.out]; simp only [List.getElem?_toArray, List.getElem?_cons_zero, List.getElem?_cons_succ]; rfl) (by rw [← HO.out]; kernel_rfl) ?_ ?_
              rotate_left
              · intro w' hBw'
                first | (go_simp; done) | (go_simp; with_reducible rfl)
              try simp only [Act.put, List.getElem_toArray, List.getElem_cons_zero, List.getElem_cons_succ, List.setIfInBounds_toArray, List.set_cons_zero, List.set_cons_succ]
              refine pi_q (v := ?_) (by rw [← HO.out]; simp only [List.getElem?_toArray, List.getElem?_cons_zero, List.getElem?_cons_succ]; rfl) (by rw [← HO.out]; kernel_rfl) ?_ ?_
              rotate_left
              · intro w' hBw'
                first | (go_simp; done) | (go_simp; with_reducible rfl)
              try simp only [Act.put, List.getElem_toArray, List.getElem_cons_zero, List.getElem_cons_succ, List.setIfInBounds_toArray, List.set_cons_zero, List.set_cons_succ]
              refine pi_q (v := ?_) (by rw [← HO.out]; simp only [List.getElem?_toArray, List.getElem?_cons_zero, List.getElem?_cons_succ]; rfl) (by rw [← HO.out]; kernel_rfl) ?_ ?_
              rotate_left
              · intro w' hBw'
                first | (go_simp; done) | (go_simp; with_reducible rfl)
              try simp only [Act.put, List.getElem_toArray, List.getElem_cons_zero, List.getElem_cons_succ, List.setIfInBounds_toArray, List.set_cons_zero, List.set_cons_succ]
              refine pi_q (v := ?_) (by rw [← HO.out]; simp only [List.getElem?_toArray, List.getElem?_cons_zero, List.getElem?_cons_succ]; rfl) (by rw [← HO.out]; kernel_rfl) ?_ ?_
              rotate_left
              · intro w' hBw'
                first | (go_simp; done) | (go_simp; with_reducible rfl)
              try simp only [Act.put, List.getElem_toArray, List.getElem_cons_zero, List.getElem_cons_succ, List.setIfInBounds_toArray, List.set_cons_zero, List.set_cons_succ]
              refine pi_q (v := ?_) (by rw [← HO.out]; simp only [List.getElem?_toArray, List.getElem?_cons_zero, List.getElem?_cons_succ]; rfl) (by rw [← HO.out]; kernel_rfl) ?_ ?_
              rotate_left
              · intro w' hBw'
                first | (go_simp; done) | (go_simp; with_reducible rfl)
              try simp only [Act.put, List.getElem_toArray, List.getElem_cons_zero, List.getElem_cons_succ, List.setIfInBounds_toArray, List.set_cons_zero, List.set_cons_succ]
              refine pi_q (v := ?_) (by rw [← HO.out]; simp only [List.getElem?_toArray, List.getElem?_cons_zero, List.getElem?_cons_succ]; rfl) (by rw [← HO.out]; kernel_rfl) ?_ ?_
              rotate_left
              · intro w' hBw'
                first | (go_simp; done) | (go_simp; with_reducible rfl)
              try simp only [Act.put, List.getElem_toArray, List.getElem_cons_zero, List.getElem_cons_succ, List.setIfInBounds_toArray, List.set_cons_zero, List.set_cons_succ]
              refine pi_q (v := ?_) (by rw [← HO.out]; simp only [List.getElem?_toArray, List.getElem?_cons_zero, List.getElem?_cons_succ]; rfl) (by rw [← HO.out]; kernel_rfl) ?_ ?_
              rotate_left
              · intro w' hBw'
                first | (go_simp; done) | (go_simp; with_reducible rfl)
              try simp only [Act.put, List.getElem_toArray, List.getElem_cons_zero, List.getElem_cons_succ, List.setIfInBounds_toArray, List.set_cons_zero, List.set_cons_succ]
              refine pi_q (v := ?_) (by rw [← HO.out]; simp only [List.getElem?_toArray, List.getElem?_cons_zero, List.getElem?_cons_succ]; rfl) (by rw [← HO.out]; kernel_rfl) ?_ ?_
              rotate_left
              · intro w' hBw'
                first | (go_simp; done) | (go_simp; with_reducible rfl)
              try simp only [Act.put, List.getElem_toArray, List.getElem_cons_zero, List.getElem_cons_succ, List.setIfInBounds_toArray, List.set_cons_zero, List.set_cons_succ]
              refine pi_q (v := ?_) (by rw [← HO.out]; simp only [List.getElem?_toArray, List.getElem?_cons_zero, List.getElem?_cons_succ]; rfl) (by rw [← HO.out]; kernel_rfl) ?_ ?_
              rotate_left
              · intro w' hBw'
                first | (go_simp; done) | (go_simp; with_reducible rfl)
              try simp only [Act.put, List.getElem_toArray, List.getElem_cons_zero, List.getElem_cons_succ, List.setIfInBounds_toArray, List.set_cons_zero, List.set_cons_succ]
              refine pi_q (v := ?_) (by rw [← HO.out]; simp only [List.getElem?_toArray, List.getElem?_cons_zero, List.getElem?_cons_succ]; rfl) (by rw [← HO.out]; kernel_rfl) ?_ ?_
              rotate_left
              · intro w' hBw'
                first | (go_simp; done) | (go_simp; with_reducible rfl)
              try simp only [Act.put, List.getElem_toArray, List.getElem_cons_zero, List.getElem_cons_succ, List.setIfInBounds_toArray, List.set_cons_zero, List.set_cons_succ]
              refine pi_q (v := ?_) (by rw [← HO.out]; simp only [List.getElem?_toArray, List.getElem?_cons_zero, List.getElem?_cons_succ]; rfl) (by rw [← HO.out]; kernel_rfl) ?_ ?_
              rotate_left
              · intro w' hBw'
                first | (go_simp; done) | (go_simp; with_reducible rfl)
              try simp only [Act.put, List.getElem_toArray, List.getElem_cons_zero, List.getElem_cons_succ, List.setIfInBounds_toArray, List.set_cons_zero, List.set_cons_succ]
              refine pi_q (v := .string ⟨(b.take FM).toArray⟩) (by rw [← HO.out]; simp only [List.getElem?_toArray, List.getElem?_cons_zero, List.getElem?_cons_succ]; rfl) (by rw [← HO.out]; kernel_rfl) (by exact fun w' hb' => exec_str rfl (by kernel_rfl) (T17.up hb')) ?_
              try simp only [Act.put, List.getElem_toArray, List.getElem_cons_zero, List.getElem_cons_succ, List.setIfInBounds_toArray, List.set_cons_zero, List.set_cons_succ]
              refine pi_q (v := ?_) (by rw [← HO.out]; simp only [List.getElem?_toArray, List.getElem?_cons_zero, List.getElem?_cons_succ]; rfl) (by rw [← HO.out]; kernel_rfl) ?_ ?_
              rotate_left
              · intro w' hBw'
                first | (go_simp; done) | (go_simp; with_reducible rfl)
              try simp only [Act.put, List.getElem_toArray, List.getElem_cons_zero, List.getElem_cons_succ, List.setIfInBounds_toArray, List.set_cons_zero, List.set_cons_succ]
              refine pi_q (v := ?_) (by rw [← HO.out]; simp only [List.getElem?_toArray, List.getElem?_cons_zero, List.getElem?_cons_succ]; rfl) (by rw [← HO.out]; kernel_rfl) ?_ ?_
              rotate_left
              · intro w' hBw'
                first | (go_simp; done) | (go_simp; with_reducible rfl)
              try simp only [Act.put, List.getElem_toArray, List.getElem_cons_zero, List.getElem_cons_succ, List.setIfInBounds_toArray, List.set_cons_zero, List.set_cons_succ]
              refine pi_q (v := ?_) (by rw [← HO.out]; simp only [List.getElem?_toArray, List.getElem?_cons_zero, List.getElem?_cons_succ]; rfl) (by rw [← HO.out]; kernel_rfl) ?_ ?_
              rotate_left
              · intro w' hBw'
                first | (go_simp; done) | (go_simp; with_reducible rfl)
              try simp only [Act.put, List.getElem_toArray, List.getElem_cons_zero, List.getElem_cons_succ, List.setIfInBounds_toArray, List.set_cons_zero, List.set_cons_succ]
              refine pi_q (v := .string ⟨(b.take FM).toArray⟩) (by rw [← HO.out]; simp only [List.getElem?_toArray, List.getElem?_cons_zero, List.getElem?_cons_succ]; rfl) (by rw [← HO.out]; kernel_rfl) (by exact fun w' hb' => exec_str rfl (by kernel_rfl) (T21.up hb')) ?_
              try simp only [Act.put, List.getElem_toArray, List.getElem_cons_zero, List.getElem_cons_succ, List.setIfInBounds_toArray, List.set_cons_zero, List.set_cons_succ]
              refine pi_q (v := .bool false) (by rw [← HO.out]; simp only [List.getElem?_toArray, List.getElem?_cons_zero, List.getElem?_cons_succ]; rfl) (by rw [← HO.out]; kernel_rfl) (by exact fun w' _ => exec_strne (s := ⟨(b.take FM).toArray⟩) rfl (by kernel_rfl) (by kernel_rfl) w') ?_
              try simp only [Act.put, List.getElem_toArray, List.getElem_cons_zero, List.getElem_cons_succ, List.setIfInBounds_toArray, List.set_cons_zero, List.set_cons_succ]
              refine pi_q (v := ?_) (by rw [← HO.out]; simp only [List.getElem?_toArray, List.getElem?_cons_zero, List.getElem?_cons_succ]; rfl) (by rw [← HO.out]; kernel_rfl) ?_ ?_
              rotate_left
              · intro w' hBw'
                first | (go_simp; done) | (go_simp; with_reducible rfl)
              try simp only [Act.put, List.getElem_toArray, List.getElem_cons_zero, List.getElem_cons_succ, List.setIfInBounds_toArray, List.set_cons_zero, List.set_cons_succ]
              refine pi_nil ?_
              have HB := HBc
              go_wp2_with fail
              go_at_call 8
              refine (cbWorks_a w0 _ HB (Lib.hid (HT0.out.up HB.out))).mono ?_
              rintro en wq ⟨rfl, hq⟩
              go_wp2
              go_ret
              exact ⟨rfl, hq⟩
            · have hE1 : (EF == 0) = false := by rw [beq_eq_false_iff_ne]; exact hE
              go_wp2_with fail
              go_at_call 8
              refine (cbWorks_a w0 _ HB (Lib.hid (HT0.out.up HB.out))).mono ?_
              rintro en wq ⟨rfl, hq⟩
              go_wp2
              go_ret
              exact ⟨rfl, hq⟩
        · have hz1 : (CX == 0) = false := by rw [beq_eq_false_iff_ne]; exact hz
          replace hn := hn hz
          subst hn
          clear ho
          replace HB := Lib.hid (below_up HB.out hq)
          replace I0 := Lib.hid (I0.out.up hq)
          replace I1 := Lib.hid (I1.out.up hq)
          replace S2 := Lib.hid (S2.out.up hq)
          replace X3 := Lib.hid (X3.out.below hq)
          replace X4 := Lib.hid (X4.out.below hq)
          replace HG := Lib.hid (Nat.lt_of_lt_of_le HG.out (by have := hq.size; first | exact this | (simp only [World.size_alloc] at this ⊢; omega)))
          clear hq
          go_wp2_with fail
          go_at_call 13
          refine (numE_c CX _).mono ?_
          rintro en wz ⟨rfl, rfl⟩
          have fX30 := X3.out.cell (i := 0) rfl
          have fX31 := X3.out.cell (i := 1) rfl
          have fX32 := X3.out.cell (i := 2) rfl
          have fX33 := X3.out.cell (i := 3) rfl
          have fX34 := X3.out.cell (i := 4) rfl
          have fX40 := X4.out.cell (i := 0) rfl
          have fX41 := X4.out.cell (i := 1) rfl
          have fX42 := X4.out.cell (i := 2) rfl
          have fX43 := X4.out.cell (i := 3) rfl
          have fX44 := X4.out.cell (i := 4) rfl
          go_wp2_with fail
          clear fX30 fX31 fX32 fX33 fX34
          clear fX40 fX41 fX42 fX43 fX44
          have hfi := (cbFirst_c _ _ b (by rw [hbL]; exact S2.out) (HT0.out.up HB.out)).mono (fun en w' h => fstU_of (g := w0.heap.size) h HG.out)
          unfold FstU at hfi
          rw [hEF, hFM] at hfi
          go_at_call 10
          refine hfi.mono ?_
          clear hfi
          rintro en wq ⟨hq, k9, n9, ba9, bn9, bc9, s9, la9, ln9, lc9, rfl, I9⟩
          replace I9 := Lib.hid I9
          replace HB := Lib.hid (below_up HB.out hq)
          replace I0 := Lib.hid (I0.out.up hq)
          replace I1 := Lib.hid (I1.out.up hq)
          replace S2 := Lib.hid (S2.out.up hq)
          replace X3 := Lib.hid (X3.out.below hq)
          replace X4 := Lib.hid (X4.out.below hq)
          replace HG := Lib.hid (Nat.lt_of_lt_of_le HG.out (by have := hq.size; first | exact this | (simp only [World.size_alloc] at this ⊢; omega)))
          clear hq
          have fX30 := X3.out.cell (i := 0) rfl
          have fX31 := X3.out.cell (i := 1) rfl
          have fX32 := X3.out.cell (i := 2) rfl
          have fX33 := X3.out.cell (i := 3) rfl
          have fX34 := X3.out.cell (i := 4) rfl
          have fX40 := X4.out.cell (i := 0) rfl
          have fX41 := X4.out.cell (i := 1) rfl
          have fX42 := X4.out.cell (i := 2) rfl
          have fX43 := X4.out.cell (i := 3) rfl
          have fX44 := X4.out.cell (i := 4) rfl
          go_wp2_with fail
          clear fX30 fX31 fX32 fX33 fX34
          clear fX40 fX41 fX42 fX43 fX44
          have X9 := Lib.hid (RowAt.new wq #[.int .i64 k9, .int .u64 n9, .slice ba9 bn9 bc9, .string s9, .slice la9 ln9 lc9] 28)
          have hq := below_alloc wq (.cells #[.int .i64 k9, .int .u64 n9, .slice ba9 bn9 bc9, .string s9, .slice la9 ln9 lc9] 28)
          obtain ⟨BX9, hBX9⟩ : ∃ B, wq.heap.size = B := ⟨_, rfl⟩
          replace HB := Lib.hid (below_up HB.out hq)
          replace I0 := Lib.hid (I0.out.up hq)
          replace I1 := Lib.hid (I1.out.up hq)
          replace S2 := Lib.hid (S2.out.up hq)
          replace X3 := Lib.hid (X3.out.below hq)
          replace X4 := Lib.hid (X4.out.below hq)
          replace I9 := Lib.hid (I9.out.up hq)
          replace HG := Lib.hid (Nat.lt_of_lt_of_le HG.out (by have := hq.size; first | exact this | (simp only [World.size_alloc] at this ⊢; omega)))
          clear hq
          rw [hBX9] at X9 ⊢
          replace hBX9 := Lib.hid hBX9
          go_at_call 13
          refine (numE_c EF _).mono ?_
          rintro en wz ⟨rfl, rfl⟩
          by_cases hE : EF = 0
          · subst hE
            have hok := fst_ok hEF
            rw [hFM] at hok
            have fX30 := X3.out.cell (i := 0) rfl
            have fX31 := X3.out.cell (i := 1) rfl
            have fX32 := X3.out.cell (i := 2) rfl
            have fX33 := X3.out.cell (i := 3) rfl
            have fX34 := X3.out.cell (i := 4) rfl
            have fX40 := X4.out.cell (i := 0) rfl
            have fX41 := X4.out.cell (i := 1) rfl
            have fX42 := X4.out.cell (i := 2) rfl
            have fX43 := X4.out.cell (i := 3) rfl
            have fX44 := X4.out.cell (i := 4) rfl
            have fX90 := X9.out.cell (i := 0) rfl
            have fX91 := X9.out.cell (i := 1) rfl
            have fX92 := X9.out.cell (i := 2) rfl
            have fX93 := X9.out.cell (i := 3) rfl
            have fX94 := X9.out.cell (i := 4) rfl
            go_wp2_with fail
            clear fX30 fX31 fX32 fX33 fX34
            clear fX40 fX41 fX42 fX43 fX44
            clear fX90 fX91 fX92 fX93 fX94
            have hen := encode_c _ (fstIt b) ⟨k9, n9, .slice ba9 bn9 bc9, s9, .slice la9 ln9 lc9⟩ _ I9.out (Nat.le_trans (fstIt_cnt b) (by decide)) (kw_right _ hok.2.2.1) (HT0.out.up HB.out) (fun k h => h.2)
            unfold EncE at hen
            rw [hok.2.1, hok.1] at hen
            have hFL : (b.take FM).length = FM := by rw [List.length_take]; have := hok.2.2.2.2; omega
            rw [hFL] at hen
            go_at_call 15
            refine hen.mono ?_
            clear hen
            rintro en wq ⟨hq, v17, rfl, ho, _⟩
            replace ho := ho rfl
            obtain ⟨a17, c17, rfl⟩ := own_slice ho
            have S17 : RowKit.Hid (Sl wq 1 (.slice a17 FM c17) FM (by8 (b.take FM))) := Lib.hid (Sl.of_own ho)
            replace HB := Lib.hid (below_up HB.out hq)
            replace I0 := Lib.hid (I0.out.up hq)
            replace I1 := Lib.hid (I1.out.up hq)
            replace S2 := Lib.hid (S2.out.up hq)
            replace X3 := Lib.hid (X3.out.below hq)
            replace X4 := Lib.hid (X4.out.below hq)
            replace I9 := Lib.hid (I9.out.up hq)
            replace X9 := Lib.hid (X9.out.below hq)
            replace HG := Lib.hid (Nat.lt_of_lt_of_le HG.out (by have := hq.size; first | exact this | (simp only [World.size_alloc] at this ⊢; omega)))
            clear hq ho
            go_wp2_with fail
            have hFle : FM ≤ BL := by have := hok.2.2.2.2; omega
            have hgt : decide ((BL : Int) < (FM : Int)) = false := decide_eq_false (by omega)
            have hgt2 : decide ((FM : Int) > (BL : Int)) = false := decide_eq_false (by omega)
            have hgt3 : ¬ BL < FM := by omega
            obtain ⟨a21, hr21, hs21⟩ := cut_h slT_u8 S2.out FM hFle
            rw [Nat.mul_one, ← by8_take] at hs21
            have hs21 := Lib.hid hs21
            refine wp_region_piL [(0, false), (1, true), (2, false), (3, false), (4, false), (5, false), (6, false), (7, false), (8, false), (9, false), (10, false), (11, false), (12, false), (13, false), (14, false), (15, false), (16, false), (17, false), (18, false), (19, false), (20, false), (21, false), (22, false), (23, false)] (by kernel_rfl) (by kernel_rfl) (by kernel_rfl) rfl (fun _ _ d _ _ h => by cases d <;> exact h) (fun OPS HO Wd hBd => ?_)
            try simp only [Act.put, List.getElem_toArray, List.getElem_cons_zero, List.getElem_cons_succ, List.setIfInBounds_toArray, List.set_cons_zero, List.set_cons_succ]
            have T17 := S17.out.up hBd
            have T21 := hs21.out.up hBd
            have HBc := Lib.hid (below_up HB.out hBd)
            refine pi_q (v := ?_) (by rw [← HO.out]; simp only [List.getElem?_toArray, List.getElem?_cons_zero, List.getElem?_cons_succ]; rfl) (by rw [← HO.out]; kernel_rfl) ?_ ?_
            rotate_left
            · intro w' hBw'
              first | (go_simp; done) | (go_simp; with_reducible rfl)
            try simp only [Act.put, List.getElem_toArray, List.getElem_cons_zero, List.getElem_cons_succ, List.setIfInBounds_toArray, List.set_cons_zero, List.set_cons_succ]
            refine pi_call (by rw [← HO.out]; simp only [List.getElem?_toArray, List.getElem?_cons_zero, List.getElem?_cons_succ]; rfl) (by rw [← HO.out]; kernel_rfl) (numE_c 0 _) cbEnters_num (by rfl) (by kernel_rfl) ?_
            rintro en wN ⟨rfl, rfl⟩
            refine ⟨_, rfl, (Below.refl _ _), ?_⟩
            try simp only [Act.put, List.getElem_toArray, List.getElem_cons_zero, List.getElem_cons_succ, List.setIfInBounds_toArray, List.set_cons_zero, List.set_cons_succ]
            refine pi_q (v := ?_) (by rw [← HO.out]; simp only [List.getElem?_toArray, List.getElem?_cons_zero, List.getElem?_cons_succ]; rfl) (by rw [← HO.out]; kernel_rfl) ?_ ?_
            rotate_left
            · intro w' hBw'
              first | (go_simp; done) | (go_simp; with_reducible rfl)
            try simp only [Act.put, List.getElem_toArray, List.getElem_cons_zero, List.getElem_cons_succ, List.setIfInBounds_toArray, List.set_cons_zero, List.set_cons_succ]
            refine pi_q (v := ?_) (by rw [← HO.out]; simp only [List.getElem?_toArray, List.getElem?_cons_zero, List.getElem?_cons_succ]; rfl) (by rw [← HO.out]; kernel_rfl) ?_ ?_
            rotate_left
            · intro w' hBw'
              first | (go_simp; done) | (go_simp; with_reducible rfl)
            try simp only [Act.put, List.getElem_toArray, List.getElem_cons_zero, List.getElem_cons_succ, List.setIfInBounds_toArray, List.set_cons_zero, List.set_cons_succ]
            refine pi_q (v := ?_) (by rw [← HO.out]; simp only [List.getElem?_toArray, List.getElem?_cons_zero, List.getElem?_cons_succ]; rfl) (by rw [← HO.out]; kernel_rfl) ?_ ?_
            rotate_left
            · intro w' hBw'
              first | (go_simp; done) | (go_simp; with_reducible rfl)
            try simp only [Act.put, List.getElem_toArray, List.getElem_cons_zero, List.getElem_cons_succ, List.setIfInBounds_toArray, List.set_cons_zero, List.set_cons_succ]
            refine pi_q (v := ?_) (by rw [← HO.out]; simp only [List.getElem?_toArray, List.getElem?_cons_zero, List.getElem?_cons_succ]; rfl) (by rw [← HO.out]; kernel_rfl) ?_ ?_
            rotate_left
            · intro w' hBw'
              first | (go_simp; done) | (go_simp; with_reducible rfl)
            try simp only [Act.put, List.getElem_toArray, List.getElem_cons_zero, List.getElem_cons_succ, List.setIfInBounds_toArray, List.set_cons_zero, List.set_cons_succ]
            refine pi_q (v := ?_) (by rw [← HO.out]; simp only [List.getElem?_toArray, List.getElem?_cons_zero, List.getElem?_cons_succ]; rfl) (by rw [← HO.out]; kernel_rfl) ?_ ?_
            rotate_left
            · intro w' hBw'
              first | (go_simp; done) | (go_simp; with_reducible rfl)
            try simp only [Act.put, List.getElem_toArray, List.getElem_cons_zero, List.getElem_cons_succ, List.setIfInBounds_toArray, List.set_cons_zero, List.set_cons_succ]
            refine pi_q (v := ?_) (by rw [← HO.out]; simp only [List.getElem?_toArray, List.getElem?_cons_zero, List.getElem?_cons_succ]; rfl) (by rw [← HO.out]; kernel_rfl) ?_ ?_
            rotate_left
            · intro w' hBw'
              first | (go_simp; done) | (go_simp; with_reducible rfl)
            try simp only [Act.put, List.getElem_toArray, List.getElem_cons_zero, List.getElem_cons_succ, List.setIfInBounds_toArray, List.set_cons_zero, List.set_cons_succ]
            refine pi_q (v := ?_) (by rw [← HO.out]; simp only [List.getElem?_toArray, List.getElem?_cons_zero, List.getElem?_cons_succ]; rfl) (by rw [← HO.out]; kernel_rfl) ?_ ?_
            rotate_left
            · intro w' hBw'
              first | (go_simp; done) | (go_simp; with_reducible rfl)
            try simp only [Act.put, List.getElem_toArray, List.getElem_cons_zero, List.getElem_cons_succ, List.setIfInBounds_toArray, List.set_cons_zero, List.set_cons_succ]
            refine pi_q (v := ?_) (by rw [← HO.out]; simp only [List.getElem?_toArray, List.getElem?_cons_zero, List.getElem?_cons_succ]; rfl) (by rw [← HO.out]; kernel_rfl) ?_ ?_
            rotate_left
            · intro w' hBw'
              first | (go_simp; done) | (go_simp; with_reducible rfl)
            try simp only [Act.put, List.getElem_toArray, List.getElem_cons_zero, List.getElem_cons_succ, List.setIfInBounds_toArray, List.set_cons_zero, List.set_cons_succ]
            refine pi_q (v := ?_) (by rw [← HO.out]; simp only [List.getElem?_toArray, List.getElem?_cons_zero, List.getElem?_cons_succ]; rfl) (by rw [← HO.out]; kernel_rfl) ?_ ?_
            rotate_left
            · intro w' hBw'
              first | (go_simp; done) | (go_simp; with_reducible rfl)
            try simp only [Act.put, List.getElem_toArray, List.getElem_cons_zero, List.getElem_cons_succ, List.setIfInBounds_toArray, List.set_cons_zero, List.set_cons_succ]
            refine pi_q (v := ?_) (by rw [← HO.out]; simp only [List.getElem?_toArray, List.getElem?_cons_zero, List.getElem?_cons_succ]; rfl) (by rw [← HO.out]; kernel_rfl) ?_ ?_
            rotate_left
            · intro w' hBw'
              first | (go_simp; done) | (go_simp; with_reducible rfl)
            try simp only [Act.put, List.getElem_toArray, List.getElem_cons_zero, List.getElem_cons_succ, List.setIfInBounds_toArray, List.set_cons_zero, List.set_cons_succ]
            refine pi_q (v := ?_) (by rw [← HO.out]; simp only [List.getElem?_toArray, List.getElem?_cons_zero, List.getElem?_cons_succ]; rfl) (by rw [← HO.out]; kernel_rfl) ?_ ?_
            rotate_left
            · intro w' hBw'
              first | (go_simp; done) | (go_simp; with_reducible rfl)
            try simp only [Act.put, List.getElem_toArray, List.getElem_cons_zero, List.getElem_cons_succ, List.setIfInBounds_toArray, List.set_cons_zero, List.set_cons_succ]
            refine pi_q (v := ?_) (by rw [← HO.out]; simp only [List.getElem?_toArray, List.getElem?_cons_zero, List.getElem?_cons_succ]; rfl) (by rw [← HO.out]; kernel_rfl) ?_ ?_
            rotate_left
            · intro w' hBw'
              first | (go_simp; done) | (go_simp; with_reducible rfl)
            try simp only [Act.put, List.getElem_toArray, List.getElem_cons_zero, List.getElem_cons_succ, List.setIfInBounds_toArray, List.set_cons_zero, List.set_cons_succ]
            refine pi_q (v := ?_) (by rw [← HO.out]; simp only [List.getElem?_toArray, List.getElem?_cons_zero, List.getElem?_cons_succ]; rfl) (by rw [← HO.out]; kernel_rfl) ?_ ?_
            rotate_left
            · intro w' hBw'
              first | (go_simp; done) | (go_simp; with_reducible rfl)
            try simp only [Act.put, List.getElem_toArray, List.getElem_cons_zero, List.getElem_cons_succ, List.setIfInBounds_toArray, List.set_cons_zero, List.set_cons_succ]
            refine pi_q (v := ?_) (by rw [← HO.out]; simp only [List.getElem?_toArray, List.getElem?_cons_zero, List.getElem?_cons_succ]; rfl) (by rw [← HO.out]; kernel_rfl) ?_ ?_
            rotate_left
            · intro w' hBw'
              first | (go_simp; done) | (go_simp; with_reducible rfl)
            try simp only [Act.put, List.getElem_toArray, List.getElem_cons_zero, List.getElem_cons_succ, List.setIfInBounds_toArray, List.set_cons_zero, List.set_cons_succ]
            refine pi_q (v := ?_) (by rw [← HO.out]; simp only [List.getElem?_toArray, List.getElem?_cons_zero, List.getElem?_cons_succ]; rfl) (by rw [← HO.out]; kernel_rfl) ?_ ?_
            rotate_left
            · intro w' hBw'
              first | (go_simp; done) | (go_simp; with_reducible rfl)
            try simp only [Act.put, List.getElem_toArray, List.getElem_cons_zero, List.getElem_cons_succ, List.setIfInBounds_toArray, List.set_cons_zero, List.set_cons_succ]
            refine pi_q (v := .string ⟨(b.take FM).toArray⟩) (by rw [← HO.out]; simp only [List.getElem?_toArray, List.getElem?_cons_zero, List.getElem?_cons_succ]; rfl) (by rw [← HO.out]; kernel_rfl) (by exact fun w' hb' => exec_str rfl (by kernel_rfl) (T17.up hb')) ?_
            try simp only [Act.put, List.getElem_toArray, List.getElem_cons_zero, List.getElem_cons_succ, List.setIfInBounds_toArray, List.set_cons_zero, List.set_cons_succ]
            refine pi_q (v := ?_) (by rw [← HO.out]; simp only [List.getElem?_toArray, List.getElem?_cons_zero, List.getElem?_cons_succ]; rfl) (by rw [← HO.out]; kernel_rfl) ?_ ?_
            rotate_left
            · intro w' hBw'
              first | (go_simp; done) | (go_simp; with_reducible rfl)
            try simp only [Act.put, List.getElem_toArray, List.getElem_cons_zero, List.getElem_cons_succ, List.setIfInBounds_toArray, List.set_cons_zero, List.set_cons_succ]
            refine pi_q (v := ?_) (by rw [← HO.out]; simp only [List.getElem?_toArray, List.getElem?_cons_zero, List.getElem?_cons_succ]; rfl) (by rw [← HO.out]; kernel_rfl) ?_ ?_
            rotate_left
            · intro w' hBw'
              first | (go_simp; done) | (go_simp; with_reducible rfl)
            try simp only [Act.put, List.getElem_toArray, List.getElem_cons_zero, List.getElem_cons_succ, List.setIfInBounds_toArray, List.set_cons_zero, List.set_cons_succ]
            refine pi_q (v := ?_) (by rw [← HO.out]; simp only [List.getElem?_toArray, List.getElem?_cons_zero, List.getElem?_cons_succ]; rfl) (by rw [← HO.out]; kernel_rfl) ?_ ?_
            rotate_left
            · intro w' hBw'
              first | (go_simp; done) | (go_simp; with_reducible rfl)
            try simp only [Act.put, List.getElem_toArray, List.getElem_cons_zero, List.getElem_cons_succ, List.setIfInBounds_toArray, List.set_cons_zero, List.set_cons_succ]
            refine pi_q (v := .string ⟨(b.take FM).toArray⟩) (by rw [← HO.out]; simp only [List.getElem?_toArray, List.getElem?_cons_zero, List.getElem?_cons_succ]; rfl) (by rw [← HO.out]; kernel_rfl) (by exact fun w' hb' => exec_str rfl (by kernel_rfl) (T21.up hb')) ?_
            try simp only [Act.put, List.getElem_toArray, List.getElem_cons_zero, List.getElem_cons_succ, List.setIfInBounds_toArray, List.set_cons_zero, List.set_cons_succ]
            refine pi_q (v := .bool false) (by rw [← HO.out]; simp only [List.getElem?_toArray, List.getElem?_cons_zero, List.getElem?_cons_succ]; rfl) (by rw [← HO.out]; kernel_rfl) (by exact fun w' _ => exec_strne (s := ⟨(b.take FM).toArray⟩) rfl (by kernel_rfl) (by kernel_rfl) w') ?_
            try simp only [Act.put, List.getElem_toArray, List.getElem_cons_zero, List.getElem_cons_succ, List.setIfInBounds_toArray, List.set_cons_zero, List.set_cons_succ]
            refine pi_q (v := ?_) (by rw [← HO.out]; simp only [List.getElem?_toArray, List.getElem?_cons_zero, List.getElem?_cons_succ]; rfl) (by rw [← HO.out]; kernel_rfl) ?_ ?_
            rotate_left
            · intro w' hBw'
              first | (go_simp; done) | (go_simp; with_reducible rfl)
            try simp only [Act.put, List.getElem_toArray, List.getElem_cons_zero, List.getElem_cons_succ, List.setIfInBounds_toArray, List.set_cons_zero, List.set_cons_succ]
            refine pi_nil ?_
            have HB := HBc
            go_wp2_with fail
            go_at_call 8
            refine (cbWorks_a w0 _ HB (Lib.hid (HT0.out.up HB.out))).mono ?_
            rintro en wq ⟨rfl, hq⟩
            go_wp2
            go_ret
            exact ⟨rfl, hq⟩
          · have hE1 : (EF == 0) = false := by rw [beq_eq_false_iff_ne]; exact hE
            go_wp2_with fail
            go_at_call 8
            refine (cbWorks_a w0 _ HB (Lib.hid (HT0.out.up HB.out))).mono ?_
            rintro en wq ⟨rfl, hq⟩
            go_wp2
            go_ret
            exact ⟨rfl, hq⟩
      · have hl3 : decide ((2000 : Int) < (BL : Int)) = true := decide_eq_true (by omega)
        have hl32 : decide ((BL : Int) > 2000) = true := decide_eq_true (by omega)
        go_wp2_with fail
        go_at_call 8
        refine (cbWorks_a w0 _ HB (Lib.hid (HT0.out.up HB.out))).mono ?_
        rintro en wq ⟨rfl, hq⟩
        go_wp2
        go_ret
        exact ⟨rfl, hq⟩
    · have hl2 : decide (3000 < v2) = true := decide_eq_true (by omega)
      have hl22 : decide (v2 > 3000) = true := decide_eq_true (by omega)
      go_wp2_with fail
      go_at_call 8
      refine (cbWorks_a w0 _ HB (Lib.hid (HT0.out.up HB.out))).mono ?_
      rintro en wq ⟨rfl, hq⟩
      go_wp2
      go_ret
      exact ⟨rfl, hq⟩
  · have hl1 : decide (3000 < v1) = true := decide_eq_true (by omega)
    have hl12 : decide (v1 > 3000) = true := decide_eq_true (by omega)
    go_wp2_with fail
    go_at_call 8
    refine (cbWorks_a w0 _ HB (Lib.hid (HT0.out.up HB.out))).mono ?_
    rintro en wq ⟨rfl, hq⟩
    go_wp2
    go_ret
    exact ⟨rfl, hq⟩
end Go.Proofs.YtjenohodgpmchaaDoor

namespace Go.Proofs.YtjenohodgpmchaaDoor.cborHoldsRow
open Go.ChangeShapes Go.WideShapes Go.ChangeAt Go.RowKit
open Go.ChangeMaps (open_string shut_string)
set_option linter.unusedVariables false

theorem own : ownKnob Tryd.prog.godebug = none := by kernel_rfl
theorem laidOut : laidOutB Tryd.prog = true := by kernel_rfl

open Go.Lib
/-- A world that meets the condition: the settled one, the two tables laid. -/
noncomputable def laidWorld (os : Os) : World :=
  let w0 := World.holding Tryd.prog os ⟨#[], #[], []⟩
  let put (h : Array Obj) (g : Nat) (cs : Array Value) : Array Obj := h.modify g fun
    | .cells _ t frozen => .cells cs t frozen
    | o => o
  let h1 := put w0.heap 0 (Lib.firstTab.map fun z => Value.int .u8 z).toArray
  let h2 := put h1 1 ((List.range 16).flatMap fun i => [Value.int .u8 (Lib.accLo i), Value.int .u8 (Lib.accHi i)]).toArray
  { w0 with heap := h2 }
theorem laid_met (os : Os) (args : Array Value) : laidMet Tryd.prog Rows.cborHoldsRow.laid ((laidWorld os).forCall (fun _ _ => 0) ⟨#[], args, []⟩).memory :=
  (LaidIn.of_run (l := [("unicode/utf8.acceptRanges", Rows.laid_unicode_utf8_acceptRanges), ("unicode/utf8.first", Rows.laid_unicode_utf8_first)]) [0, 1] 8 (by kernel_rfl) (by kernel_rfl) (by kernel_rfl) (by kernel_rfl)).met
theorem witness_row (os : Os) {H : Type} (enc : TypeId × Value → H) :
    (OpenSpec.ofChange Rows.cborHoldsSpec).preRow enc Tryd.prog Tryd.f5 Rows.cborHoldsRow.domain false Rows.cborHoldsRow.laid ((laidWorld os).forCall (fun _ _ => 0) ⟨#[], #[.agg #[.int .i64 0, .int .u64 0, .slice none 0 0, .string ⟨#[]⟩, .slice none 0 0], .agg #[.int .i64 0, .int .u64 0, .slice none 0 0, .string ⟨#[]⟩, .slice none 0 0], .slice none 0 0], []⟩).memory #[.agg #[.int .i64 0, .int .u64 0, .slice none 0 0, .string ⟨#[]⟩, .slice none 0 0], .agg #[.int .i64 0, .int .u64 0, .slice none 0 0, .string ⟨#[]⟩, .slice none 0 0], .slice none 0 0] := by
  have hw : (DataW.whole enc Tryd.prog ((laidWorld os).forCall (fun _ _ => 0) ⟨#[], #[.agg #[.int .i64 0, .int .u64 0, .slice none 0 0, .string ⟨#[]⟩, .slice none 0 0], .agg #[.int .i64 0, .int .u64 0, .slice none 0 0, .string ⟨#[]⟩, .slice none 0 0], .slice none 0 0], []⟩).memory Tryd.f5.params.toList (OpenSpec.ofChange Rows.cborHoldsSpec).vars false (#[.agg #[.int .i64 0, .int .u64 0, .slice none 0 0, .string ⟨#[]⟩, .slice none 0 0], .agg #[.int .i64 0, .int .u64 0, .slice none 0 0, .string ⟨#[]⟩, .slice none 0 0], .slice none 0 0] : Array Value).toList 8).map (fun x => (x.1, x.2.1)) =
      some ([.agg [.lit (.int .i64 0), .lit (.int .u64 0), .nil, .lit (.string []), .nil], .agg [.lit (.int .i64 0), .lit (.int .u64 0), .nil, .lit (.string []), .nil], .nil], []) := by kernel_rfl
  obtain ⟨⟨x1, x2, x3⟩, hx, hx1⟩ := Option.map_eq_some_iff.1 hw
  simp only [Prod.mk.injEq] at hx1
  obtain ⟨rfl, rfl⟩ := hx1
  exact OpenSpec.preRow_of_cond 8 hx (by kernel_rfl) (fun k hk => by cases hk) (by kernel_rfl) (laid_met os _)

set_option maxRecDepth 100000 in
theorem lifted (os : Os) (started : os.Started) (H : Type) (enc : TypeId × Value → H) :
    ReturnsInHanded {} Tryd.checked os 5 .any ((OpenSpec.ofChange Rows.cborHoldsSpec).preRow enc Tryd.prog Tryd.f5 Rows.cborHoldsRow.domain false Rows.cborHoldsRow.laid) (Rows.cborHoldsSpec.post enc Tryd.prog Tryd.f5 false true false false) := by
  refine returnsInHanded_of_row (C := Tryd.checked) (s := OpenSpec.ofChange Rows.cborHoldsSpec) (F := fun _ _ _ => 0) own started (by kernel_rfl) Tryd.func5
    (witness_row_atRef (enc := enc) (C := Tryd.checked) false (laidWorld os) #[.agg #[.int .i64 0, .int .u64 0, .slice none 0 0, .string ⟨#[]⟩, .slice none 0 0], .agg #[.int .i64 0, .int .u64 0, .slice none 0 0, .string ⟨#[]⟩, .slice none 0 0], .slice none 0 0] rfl (by kernel_rfl) (by kernel_rfl) (by kernel_rfl) (witness_row os enc)) ?_
  intro W base args ds gs before hval0 hW hcnd _ hsz0 hL hshp _
  have hsz : (DataW.weightsEach Tryd.prog (Tryd.f5.params.toList ++ Rows.cborHoldsSpec.plain.varTypes Tryd.prog) (ds ++ gs)).all (· ≤ reachBytes) = true := hsz0
  have hval : ∀ (j : Nat) t v, Tryd.f5.params[j]? = some t → args[j]? = some v → Value.okWide Tryd.prog W .any base t v := hval0
  have hT : Tabs W :=
    utf8Tabs_of_readsT (ρ := lays197_ren) { lays197 with } ⟨by kernel_rfl, by kernel_rfl, by kernel_rfl, by kernel_rfl, by kernel_rfl, by kernel_rfl, by kernel_rfl⟩
      (by have := Lib.laidMet.reads hL (n := "unicode/utf8.first") (d := Rows.laid_unicode_utf8_first) (.tail _ (.head _)); exact Pinned.utf8First_eq ▸ this) (by have := Lib.laidMet.reads hL (n := "unicode/utf8.acceptRanges") (d := Rows.laid_unicode_utf8_acceptRanges) (.head _); rwa [show (Rows.laid_unicode_utf8_acceptRanges : DataW Unit) = acceptData by kernel_rfl] at this)
  have hW' := hW
  obtain ⟨p, q, hA0, hV, rfl, hfz, hnd⟩ := hW
  have hA : DataW.TrodAll enc Tryd.prog W 0 (fun _ => true) true Tryd.f5.params.toList args.toList ds p := hA0
  rw [Tryd.params5] at hA hval hsz
  obtain ⟨v0, vs0, d0, ds0, p0, q0, hargs, rfl, rfl, h0, r0⟩ := trodAll_cons hA
  obtain ⟨v1, vs1, d1, ds1, p1, q1, rfl, rfl, rfl, h1, r1⟩ := trodAll_cons r0
  obtain ⟨v2, vs2, d2, ds2, p2, q2, rfl, rfl, rfl, h2, r2⟩ := trodAll_cons r1
  obtain ⟨rfl, rfl, rfl⟩ := trodAll_nil r2
  obtain rfl : args = #[v0, v1, v2] := by cases args; simp_all
  obtain ⟨rfl, rfl⟩ := trodVars_none hV
  have k0 := h0
  have lt0 : ∀ x ∈ p0, x.block < W.heap.size := by obtain ⟨m, hm⟩ := k0; exact DataW.trod_lt m _ _ _ hm
  have k1 := h1
  have lt1 : ∀ x ∈ p1, x.block < W.heap.size := by obtain ⟨m, hm⟩ := k1; exact DataW.trod_lt m _ _ _ hm
  have k2 := h2
  have lt2 : ∀ x ∈ p2, x.block < W.heap.size := by obtain ⟨m, hm⟩ := k2; exact DataW.trod_lt m _ _ _ hm
  obtain ⟨cs0, rfl, hsz0⟩ : ∃ cs, v0 = .agg cs ∧ cs.size = 5 := by
    have := hval 0 28 v0 rfl rfl
    simp only [Value.okWide, Tryd.underlying28] at this
    obtain ⟨cs, h1, h2, _⟩ := this
    exact ⟨cs, h1, h2.trans (by kernel_rfl)⟩
  obtain ⟨fu0, hf0⟩ := h0
  obtain ⟨x, rx, hc0, hI0, hz0, hk0⟩ := open_item _ _ _ hf0 (fun n hn => of_decide_eq_true (List.all_eq_true.1 hsz _ (DataW.weights_mem_each (j := 0) (t := 28) rfl rfl _ hn)))
  obtain ⟨l0⟩ := cs0
  obtain rfl : l0 = rwC rx := hc0
  obtain ⟨cs1, rfl, hsz1⟩ : ∃ cs, v1 = .agg cs ∧ cs.size = 5 := by
    have := hval 1 28 v1 rfl rfl
    simp only [Value.okWide, Tryd.underlying28] at this
    obtain ⟨cs, h1, h2, _⟩ := this
    exact ⟨cs, h1, h2.trans (by kernel_rfl)⟩
  obtain ⟨fu1, hf1⟩ := h1
  obtain ⟨y, ry, hc1, hI1, hz1, hk1⟩ := open_item _ _ _ hf1 (fun n hn => of_decide_eq_true (List.all_eq_true.1 hsz _ (DataW.weights_mem_each (j := 1) (t := 28) rfl rfl _ hn)))
  obtain ⟨l1⟩ := cs1
  obtain rfl : l1 = rwC ry := hc1
  obtain ⟨a2, len2, cap2, rfl⟩ := okWide_slice Tryd.underlying22 (hval 2 22 v2 rfl rfl)
  obtain ⟨fu2, hf2⟩ := h2
  obtain ⟨a2', len2', cap2', vs2', hcs2, sl2, lf2, nl2⟩ := open_flat (ls := [5]) (sz := 1) Tryd.underlying22 (by kernel_rfl) rfl (by kernel_rfl) (by decide) hf2
  simp only [Value.cells, List.cons.injEq, Value.slice.injEq, and_true] at hcs2
  obtain ⟨rfl, rfl, rfl⟩ := hcs2
  have bd2 : len2 * 1 ≤ 140737488351232 := by
    rcases nl2 with ⟨_, h⟩ | ⟨es, sp, h, h'⟩
    · rw [h]; decide
    · have := sized_slice hsz (j := 2) (t := 22) (e := 5) rfl (congrArg some h) Tryd.underlying22
      rw [show Tryd.prog.bytesOf 5 = 1 by kernel_rfl] at this
      simp only [reachBytes] at this
      omega
  clear hA0 hval0
  obtain ⟨b, rfl⟩ := bytes_of Tryd.underlying5 sl2 lf2
  refine (cborHolds_law x y rx ry _ b _ sl2.n_len W hI0 hz0 hk0 hI1 hz1 hk1 sl2 (by omega) hT).mono fun e W' ⟨he, bel⟩ => ?_
  subst he
  exact ⟨_, rfl, _, _, _, [], _, [], hW', trodAll_mk1 (shut_bool Tryd.underlying4 _), (trodAll_cons_mk (Below.trod laidOut (by kernel_rfl) (of_decide_eq_true (by kernel_rfl)) k0 bel lt0) (trodAll_cons_mk (Below.trod laidOut (by kernel_rfl) (of_decide_eq_true (by kernel_rfl)) k1 bel lt1) (trodAll_cons_mk (Below.trod laidOut (by kernel_rfl) (of_decide_eq_true (by kernel_rfl)) k2 bel lt2) trodAll_mk0))), rfl, bel.frame _, fun h => by cases h⟩

theorem over : Rows.cborHoldsRow.holds Tryd.pinned (OpenSpec.ofChange Rows.cborHoldsSpec) :=
  OpenClaim.holds_of_wide 5 Tryd.f5 rfl rfl rfl rfl rfl rfl rfl ⟨rfl, rfl, rfl, rfl, rfl⟩ rfl rfl rfl rfl rfl (by kernel_rfl) Tryd.func5 (by kernel_rfl)
    (of_decide_eq_true (by kernel_rfl)) (by unfold Func.isWrapper; first | (rw [if_pos (by decide +kernel)]; kernel_rfl) | (rw [if_neg (by decide +kernel)]; exact ⟨rfl, rfl⟩))
    (fun os started H enc _ => by rw [OpenClaim.pre_eq_preRow]; exact lifted os started H enc)

theorem proved : Rows.CborHoldsCardSaid :=
  Claim7.holds_tied_plain_at .later [] [.data, .pinned] true (true, "0ece3b67bcc1c0921f4ca99338b3de9fb5b1d54749c680f8d782d7ca69802733") true
    over (fun _ h => by cases h) (by kernel_rfl) (fun _ h => by cases h) cborHolds_row_tie rfl ⟨rfl, rfl⟩ (by kernel_rfl) rfl
    (fun f fn hf hfn => by
      obtain rfl : f = 5 := Option.some.inj ((show Tryd.prog.funcNamed "packsaddle/packsaddlelaw03.CborHolds" = some 5 by kernel_rfl).symm.trans hf) |>.symm
      obtain rfl : fn = Tryd.f5 := (Option.some.inj (Tryd.func5.symm.trans hfn)).symm
      exact ⟨by kernel_rfl, fun j t ht => by
        rw [Tryd.params5] at ht
        have h3 : t ∈ [28, 28, 22] := by
          have := List.mem_of_getElem? (by simpa using ht : ([28, 28, 22] : List TypeId)[j]? = some t)
          exact this
        simp only [List.mem_cons, List.not_mem_nil, or_false] at h3
        rcases h3 with rfl | rfl | rfl
        · exact (show Tryd.prog.wantsStandIn 28 = false by kernel_rfl)
        · exact (show Tryd.prog.wantsStandIn 28 = false by kernel_rfl)
        · exact (show Tryd.prog.wantsStandIn 22 = false by kernel_rfl)⟩)
    (by kernel_rfl)
#print axioms proved
end Go.Proofs.YtjenohodgpmchaaDoor.cborHoldsRow
