/-
  CbOp, CborItems, CborItemsRow: several texts in one (bundle.py).
-/
import Derived.Test.YtjenohodgpmchaaDoorCbK44
import Derived.Test.YtjenohodgpmchaaDoorCbK31
import Derived.Test.YtjenohodgpmchaaDoorCbK43
import Derived.Test.YtjenohodgpmchaaDoorRows
import Derived.Test.YtjenohodgpmchaaDoorCbK02
import Derived.SizedLaws
import Derived.Test.YtjenohodgpmchaaDoorTie
import Derived.Test.YtjenohodgpmchaaDoorCards
import Derived.Lib.LaidIn
import Derived.Lib.LaidU8T
import Derived.Deep.DeepHandedRow
import Derived.Deep.DeepWitnessRowRef
import Derived.PinnedBridge
import Derived.ProofKit
import Derived.SevenTiedAt
namespace Go.Proofs.YtjenohodgpmchaaDoor
open Go.RowKit Go.ChangeAt Cb
set_option linter.unusedSimpArgs false
set_option linter.unusedVariables false
theorem DataW.trod_slice' {H : Type} {enc : TypeId × Value → H} {P : Program} {w : World} {base : Nat} {spare : Nat → Bool} {held : Bool} {t e : TypeId} {fuel : Nat} {cs : List Value} {x : DataW H × List MemPlace} (ht : P.underlying t = some (.slice e)) (h : DataW.trod enc P w base spare held fuel t cs = some x) :
    (cs = [.slice none 0 0] ∧ x.1 = .nil) ∨ ∃ (a : Addr) (len cap n : Nat) (elems rest : List (DataW H × List MemPlace)), fuel = n + 1 ∧ cs = [.slice (some a) len cap] ∧ len ≤ cap ∧ cap ≤ maxLen ∧ x.1 = .slice (elems.map (·.1)) (rest.map (·.1)) ∧ elems.length = len ∧
      ∀ i, i < len → (w.cells? base (a.add (i * P.cellsOf e)) (P.cellsOf e)).bind (DataW.trod enc P w base spare held n e) = elems[i]? := by
  rcases DataW.trod_slice ht h with ⟨h0, h1⟩ | ⟨a, len, cap, elems, rest, n, hn, h1, h2, hb, hl, hm, hlen, hel, _⟩
  · exact .inl ⟨h0, by rw [h1]⟩
  · exact .inr ⟨a, len, cap, n, elems, rest, hn, h1, hl, hm, by rw [h2], hlen, hel⟩
instance : Inhabited (It × Rw) := ⟨(.mk 0 0 [] noS [], ⟨0, 0, .slice none 0 0, ⟨#[]⟩, .slice none 0 0⟩)⟩
theorem slS_of {S : Nat → Prop} {w : World} {sz n : Nat} {v : Value} {cs : List Value} (h : Sl w sz v n cs) (h0 : 0 < sz) (hS : ∀ k, k < w.heap.size → S k) : SlS S w sz v n cs := ⟨h, (h.blk h0).imp id fun f k hk => hS k (f k hk)⟩
set_option maxHeartbeats 2000000 in
set_option maxRecDepth 100000 in
theorem open_item {H : Type} {enc : TypeId × Value → H} {w : World} {base : Nat} {spare : Nat → Bool} {held : Bool} : ∀ (fuel : Nat) (cs : List Value) (x : DataW H × List MemPlace), DataW.trod enc Tryd.prog w base spare held fuel 28 cs = some x → (∀ n ∈ x.1.weights Tryd.prog 28, n ≤ reachBytes) →
    ∃ (it : It) (r : Rw), cs = rwC r ∧ ItR (fun k => k < w.heap.size) w it r ∧ szOk it ∧ kwB it := by
  intro fuel
  induction fuel using Nat.strongRecOn with
  | ind fuel ih =>
    intro cs x h hw
    obtain ⟨xs, n, rfl, rfl, hcl, hxl, hf⟩ := DataW.trod_struct Tryd.underlying28 h
    have hcl : cs.length = 5 := hcl.trans (by kernel_rfl)
    have hxl : xs.length = 5 := hxl
    match cs, hcl with
    | [c0, c1, c2, c3, c4], _ =>
    match xs, hxl with
    | [y0, y1, y2, y3, y4], _ =>
    have f0 := hf 0 { name := "Kind", type := 24, offset := 0, embedded := false, tag := "", pkgPath := "", byteOffset := 0 } rfl
    have f1 := hf 1 { name := "N", type := 25, offset := 1, embedded := false, tag := "", pkgPath := "", byteOffset := 8 } rfl
    have f2 := hf 2 { name := "B", type := 22, offset := 2, embedded := false, tag := "", pkgPath := "", byteOffset := 16 } rfl
    have f3 := hf 3 { name := "S", type := 9, offset := 3, embedded := false, tag := "", pkgPath := "", byteOffset := 40 } rfl
    have f4 := hf 4 { name := "L", type := 26, offset := 4, embedded := false, tag := "", pkgPath := "", byteOffset := 56 } rfl
    simp only [show Tryd.prog.cellsOf 24 = 1 by kernel_rfl, show Tryd.prog.cellsOf 25 = 1 by kernel_rfl, show Tryd.prog.cellsOf 22 = 1 by kernel_rfl, show Tryd.prog.cellsOf 9 = 1 by kernel_rfl, show Tryd.prog.cellsOf 26 = 1 by kernel_rfl, List.drop_zero, List.drop_succ_cons, List.take_succ_cons, List.take_zero, List.getElem?_cons_zero, List.getElem?_cons_succ] at f0 f1 f2 f3 f4
    have hmem : ∀ (j : Nat) (t : TypeId) (d : DataW H), ([24, 25, 22, 9, 26] : List TypeId)[j]? = some t → ([y0.1, y1.1, y2.1, y3.1, y4.1] : List (DataW H))[j]? = some d → ∀ m ∈ d.weights Tryd.prog t, m ≤ reachBytes := fun j t d h1 h2 m hm => hw m (by
      simp only [DataW.weights, Tryd.underlying28, List.map_cons, List.map_nil]
      exact DataW.weights_mem_each (ts := [24, 25, 22, 9, 26]) (ds := [y0.1, y1.1, y2.1, y3.1, y4.1]) h1 h2 m hm)
    obtain ⟨k, e0, _, wk⟩ := DataW.trod_int Tryd.underlying24 f0
    obtain ⟨m, e1, _, wm⟩ := DataW.trod_int Tryd.underlying25 f1
    obtain ⟨s, e3, e3x, ws⟩ := DataW.trod_string Tryd.underlying9 f3
    obtain ⟨a2, len2, cap2, vs2, e2, sl2, lf2, nl2⟩ := open_flat (ls := [5]) (sz := 1) Tryd.underlying22 (by kernel_rfl) rfl (by kernel_rfl) (by decide) f2
    obtain ⟨b, rfl⟩ := bytes_of Tryd.underlying5 sl2 lf2
    have hbn := sl2.n_len
    subst hbn
    have e0 := (List.cons.inj e0).1
    have e1 := (List.cons.inj e1).1
    have e2 := (List.cons.inj e2).1
    have e3 := (List.cons.inj e3).1
    subst e0; subst e1; subst e2; subst e3
    simp [Lit.wf, IntKind.min, IntKind.max, IntKind.signed, IntKind.bits] at wk wm
    have hbl : b.length ≤ 140737488355328 := by
      rcases nl2 with ⟨_, h0⟩ | ⟨es, sp, h1, h2⟩
      · omega
      · have := hmem 2 _ _ rfl rfl ((es.length + sp.length) * Tryd.prog.bytesOf 5) (by rw [h1]; simp [DataW.weights, Tryd.underlying22])
        rw [show Tryd.prog.bytesOf 5 = 1 by kernel_rfl] at this
        simp only [reachBytes] at this
        omega
    have hsl : s.size ≤ 140737488355328 := by
      have := hmem 3 _ _ rfl rfl s.data.toList.length (by rw [e3x]; simp [DataW.weights])
      have hsz : s.data.toList.length = s.size := Array.length_toList
      simp only [reachBytes] at this
      omega
    have hlist : ∃ (l : List It) (rows : List Rw) (v : Value), c4 = v ∧ SlS (fun k => k < w.heap.size) w 5 v l.length (rows.flatMap rwC) ∧ ItsR (fun k => k < w.heap.size) w l rows ∧ szOkL l ∧ kwL l := by
      rcases DataW.trod_slice' Tryd.underlying26 f4 with ⟨e4, _⟩ | ⟨a, len, cap, n', elems, rest, rfl, e4, hl, hm, hx, hlen, hel⟩
      · have e4 := (List.cons.inj e4).1
        exact ⟨[], [], _, e4, ⟨Sl.nil _ _, .inl rfl⟩, by unfold ItsR; rfl, trivial, trivial⟩
      · have e4 := (List.cons.inj e4).1
        have hin : ∀ i, i < len → ∃ q : It × Rw, w.cells? base (a.add (i * 5)) 5 = some (rwC q.2) ∧ ItR (fun k => k < w.heap.size) w q.1 q.2 ∧ szOk q.1 ∧ kwB q.1 := fun i hi => by
          have h1 := hel i hi
          rw [List.getElem?_eq_getElem (by omega), show Tryd.prog.cellsOf 28 = 5 by kernel_rfl] at h1
          obtain ⟨cs', h2, h3⟩ := Option.bind_eq_some_iff.1 h1
          obtain ⟨it, r, rfl, h4, h5, h6⟩ := ih n' (by omega) cs' _ h3 (fun m hm => by
            refine hmem 4 _ _ rfl rfl m ?_
            rw [hx]
            simp only [DataW.weights, Tryd.underlying26, List.mem_cons, List.mem_append]
            exact .inr (.inl (weightsAll_mem (d := elems[i].1) (List.mem_map.2 ⟨_, List.getElem_mem _, rfl⟩) hm)))
          exact ⟨(it, r), h2, h4, h5, h6⟩
        obtain ⟨F, hF⟩ := Go.Deep.choose_lt hin
        have hfl : ((List.range len).map fun i => (F i).2).flatMap rwC = (List.range len).flatMap fun i => rwC (F i).2 := by rw [List.flatMap_map]
        obtain ⟨g1, g2⟩ := flatMap_get (f := fun i => rwC (F i).2) (sz := 5) len (fun i _ => rfl)
        refine ⟨(List.range len).map fun i => (F i).1, (List.range len).map fun i => (F i).2, _, e4, ?_, ItsR.of (by simp) (fun i hi hr => by simp only [List.getElem_map, List.getElem_range]; exact (hF i (by simpa using hi)).2.1), ?_, kwL_all fun y hy => ?_⟩
        · refine slS_of ⟨by rw [hfl, g1]; simp, ?_⟩ (by decide) (fun k hk => hk)
          simp only [List.length_map, List.length_range]
          by_cases hz : len = 0
          · exact .inl ⟨_, _, by rw [hz], hz⟩
          · right
            have hcell : ∀ i j, i < len → j < 5 → w.cell? ((a.add (i * 5)).add j) = (rwC (F i).2)[j]? := fun i j hi hj => (World.cells?_some (hF i hi).1).2.2 j hj
            have hspot : a.spot = none := by
              have h1 := hcell 0 0 (by omega) (by decide)
              have h2 : (rwC (F 0).2)[0]? = some (.int .i64 (F 0).2.k) := rfl
              rw [h2] at h1
              have := World.cell?_spot h1
              simpa [Addr.add] using this
            obtain ⟨bb, off, spot⟩ := a
            simp only at hspot
            subst hspot
            refine ⟨bb, off, cap, rfl, hl, hm, fun j u hj => ?_⟩
            rw [hfl] at hj
            have hjl : j < len * 5 := by rw [← g1]; exact (List.getElem?_eq_some_iff.1 hj).1
            have hd : j / 5 < len := Nat.div_lt_of_lt_mul (by rw [Nat.mul_comm]; exact hjl)
            have he : j / 5 * 5 + j % 5 = j := by omega
            have h1 := g2 (j / 5) (j % 5) hd (by omega)
            rw [he, hj] at h1
            have h2 := hcell (j / 5) (j % 5) hd (by omega)
            rw [Addr.add_lit, Addr.add_lit, Nat.add_assoc, he, ← h1] at h2
            exact h2
        · clear g1 g2 hfl
          have : ∀ (L : List Nat), (∀ i ∈ L, i < len) → szOkL (L.map fun i => (F i).1) := by
            intro L
            induction L with
            | nil => intro _; trivial
            | cons i L ihL => intro hL; exact ⟨(hF i (hL i (by simp))).2.2.1, ihL fun j hj => hL j (by simp [hj])⟩
          exact this _ (fun i hi => List.mem_range.1 hi)
        · obtain ⟨i, hi, rfl⟩ := List.mem_map.1 hy
          exact (hF i (List.mem_range.1 hi)).2.2.2
    obtain ⟨l, rows, v, rfl, s4, i4, z4, k4⟩ := hlist
    refine ⟨.mk k m b s l, ⟨k, m, _, s, _⟩, rfl, ?_, ⟨⟨hbl, hsl⟩, z4⟩, ⟨⟨by omega, by omega⟩, k4⟩⟩
    unfold ItR
    exact ⟨rfl, rfl, rfl, ⟨by omega, by omega⟩, slS_of sl2 (by decide) (fun k hk => hk), rows, s4, i4⟩
end Go.Proofs.YtjenohodgpmchaaDoor

namespace Go.Proofs.YtjenohodgpmchaaDoor
open Go.RowKit Cb
set_option linter.unusedSimpArgs false
set_option linter.unusedVariables false
theorem cbEnters_bytes : Enters Tryd.prog 21 := enters_of Tryd.func21 (by kernel_rfl) rfl
theorem cbEnters_sameP : Enters Tryd.prog 18 := enters_of Tryd.func18 (by kernel_rfl) rfl
theorem cbEnters_works : Enters Tryd.prog 8 := enters_of Tryd.func8 (by kernel_rfl) rfl
set_option maxHeartbeats 8000000 in
set_option maxRecDepth 100000 in
theorem cborItems_law (x : It) (r : Rw) (w0 : World) (hr : ItR (fun k => k < w0.heap.size) w0 x r) (hsz : szOk x) (hkw : kwB x) (hT : Tabs w0) : Calls Tryd.prog 6 #[rwV r] w0 (Ret (.bool true) w0) := by
  have HT0 := Lib.hid hT
  have hsh := hr.shape
  obtain ⟨k0, n0, ba0, bn0, bc0, s0, la0, ln0, lc0, rfl⟩ := hsh
  have X1 := Lib.hid (RowAt.new w0 #[.int .i64 k0, .int .u64 n0, .slice ba0 bn0 bc0, .string s0, .slice la0 ln0 lc0] 28)
  have HB := Lib.hid (below_alloc w0 (.cells #[.int .i64 k0, .int .u64 n0, .slice ba0 bn0 bc0, .string s0, .slice la0 ln0 lc0] 28))
  have I0 := Lib.hid (hr.up (below_alloc w0 (.cells #[.int .i64 k0, .int .u64 n0, .slice ba0 bn0 bc0, .string s0, .slice la0 ln0 lc0] 28)))
  have hcn : Calls Tryd.prog 17 #[rwV ⟨k0, n0, .slice ba0 bn0 bc0, s0, .slice la0 ln0 lc0⟩, .int .i64 12] (w0.alloc (.cells #[.int .i64 k0, .int .u64 n0, .slice ba0 bn0 bc0, .string s0, .slice la0 ln0 lc0] 28)) (CntE x (w0.alloc (.cells #[.int .i64 k0, .int .u64 n0, .slice ba0 bn0 bc0, .string s0, .slice la0 ln0 lc0] 28))) := count_c _ x 12 _ _ (by decide) I0.out hsz
  have fX10 := X1.out.cell (i := 0) rfl
  have fX11 := X1.out.cell (i := 1) rfl
  have fX12 := X1.out.cell (i := 2) rfl
  have fX13 := X1.out.cell (i := 3) rfl
  have fX14 := X1.out.cell (i := 4) rfl
  go_enter Tryd.func6, Tryd.ntmps6
  go_wp2_with fail
  clear fX10 fX11 fX12 fX13 fX14
  go_at_call 17
  refine (hcn).mono ?_
  rintro en wq ⟨hq, v, rfl, hv, hcv⟩
  replace HB := Lib.hid (below_up HB.out hq)
  replace I0 := Lib.hid (I0.out.up hq)
  replace X1 := Lib.hid (X1.out.below hq)
  clear hq
  clear hcn
  by_cases hle : v ≤ 3000
  · have hld : decide (3000 < v) = false := decide_eq_false (by omega)
    have hld2 : decide (v > 3000) = false := decide_eq_false (by omega)
    have hcx : cnt x ≤ 1000000 := by have := hcv hle; omega
    obtain ⟨CK, hCK⟩ : ∃ c, chk x = c := ⟨_, rfl⟩
    by_cases hz : CK = 0
    · subst hz
      have fX10 := X1.out.cell (i := 0) rfl
      have fX11 := X1.out.cell (i := 1) rfl
      have fX12 := X1.out.cell (i := 2) rfl
      have fX13 := X1.out.cell (i := 3) rfl
      have fX14 := X1.out.cell (i := 4) rfl
      go_wp2_with fail
      clear fX10 fX11 fX12 fX13 fX14
      have hck := checkR_c _ x ⟨k0, n0, .slice ba0 bn0 bc0, s0, .slice la0 ln0 lc0⟩ _ I0.out hcx
      rw [hCK] at hck
      go_at_call 19
      refine (hck).mono ?_
      rintro en wq ⟨rfl, hq⟩
      clear hck
      replace HB := Lib.hid (below_up HB.out hq)
      replace I0 := Lib.hid (I0.out.up hq)
      replace X1 := Lib.hid (X1.out.below hq)
      clear hq
      have fX10 := X1.out.cell (i := 0) rfl
      have fX11 := X1.out.cell (i := 1) rfl
      have fX12 := X1.out.cell (i := 2) rfl
      have fX13 := X1.out.cell (i := 3) rfl
      have fX14 := X1.out.cell (i := 4) rfl
      go_wp2_with fail
      clear fX10 fX11 fX12 fX13 fX14
      have hen := encode_c (fun k => k < w0.heap.size) x ⟨k0, n0, .slice ba0 bn0 bc0, s0, .slice la0 ln0 lc0⟩ _ I0.out hcx hkw (HT0.out.up HB.out) (fun k hk => Nat.lt_of_lt_of_le hk HB.out.size)
      unfold EncE at hen
      rw [hCK] at hen
      go_at_call 15
      refine hen.mono ?_
      clear hen
      rintro en wq ⟨hq, v4, rfl, ho, hn⟩
      replace ho := ho rfl
      clear hn
      obtain ⟨BS, hBS⟩ : ∃ l, bytesOf x = l := ⟨_, rfl⟩
      have hdr := dec_read hCK (ItR.nOk _ _ hr) hcx
      have hri : rightB x = true := by
        unfold chk at hCK
        split at hCK
        · cases hCK
        · rename_i h; simpa using h
      have hbl := bytes_le x
      rw [hBS] at ho hdr hbl
      obtain ⟨a4, c4, rfl⟩ := own_slice ho
      have S4 : RowKit.Hid (Sl wq 1 (.slice a4 BS.length c4) BS.length (by8 BS)) := Lib.hid (Sl.of_own ho)
      clear ho
      replace HB := Lib.hid (below_up HB.out hq)
      replace I0 := Lib.hid (I0.out.up hq)
      replace X1 := Lib.hid (X1.out.below hq)
      clear hq
      obtain ⟨BL, hBL⟩ : ∃ n, BS.length = n := ⟨_, rfl⟩
      rw [hBL] at S4 hbl ⊢
      have fX10 := X1.out.cell (i := 0) rfl
      have fX11 := X1.out.cell (i := 1) rfl
      have fX12 := X1.out.cell (i := 2) rfl
      have fX13 := X1.out.cell (i := 3) rfl
      have fX14 := X1.out.cell (i := 4) rfl
      go_wp2_with fail
      clear fX10 fX11 fX12 fX13 fX14
      have hck := check_c (fun k => k < w0.heap.size) x ⟨k0, n0, .slice ba0 bn0 bc0, s0, .slice la0 ln0 lc0⟩ _ I0.out hcx hkw (HT0.out.up HB.out) (fun k hk => Nat.lt_of_lt_of_le hk HB.out.size)
      rw [hCK] at hck
      go_at_call 20
      refine (hck).mono ?_
      rintro en wq ⟨rfl, hq⟩
      clear hck
      replace HB := Lib.hid (below_up HB.out hq)
      replace I0 := Lib.hid (I0.out.up hq)
      replace X1 := Lib.hid (X1.out.below hq)
      replace S4 := Lib.hid (S4.out.up hq)
      clear hq
      go_wp2_with fail
      go_at_call 13
      refine (numE_c 0 _).mono ?_
      rintro en wz ⟨rfl, rfl⟩
      go_wp2_with fail
      go_at_call 13
      refine (numE_c 0 _).mono ?_
      rintro en wz ⟨rfl, rfl⟩
      go_wp2_with fail
      have hde := decode_c _ _ BS (by rw [hBL]; exact S4.out) (HT0.out.up HB.out)
      unfold DecE at hde
      rw [hdr] at hde
      go_at_call 9
      refine hde.mono ?_
      clear hde
      rintro en wq ⟨hq, r6, rfl, I6⟩
      have hsh := I6.shape
      obtain ⟨k6, n6, ba6, bn6, bc6, s6, la6, ln6, lc6, rfl⟩ := hsh
      replace I6 := Lib.hid (I6.mono (S' := fun k => k < wq.heap.size) fun k hk => hk.2)
      replace HB := Lib.hid (below_up HB.out hq)
      replace I0 := Lib.hid (I0.out.up hq)
      replace X1 := Lib.hid (X1.out.below hq)
      replace S4 := Lib.hid (S4.out.up hq)
      clear hq
      have fX10 := X1.out.cell (i := 0) rfl
      have fX11 := X1.out.cell (i := 1) rfl
      have fX12 := X1.out.cell (i := 2) rfl
      have fX13 := X1.out.cell (i := 3) rfl
      have fX14 := X1.out.cell (i := 4) rfl
      go_wp2_with fail
      clear fX10 fX11 fX12 fX13 fX14
      have X6 := Lib.hid (RowAt.new wq #[.int .i64 k6, .int .u64 n6, .slice ba6 bn6 bc6, .string s6, .slice la6 ln6 lc6] 28)
      have hq := below_alloc wq (.cells #[.int .i64 k6, .int .u64 n6, .slice ba6 bn6 bc6, .string s6, .slice la6 ln6 lc6] 28)
      obtain ⟨BX6, hBX6⟩ : ∃ B, wq.heap.size = B := ⟨_, rfl⟩
      replace HB := Lib.hid (below_up HB.out hq)
      replace I0 := Lib.hid (I0.out.up hq)
      replace X1 := Lib.hid (X1.out.below hq)
      replace S4 := Lib.hid (S4.out.up hq)
      replace I6 := Lib.hid (I6.out.up hq)
      clear hq
      rw [hBX6] at X6 ⊢
      replace hBX6 := Lib.hid hBX6
      refine wp_region_piL [(0, false), (1, false), (2, false), (3, true), (4, false), (5, false), (6, false), (7, false), (8, true), (9, false), (10, false), (11, false), (12, false), (13, false), (14, true), (15, false), (16, false), (17, false), (18, false), (19, true), (20, false), (21, false), (22, true), (23, false), (24, false)] (by kernel_rfl) (by kernel_rfl) (by kernel_rfl) rfl (fun _ _ d _ _ h => by cases d <;> exact h) (fun OPS HO Wd hBd => ?_)
      try simp only [Act.put, List.getElem_toArray, List.getElem_cons_zero, List.getElem_cons_succ, List.setIfInBounds_toArray, List.set_cons_zero, List.set_cons_succ]
      have T4 := S4.out.up hBd
      have Y1 := X1.out.below hBd
      have Y6 := X6.out.below hBd
      have J0 := I0.out.up hBd
      have J6 := (I6.out.up hBd).mono (S' := fun _ => True) fun _ _ => trivial
      have HBc := Lib.hid (below_up HB.out hBd)
      refine pi_q (v := ?_) (by rw [← HO.out]; simp only [List.getElem?_toArray, List.getElem?_cons_zero, List.getElem?_cons_succ]; rfl) (by rw [← HO.out]; kernel_rfl) ?_ ?_
      rotate_left
      · intro w' hBw'
        first | (go_simp; done) | (go_simp; with_reducible rfl)
      try simp only [Act.put, List.getElem_toArray, List.getElem_cons_zero, List.getElem_cons_succ, List.setIfInBounds_toArray, List.set_cons_zero, List.set_cons_succ]
      refine pi_q (v := .string ⟨BS.toArray⟩) (by rw [← HO.out]; simp only [List.getElem?_toArray, List.getElem?_cons_zero, List.getElem?_cons_succ]; rfl) (by rw [← HO.out]; kernel_rfl) (by exact fun w' hb' => exec_str rfl (by kernel_rfl) (T4.up hb')) ?_
      try simp only [Act.put, List.getElem_toArray, List.getElem_cons_zero, List.getElem_cons_succ, List.setIfInBounds_toArray, List.set_cons_zero, List.set_cons_succ]
      refine pi_load (by rw [← HO.out]; simp only [List.getElem?_toArray, List.getElem?_cons_zero, List.getElem?_cons_succ]; rfl) (by rw [← HO.out]; kernel_rfl) 28 (.tmp 1) rfl w0.heap.size 0 (by kernel_rfl) (rwC ⟨k0, n0, .slice ba0 bn0 bc0, s0, .slice la0 ln0 lc0⟩) _ (RowAt.range (cs := rwC ⟨k0, n0, .slice ba0 bn0 bc0, s0, .slice la0 ln0 lc0⟩) Y1) Tryd.underlying28 rfl (by kernel_rfl) ?_
      try simp only [Act.put, List.getElem_toArray, List.getElem_cons_zero, List.getElem_cons_succ, List.setIfInBounds_toArray, List.set_cons_zero, List.set_cons_succ]
      have hby := bytesR_c _ x ⟨k0, n0, .slice ba0 bn0 bc0, s0, .slice la0 ln0 lc0⟩ _ J0 hcx hri
      unfold ByE at hby
      rw [hBS, hBL] at hby
      refine pi_call (by rw [← HO.out]; simp only [List.getElem?_toArray, List.getElem?_cons_zero, List.getElem?_cons_succ]; rfl) (by rw [← HO.out]; kernel_rfl) (hby) cbEnters_bytes (by rfl) (by kernel_rfl) ?_
      rintro en wN ⟨v46, rfl, ho46, hb1⟩
      obtain ⟨a46, c46, rfl⟩ := own_slice ho46
      have T46 := Sl.of_own ho46
      replace Y1 := Y1.below hb1
      replace Y6 := Y6.below hb1
      replace J0 := J0.up hb1
      replace J6 := J6.up hb1
      replace HBc := Lib.hid (below_up HBc.out hb1)
      refine ⟨_, rfl, hb1, ?_⟩
      try simp only [Act.put, List.getElem_toArray, List.getElem_cons_zero, List.getElem_cons_succ, List.setIfInBounds_toArray, List.set_cons_zero, List.set_cons_succ]
      refine pi_q (v := .string ⟨BS.toArray⟩) (by rw [← HO.out]; simp only [List.getElem?_toArray, List.getElem?_cons_zero, List.getElem?_cons_succ]; rfl) (by rw [← HO.out]; kernel_rfl) (by exact fun w' hb' => exec_str rfl (by kernel_rfl) (T46.up hb')) ?_
      try simp only [Act.put, List.getElem_toArray, List.getElem_cons_zero, List.getElem_cons_succ, List.setIfInBounds_toArray, List.set_cons_zero, List.set_cons_succ]
      refine pi_q (v := .bool true) (by rw [← HO.out]; simp only [List.getElem?_toArray, List.getElem?_cons_zero, List.getElem?_cons_succ]; rfl) (by rw [← HO.out]; kernel_rfl) (by exact fun w' _ => exec_streq (s := ⟨BS.toArray⟩) rfl (by kernel_rfl) (by kernel_rfl) w') ?_
      try simp only [Act.put, List.getElem_toArray, List.getElem_cons_zero, List.getElem_cons_succ, List.setIfInBounds_toArray, List.set_cons_zero, List.set_cons_succ]
      refine pi_q (v := ?_) (by rw [← HO.out]; simp only [List.getElem?_toArray, List.getElem?_cons_zero, List.getElem?_cons_succ]; rfl) (by rw [← HO.out]; kernel_rfl) ?_ ?_
      rotate_left
      · intro w' hBw'
        first | (go_simp; done) | (go_simp; with_reducible rfl)
      try simp only [Act.put, List.getElem_toArray, List.getElem_cons_zero, List.getElem_cons_succ, List.setIfInBounds_toArray, List.set_cons_zero, List.set_cons_succ]
      refine pi_q (v := ?_) (by rw [← HO.out]; simp only [List.getElem?_toArray, List.getElem?_cons_zero, List.getElem?_cons_succ]; rfl) (by rw [← HO.out]; kernel_rfl) ?_ ?_
      rotate_left
      · intro w' hBw'
        first | (go_simp; done) | (go_simp; with_reducible rfl)
      try simp only [Act.put, List.getElem_toArray, List.getElem_cons_zero, List.getElem_cons_succ, List.setIfInBounds_toArray, List.set_cons_zero, List.set_cons_succ]
      refine pi_call (by rw [← HO.out]; simp only [List.getElem?_toArray, List.getElem?_cons_zero, List.getElem?_cons_succ]; rfl) (by rw [← HO.out]; kernel_rfl) (numE_c 0 _) cbEnters_num (by rfl) (by kernel_rfl) ?_
      rintro en wN ⟨rfl, rfl⟩
      refine ⟨_, rfl, (Below.refl _ _), ?_⟩
      try simp only [Act.put, List.getElem_toArray, List.getElem_cons_zero, List.getElem_cons_succ, List.setIfInBounds_toArray, List.set_cons_zero, List.set_cons_succ]
      refine pi_q (v := ?_) (by rw [← HO.out]; simp only [List.getElem?_toArray, List.getElem?_cons_zero, List.getElem?_cons_succ]; rfl) (by rw [← HO.out]; kernel_rfl) ?_ ?_
      rotate_left
      · intro w' hBw'
        first | (go_simp; done) | (go_simp; with_reducible rfl)
      try simp only [Act.put, List.getElem_toArray, List.getElem_cons_zero, List.getElem_cons_succ, List.setIfInBounds_toArray, List.set_cons_zero, List.set_cons_succ]
      refine pi_q (v := ?_) (by rw [← HO.out]; simp only [List.getElem?_toArray, List.getElem?_cons_zero, List.getElem?_cons_succ]; rfl) (by rw [← HO.out]; kernel_rfl) ?_ ?_
      rotate_left
      · intro w' hBw'
        first | (go_simp; done) | (go_simp; with_reducible rfl)
      try simp only [Act.put, List.getElem_toArray, List.getElem_cons_zero, List.getElem_cons_succ, List.setIfInBounds_toArray, List.set_cons_zero, List.set_cons_succ]
      refine pi_q (v := ?_) (by rw [← HO.out]; simp only [List.getElem?_toArray, List.getElem?_cons_zero, List.getElem?_cons_succ]; rfl) (by rw [← HO.out]; kernel_rfl) ?_ ?_
      rotate_left
      · intro w' hBw'
        first | (go_simp; done) | (go_simp; with_reducible rfl)
      try simp only [Act.put, List.getElem_toArray, List.getElem_cons_zero, List.getElem_cons_succ, List.setIfInBounds_toArray, List.set_cons_zero, List.set_cons_succ]
      refine pi_load (by rw [← HO.out]; simp only [List.getElem?_toArray, List.getElem?_cons_zero, List.getElem?_cons_succ]; rfl) (by rw [← HO.out]; kernel_rfl) 28 (.tmp 1) rfl w0.heap.size 0 (by kernel_rfl) (rwC ⟨k0, n0, .slice ba0 bn0 bc0, s0, .slice la0 ln0 lc0⟩) _ (RowAt.range (cs := rwC ⟨k0, n0, .slice ba0 bn0 bc0, s0, .slice la0 ln0 lc0⟩) Y1) Tryd.underlying28 rfl (by kernel_rfl) ?_
      try simp only [Act.put, List.getElem_toArray, List.getElem_cons_zero, List.getElem_cons_succ, List.setIfInBounds_toArray, List.set_cons_zero, List.set_cons_succ]
      refine pi_load (by rw [← HO.out]; simp only [List.getElem?_toArray, List.getElem?_cons_zero, List.getElem?_cons_succ]; rfl) (by rw [← HO.out]; kernel_rfl) 28 (.tmp 6) rfl BX6 0 (by kernel_rfl) (rwC ⟨k6, n6, .slice ba6 bn6 bc6, s6, .slice la6 ln6 lc6⟩) _ (RowAt.range (cs := rwC ⟨k6, n6, .slice ba6 bn6 bc6, s6, .slice la6 ln6 lc6⟩) Y6) Tryd.underlying28 rfl (by kernel_rfl) ?_
      try simp only [Act.put, List.getElem_toArray, List.getElem_cons_zero, List.getElem_cons_succ, List.setIfInBounds_toArray, List.set_cons_zero, List.set_cons_succ]
      have hsm := sameR_c (fun _ => True) x x ⟨k0, n0, .slice ba0 bn0 bc0, s0, .slice la0 ln0 lc0⟩ ⟨k6, n6, .slice ba6 bn6 bc6, s6, .slice la6 ln6 lc6⟩ _ (J0.mono fun _ _ => trivial) J6 hcx hcx
      rw [sameB_refl] at hsm
      refine pi_call (by rw [← HO.out]; simp only [List.getElem?_toArray, List.getElem?_cons_zero, List.getElem?_cons_succ]; rfl) (by rw [← HO.out]; kernel_rfl) (hsm) cbEnters_same (by rfl) (by kernel_rfl) ?_
      rintro en wN ⟨rfl, hb2⟩
      replace Y1 := Y1.below hb2
      replace Y6 := Y6.below hb2
      replace J0 := J0.up hb2
      replace J6 := J6.up hb2
      replace HBc := Lib.hid (below_up HBc.out hb2)
      refine ⟨_, rfl, hb2, ?_⟩
      try simp only [Act.put, List.getElem_toArray, List.getElem_cons_zero, List.getElem_cons_succ, List.setIfInBounds_toArray, List.set_cons_zero, List.set_cons_succ]
      refine pi_q (v := ?_) (by rw [← HO.out]; simp only [List.getElem?_toArray, List.getElem?_cons_zero, List.getElem?_cons_succ]; rfl) (by rw [← HO.out]; kernel_rfl) ?_ ?_
      rotate_left
      · intro w' hBw'
        first | (go_simp; done) | (go_simp; with_reducible rfl)
      try simp only [Act.put, List.getElem_toArray, List.getElem_cons_zero, List.getElem_cons_succ, List.setIfInBounds_toArray, List.set_cons_zero, List.set_cons_succ]
      refine pi_q (v := ?_) (by rw [← HO.out]; simp only [List.getElem?_toArray, List.getElem?_cons_zero, List.getElem?_cons_succ]; rfl) (by rw [← HO.out]; kernel_rfl) ?_ ?_
      rotate_left
      · intro w' hBw'
        first | (go_simp; done) | (go_simp; with_reducible rfl)
      try simp only [Act.put, List.getElem_toArray, List.getElem_cons_zero, List.getElem_cons_succ, List.setIfInBounds_toArray, List.set_cons_zero, List.set_cons_succ]
      refine pi_load (by rw [← HO.out]; simp only [List.getElem?_toArray, List.getElem?_cons_zero, List.getElem?_cons_succ]; rfl) (by rw [← HO.out]; kernel_rfl) 28 (.tmp 1) rfl w0.heap.size 0 (by kernel_rfl) (rwC ⟨k0, n0, .slice ba0 bn0 bc0, s0, .slice la0 ln0 lc0⟩) _ (RowAt.range (cs := rwC ⟨k0, n0, .slice ba0 bn0 bc0, s0, .slice la0 ln0 lc0⟩) Y1) Tryd.underlying28 rfl (by kernel_rfl) ?_
      try simp only [Act.put, List.getElem_toArray, List.getElem_cons_zero, List.getElem_cons_succ, List.setIfInBounds_toArray, List.set_cons_zero, List.set_cons_succ]
      refine pi_load (by rw [← HO.out]; simp only [List.getElem?_toArray, List.getElem?_cons_zero, List.getElem?_cons_succ]; rfl) (by rw [← HO.out]; kernel_rfl) 28 (.tmp 6) rfl BX6 0 (by kernel_rfl) (rwC ⟨k6, n6, .slice ba6 bn6 bc6, s6, .slice la6 ln6 lc6⟩) _ (RowAt.range (cs := rwC ⟨k6, n6, .slice ba6 bn6 bc6, s6, .slice la6 ln6 lc6⟩) Y6) Tryd.underlying28 rfl (by kernel_rfl) ?_
      try simp only [Act.put, List.getElem_toArray, List.getElem_cons_zero, List.getElem_cons_succ, List.setIfInBounds_toArray, List.set_cons_zero, List.set_cons_succ]
      have hsm := cbSame_c (fun _ => True) x x ⟨k0, n0, .slice ba0 bn0 bc0, s0, .slice la0 ln0 lc0⟩ ⟨k6, n6, .slice ba6 bn6 bc6, s6, .slice la6 ln6 lc6⟩ _ (J0.mono fun _ _ => trivial) J6 hcx hcx
      rw [sameB_refl] at hsm
      refine pi_call (by rw [← HO.out]; simp only [List.getElem?_toArray, List.getElem?_cons_zero, List.getElem?_cons_succ]; rfl) (by rw [← HO.out]; kernel_rfl) (hsm) cbEnters_sameP (by rfl) (by kernel_rfl) ?_
      rintro en wN ⟨rfl, hb3⟩
      replace HBc := Lib.hid (below_up HBc.out hb3)
      refine ⟨_, rfl, hb3, ?_⟩
      try simp only [Act.put, List.getElem_toArray, List.getElem_cons_zero, List.getElem_cons_succ, List.setIfInBounds_toArray, List.set_cons_zero, List.set_cons_succ]
      refine pi_q (v := ?_) (by rw [← HO.out]; simp only [List.getElem?_toArray, List.getElem?_cons_zero, List.getElem?_cons_succ]; rfl) (by rw [← HO.out]; kernel_rfl) ?_ ?_
      rotate_left
      · intro w' hBw'
        first | (go_simp; done) | (go_simp; with_reducible rfl)
      try simp only [Act.put, List.getElem_toArray, List.getElem_cons_zero, List.getElem_cons_succ, List.setIfInBounds_toArray, List.set_cons_zero, List.set_cons_succ]
      refine pi_q (v := ?_) (by rw [← HO.out]; simp only [List.getElem?_toArray, List.getElem?_cons_zero, List.getElem?_cons_succ]; rfl) (by rw [← HO.out]; kernel_rfl) ?_ ?_
      rotate_left
      · intro w' hBw'
        first | (go_simp; done) | (go_simp; with_reducible rfl)
      try simp only [Act.put, List.getElem_toArray, List.getElem_cons_zero, List.getElem_cons_succ, List.setIfInBounds_toArray, List.set_cons_zero, List.set_cons_succ]
      refine pi_call (by rw [← HO.out]; simp only [List.getElem?_toArray, List.getElem?_cons_zero, List.getElem?_cons_succ]; rfl) (by rw [← HO.out]; kernel_rfl) (cbWorks_a _ _ (Lib.hid (Below.refl _ _)) (Lib.hid (HT0.out.up HBc.out))) cbEnters_works (by rfl) (by kernel_rfl) ?_
      rintro en wN ⟨rfl, hb4⟩
      refine ⟨_, rfl, hb4, ?_⟩
      try simp only [Act.put, List.getElem_toArray, List.getElem_cons_zero, List.getElem_cons_succ, List.setIfInBounds_toArray, List.set_cons_zero, List.set_cons_succ]
      refine pi_q (v := ?_) (by rw [← HO.out]; simp only [List.getElem?_toArray, List.getElem?_cons_zero, List.getElem?_cons_succ]; rfl) (by rw [← HO.out]; kernel_rfl) ?_ ?_
      rotate_left
      · intro w' hBw'
        first | (go_simp; done) | (go_simp; with_reducible rfl)
      try simp only [Act.put, List.getElem_toArray, List.getElem_cons_zero, List.getElem_cons_succ, List.setIfInBounds_toArray, List.set_cons_zero, List.set_cons_succ]
      refine pi_q (v := ?_) (by rw [← HO.out]; simp only [List.getElem?_toArray, List.getElem?_cons_zero, List.getElem?_cons_succ]; rfl) (by rw [← HO.out]; kernel_rfl) ?_ ?_
      rotate_left
      · intro w' hBw'
        first | (go_simp; done) | (go_simp; with_reducible rfl)
      try simp only [Act.put, List.getElem_toArray, List.getElem_cons_zero, List.getElem_cons_succ, List.setIfInBounds_toArray, List.set_cons_zero, List.set_cons_succ]
      refine pi_nil ?_
      go_wp2
      go_ret
      exact ⟨rfl, below_up HBc.out hb4⟩
    · have hz1 : (CK == 0) = false := by rw [beq_eq_false_iff_ne]; exact hz
      have hz2 : (CK != 0) = true := by rw [bne_iff_ne]; exact hz
      have fX10 := X1.out.cell (i := 0) rfl
      have fX11 := X1.out.cell (i := 1) rfl
      have fX12 := X1.out.cell (i := 2) rfl
      have fX13 := X1.out.cell (i := 3) rfl
      have fX14 := X1.out.cell (i := 4) rfl
      go_wp2_with fail
      clear fX10 fX11 fX12 fX13 fX14
      have hck := checkR_c _ x ⟨k0, n0, .slice ba0 bn0 bc0, s0, .slice la0 ln0 lc0⟩ _ I0.out hcx
      rw [hCK] at hck
      go_at_call 19
      refine (hck).mono ?_
      rintro en wq ⟨rfl, hq⟩
      clear hck
      replace HB := Lib.hid (below_up HB.out hq)
      replace I0 := Lib.hid (I0.out.up hq)
      replace X1 := Lib.hid (X1.out.below hq)
      clear hq
      have fX10 := X1.out.cell (i := 0) rfl
      have fX11 := X1.out.cell (i := 1) rfl
      have fX12 := X1.out.cell (i := 2) rfl
      have fX13 := X1.out.cell (i := 3) rfl
      have fX14 := X1.out.cell (i := 4) rfl
      go_wp2_with fail
      clear fX10 fX11 fX12 fX13 fX14
      have hen := encode_c (fun k => k < w0.heap.size) x ⟨k0, n0, .slice ba0 bn0 bc0, s0, .slice la0 ln0 lc0⟩ _ I0.out hcx hkw (HT0.out.up HB.out) (fun k hk => Nat.lt_of_lt_of_le hk HB.out.size)
      unfold EncE at hen
      rw [hCK] at hen
      go_at_call 15
      refine hen.mono ?_
      clear hen
      rintro en wq ⟨hq, v4, rfl, ho, hn⟩
      replace hn := hn hz
      subst hn
      clear ho
      replace HB := Lib.hid (below_up HB.out hq)
      replace I0 := Lib.hid (I0.out.up hq)
      replace X1 := Lib.hid (X1.out.below hq)
      clear hq
      have fX10 := X1.out.cell (i := 0) rfl
      have fX11 := X1.out.cell (i := 1) rfl
      have fX12 := X1.out.cell (i := 2) rfl
      have fX13 := X1.out.cell (i := 3) rfl
      have fX14 := X1.out.cell (i := 4) rfl
      go_wp2_with fail
      clear fX10 fX11 fX12 fX13 fX14
      have hck := check_c (fun k => k < w0.heap.size) x ⟨k0, n0, .slice ba0 bn0 bc0, s0, .slice la0 ln0 lc0⟩ _ I0.out hcx hkw (HT0.out.up HB.out) (fun k hk => Nat.lt_of_lt_of_le hk HB.out.size)
      rw [hCK] at hck
      go_at_call 20
      refine (hck).mono ?_
      rintro en wq ⟨rfl, hq⟩
      clear hck
      replace HB := Lib.hid (below_up HB.out hq)
      replace I0 := Lib.hid (I0.out.up hq)
      replace X1 := Lib.hid (X1.out.below hq)
      clear hq
      go_wp2_with fail
      go_at_call 13
      refine (numE_c CK _).mono ?_
      rintro en wz ⟨rfl, rfl⟩
      go_wp2_with fail
      go_at_call 13
      refine (numE_c CK _).mono ?_
      rintro en wz ⟨rfl, rfl⟩
      go_wp2_with fail
      go_at_call 8
      refine (cbWorks_a w0 _ HB (Lib.hid (HT0.out.up HB.out))).mono ?_
      rintro en wq ⟨rfl, hq⟩
      go_wp2
      go_ret
      exact ⟨rfl, hq⟩
  · have hld : decide (3000 < v) = true := decide_eq_true (by omega)
    have hld2 : decide (v > 3000) = true := decide_eq_true (by omega)
    go_wp2_with fail
    go_at_call 8
    refine (cbWorks_a w0 _ HB (Lib.hid (HT0.out.up HB.out))).mono ?_
    rintro en wq ⟨rfl, hq⟩
    go_wp2
    go_ret
    exact ⟨rfl, hq⟩
end Go.Proofs.YtjenohodgpmchaaDoor

namespace Go.Proofs.YtjenohodgpmchaaDoor.cborItemsRow
open Go.ChangeShapes Go.WideShapes Go.ChangeAt Go.RowKit
open Go.ChangeMaps (open_string shut_string)
set_option linter.unusedVariables false

theorem own : ownKnob Tryd.prog.godebug = none := by kernel_rfl
theorem laidOut : laidOutB Tryd.prog = true := by kernel_rfl

open Go.Lib
/-- A world that meets the condition: the settled one, the two tables laid. -/
noncomputable def laidWorld (os : Os) : World :=
  let w0 := World.holding Tryd.prog os ⟨#[], #[], []⟩
  let put (h : Array Obj) (g : Nat) (cs : Array Value) : Array Obj := h.modify g fun
    | .cells _ t frozen => .cells cs t frozen
    | o => o
  let h1 := put w0.heap 0 (Lib.firstTab.map fun z => Value.int .u8 z).toArray
  let h2 := put h1 1 ((List.range 16).flatMap fun i => [Value.int .u8 (Lib.accLo i), Value.int .u8 (Lib.accHi i)]).toArray
  { w0 with heap := h2 }
theorem laid_met (os : Os) (args : Array Value) : laidMet Tryd.prog Rows.cborItemsRow.laid ((laidWorld os).forCall (fun _ _ => 0) ⟨#[], args, []⟩).memory :=
  (LaidIn.of_run (l := [("unicode/utf8.acceptRanges", Rows.laid_unicode_utf8_acceptRanges), ("unicode/utf8.first", Rows.laid_unicode_utf8_first)]) [0, 1] 8 (by kernel_rfl) (by kernel_rfl) (by kernel_rfl) (by kernel_rfl)).met
theorem witness_row (os : Os) {H : Type} (enc : TypeId × Value → H) :
    (OpenSpec.ofChange Rows.cborItemsSpec).preRow enc Tryd.prog Tryd.f6 Rows.cborItemsRow.domain false Rows.cborItemsRow.laid ((laidWorld os).forCall (fun _ _ => 0) ⟨#[], #[.agg #[.int .i64 0, .int .u64 0, .slice none 0 0, .string ⟨#[]⟩, .slice none 0 0]], []⟩).memory #[.agg #[.int .i64 0, .int .u64 0, .slice none 0 0, .string ⟨#[]⟩, .slice none 0 0]] := by
  have hw : (DataW.whole enc Tryd.prog ((laidWorld os).forCall (fun _ _ => 0) ⟨#[], #[.agg #[.int .i64 0, .int .u64 0, .slice none 0 0, .string ⟨#[]⟩, .slice none 0 0]], []⟩).memory Tryd.f6.params.toList (OpenSpec.ofChange Rows.cborItemsSpec).vars false (#[.agg #[.int .i64 0, .int .u64 0, .slice none 0 0, .string ⟨#[]⟩, .slice none 0 0]] : Array Value).toList 8).map (fun x => (x.1, x.2.1)) =
      some ([.agg [.lit (.int .i64 0), .lit (.int .u64 0), .nil, .lit (.string []), .nil]], []) := by kernel_rfl
  obtain ⟨⟨x1, x2, x3⟩, hx, hx1⟩ := Option.map_eq_some_iff.1 hw
  simp only [Prod.mk.injEq] at hx1
  obtain ⟨rfl, rfl⟩ := hx1
  exact OpenSpec.preRow_of_cond 8 hx (by kernel_rfl) (fun k hk => by cases hk) (by kernel_rfl) (laid_met os _)

set_option maxRecDepth 100000 in
theorem lifted (os : Os) (started : os.Started) (H : Type) (enc : TypeId × Value → H) :
    ReturnsInHanded {} Tryd.checked os 6 .any ((OpenSpec.ofChange Rows.cborItemsSpec).preRow enc Tryd.prog Tryd.f6 Rows.cborItemsRow.domain false Rows.cborItemsRow.laid) (Rows.cborItemsSpec.post enc Tryd.prog Tryd.f6 false true false false) := by
  refine returnsInHanded_of_row (C := Tryd.checked) (s := OpenSpec.ofChange Rows.cborItemsSpec) (F := fun _ _ _ => 0) own started (by kernel_rfl) Tryd.func6
    (witness_row_atRef (enc := enc) (C := Tryd.checked) false (laidWorld os) #[.agg #[.int .i64 0, .int .u64 0, .slice none 0 0, .string ⟨#[]⟩, .slice none 0 0]] rfl (by kernel_rfl) (by kernel_rfl) (by kernel_rfl) (witness_row os enc)) ?_
  intro W base args ds gs before hval0 hW hcnd _ hsz0 hL hshp _
  have hsz : (DataW.weightsEach Tryd.prog (Tryd.f6.params.toList ++ Rows.cborItemsSpec.plain.varTypes Tryd.prog) (ds ++ gs)).all (· ≤ reachBytes) = true := hsz0
  have hval : ∀ (j : Nat) t v, Tryd.f6.params[j]? = some t → args[j]? = some v → Value.okWide Tryd.prog W .any base t v := hval0
  have hT : Tabs W :=
    utf8Tabs_of_readsT (ρ := lays197_ren) { lays197 with } ⟨by kernel_rfl, by kernel_rfl, by kernel_rfl, by kernel_rfl, by kernel_rfl, by kernel_rfl, by kernel_rfl⟩
      (by have := Lib.laidMet.reads hL (n := "unicode/utf8.first") (d := Rows.laid_unicode_utf8_first) (.tail _ (.head _)); exact Pinned.utf8First_eq ▸ this) (by have := Lib.laidMet.reads hL (n := "unicode/utf8.acceptRanges") (d := Rows.laid_unicode_utf8_acceptRanges) (.head _); rwa [show (Rows.laid_unicode_utf8_acceptRanges : DataW Unit) = acceptData by kernel_rfl] at this)
  have hW' := hW
  obtain ⟨p, q, hA0, hV, rfl, hfz, hnd⟩ := hW
  have hA : DataW.TrodAll enc Tryd.prog W 0 (fun _ => true) true Tryd.f6.params.toList args.toList ds p := hA0
  rw [Tryd.params6] at hA hval hsz
  obtain ⟨v0, vs0, d0, ds0, p0, q0, hargs, rfl, rfl, h0, r0⟩ := trodAll_cons hA
  obtain ⟨rfl, rfl, rfl⟩ := trodAll_nil r0
  obtain rfl : args = #[v0] := by cases args; simp_all
  obtain ⟨rfl, rfl⟩ := trodVars_none hV
  have k0 := h0
  have lt0 : ∀ x ∈ p0, x.block < W.heap.size := by obtain ⟨m, hm⟩ := k0; exact DataW.trod_lt m _ _ _ hm
  obtain ⟨cs0, rfl, hsz0⟩ : ∃ cs, v0 = .agg cs ∧ cs.size = 5 := by
    have := hval 0 28 v0 rfl rfl
    simp only [Value.okWide, Tryd.underlying28] at this
    obtain ⟨cs, h1, h2, _⟩ := this
    exact ⟨cs, h1, h2.trans (by kernel_rfl)⟩
  obtain ⟨fu0, hf0⟩ := h0
  obtain ⟨x, rx, hc0, hI0, hz0, hk0⟩ := open_item _ _ _ hf0 (fun n hn => of_decide_eq_true (List.all_eq_true.1 hsz _ (DataW.weights_mem_each (j := 0) (t := 28) rfl rfl _ hn)))
  obtain ⟨l0⟩ := cs0
  obtain rfl : l0 = rwC rx := hc0
  clear hA0 hval0
  refine (cborItems_law x rx W hI0 hz0 hk0 hT).mono fun e W' ⟨he, bel⟩ => ?_
  subst he
  exact ⟨_, rfl, _, _, _, [], _, [], hW', trodAll_mk1 (shut_bool Tryd.underlying4 _), (trodAll_cons_mk (Below.trod laidOut (by kernel_rfl) (of_decide_eq_true (by kernel_rfl)) k0 bel lt0) trodAll_mk0), rfl, bel.frame _, fun h => by cases h⟩

theorem over : Rows.cborItemsRow.holds Tryd.pinned (OpenSpec.ofChange Rows.cborItemsSpec) :=
  OpenClaim.holds_of_wide 6 Tryd.f6 rfl rfl rfl rfl rfl rfl rfl ⟨rfl, rfl, rfl, rfl, rfl⟩ rfl rfl rfl rfl rfl (by kernel_rfl) Tryd.func6 (by kernel_rfl)
    (of_decide_eq_true (by kernel_rfl)) (by unfold Func.isWrapper; first | (rw [if_pos (by decide +kernel)]; kernel_rfl) | (rw [if_neg (by decide +kernel)]; exact ⟨rfl, rfl⟩))
    (fun os started H enc _ => by rw [OpenClaim.pre_eq_preRow]; exact lifted os started H enc)

theorem proved : Rows.CborItemsCardSaid :=
  Claim7.holds_tied_plain_at .later [] [.data, .pinned] true (true, "0ece3b67bcc1c0921f4ca99338b3de9fb5b1d54749c680f8d782d7ca69802733") true
    over (fun _ h => by cases h) (by kernel_rfl) (fun _ h => by cases h) cborItems_row_tie rfl ⟨rfl, rfl⟩ (by kernel_rfl) rfl
    (fun f fn hf hfn => by
      obtain rfl : f = 6 := Option.some.inj ((show Tryd.prog.funcNamed "packsaddle/packsaddlelaw03.CborItems" = some 6 by kernel_rfl).symm.trans hf) |>.symm
      obtain rfl : fn = Tryd.f6 := (Option.some.inj (Tryd.func6.symm.trans hfn)).symm
      exact ⟨by kernel_rfl, fun j t ht => by
        rw [Tryd.params6] at ht
        have h3 : t ∈ [28] := by
          have := List.mem_of_getElem? (by simpa using ht : ([28] : List TypeId)[j]? = some t)
          exact this
        simp only [List.mem_cons, List.not_mem_nil, or_false] at h3
        rcases h3 with rfl
        · exact (show Tryd.prog.wantsStandIn 28 = false by kernel_rfl)⟩)
    (by kernel_rfl)
#print axioms proved
end Go.Proofs.YtjenohodgpmchaaDoor.cborItemsRow
