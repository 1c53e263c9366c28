/-
  CbCt, CbUn, CbCk, OpenB, RecOpen, Turn, Brk: several texts in one (bundle.py).
-/
import Derived.Test.YtjenohodgpmchaaDoorCbK42
import Derived.Test.YtjenohodgpmchaaDoorCbK40
import Derived.Test.YtjenohodgpmchaaDoorCbK35
import Derived.Test.YtjenohodgpmchaaDoorCbK02
import Derived.Test.YtjenohodgpmchaaDoorCbK10
import Derived.SizedLaws
import Derived.Test.YtjenohodgpmchaaDoorCbK03
import Derived.Test.YtjenohodgpmchaaDoorCbK31
import Derived.Test.YtjenohodgpmchaaDoorCbK05
import Derived.Test.YtjenohodgpmchaaDoorCbK24
namespace Go.Proofs.YtjenohodgpmchaaDoor
open Go.RowKit Cb
set_option linter.unusedSimpArgs false
set_option linter.unusedVariables false
namespace Cb
mutual
/-- What it holds takes no more room than there is. -/
def szOk : It → Prop
  | .mk _ _ b s l => (b.length ≤ 140737488355328 ∧ s.size ≤ 140737488355328) ∧ szOkL l
def szOkL : List It → Prop
  | [] => True
  | x :: l => szOk x ∧ szOkL l
end
theorem szOk_eq (x : It) : szOk x ↔ (x.b.length ≤ 140737488355328 ∧ x.s.size ≤ 140737488355328) ∧ szOkL x.l := by cases x; exact Iff.rfl
theorem szOkL_mem : ∀ {l : List It} {x : It}, szOkL l → x ∈ l → szOk x
  | y :: l, x, h, hx => by
    simp only [szOkL] at h
    rcases List.mem_cons.1 hx with rfl | hx
    · exact h.1
    · exact szOkL_mem h.2 hx
theorem cnt_sum (x : It) : cnt x = 1 + x.b.length + x.s.size + cntL x.l := by cases x; rfl
theorem cntL_take {l : List It} {j : Nat} (h : j < l.length) : cntL (l.take (j + 1)) = cntL (l.take j) + cnt l[j] := by
  rw [List.take_succ_eq_append_getElem h, cntL_app]; simp [cntL]
end Cb
/-- What count tells. -/
def CntE (x : It) (w : World) (en : Ending) (w' : World) : Prop := Below w.heap.size w w' ∧ ∃ v : Int, en = .returned (.int .i64 v) ∧ (0 ≤ v ∧ v ≤ 3001) ∧ (v ≤ 3000 → (cnt x : Int) ≤ v)
abbrev CntC (S : Nat → Prop) (x : It) : Prop := ∀ (m : Nat) (r : Rw) (w : World), m ≤ 100 → ItR S w x r → szOk x → Calls Tryd.prog 17 #[rwV r, .int .i64 m] w (CntE x w)
set_option maxHeartbeats 4000000 in
set_option maxRecDepth 100000 in
theorem count_c (S : Nat → Prop) (x : It) : CntC S x := by
  induction x using It.ind with
  | h x ih =>
    intro m r w hm hr hsz
    obtain ⟨rows, p⟩ := hr.parts
    have hu := p.l
    have hea := p.each
    have hln := p.each.len
    have hlm := p.l.1.n_max
    obtain ⟨hsz1, hsz2⟩ := (szOk_eq x).1 hsz
    obtain ⟨k1, n1, ba1, bc1, s1, la1, lc1, rfl⟩ := hr.shape2
    have hs3 := p.s
    simp only at hu hs3
    have hcn := Lib.hid (cnt_sum x)
    have hB1 := below_alloc w (.cells (rwC ⟨k1, n1, .slice ba1 x.b.length bc1, s1, .slice la1 x.l.length lc1⟩).toArray 28)
    have e1 := rangeAt_new w (rwC ⟨k1, n1, .slice ba1 x.b.length bc1, s1, .slice la1 x.l.length lc1⟩) 28 (0, 0)
    rw [← hs3] at hsz1 hcn
    clear p hr hsz hs3
    generalize hbn : x.b.length = bn at *
    generalize hsn : s1.size = sn at *
    generalize hn : x.l.length = n at *
    have Hn := Lib.hid hn
    clear hn hbn
    have hsn2 := Lib.hid hsn
    have b2 := e1 2 _ rfl
    have b3 := e1 3 _ rfl
    have b4 := e1 4 _ rfl
    simp only [Nat.zero_add] at b2 b3 b4
    have hz1 : (w.alloc (.cells (rwC ⟨k1, n1, .slice ba1 bn bc1, s1, .slice la1 n lc1⟩).toArray 28)).heap.size = w.heap.size + 1 := World.size_alloc _ _
    go_enter Tryd.func17, Tryd.ntmps17
    go_wp2
    go_loopw [5, 6] (fun c i wr => ∃ (j : Nat) (nv : Int), j ≤ n ∧ i = .int .i64 j ∧ c = .int .i64 nv ∧ (0 ≤ nv ∧ nv ≤ 1125899906842624) ∧ RowKit.Hid (nv ≤ 3000 → ((1 + bn + sn + cntL (x.l.take j) : Nat) : Int) ≤ nv) ∧ Below (w.heap.size + 1) (w.alloc (.cells (rwC ⟨k1, n1, .slice ba1 bn bc1, s1, .slice la1 n lc1⟩).toArray 28)) wr) (fun _ i _ => n - (intOf i).toNat)
    case atStart => exact ⟨0, 1 + bn + sn, Nat.zero_le _, rfl, by go_num, by omega, Lib.hid (fun _ => by simp [cntL]), Below.refl _ _⟩
    case round =>
      clear b2 b3 b4
      obtain ⟨j, nv, hj, rfl, rfl, ⟨hv0, hv1⟩, Hc, hB⟩ := hrel
      have hBw := below_up hB1 (by rw [hz1]; exact hB)
      have hc1 := rangeAt_up (by rw [hz1]; exact hB) e1 4 _ rfl
      simp only [Nat.zero_add] at hc1
      by_cases hlt : j < n
      · by_cases hle : nv ≤ 3000
        · have hle1 : decide (nv ≤ 3000) = true := decide_eq_true hle
          cases m with
          | zero =>
            go_wp2
            go_ret
            exact ⟨hBw, 3001, rfl, by decide, fun h => absurd h (by decide)⟩
          | succ m =>
            have hmz : (((m + 1 : Nat) : Int) == 0) = false := by rw [beq_eq_false_iff_ne]; omega
            have hmw : IntKind.i64.wrap (((m + 1 : Nat) : Int) - 1) = (m : Int) := by rw [wrap_i64 (by omega) (by omega)]; omega
            obtain ⟨M, hM⟩ : ∃ M : Int, ((m + 1 : Nat) : Int) = M := ⟨_, rfl⟩
            rw [hM] at hmz hmw
            simp only [hM]
            have hM0 : 0 < M := by omega
            have hM1 : M ≤ 1000 := by omega
            have HM := Lib.hid hM
            clear hM
            have hl' : j < x.l.length := by rw [Hn.out]; exact hlt
            have hr' : j < rows.length := by omega
            obtain ⟨b, off, rfl, hr⟩ := (hu.1.up hBw).rec_at (cells := rwC) (sz := 5) (fun _ => rfl) hlt hr'
            have hs1 := Lib.hid (cntL_take hl')
            have hcl := ih x.l[j] (List.getElem_mem hl') m rows[j] wr (by omega) ((hea.get hl' hr').up hBw) (szOkL_mem hsz2 (List.getElem_mem hl'))
            have hsx := (hea.get hl' hr').shape
            generalize rows[j] = rx at *
            obtain ⟨ka, na, baa, bna, bca, sa, laa, lna, lca, rfl⟩ := hsx
            go_wp2_with (first
              | (refine wpList_load_mid rfl 28 (.tmp 32) rfl b (off + j * 5) rfl (rwC ⟨ka, na, .slice baa bna bca, sa, .slice laa lna lca⟩) _ hr Tryd.underlying28 rfl (by kernel_rfl) ?_)
              | (go_at_call 17; refine hcl.mono ?_; rintro en w4 ⟨hb4, v4, rfl, ⟨hv40, hv41⟩, hv42⟩; have hv42 := Lib.hid hv42))
            go_roundw
            case rel =>
              refine ⟨j + 1, nv + v4, by omega, by go_num, by go_num, by omega, Lib.hid (fun h => ?_), hB.trans (hb4.mono (by have := hB.size; omega))⟩
              have h1 := Hc.out hle
              have h2 := hv42.out (by omega)
              rw [hs1.out]
              omega
            case measure => simp [intOf]; omega
        · have hle1 : decide (nv ≤ 3000) = false := decide_eq_false hle
          have hmin : (if nv < 3001 then nv else 3001) = 3001 := if_neg (by omega)
          have hmin2 : min nv 3001 = 3001 := by omega
          clear Hc
          go_wp2
          go_ret
          exact ⟨hBw, 3001, rfl, by decide, fun h => absurd h (by decide)⟩
      · obtain rfl : j = n := by omega
        have Hall := Lib.hid (show x.l.take j = x.l from List.take_of_length_le (by rw [Hn.out]; exact Nat.le_refl _))
        by_cases hle : nv ≤ 3000
        · have hmin : (if nv < 3001 then nv else 3001) = nv := if_pos (by omega)
          have hmin2 : min nv 3001 = nv := by omega
          have HV := Lib.hid (And.intro hle (And.intro hv0 hv1))
          go_wp2
          go_ret
          refine ⟨hBw, nv, rfl, by have := HV.out; omega, fun _ => ?_⟩
          have h1 := Hc.out hle
          rw [Hall.out] at h1
          rw [hcn.out]
          exact h1
        · have hmin : (if nv < 3001 then nv else 3001) = 3001 := if_neg (by omega)
          have hmin2 : min nv 3001 = 3001 := by omega
          go_wp2
          go_ret
          exact ⟨hBw, 3001, rfl, by decide, fun h => absurd h (by decide)⟩
end Go.Proofs.YtjenohodgpmchaaDoor

namespace Go.Proofs.YtjenohodgpmchaaDoor
open Go.RowKit Cb
set_option linter.unusedSimpArgs false
set_option linter.unusedVariables false
namespace Cb
abbrev It0 : It := .mk 0 0 [] noS []
def decIt (b : List UInt8) : It := match decP b with | .ok x => x | .error _ => It0
def decErr (b : List UInt8) : Int := match decP b with | .ok _ => 0 | .error e => e
def fstIt (b : List UInt8) : It := match firstP b with | .ok p => p.1 | .error _ => It0
def fstMany (b : List UInt8) : Nat := match firstP b with | .ok p => p.2 | .error _ => 0
def fstErr (b : List UInt8) : Int := match firstP b with | .ok _ => 0 | .error e => e
theorem decP_error {b : List UInt8} {e : Int} (h : decP b = .error e) : e = 3 ∨ e = 120 ∨ e = 121 := by
  unfold decP at h
  split at h
  · rename_i e' hf
    cases h
    exact firstP_error hf
  · split at h
    · cases h
    · cases h; exact .inr (.inr rfl)
theorem decErr_cs (b : List UInt8) : decErr b = 0 ∨ decErr b = 3 ∨ decErr b = 120 ∨ decErr b = 121 := by
  unfold decErr
  split
  · exact .inl rfl
  · rename_i e h; exact .inr (decP_error h)
theorem fstErr_cs (b : List UInt8) : fstErr b = 0 ∨ fstErr b = 3 ∨ fstErr b = 120 ∨ fstErr b = 121 := by
  unfold fstErr
  split
  · exact .inl rfl
  · rename_i e h; exact .inr (firstP_error h)
theorem cnt0 : cnt It0 ≤ 65536 := by decide
theorem decIt_cnt (b : List UInt8) : cnt (decIt b) ≤ 65536 := by
  unfold decIt
  split
  · rename_i x h; exact (dec_got h).2.2.1
  · exact cnt0
theorem fstIt_cnt (b : List UInt8) : cnt (fstIt b) ≤ 65536 := by
  unfold fstIt
  split
  · rename_i p h; exact (first_got (k := p.2) h).2.2
  · exact cnt0
theorem dec_ok {b : List UInt8} (h : decErr b = 0) : bytesOf (decIt b) = b ∧ chk (decIt b) = 0 ∧ rightB (decIt b) = true := by
  unfold decErr at h
  unfold decIt
  split at h
  · rename_i x hx
    have := dec_got hx
    exact ⟨this.1, this.2.1, this.2.2.2.1⟩
  · rename_i e hx
    have := decP_error hx
    omega
theorem fst_ok {b : List UInt8} (h : fstErr b = 0) : bytesOf (fstIt b) = b.take (fstMany b) ∧ chk (fstIt b) = 0 ∧ rightB (fstIt b) = true ∧ 1 ≤ fstMany b ∧ fstMany b ≤ b.length := by
  unfold fstErr at h
  unfold fstIt fstMany
  split at h
  · rename_i p hx
    have := first_got (k := p.2) hx
    have h2 := firstP_some (k := p.2) hx
    exact ⟨this.1.bytes, this.2.1, this.1.right, h2.1, h2.2.1⟩
  · rename_i e hx
    have := firstP_error hx
    omega
end Cb
/-- An item that lies above g. -/
def ItG (g : Nat) (w : World) (x : It) (r : Rw) : Prop := ItR (fun k => g < k ∧ k < w.heap.size) w x r
theorem ItG.up {g : Nat} {w w' : World} {x : It} {r : Rw} (h : ItG g w x r) (hb : Below w.heap.size w w') : ItG g w' x r := (ItR.up h hb).mono fun k hk => ⟨hk.1, Nat.lt_of_lt_of_le hk.2 hb.size⟩
theorem ItG.but {g : Nat} {w w' : World} {x : It} {r : Rw} (h : ItG g w x r) (hb : But (fun k => k = g) w w') : ItG g w' x r := (ItR.but h hb (fun k hk e => by omega)).mono fun k hk => ⟨hk.1, Nat.lt_of_lt_of_le hk.2 hb.size⟩
theorem ItG.of {g : Nat} {w w' : World} {x : It} {r : Rw} (h : ItR (fun j => w.heap.size ≤ j ∧ j < w'.heap.size) w' x r) (hg : g < w.heap.size) : ItG g w' x r := h.mono fun k hk => ⟨by omega, hk.2⟩
theorem zero_it {S : Nat → Prop} {w : World} : ItR S w It0 ⟨0, 0, .slice none 0 0, ⟨#[]⟩, .slice none 0 0⟩ := itR_flat (by decide) (by decide) slS_nil
def DecU (g : Nat) (b : List UInt8) (w : World) (en : Ending) (w' : World) : Prop := Below w.heap.size w w' ∧ ∃ k n ba bn bc s la ln lc, en = .returned (.tuple #[rwV ⟨k, n, .slice ba bn bc, s, .slice la ln lc⟩, .int .i64 (decErr b)]) ∧ ItG g w' (decIt b) ⟨k, n, .slice ba bn bc, s, .slice la ln lc⟩
theorem decU_of {g : Nat} {b : List UInt8} {w w' : World} {en : Ending} (h : DecE b w en w') (hg : g < w.heap.size) : DecU g b w en w' := by
  refine ⟨h.1, ?_⟩
  have h2 := h.2
  unfold decErr decIt
  cases hd : decP b with
  | error e => rw [hd] at h2; exact ⟨_, _, _, _, _, _, _, _, _, h2, zero_it⟩
  | ok x =>
    rw [hd] at h2
    obtain ⟨r, e, hr⟩ := h2
    have hsh := hr.shape
    obtain ⟨k, n, ba, bn, bc, s, la, ln, lc, rfl⟩ := hsh
    exact ⟨_, _, _, _, _, _, _, _, _, e, ItG.of hr hg⟩
def FstU (g : Nat) (b : List UInt8) (w : World) (en : Ending) (w' : World) : Prop := Below w.heap.size w w' ∧ ∃ k n ba bn bc s la ln lc, en = .returned (.tuple #[rwV ⟨k, n, .slice ba bn bc, s, .slice la ln lc⟩, .int .i64 (fstMany b : Int), .int .i64 (fstErr b)]) ∧ ItG g w' (fstIt b) ⟨k, n, .slice ba bn bc, s, .slice la ln lc⟩
theorem fstU_of {g : Nat} {b : List UInt8} {w w' : World} {en : Ending} (h : FstE b w en w') (hg : g < w.heap.size) : FstU g b w en w' := by
  refine ⟨h.1, ?_⟩
  have h2 := h.2
  unfold fstErr fstIt fstMany
  cases hd : firstP b with
  | error e => rw [hd] at h2; exact ⟨_, _, _, _, _, _, _, _, _, h2, zero_it⟩
  | ok p =>
    rw [hd] at h2
    obtain ⟨r, e, hr⟩ := h2
    have hsh := hr.shape
    obtain ⟨k, n, ba, bn, bc, s, la, ln, lc, rfl⟩ := hsh
    exact ⟨_, _, _, _, _, _, _, _, _, e, ItG.of hr hg⟩
end Go.Proofs.YtjenohodgpmchaaDoor

namespace Go.Proofs.YtjenohodgpmchaaDoor
open Go.RowKit Cb
set_option linter.unusedSimpArgs false
set_option linter.unusedVariables false
set_option maxHeartbeats 1000000 in
set_option maxRecDepth 100000 in
theorem check_c (S : Nat → Prop) (x : It) (r : Rw) (w : World) (hr : ItR S w x r) (hcx : cnt x ≤ 1000000) (hkw : kwB x) (hT : Tabs w) (hSk : ∀ k, S k → k < w.heap.size) : Calls Tryd.prog 20 #[rwV r] w (Ret (.int .i64 (chk x)) w) := by
  obtain ⟨k1, n1, ba1, bn1, bc1, s1, la1, ln1, lc1, rfl⟩ := hr.shape
  have hB := below_alloc w (.cells (rwC ⟨k1, n1, .slice ba1 bn1 bc1, s1, .slice la1 ln1 lc1⟩).toArray 28)
  have hen := encode_c S x _ _ (hr.up hB) hcx hkw (hT.up hB) (fun k hk => by have := hSk k hk; have := hB.size; omega)
  go_enter Tryd.func20, Tryd.ntmps20
  go_wp2_with (go_at_call 15; refine hen.mono ?_; rintro en w1 ⟨hb, v, rfl, _, _⟩)
  go_ret
  exact ⟨rfl, below_up hB hb⟩
end Go.Proofs.YtjenohodgpmchaaDoor

namespace Go.Proofs.YtjenohodgpmchaaDoor
open Go.RowKit Go.ChangeAt
set_option linter.unusedSimpArgs false
set_option linter.unusedVariables false

theorem bytes_of {H : Type} {enc : TypeId × Value → H} {w : World} {base : Nat} {spare : Nat → Bool} {held : Bool} {T : TypeId} (ht : Tryd.prog.underlying T = some (.int .u8)) {v : Value} {n : Nat} {vs : List Value} (hsl : Sl w 1 v n vs)
    (hl : ∀ i, i < n → ∀ (j : Nat) (U : TypeId), [T][j]? = some U → ∃ c, vs[i * 1 + j]? = some c ∧ Leaf enc Tryd.prog w base spare held U c) : ∃ l, vs = by8 l := by
  have hlen : vs.length = n := by have := hsl.1; omega
  have : ∀ (vs : List Value), (∀ i, i < vs.length → ∃ x : UInt8, vs[i]? = some (.int .u8 (x.toNat : Int))) → ∃ l, vs = by8 l := by
    intro vs
    induction vs with
    | nil => intro _; exact ⟨[], rfl⟩
    | cons u vs ih =>
      intro h
      obtain ⟨x, hx⟩ := h 0 (by simp)
      obtain ⟨l, hl⟩ := ih (fun i hi => by have := h (i + 1) (by simpa using hi); simpa using this)
      simp at hx
      exact ⟨x :: l, by rw [hx, hl]; rfl⟩
  refine this vs (fun i hi => ?_)
  obtain ⟨c, hc, hL⟩ := hl i (by omega) 0 T rfl
  obtain ⟨m, rfl, hm⟩ := hL.int ht
  simp [Lit.wf, IntKind.min, IntKind.max, IntKind.signed, IntKind.bits] at hm
  refine ⟨UInt8.ofNat m.toNat, ?_⟩
  have e : ((UInt8.ofNat m.toNat).toNat : Int) = m := by simp only [UInt8.toNat_ofNat']; omega
  rw [e]
  simpa using hc

theorem weightsAll_mem {H : Type} {P : Program} {e : TypeId} {ds : List (DataW H)} {d : DataW H} (hd : d ∈ ds) {n : Nat} (hn : n ∈ d.weights P e) : n ∈ DataW.weightsAll P e ds := by
  induction ds with
  | nil => cases hd
  | cons d0 ds ih =>
    simp only [DataW.weightsAll, List.mem_append]
    rcases List.mem_cons.1 hd with rfl | h
    · exact .inl hn
    · exact .inr (ih h)

/-- A LIST OF LISTS OF BYTES, OPENED. -/
theorem open_lists {H : Type} {enc : TypeId × Value → H} {w : World} {base : Nat} {spare : Nat → Bool} {held : Bool} {t e b : TypeId} {fuel : Nat} {cs : List Value} {x : DataW H × List MemPlace}
    (ht : Tryd.prog.underlying t = some (.slice e)) (he : Tryd.prog.underlying e = some (.slice b)) (hb : Tryd.prog.underlying b = some (.int .u8)) (hls : leaves Tryd.prog 12 b = some [b])
    (c1 : Tryd.prog.cellsOf e = 1) (c2 : Tryd.prog.cellsOf b = 1) (hbb : Tryd.prog.bytesOf b = 1)
    (h : DataW.trod enc Tryd.prog w base spare held fuel t cs = some x) (hw : ∀ n ∈ x.1.weights Tryd.prog t, n ≤ reachBytes) :
    ∃ a len cap vs ls, cs = [.slice a len cap] ∧ SlB w (.slice a len cap) len vs ls ∧ ∀ l ∈ ls, l.length ≤ 140737488351232 := by
  rcases Go.Deep.open_slice1 ht c1 h with ⟨rfl, rfl⟩ | ⟨a, len, cap, m, n, V, D, Pl, rfl, hba, hl, hm, hmm, rfl, hall⟩
  · exact ⟨none, 0, 0, [], [], rfl, ⟨Sl.nil _ _, rfl, fun i u l h => by simp at h⟩, fun l h => by cases h⟩
  · have hlm : len ≤ m := by rw [hmm]; split <;> omega
    have hin : ∀ i, i < len → ∃ l : List UInt8, Sl w 1 (V i) l.length (by8 l) ∧ l.length ≤ 140737488351232 := fun i hi => by
      obtain ⟨_, htr⟩ := hall i (by omega)
      obtain ⟨a', len', cap', us, hcs, hsl, hlf, hnl⟩ := open_flat (ls := [b]) (sz := 1) he hls rfl c2 (by decide) htr
      simp only [List.cons.injEq, and_true] at hcs
      obtain ⟨l, rfl⟩ := bytes_of hb hsl hlf
      have hln := hsl.n_len
      refine ⟨l, by rw [hcs, hln]; exact hsl, ?_⟩
      rcases hnl with ⟨_, h0⟩ | ⟨es, sp, h1, h2⟩
      · omega
      · have hmem : (es.length + sp.length) * Tryd.prog.bytesOf b ∈ (DataW.slice ((List.range len).map D) ((List.range (m - len)).map fun j => D (len + j))).weights Tryd.prog t := by
          simp only [DataW.weights, ht, List.mem_cons, List.mem_append]
          refine .inr (.inl (weightsAll_mem (d := D i) (List.mem_map.2 ⟨i, List.mem_range.2 hi, rfl⟩) ?_))
          rw [show D i = DataW.slice es sp from h1]
          simp [DataW.weights, he]
        have := hw _ hmem
        rw [hbb] at this
        simp only [reachBytes] at this
        omega
    obtain ⟨F, hF⟩ := Go.Deep.choose_lt (n := len) (p := fun i (l : List UInt8) => Sl w 1 (V i) l.length (by8 l) ∧ l.length ≤ 140737488351232) hin
    refine ⟨some a, len, cap, (List.range len).map V, (List.range len).map F, rfl, ⟨⟨by simp, ?_⟩, by simp, fun i u l h1 h2 => ?_⟩, fun l hl => ?_⟩
    · by_cases hz : len = 0
      · exact .inl ⟨_, _, by rw [hz], hz⟩
      · right
        have hspot : a.spot = none := by
          have h1 := (hall 0 (by omega)).1
          have := World.cell?_spot h1
          simpa [Addr.add] using this
        obtain ⟨bb, off, spot⟩ := a
        simp only at hspot
        subst hspot
        refine ⟨bb, off, cap, rfl, hl, hm, fun j u hj => ?_⟩
        obtain ⟨hjl, hj⟩ := List.getElem?_eq_some_iff.1 hj
        simp only [List.length_map, List.length_range] at hjl
        simp only [List.getElem_map, List.getElem_range] at hj
        have h1 := (hall j (by omega)).1
        rw [hj, Addr.add_lit] at h1
        exact h1
    · obtain ⟨hil, rfl⟩ := List.getElem?_eq_some_iff.1 h1
      obtain ⟨hil', rfl⟩ := List.getElem?_eq_some_iff.1 h2
      simp only [List.length_map, List.length_range] at hil
      simp only [List.getElem_map, List.getElem_range]
      exact (hF i hil).1
    · obtain ⟨i, hi, rfl⟩ := List.mem_map.1 hl
      exact (hF i (List.mem_range.1 hi)).2
end Go.Proofs.YtjenohodgpmchaaDoor

namespace Go.Proofs.YtjenohodgpmchaaDoor
open Go.RowKit

/-- Cells that are, place by place, those of some record, are those of a list of records. -/
theorem recs_of {α : Type} {cells : α → List Value} {good : α → Prop} {sz : Nat} (hsz : ∀ x, (cells x).length = sz) : ∀ (n : Nat) (vs : List Value), vs.length = n * sz →
    (∀ i, i < n → ∃ x, good x ∧ ∀ j, j < sz → vs[i * sz + j]? = (cells x)[j]?) → ∃ l : List α, vs = l.flatMap cells ∧ ∀ x ∈ l, good x
  | 0, vs, hl, _ => ⟨[], by simpa using hl, fun x hx => by cases hx⟩
  | n + 1, vs, hl, h => by
    obtain ⟨x, hx, hj⟩ := h 0 (by omega)
    have hln : sz ≤ vs.length := by rw [hl, Nat.add_mul]; omega
    obtain ⟨l, hl1, hl2⟩ := recs_of (good := good) hsz n (vs.drop sz) (by rw [List.length_drop, hl, Nat.add_mul]; omega) (fun i hi => by
      obtain ⟨y, hy, hk⟩ := h (i + 1) (by omega)
      refine ⟨y, hy, fun j hj => ?_⟩
      rw [← hk j hj, List.getElem?_drop, Nat.add_mul]
      congr 1; omega)
    refine ⟨x :: l, ?_, fun y hy => ?_⟩
    · have ht : vs.take sz = cells x := by
        refine List.ext_getElem? fun j => ?_
        rcases Nat.lt_or_ge j sz with h1 | h1
        · have := hj j h1
          rw [Nat.zero_mul, Nat.zero_add] at this
          rw [List.getElem?_take, if_pos h1, this]
        · rw [List.getElem?_take, if_neg (by omega), List.getElem?_eq_none (by rw [hsz]; omega)]
      rw [List.flatMap_cons, ← hl1, ← ht, List.take_append_drop]
    · rcases List.mem_cons.1 hy with rfl | hy
      · exact hx
      · exact hl2 y hy
end Go.Proofs.YtjenohodgpmchaaDoor

namespace Go.Proofs.YtjenohodgpmchaaDoor
open Go.RowKit
set_option linter.unusedVariables false

/-- A range over a function that counts: its counter is the first block behind wr; else nothing of wr turns. -/
structure CtR (wr : World) (k : Nat) (G : Nat → Prop) (W : World) : Prop where
  below : Below wr.heap.size wr W
  cnt : RowAt W wr.heap.size #[.int .i64 k] 3
  g0 : G wr.heap.size
  glow : ∀ j, G j → wr.heap.size ≤ j
theorem CtR.start (wr : World) : CtR wr 0 (· = wr.heap.size) (wr.alloc (.cells #[.int .i64 0] 3)) := ⟨below_alloc _ _, RowAt.new _ _ _, rfl, fun j h => by omega⟩
theorem CtR.abide {wr : World} {k B : Nat} (hB : wr.heap.size ≤ B) : Abide B (CtR wr k) := fun G A C h hb =>
  ⟨h.below.trans (hb.below (fun j e => by have := e.1; omega) h.below.size), (hb.same _ h.cnt.lt (fun e => e.2 h.g0)).trans h.cnt, h.g0, h.glow⟩
theorem CtR.up {wr : World} {k : Nat} {G : Nat → Prop} {W W' : World} (h : CtR wr k G W) (hb : Below W.heap.size W W') : CtR wr k G W' := ⟨below_up h.below hb, h.cnt.below hb, h.g0, h.glow⟩
theorem CtR.alloc {wr : World} {k : Nat} {G : Nat → Prop} {W : World} (h : CtR wr k G W) (o : Obj) : CtR wr k (newG G W (W.alloc o)) (W.alloc o) :=
  ⟨below_up h.below (below_alloc _ _), h.cnt.alloc o, newG_old h.g0, (by
    rintro q (e | e)
    · exact h.glow q e
    · have := h.below.size; omega)⟩
theorem CtR.step {wr : World} {k : Nat} {G : Nat → Prop} {W : World} (h : CtR wr k G W) :
    But G W (W.drew.setCell ⟨wr.heap.size, 0, none⟩ (.int .i64 ((k : Int) + 1))) ∧ CtR wr (k + 1) (newG G W (W.drew.setCell ⟨wr.heap.size, 0, none⟩ (.int .i64 ((k : Int) + 1)))) (W.drew.setCell ⟨wr.heap.size, 0, none⟩ (.int .i64 ((k : Int) + 1))) := by
  have hb : But G W (W.drew.setCell ⟨wr.heap.size, 0, none⟩ (.int .i64 ((k : Int) + 1))) := (But.drew W).trans (But.setCell _ _ _ (.inl h.g0))
  refine ⟨hb, h.below.trans (hb.below h.glow h.below.size), h.cnt.drew.set 0 (.int .i64 ((k : Int) + 1)), newG_old h.g0, ?_⟩
  rintro q (e | e)
  · exact h.glow q e
  · have := h.below.size; omega
/-- .. where the round has not drawn. -/
theorem CtR.stepQ {wr : World} {k : Nat} {G : Nat → Prop} {W : World} (h : CtR wr k G W) :
    But G W (W.setCell ⟨wr.heap.size, 0, none⟩ (.int .i64 ((k : Int) + 1))) ∧ CtR wr (k + 1) (newG G W (W.setCell ⟨wr.heap.size, 0, none⟩ (.int .i64 ((k : Int) + 1)))) (W.setCell ⟨wr.heap.size, 0, none⟩ (.int .i64 ((k : Int) + 1))) := by
  have hb : But G W (W.setCell ⟨wr.heap.size, 0, none⟩ (.int .i64 ((k : Int) + 1))) := But.setCell _ _ _ (.inl h.g0)
  refine ⟨hb, h.below.trans (hb.below h.glow h.below.size), h.cnt.set 0 (.int .i64 ((k : Int) + 1)), newG_old h.g0, ?_⟩
  rintro q (e | e)
  · exact h.glow q e
  · have := h.below.size; omega

/-- What holds at the head of the loop of turns: its variable lies in block T; Ds: the marks. -/
structure TuI (wr : World) (T : Nat) (tn : Int) (Ds : List Nat) (W : World) : Prop where
  below : Below wr.heap.size wr W
  turn : RowAt W T #[.int .i64 tn] 3
  low : wr.heap.size ≤ T
  marks : ∀ D ∈ Ds, W.heap[D]? = some (.deferred (some [])) ∧ wr.heap.size ≤ D
  nodup : Ds.Nodup
theorem TuI.start (wr : World) : TuI wr wr.heap.size 0 [] (wr.alloc (.cells #[.int .i64 0] 3)) := ⟨below_alloc _ _, RowAt.new _ _ _, Nat.le_refl _, (fun D hD => by cases hD), List.nodup_nil⟩
theorem TuI.up {wr : World} {T : Nat} {tn : Int} {Ds : List Nat} {W W' : World} (h : TuI wr T tn Ds W) (hb : Below W.heap.size W W') : TuI wr T tn Ds W' :=
  ⟨below_up h.below hb, h.turn.below hb, h.low, fun D hd => ⟨(hb.block D (Array.getElem?_eq_some_iff.1 (h.marks D hd).1).1).trans (h.marks D hd).1, (h.marks D hd).2⟩, h.nodup⟩
theorem TuI.lt {wr : World} {T : Nat} {tn : Int} {Ds : List Nat} {W : World} (h : TuI wr T tn Ds W) : ∀ D ∈ Ds, D < W.heap.size := fun D hd => (Array.getElem?_eq_some_iff.1 (h.marks D hd).1).1
/-- A turn's end: one more mark, the variable anew. -/
theorem TuI.next {wr : World} {T : Nat} {tn : Int} {Ds : List Nat} {W W3 : World} (h : TuI wr T tn Ds W) (hb : Below W.heap.size W W3) {D : Nat} (hD : W3.heap[D]? = some (.deferred (some []))) (hl : W.heap.size ≤ D) (v : Int) :
    TuI wr W3.heap.size v (D :: Ds) (W3.alloc (.cells #[.int .i64 v] 3)) :=
  have h3 := h.up hb
  have hn : D ∉ Ds := fun e => by have := h.lt D e; omega
  have hb4 := below_alloc W3 (.cells #[.int .i64 v] 3)
  ⟨below_up h3.below hb4, RowAt.new _ _ _, h3.below.size, fun D' hD' => by
    rcases List.mem_cons.1 hD' with rfl | hD'
    · exact ⟨(hb4.block D' (Array.getElem?_eq_some_iff.1 hD).1).trans hD, by have := h.below.size; omega⟩
    · exact ⟨(hb4.block D' (Array.getElem?_eq_some_iff.1 (h3.marks D' hD').1).1).trans (h3.marks D' hD').1, (h.marks D' hD').2⟩, List.nodup_cons.2 ⟨hn, h.nodup⟩⟩
end Go.Proofs.YtjenohodgpmchaaDoor

namespace Go.Proofs.YtjenohodgpmchaaDoor
open Go.RowKit
set_option linter.unusedSimpArgs false
set_option linter.unusedVariables false
theorem wp_cut {P : Program} {c : Code} {Q : Exit → Act → World → Prop} {a : Act} {w : World} (J : Act → World → Prop) (h1 : c.wp P (onlyN fun _ a w => J a w) a w) (h2 : ∀ a' w', J a' w' → Q .normal a' w') : c.wp P Q a w :=
  Code.wp_mono (fun e a' w' he => by obtain ⟨rfl, h⟩ := he; exact h2 _ _ h) h1
/-- A range over a function that may be left by 'break': both ways go on alike. -/
theorem wp_range_brk {P : Program} {n id : Nat} {g : Operand} {ps : Array Tmp} {assign body : Code} {R : Exit → Act → World → Prop} {a : Act} {w : World}
    {gf : Nat} {lb : Array Value} (hg : a.eval g = .func (.func gf) #[] lb) (eg : ∀ args w, (callFunc gf args).run P w = .ok (.enter gf args) w)
    {args : Nat → Array Value} {N : Nat} {S : Nat → Prop} {w0 : World} (hseq : SeqX P gf lb args N S w0) (hb0 : Below w0.heap.size w0 w) (hps : ∀ k, (args k).size = ps.size)
    (G0 : Nat → Prop) (hG0 : ∀ k, G0 k → k < w.heap.size) (hS : ∀ k, S k → k < w.heap.size ∧ ¬ G0 k)
    (I : Nat → (Nat → Prop) → World → Prop) (Im : Nat → Act → (Nat → Prop) → World → Prop) (X : Nat → (Nat → Prop) → World → Prop) (hI : ∀ k, Abide w.heap.size (I k)) (hIm : ∀ k a', Abide w.heap.size (Im k a')) (hX : ∀ k, Abide w.heap.size (X k)) (h0 : I 0 G0 w)
    (hassign : ∀ (l k : Nat) (G : Nat → Prop) (W : World) (K : Act → World → Prop), k < N → I k G W → (∀ a' W', But G W W' → Im k a' (newG G W W') W' → K a' W') →
      assign.wpIn (Fence.wide.inRound l) n P (Exit.then K (fun _ _ _ => False)) { tmps := (ps.zip (args k)).foldl (fun t (p, v) => t.setIfInBounds p v) a.tmps, defers := [] } W)
    (hbody : ∀ (l k : Nat) (a' : Act) (G : Nat → Prop) (W : World), k < N → w.heap.size ≤ l → (∃ r, W.heap[l]? = some (.loop r)) → ¬ G l → Im k a' G W → body.wpIn (Fence.wide.inRound l) n P (endX I (fun c k G W => c = .exit id ∧ X k G W) (k + 1) G W) a' W)
    (hend : ∀ (D : Nat) (G : Nat → Prop) (W : World) (k : Nat), w.heap.size ≤ D → ¬ G D → (k = N ∧ I k G W ∨ k ≤ N ∧ X k G W) → W.heap[D]? = some (.deferred (some [])) → R .normal { a with defers := { target := .collected D, args := #[] } :: a.defers } W) :
    (Code.rangeFunc g ps assign body).wpIn Fence.wide n P (Exit.inBlock id R) a w :=
  wp_range hg eg hseq hb0 hps G0 hG0 hS I Im (fun c k G W => c = .exit id ∧ X k G W) hI hIm (fun c k G A B h hb => ⟨h.1, hX k G A B h.2 hb⟩) h0 hassign hbody
    (fun D G W h1 h2 h3 h4 => hend D G W N h1 h2 (.inl ⟨rfl, h3⟩) h4)
    (fun D c k G W h1 h2 h3 h4 h5 => by
      obtain ⟨rfl, hx⟩ := h4
      refine wpIn_exit ?_
      simp only [Exit.inBlock, if_true]
      exact hend D G W (k + 1) h1 h2 (.inr ⟨h3, hx⟩) h5)
theorem max_int2 (a b : Int) (ts : Array TypeId) (t : TypeId) (w : World) : (Builtin.max_ ts t #[.int .i64 a, .int .i64 b]).run Tryd.prog w = .ok (.int .i64 (if a < b then b else a)) w := by
  rw [run_max_int2]
theorem min_int2 (a b : Int) (ts : Array TypeId) (t : TypeId) (w : World) : (Builtin.min_ ts t #[.int .i64 a, .int .i64 b]).run Tryd.prog w = .ok (.int .i64 (if b < a then b else a)) w := by
  rw [run_min_int2]
end Go.Proofs.YtjenohodgpmchaaDoor
