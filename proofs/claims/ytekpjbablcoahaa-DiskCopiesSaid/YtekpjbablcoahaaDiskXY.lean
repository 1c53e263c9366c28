/-
  DiskX, DiskY: several texts in one (merge.py).
-/
import Derived.Test.YtekpjbablcoahaaDiskW
import Derived.Test.YtekpjbablcoahaaDiskU
import Derived.Test.YtekpjbablcoahaaDiskV
import Derived.Test.YtekpjbablcoahaaDiskT
namespace Go.Proofs.Ytekpjbablcoahaa
open Go.RowKit Go.Maps Dk
set_option linter.unusedSimpArgs false
set_option linter.unusedVariables false

/-- A call. -/
structure Dk.Ac where
  what : Int
  sec : Int
  more : Int
  byte : UInt8
  ka : Option Addr
  kn : Nat
  kc : Nat
  keep : List Bool
abbrev acC (x : Ac) : List Value := [.int .i64 x.what, .int .i64 x.sec, .int .i64 x.more, .int .u8 (x.byte.toNat : Int), .slice x.ka x.kn x.kc]
abbrev acV (x : Ac) : Value := .agg (acC x).toArray
/-- What a call keeps lies in a world; its numbers are such. -/
structure AcAt (w : World) (x : Ac) : Prop where
  sl : Sl w 1 (.slice x.ka x.kn x.kc) x.kn (x.keep.map Value.bool)
  sec_wf : (Lit.int .i64 x.sec).wf = true
  more_wf : (Lit.int .i64 x.more).wf = true
theorem AcAt.up {w w' : World} {x : Ac} (h : AcAt w x) (hb : Below w.heap.size w w') : AcAt w' x := ⟨h.sl.up hb, h.sec_wf, h.more_wf⟩
def Dk.acOk (x : Ac) : Bool := !(decide (60 < x.kn) || (decide (x.what = 0) && decide (100 < x.more)))
def Dk.fewB (l : List Ac) (most : Nat) : Bool := l.all acOk && decide (l.length ≤ most)
set_option maxHeartbeats 2000000 in
set_option maxRecDepth 100000 in
theorem dFew_c (l : List Ac) (most : Nat) (hm : most ≤ 1000) (v : Value) (n : Nat) (w : World) (hv : Sl w 5 v n (l.flatMap acC)) :
    Calls Try.prog 18 #[v, .int .i64 (most : Int)] w (Ret (.bool (fewB l most)) w) := by
  obtain ⟨R, hR⟩ : ∃ R, R = fewB l most := ⟨_, rfl⟩
  rw [← hR]
  have HR := Lib.hid hR
  clear hR
  have Hln := Lib.hid (Sl.recs (cells := acC) (sz := 5) (fun _ => rfl) (by decide) hv)
  have hn := hv.n_max
  obtain ⟨a, c, rfl⟩ := hv.len
  go_enter Try.func18, Try.ntmps18
  go_wp2
  go_loopw [5] (fun i wr => ∃ j : Nat, j ≤ n ∧ i = .int .i64 j ∧ RowKit.Hid (∀ k, ∀ hk : k < l.length, k < j → acOk l[k] = true) ∧ Below w.heap.size w wr) (fun i _ => n - (intOf i).toNat)
  case atStart => exact ⟨0, Nat.zero_le _, rfl, Lib.hid (fun k hk h => by omega), Below.refl _ _⟩
  case round =>
    obtain ⟨j, hj, rfl, Hok, hB⟩ := hrel
    by_cases hlt : j < n
    · have hl' : j < l.length := by rw [Hln.out]; exact hlt
      have hltI : (j : Int) < (n : Int) := by omega
      obtain ⟨b, off, rfl, hr⟩ := (hv.up hB).rec_at (cells := acC) (sz := 5) (fun _ => rfl) hlt hl'
      have Hst := Lib.hid (fun h : acOk l[j] = true => (fun k hk hkj => by
        rcases Nat.lt_or_ge k j with h' | h'
        · exact Hok.out k hk h'
        · obtain rfl : k = j := by omega
          exact h : ∀ k, ∀ hk : k < l.length, k < j + 1 → acOk l[k] = true))
      have Hno := Lib.hid (fun h : acOk l[j] = false => show R = false by
        rw [HR.out]
        unfold fewB
        rw [Bool.and_eq_false_iff]
        refine .inl (List.all_eq_false.2 ⟨l[j], List.getElem_mem hl', by rw [h]; decide⟩))
      generalize l[j] = x at *
      obtain ⟨what, sec, more, byte, ka, kn, kc, keep⟩ := x
      have r0 := hr 0 _ rfl
      have r2 := hr 2 _ rfl
      have r4 := hr 4 _ rfl
      simp only [Nat.add_zero] at r0
      clear hr
      have hB' := hB.drew
      by_cases h1 : 60 < kn
      · have i1 : (60 : Int) < (kn : Int) := by omega
        have Hf := Lib.hid (Hno.out (by unfold acOk; simp [h1]))
        clear h1 Hno Hst
        go_wp2
        go_ret
        exact ⟨retB Hf.out.symm, by first | exact hB | exact hB'⟩
      · have i1 : ¬ (60 : Int) < (kn : Int) := by omega
        have d1 : decide ((60 : Int) < (kn : Int)) = false := decide_eq_false i1
        by_cases h2 : what = 0
        · subst h2
          by_cases h3 : 100 < more
          · have d3 : decide (100 < more) = true := decide_eq_true h3
            have Hf := Lib.hid (Hno.out (by unfold acOk; simp [h1, h3]))
            clear h1 Hno Hst
            go_wp2
            go_ret
            exact ⟨retB Hf.out.symm, by first | exact hB | exact hB'⟩
          · have d3 : decide (100 < more) = false := decide_eq_false h3
            have Hs := Lib.hid (Hst.out (by unfold acOk; simp [h1, h3]))
            clear h1 Hno Hst
            go_wp2
            go_roundw
            case rel => exact ⟨j + 1, by omega, by go_num, Hs, by first | exact hB | exact hB'⟩
            case measure => simp [intOf]; omega
        · have d2 : (what == 0) = false := by simp [h2]
          have Hs := Lib.hid (Hst.out (by unfold acOk; simp [h1, h2]))
          clear h1 Hno Hst
          go_wp2
          go_roundw
          case rel => exact ⟨j + 1, by omega, by go_num, Hs, by first | exact hB | exact hB'⟩
          case measure => simp [intOf]; omega
    · obtain rfl : j = n := by omega
      have HRt : R = decide (j ≤ most) := by
        rw [HR.out]
        unfold fewB
        rw [List.all_eq_true.2 (fun x hx => by
          obtain ⟨k, hk, rfl⟩ := List.getElem_of_mem hx
          exact Hok.out k hk (by rw [← Hln.out]; exact hk)), Hln.out, Bool.true_and]
      have hde : decide ((j : Int) ≤ (most : Int)) = decide (j ≤ most) := by simp
      go_wp2
      go_ret
      exact ⟨retB (by rw [HRt, ← hde]), hB⟩
end Go.Proofs.Ytekpjbablcoahaa

namespace Go.Proofs.Ytekpjbablcoahaa
open Go.RowKit Go.Maps Dk
set_option linter.unusedSimpArgs false
set_option linter.unusedVariables false

theorem Sl.apartV {w : World} {sz n H j : Nat} {v x : Value} {cs : List Value} {rs : Array Value} {T : TypeId} (h : Sl w sz v n cs) (hr : RowAt w H rs T) (hj : cs[j]? = some x) (hx : ∀ i : Nat, rs[i]? ≠ some x) : n = 0 ∨ ∀ k, v.ownBlock = some k → k ≠ H := by
  obtain ⟨hl, ⟨a, c, rfl, h0⟩ | ⟨b, off, cap, rfl, hn, hm, hc⟩⟩ := h
  · exact .inl h0
  · refine .inr fun k hk e => ?_
    have hb : b = k := Option.some.inj hk
    subst hb
    subst e
    have := hc j x hj
    simp only [World.cell?, show w.heap[b]? = _ from hr] at this
    exact hx _ this
theorem Sl.apartN {w : World} {sz n H : Nat} {v : Value} {cs : List Value} {rs : Array Value} {T : TypeId} (h : Sl w sz v n cs) (hr : RowAt w H rs T) (hs : rs.size < sz) : n = 0 ∨ ∀ k, v.ownBlock = some k → k ≠ H := by
  obtain ⟨hl, ⟨a, c, rfl, h0⟩ | ⟨b, off, cap, rfl, hn, hm, hc⟩⟩ := h
  · exact .inl h0
  · rcases Nat.eq_zero_or_pos n with h0 | h0
    · exact .inl h0
    · refine .inr fun k hk e => ?_
      have hb : b = k := Option.some.inj hk
      subst hb
      subst e
      have h1 : 1 * sz ≤ n * sz := Nat.mul_le_mul_right _ h0
      have := hc (sz - 1) cs[sz - 1] (List.getElem?_eq_getElem (by omega))
      simp only [World.cell?, show w.heap[b]? = _ from hr] at this
      rw [Array.getElem?_eq_none (by omega)] at this
      cases this
/-- A value that lies in no disk's variable. -/
def offD (x : Value) : Prop := (∀ k z, x ≠ .int k z) ∧ (∀ m, x ≠ .map m) ∧ ∀ a n c, x ≠ .slice a n c
theorem offD_str (s : ByteArray) : offD (.string s) := ⟨(by simp), (by simp), by simp⟩
theorem offD_bool (s : Bool) : offD (.bool s) := ⟨(by simp), (by simp), by simp⟩
theorem DiskAt.off {w : World} {B M : Nat} {u : Value} {d : Disk} (h : DiskAt w B M u d) {x : Value} (hx : offD x) : ∀ i : Nat, (#[.int .i64 d.left, .int .i64 d.many, .map (some M), u] : Array Value)[i]? ≠ some x := by
  obtain ⟨a, c, rfl⟩ := h.sl.len
  intro i
  match i with
  | 0 => exact fun e => hx.1 _ _ (Option.some.inj e).symm
  | 1 => exact fun e => hx.1 _ _ (Option.some.inj e).symm
  | 2 => exact fun e => hx.2.1 _ (Option.some.inj e).symm
  | 3 => exact fun e => hx.2.2 _ _ _ (Option.some.inj e).symm
  | n + 4 => intro e; rw [Array.getElem?_eq_none (by simp)] at e; cases e
theorem Sl.pastD {w w' : World} {sz n B M : Nat} {v u : Value} {cs : List Value} {d : Disk} (h : Sl w sz v n cs) (hd : DiskAt w B M u d) (hsz : 0 < sz) (hx : n = 0 ∨ ∃ (j : Nat) (x : Value), cs[j]? = some x ∧ offD x) (hb : But (fun i => i = B ∨ i = M) w w') : Sl w' sz v n cs := by
  refine h.but hb ?_
  rcases hx with h0 | ⟨j, x, hj, ho⟩
  · exact .inl h0
  · rcases h.apartV hd.var hj (hd.off ho) with h0 | h1
    · exact .inl h0
    · rcases h.apartMap hsz hd.map with h0 | h2
      · exact .inl h0
      · exact .inr fun k hk e => e.elim (h1 k hk) (h2 k hk)
theorem RefAt.pastD {w w' : World} {B M : Nat} {v u : Value} {r : RDisk} {d : Disk} (h : RefAt w v r) (hd : DiskAt w B M u d) (hb : But (fun i => i = B ∨ i = M) w w') : RefAt w' v r := by
  obtain ⟨lv, wv, rfl, h1, h2⟩ := h.ex
  refine RefAt.mk' (h1.pastD hd (by decide) ?_ hb) (h2.pastD hd (by decide) ?_ hb)
  · cases hl : r.L with
    | nil => exact .inl rfl
    | cons s l => exact .inr ⟨0, strV s, rfl, offD_str _⟩
  · cases hl : r.W with
    | nil => exact .inl rfl
    | cons p l => exact .inr ⟨1, strV p.2, rfl, offD_str _⟩
theorem bools_pastD {w w' : World} {B M n : Nat} {v u : Value} {l : List Bool} {d : Disk} (h : Sl w 1 v n (l.map Value.bool)) (hd : DiskAt w B M u d) (hb : But (fun i => i = B ∨ i = M) w w') : Sl w' 1 v n (l.map Value.bool) := by
  refine h.pastD hd (by decide) ?_ hb
  have hl := h.1
  cases l with
  | nil => simp at hl; exact .inl (by omega)
  | cons s l => exact .inr ⟨0, .bool s, rfl, offD_bool _⟩
theorem AcAt.pastD {w w' : World} {B M : Nat} {u : Value} {x : Ac} {d : Disk} (h : AcAt w x) (hd : DiskAt w B M u d) (hb : But (fun i => i = B ∨ i = M) w w') : AcAt w' x := ⟨bools_pastD h.sl hd hb, h.sec_wf, h.more_wf⟩
theorem acts_pastD {w w' : World} {B M n : Nat} {v u : Value} {l : List Ac} {d : Disk} (h : Sl w 5 v n (l.flatMap acC)) (hd : DiskAt w B M u d) (hb : But (fun i => i = B ∨ i = M) w w') : Sl w' 5 v n (l.flatMap acC) := by
  refine h.but hb ?_
  rcases h.apartN hd.var (by simp) with h0 | h1
  · exact .inl h0
  · rcases h.apartMap (by decide) hd.map with h0 | h2
    · exact .inl h0
    · exact .inr fun k hk e => e.elim (h1 k hk) (h2 k hk)
theorem DiskAt.row_map {w : World} {B M B2 M2 : Nat} {u u2 : Value} {d d2 : Disk} (h : DiskAt w B M u d) (h2 : DiskAt w B2 M2 u2 d2) : B ≠ M2 := by
  intro e
  obtain ⟨es, clock, hmm, _⟩ := h2.map.ex
  have := h.var
  unfold RowAt at this
  rw [e, hmm] at this
  cases this
/-- Another disk. -/
theorem DiskAt.pastD {w w' : World} {B M B2 M2 : Nat} {u u2 : Value} {d d2 : Disk} (h2 : DiskAt w B2 M2 u2 d2) (hd : DiskAt w B M u d) (hB : B2 ≠ B) (hM : M2 ≠ M) (hb : But (fun i => i = B ∨ i = M) w w') : DiskAt w' B2 M2 u2 d2 := by
  refine h2.but hb (fun e => e.elim hB (h2.row_map hd)) (fun e => e.elim (fun e => hd.row_map h2 e.symm) hM) ?_
  rcases h2.sl.apart65 hd.var (by simp) with h0 | h1
  · exact .inl h0
  · rcases h2.sl.apartMap (by decide) hd.map with h0 | h3
    · exact .inl h0
    · exact .inr fun k hk e => e.elim (h1 k hk) (h3 k hk)

namespace Dk
/-- The disk is the document's. -/
structure Rel (d : Disk) (r : RDisk) : Prop where
  many : d.many = (r.L.length : Int)
  few : r.L.length ≤ 4096
  lie : ∀ k : Nat, k < r.L.length → r.L[k]? = some (lie d.E (k : Int))
  waits : d.W = r.W
  left : d.left = r.armed
  lo : -1 ≤ r.armed
  hi : r.armed ≤ 9223372036854775807
  keys : ∀ p ∈ r.W, 0 ≤ p.1 ∧ p.1 < (r.L.length : Int)
theorem Rel.new (n : Nat) (h2 : n ≤ 4096) : Rel ⟨-1, n, [], []⟩ ⟨List.replicate n zsec, [], -1⟩ where
  many := by simp
  few := by simpa using h2
  lie k hk := by
    rw [List.length_replicate] at hk
    rw [List.getElem?_replicate, if_pos hk]; rfl
  waits := rfl
  left := rfl
  lo := Int.le_refl _
  hi := by show (-1 : Int) ≤ _; omega
  keys := by simp
/-- A write. -/
def wrR (r : RDisk) (k : Int) (n : Nat) (s : Sec) : RDisk := if rwriteE r k n = 0 then ⟨r.L, r.W ++ [(k, s)], doneF r.armed⟩ else r
def wrD (d : Disk) (k : Int) (n : Nat) (s : Sec) : Disk := if writeE d k n = 0 then ⟨doneF d.left, d.many, d.E, d.W ++ [(k, s)]⟩ else d
theorem doneF_lo (l : Int) : -1 ≤ doneF l := by unfold doneF; omega
theorem doneF_hi {l : Int} (h : l ≤ 9223372036854775807) : doneF l ≤ 9223372036854775807 := by unfold doneF; omega
theorem Rel.writeE {d : Disk} {r : RDisk} (h : Rel d r) (k : Int) (n : Nat) : writeE d k n = rwriteE r k n := by
  unfold Dk.writeE rwriteE
  rw [h.many, h.left]
theorem Rel.write {d : Disk} {r : RDisk} (h : Rel d r) (k : Int) (n : Nat) (s : Sec) : Rel (wrD d k n s) (wrR r k n s) := by
  unfold wrD wrR
  rw [h.writeE]
  split
  · rename_i he
    refine ⟨h.many, h.few, h.lie, ?_, ?_, doneF_lo _, doneF_hi h.hi, ?_⟩
    · show d.W ++ _ = r.W ++ _
      rw [h.waits]
    · show doneF d.left = _
      rw [h.left]
    · intro p hp
      rcases List.mem_append.1 hp with hp | hp
      · exact h.keys p hp
      · rw [List.mem_singleton] at hp
        subst hp
        unfold rwriteE at he
        split at he
        · cases he
        · split at he
          · cases he
          · rename_i hk
            have hk2 : offB k r.L.length = false := by simpa using hk
            unfold offB at hk2
            rw [Bool.or_eq_false_iff, decide_eq_false_iff_not, decide_eq_false_iff_not] at hk2
            have k1 := hk2.1
            have k3 := hk2.2
            exact ⟨by show 0 ≤ k; omega, by show k < (r.L.length : Int); omega⟩
  · exact h
theorem lays_rel : ∀ (W : List (Int × Sec)) (E : List (Int × Sec)) (L : List Sec), (∀ p ∈ W, 0 ≤ p.1 ∧ p.1 < (L.length : Int)) → (∀ k : Nat, k < L.length → L[k]? = some (lie E (k : Int))) →
    ∀ k : Nat, k < L.length → (laysR L W)[k]? = some (lie (laysF E W) (k : Int))
  | [], E, L, _, h, k, hk => h k hk
  | p :: W, E, L, hp, h, k, hk => by
    have h0 := hp p List.mem_cons_self
    have := lays_rel W (putF E p.1 p.2) (L.set p.1.toNat p.2) (fun q hq => by rw [List.length_set]; exact hp q (List.mem_cons_of_mem _ hq)) (fun j hj => by
      rw [List.length_set] at hj
      rw [lie_put, List.getElem?_set]
      by_cases e : p.1.toNat = j
      · rw [if_pos e, if_pos (by omega), if_pos (by omega)]
      · rw [if_neg e, if_neg (by omega)]; exact h j hj) k (by rw [List.length_set]; exact hk)
    exact this
theorem Rel.sync {d : Disk} {r : RDisk} (h : Rel d r) : Rel ⟨doneF d.left, d.many, laysF d.E d.W, []⟩ ⟨laysR r.L r.W, [], doneF r.armed⟩ where
  many := by show d.many = _; rw [laysR_len]; exact h.many
  few := by show (laysR r.L r.W).length ≤ _; rw [laysR_len]; exact h.few
  lie k hk := by
    have hk' : k < r.L.length := by rw [← laysR_len r.W]; exact hk
    show (laysR r.L r.W)[k]? = some (Dk.lie (laysF d.E d.W) (k : Int))
    rw [h.waits]
    exact lays_rel r.W d.E r.L h.keys h.lie k hk'
  waits := rfl
  left := by show doneF d.left = _; rw [h.left]
  lo := doneF_lo _
  hi := doneF_hi h.hi
  keys p hp := by cases hp
theorem crash_rel (W : List (Int × Sec)) (E : List (Int × Sec)) (L : List Sec) (keep : List Bool) (hp : ∀ p ∈ W, 0 ≤ p.1 ∧ p.1 < (L.length : Int)) (h : ∀ k : Nat, k < L.length → L[k]? = some (lie E (k : Int))) :
    ∀ n, n ≤ W.length → ∀ k : Nat, k < L.length → (crashR L W keep n)[k]? = some (lie (crashK E W keep n) (k : Int))
  | 0, _, k, hk => h k hk
  | n + 1, hn, k, hk => by
    have ih := crash_rel W E L keep hp h n (by omega) k hk
    have h0 := hp (ptAt W n) (by rw [ptAt_get (show n < W.length by omega)]; exact List.getElem_mem _)
    rw [crashR, crashK]
    split
    · rw [lie_put, List.getElem?_set]
      by_cases e : (ptAt W n).1.toNat = k
      · rw [if_pos e, if_pos (by rw [crashR_len]; omega), if_pos (by omega)]
      · rw [if_neg e, if_neg (by omega)]; exact ih
    · exact ih
theorem Rel.crash {d : Disk} {r : RDisk} (h : Rel d r) (keep : List Bool) : Rel ⟨-1, d.many, crashF d.E d.W keep, []⟩ ⟨crashR r.L r.W keep r.W.length, [], -1⟩ where
  many := by show d.many = _; rw [crashR_len]; exact h.many
  few := by show (crashR r.L r.W keep r.W.length).length ≤ _; rw [crashR_len]; exact h.few
  lie k hk := by
    have hk' : k < r.L.length := by rw [← crashR_len r.L r.W keep r.W.length]; exact hk
    show (crashR r.L r.W keep r.W.length)[k]? = some (Dk.lie (crashF d.E d.W keep) (k : Int))
    unfold crashF
    rw [h.waits]
    exact crash_rel r.W d.E r.L keep h.keys h.lie _ (Nat.le_refl _) k hk'
  waits := rfl
  left := rfl
  lo := Int.le_refl _
  hi := by show (-1 : Int) ≤ _; omega
  keys p hp := by cases hp
theorem Rel.arm {d : Disk} {r : RDisk} (h : Rel d r) (n : Int) (hn : n ≤ 9223372036854775807) : Rel ⟨max (-1) n, d.many, d.E, d.W⟩ ⟨r.L, r.W, max (-1) n⟩ := ⟨h.many, h.few, h.lie, h.waits, rfl, by show (-1 : Int) ≤ max (-1) n; omega, by show max (-1) n ≤ _; omega, h.keys⟩
theorem Rel.read {d : Disk} {r : RDisk} (h : Rel d r) (k : Nat) (hk : k < r.L.length) : readF d (k : Int) = lastOf (k : Int) r.W r.L[k] := by
  have := h.lie k hk
  rw [List.getElem?_eq_getElem hk] at this
  rw [readF_last, h.waits, Option.some.inj this]
theorem Rel.lies {d : Disk} {r : RDisk} (h : Rel d r) (k : Nat) (hk : k < r.L.length) : Dk.lie d.E (k : Int) = r.L[k] := by
  have := h.lie k hk
  rw [List.getElem?_eq_getElem hk] at this
  exact (Option.some.inj this).symm
theorem Rel.same {d d2 : Disk} {r r2 : RDisk} (h : Rel d r) (h2 : Rel d2 r2) : sameB d d2 = sameR r r2 := by
  unfold sameB sameR
  rw [h.many, h2.many, h.left, h2.left, h.waits, h2.waits]
  by_cases hL : r.L = r2.L
  · have hall : ((List.range ((r.L.length : Int).toNat)).all fun i => decide (Dk.lie d.E (i : Int) = Dk.lie d2.E (i : Int))) = true := by
      refine List.all_eq_true.2 fun i hi => ?_
      rw [List.mem_range, Int.toNat_natCast] at hi
      have a := h.lies i hi
      have b := h2.lies i (by rw [← hL]; exact hi)
      refine decide_eq_true ?_
      rw [a, b]
      simp only [hL]
    rw [hall, hL]
    by_cases hW : r.W = r2.W <;> by_cases hA : r.armed = r2.armed <;> simp [hW, hA]
  · rw [decide_eq_false (fun e : _ ∧ _ => hL e.1)]
    by_cases hl : r.L.length = r2.L.length
    · have hall : ((List.range ((r.L.length : Int).toNat)).all fun i => decide (Dk.lie d.E (i : Int) = Dk.lie d2.E (i : Int))) = false := by
        rw [Bool.eq_false_iff]
        intro hh
        rw [List.all_eq_true] at hh
        refine hL (List.ext_getElem hl fun i h1 h3 => ?_)
        have := hh i (by rw [List.mem_range, Int.toNat_natCast]; exact h1)
        rw [← h.lies i h1, ← h2.lies i h3]
        exact of_decide_eq_true this
      rw [hall]; rfl
    · have : decide ((r.L.length : Int) = (r2.L.length : Int)) = false := decide_eq_false (by omega)
      rw [this]; simp
/-- A call of the law on the document's disk. -/
def stepR (r : RDisk) (x : Ac) : RDisk :=
  if x.what = 0 then (if 0 < x.more then wrR r x.sec (x.more - 1).toNat zsec else wrR r x.sec 64 (fullS x.byte))
  else if x.what = 2 then (if r.armed = 0 then r else ⟨laysR r.L r.W, [], doneF r.armed⟩)
  else if x.what = 3 then ⟨crashR r.L r.W x.keep r.W.length, [], -1⟩
  else if x.what = 4 then ⟨r.L, r.W, max (-1) x.more⟩
  else r
end Dk
theorem rWriteAll_c (r : RDisk) (k : Int) (b : List UInt8) (s : Sec) (hs : b.length = 64 → b = s.1) (hbl : b.length ≤ 1000) (hW : r.W.length ≤ 100000) (ha : -1 ≤ r.armed) (ha2 : r.armed ≤ 9223372036854775807) (v : Value) (w : World) (h : RefAt w v r) :
    Calls Try.prog 44 #[v, .int .i64 k, .string ⟨b.toArray⟩] w (GivesR2 (wrR r k b.length s) (rwriteE r k b.length) w) := by
  have hsz : (⟨b.toArray⟩ : ByteArray).size = b.length := by show b.toArray.size = _; simp
  by_cases hn : b.length = 64
  · cases ho : offB k r.L.length with
    | true =>
      have he : rwriteE r k b.length = 4 := by unfold rwriteE; rw [if_neg (by omega), if_pos ho]
      rw [show wrR r k b.length s = r by unfold wrR; rw [he]; rfl, he]
      exact rWriteOff_c r k _ (by rw [hsz]; exact hn) ho v w h
    | false =>
      by_cases h0 : r.armed = 0
      · have he : rwriteE r k b.length = 190 := by unfold rwriteE; rw [if_neg (by omega), if_neg (by rw [ho]; decide), if_pos h0]
        rw [show wrR r k b.length s = r by unfold wrR; rw [he]; rfl, he]
        exact rWriteNo_c r k _ (by rw [hsz]; exact hn) ho h0 v w h
      · have he : rwriteE r k b.length = 0 := by unfold rwriteE; rw [if_neg (by omega), if_neg (by rw [ho]; decide), if_neg h0]
        rw [show wrR r k b.length s = ⟨r.L, r.W ++ [(k, s)], doneF r.armed⟩ by unfold wrR; rw [he]; rfl, he, hs hn]
        exact rWrite_c r k s hW ho ha ha2 h0 v w h
  · have he : rwriteE r k b.length = 2 := by unfold rwriteE; rw [if_pos hn]
    rw [show wrR r k b.length s = r by unfold wrR; rw [he]; rfl, he]
    exact rWriteLen_c r k _ (by rw [hsz]; exact hn) (by rw [hsz]; simp only [maxLen]; omega) v w h
theorem dWriteAll_c {B M n c : Nat} {a : Option Addr} {u : Value} {d : Disk} (hl : -1 ≤ d.left) (hl2 : d.left ≤ 9223372036854775807) (hn : d.W.length ≤ 1000000) (k : Int) (b : List UInt8) (s : Sec) (hs : b.length = 64 → b = s.1) (hbn : b.length = n) (hk : (Lit.int .i64 k).wf = true) (w : World) (h : DiskAt w B M u d) (hb : Sl w 1 (.slice a n c) n (by8 b)) :
    Calls Try.prog 9 #[.pointer (some ⟨B, 0, none⟩), .int .i64 k, .slice a n c] w fun en w' => en = .returned (.int .i64 (writeE d k n)) ∧ (∃ u', DiskAt w' B M u' (wrD d k n s)) ∧ But (· = B) w w' := by
  by_cases he : writeE d k n = 0
  · have h64 : n = 64 := by
      unfold writeE at he
      split at he
      · cases he
      · rename_i hh; omega
    subst h64
    rw [show wrD d k 64 s = ⟨doneF d.left, d.many, d.E, d.W ++ [(k, s)]⟩ by unfold wrD; rw [he]; rfl, he]
    rw [hs hbn] at hb
    exact dWrite_c hl hl2 hn k s hk w h hb he
  · rw [show wrD d k n s = d by unfold wrD; rw [if_neg he]]
    refine (dWriteBad_c k w h he).mono ?_
    rintro en w' ⟨rfl, hB⟩
    exact ⟨rfl, ⟨u, h.below hB⟩, But.of_below hB⟩
end Go.Proofs.Ytekpjbablcoahaa
