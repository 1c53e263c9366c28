/-
  Contracts: all of the three; Check.
-/
import Derived.Test.YthlgoclidgfejaaTraceC
namespace Go.Proofs.Ythlgoclidgfejaa
open Go.RowKit Trc
set_option linter.unusedSimpArgs false
set_option linter.unusedVariables false

abbrev fnV (f : FuncId) : Value := .func (.func f) #[] #[]
abbrev fnC (f : FuncId) : List Value := [fnV f]

set_option maxRecDepth 100000 in
/-- slices.IndexFunc of func(a packsaddle/trace.event, b []packsaddle/api.Event) bool. -/
theorem indexF_c (l : List FuncId) (v : Value) (n : Nat) (w : World) (hv : Sl w 1 v n (l.flatMap fnC)) (hn : n ≤ 9223372036854775807) (f : FuncId) (hf : Enters Try.prog f) (caps : Array Value) (p : FuncId → Bool)
    (hp : ∀ x ∈ l, ∀ w1, Below w.heap.size w w1 → Calls Try.prog f (#[fnV x] ++ caps) w1 (Ret (.bool (p x)) w1)) :
    Calls Try.prog 48 #[v, .func (.func f) #[] caps] w (Ret (.int .i64 (idx p l)) w) := by
  have Hln := Lib.hid (Sl.recs (cells := fnC) (sz := 1) (fun _ => rfl) (by decide) hv)
  obtain ⟨a1, c1, rfl⟩ := hv.len
  go_enter Try.func48, Try.ntmps48
  go_wp2
  go_loopw [8] (fun i wr => ∃ k : Nat, k ≤ n ∧ i = .int .i64 k ∧ (∀ j, j < k → ∀ hj : j < l.length, p l[j] = false) ∧ Below w.heap.size w wr) (fun i _ => n - (intOf i).toNat)
  case atStart => exact ⟨0, Nat.zero_le _, rfl, by intro j hj; omega, Below.refl _ _⟩
  case round =>
    obtain ⟨k, hk, rfl, hno, hB⟩ := hrel
    have Hno := Lib.hid hno; clear hno
    by_cases hlt : k < n
    · have hlt' : k < l.length := by rw [Hln.out]; exact hlt
      obtain ⟨b, off, rfl, hr⟩ := (hv.up hB).rec_at (cells := fnC) (sz := 1) (fun _ => rfl) hlt hlt'
      have hcall := hp l[k] (List.getElem_mem hlt') wr hB
      have Hidx := Lib.hid (fun h : p l[k] = true => idx_some hlt' Hno.out h)
      have Hstep := Lib.hid (fun (h : p l[k] = false) j (hj : j < k + 1) (hj' : j < l.length) => (show p l[j] = false from by
        rcases Nat.lt_or_ge j k with h' | h'
        · exact Hno.out j h' hj'
        · obtain rfl : j = k := by omega
          exact h))
      have hr1 : wr.cell? ⟨b, off + k, none⟩ = some (fnV l[k]) := by have := hr 0 _ rfl; simpa using this
      unfold Enters at hf
      generalize l[k] = x at *
      cases hpk : p x with
      | true =>
        rw [hpk] at hcall
        have Hpk := Lib.hid hpk; clear hpk
        go_wp2_with (first
          | (refine hcall.mono ?_; rintro e w1 ⟨rfl, hb⟩))
        go_ret
        exact ⟨retI (Hidx.out Hpk.out).symm, hB.trans (hb.mono hB.size)⟩
      | false =>
        rw [hpk] at hcall
        have Hpk := Lib.hid hpk; clear hpk
        go_wp2_with (first
          | (refine hcall.mono ?_; rintro e w1 ⟨rfl, hb⟩))
        go_roundw
        case rel => exact ⟨k + 1, by omega, by go_num, Hstep.out Hpk.out, hB.trans (hb.mono hB.size)⟩
        case measure => simp [intOf]; omega
    · obtain rfl : k = n := by omega
      go_wp2
      go_ret
      exact ⟨retI (idx_none fun j hj => Hno.out j (by rw [← Hln.out]; exact hj) hj).symm, hB⟩

theorem containsF_c (l : List FuncId) (v : Value) (n : Nat) (w : World) (hv : Sl w 1 v n (l.flatMap fnC)) (hn : n ≤ 9223372036854775807) (f : FuncId) (hf : Enters Try.prog f) (caps : Array Value) (p : FuncId → Bool)
    (hp : ∀ x ∈ l, ∀ w1, Below w.heap.size w w1 → Calls Try.prog f (#[fnV x] ++ caps) w1 (Ret (.bool (p x)) w1)) :
    Calls Try.prog 33 #[v, .func (.func f) #[] caps] w (Ret (.bool (l.any p)) w) := by
  go_enter Try.func33, Try.ntmps33
  go_wp2_with (go_at_call 48; refine (indexF_c l v n _ hv hn f hf caps p hp).mono ?_; rintro e w1 ⟨rfl, hb⟩)
  go_ret
  exact ⟨retB (idx_any p l), hb⟩

set_option maxRecDepth 100000 in
theorem all1_c (f : FuncId) (hf : Enters Try.prog f) (e : Ev) (u : Value) (p : Bool) (b b' : Nat) (w : World) (hr : w.rangeAt b 0 (evC e)) (hc : w.cell? ⟨b', 0, none⟩ = some u)
    (hp : Calls Try.prog f #[evV e, u] w (Ret (.bool p) w)) :
    Calls Try.prog 34 #[fnV f, .pointer (some ⟨b, 0, none⟩), .pointer (some ⟨b', 0, none⟩)] w (Ret (.bool (!p)) w) := by
  unfold Enters at hf
  go_enter Try.func34, Try.ntmps34
  go_wp2_with (first
    | (refine wpList_load_mid rfl 63 (.tmp 1) rfl b 0 rfl (evC e) _ hr Try.underlying63 rfl (by kernel_rfl) ?_)
    | (refine hp.mono ?_; rintro e w1 ⟨rfl, hb⟩))
  go_ret
  exact ⟨rfl, hb⟩
theorem enters_all1 : Enters Try.prog 34 := enters_of Try.func34 (by kernel_rfl) rfl

set_option maxRecDepth 100000 in
theorem all_c (e : Ev) (ua : Option Addr) (um uc : Nat) (fs : List FuncId) (v : Value) (n : Nat) (w : World) (hv : Sl w 1 v n (fs.flatMap fnC)) (p : FuncId → Bool)
    (hp : ∀ f ∈ fs, Enters Try.prog f ∧ ∀ w1, Below w.heap.size w w1 → Calls Try.prog f #[evV e, .slice ua um uc] w1 (Ret (.bool (p f)) w1)) :
    Calls Try.prog 18 #[evV e, .slice ua um uc, v] w (Ret (.bool (fs.all p)) w) := by
  have hmf : ∀ (fn : Fn) (first cap : Array Value) (w : World), (Instr.makeFunc fn first cap).run Try.prog w = .ok (.func fn first cap) w := fun _ _ _ _ => rfl
  have hmx := hv.n_max
  have hB : Below w.heap.size w ((w.alloc (.cells (evA e) 63)).alloc (.cells #[.slice ua um uc] 22)) := (below_alloc w _).alloc (by simp) _
  have hr := rangeAt_up (below_alloc _ (.cells #[.slice ua um uc] 22)) (rangeAt_new w (evC e) 63 (0, 0))
  have hc : ((w.alloc (.cells (evA e) 63)).alloc (.cells #[.slice ua um uc] 22)).cell? ⟨w.heap.size + 1, 0, none⟩ = some (.slice ua um uc) := by
    simp
  have HP := Lib.hid hp
  go_enter Try.func18, Try.ntmps18
  go_wp2_with fail
  refine (containsF_c fs v n _ (hv.up hB) hmx _ enters_all1 #[.pointer (some ⟨w.heap.size, 0, none⟩), .pointer (some ⟨w.heap.size + 1, 0, none⟩)] (fun f => !p f) (fun f hf w2 hb2 => Calls.cast rfl (all1_c f (HP.out f hf).1 e _ (p f) _ _ w2 (rangeAt_up hb2 hr) (cell_up hb2 hc) ((HP.out f hf).2 w2 (below_up hB hb2))))).mono ?_
  rintro e w3 ⟨rfl, hb3⟩
  go_wp2
  go_ret
  exact ⟨retB (by rw [← List.not_all_eq_any_not]; simp), below_up hB hb3⟩

namespace Trc
def soundB (l : List Ev) (e : Ev) : Bool := aloneB e && (risesB l e && onceB l e)
/-- The first that is not sound beside those ahead. -/
def badAt (l : List Ev) : Nat → Nat → Option Nat
  | _, 0 => none
  | k, n + 1 => match l[k]? with
    | none => none
    | some e => if soundB (l.take k) e then badAt l (k + 1) n else some k
def wrongAt (l : List Ev) : Option Nat := badAt l 0 l.length
def checkAt (l : List Ev) : Int := if 4096 < l.length then 0 else match wrongAt l with | none => 0 | some k => k
def checkE (l : List Ev) : Int := if 4096 < l.length then 3 else match wrongAt l with | none => 0 | some _ => 360
theorem badAt_some {l : List Ev} : ∀ (n k : Nat) (j : Nat) (hj : j < l.length), k ≤ j → j < k + n → (∀ i, k ≤ i → i < j → ∀ hi : i < l.length, soundB (l.take i) l[i] = true) → soundB (l.take j) l[j] = false → badAt l k n = some j
  | 0, k, j, _, h1, h2, _, _ => by omega
  | n + 1, k, j, hj, h1, h2, h3, h4 => by
    unfold badAt
    rw [List.getElem?_eq_getElem (by omega)]
    by_cases h : k = j
    · subst h
      simp [h4]
    · simp [h3 k (Nat.le_refl _) (by omega) (by omega)]
      exact badAt_some n (k + 1) j hj (by omega) (by omega) (fun i hi => h3 i (by omega)) h4
theorem badAt_none {l : List Ev} : ∀ (n k : Nat), (∀ i, k ≤ i → ∀ hi : i < l.length, soundB (l.take i) l[i] = true) → badAt l k n = none
  | 0, k, _ => rfl
  | n + 1, k, h => by
    unfold badAt
    by_cases hk : k < l.length
    · rw [List.getElem?_eq_getElem hk]
      simp [h k (Nat.le_refl _) hk]
      exact badAt_none n (k + 1) (fun i hi => h i (by omega))
    · rw [List.getElem?_eq_none (by omega)]
end Trc

theorem slT_ev : SlT Try.prog 22 48 16 104 := SlT.mk' Try.underlying22 (z := evV ⟨0, 0, 0, 0, 0, ⟨0, 0, 0, 0⟩, 0, ⟨0, 0, 0, 0⟩, 0, 0⟩) (by kernel_rfl) rfl (by decide)
theorem enters_alone : Enters Try.prog 19 := enters_of Try.func19 (by kernel_rfl) rfl
theorem enters_rises : Enters Try.prog 20 := enters_of Try.func20 (by kernel_rfl) rfl
theorem enters_once : Enters Try.prog 21 := enters_of Try.func21 (by kernel_rfl) rfl
theorem sl3f (w : World) (k : Nat) (hk : k = w.heap.size) (T : TypeId) (f g h : FuncId) : Sl (w.alloc (.cells #[fnV f, fnV g, fnV h] T)) 1 (.slice (some ⟨k, 0, none⟩) 3 3) 3 ([f, g, h].flatMap fnC) := by
  subst hk
  refine ⟨by simp, .inr ⟨w.heap.size, 0, 3, rfl, by decide, by decide, fun j u hj => ?_⟩⟩
  have : (w.alloc (.cells #[fnV f, fnV g, fnV h] T)).heap[w.heap.size]? = some (.cells #[fnV f, fnV g, fnV h] T) := heap_alloc_new w _
  simp only [World.cell?, this, Nat.zero_add]
  simpa using hj

set_option maxRecDepth 100000 in
theorem sound_c (e : Ev) (l : List Ev) (u : Value) (m : Nat) (v : Value) (w : World) (hu : Sl w 16 u m (l.flatMap evC)) (hv : Sl w 1 v 3 ([19, 20, 21].flatMap fnC)) :
    Calls Try.prog 18 #[evV e, u, v] w (Ret (.bool (soundB l e)) w) := by
  obtain ⟨ua, uc, rfl⟩ := hu.len
  have h := all_c e ua m uc _ v 3 w hv (fun f => if f = 19 then aloneB e else if f = 20 then risesB l e else onceB l e) (fun f hf => by
    rcases List.mem_cons.1 hf with rfl | hf
    · exact ⟨enters_alone, fun w1 hb => aloneT_c e _ w1⟩
    rcases List.mem_cons.1 hf with rfl | hf
    · exact ⟨enters_rises, fun w1 hb => rises_c e l _ m w1 (hu.up hb)⟩
    rcases List.mem_cons.1 hf with rfl | hf
    · exact ⟨enters_once, fun w1 hb => once_c e l _ m w1 (hu.up hb)⟩
    · cases hf)
  have e2 : ([19, 20, 21].all fun f => if f = 19 then aloneB e else if f = 20 then risesB l e else onceB l e) = soundB l e := by
    simp [soundB]
  rw [e2] at h
  exact h
end Go.Proofs.Ythlgoclidgfejaa
