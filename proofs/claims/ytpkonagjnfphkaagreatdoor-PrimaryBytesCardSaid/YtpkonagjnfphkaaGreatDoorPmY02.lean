/-
  Pi, Rec, Row, CbA, OctetA: several texts in one (bundle.py).
-/
import Derived.Test.YtpkonagjnfphkaaGreatDoorPmY01
import Derived.Deep.MidRow
import Derived.WalkLawsBesides
import Derived.Defers
import Derived.Recover
import Derived.Lib.Hide
set_option linter.unusedSimpArgs false
set_option linter.unusedVariables false
set_option maxRecDepth 100000
namespace Go.Proofs.YtpkonagjnfphkaaGreatDoor
open Go.RowKit
section
variable {P : Program} {md : Region.Mode} {ops : Array Oper} {Q : Exit → Act → World → Prop}
theorem held_sub {S S2 : World → Prop} (hs : ∀ w, S2 w → S w) : ∀ (fuel : Nat) (listed : Array Bool) (a : Act) (w : World), wpAnyH P md ops Q S2 fuel listed a w → wpAnyH P md ops Q S fuel listed a w
  | 0, _, _, _, h => h
  | fuel + 1, _, _, _, h => ⟨h.1, fun i hi => wpOp_mono (fun a' w' h' => ⟨hs _ h'.1, held_sub hs fuel _ a' w' h'.2⟩) (h.2 i hi)⟩
def piB (md : Region.Mode) (ops : Array Oper) : List (Nat × Bool) → Array Bool → Bool
  | [], listed => (Region.ready md ops listed).isEmpty
  | (i, false) :: r, listed => (Region.ready md ops listed).contains i && Region.free md ops listed i && piB md ops r (listed.setIfInBounds i true)
  | (i, true) :: r, listed => decide (Region.ready md ops listed = [i]) && piB md ops r (listed.setIfInBounds i true)
def wpPi (P : Program) (ops : Array Oper) (Q : Exit → Act → World → Prop) : List (Nat × Bool) → Act → World → Prop
  | [], a, w => Q .normal a w
  | (i, false) :: r, a, w => ∃ o v, ops[i]? = some o ∧ YieldsIf P ops (Below w.heap.size w) o v a ∧ wpPi P ops Q r (a.put o.dst v) w
  | (i, true) :: r, a, w => ∃ o, ops[i]? = some o ∧ Region.wanted o (yielded ops a.tmps) = true ∧ o.wp P a w (fun a' w' => Below w.heap.size w w' ∧ wpPi P ops Q r a' w') Q
theorem held_of_pi (hs : Region.noSelect ops = true) (hQ : ∀ c (a : Act) d v w, Q (.panic c) (a.put d v) w → Q (.panic c) a w) : ∀ (π : List (Nat × Bool)) (listed : Array Bool) (a : Act) (w : World),
    piB md ops π listed = true → wpPi P ops Q π a w → wpAnyH P md ops Q (Below w.heap.size w) π.length listed a w
  | [], _, _, _, hB, h => ⟨by simpa [piB] using hB, h⟩
  | (i, false) :: r, listed, a, w, hB, h => by
    obtain ⟨o, v, hi, hy, h⟩ := h; simp only [piB, Bool.and_eq_true] at hB; exact wpAnyH_take hi hs hB.1.2 hB.1.1 (fun c a w hq => hQ c a o.dst v w hq) hy (Below.refl _ _) (held_of_pi hs hQ r _ _ _ hB.2 h)
  | (i, true) :: r, listed, a, w, hB, h => by
    obtain ⟨o, hi, hw, h⟩ := h; simp only [piB, Bool.and_eq_true, decide_eq_true_eq] at hB; refine ⟨fun h0 => (by rw [hB.1] at h0; cases h0), fun j hj => ?_⟩; rw [hB.1] at hj
    obtain rfl : j = i := by simpa using hj
    unfold wpOp; simp only [hi, hw, if_true]; exact .inl (Oper.wp_mono (fun a' w' h' => ⟨h'.1, held_sub (fun _ hx => below_up h'.1 hx) _ _ _ _ (held_of_pi hs hQ r _ _ _ hB.2 h'.2)⟩) h)
theorem wp_region_pi {id : Nat} {a : Act} {w : World} (π : List (Nat × Bool)) (hm : P.follows .mixedOrders = true) (hs : Region.noSelect ops = true) (hB : piB .any ops π (Array.replicate ops.size false) = true) (hl : π.length = ops.size)
    (hQ : ∀ c (a : Act) d v w, Q (.panic c) (a.put d v) w → Q (.panic c) a w) (h : ∀ Wd, Below w.heap.size w Wd → wpPi P ops Q π a Wd) : (Code.region id ops true).wp P Q a w :=
  wp_region_held (S := Below w.drew.heap.size w.drew) hm (by have := held_of_pi hs hQ π _ _ _ hB (h w.drew (Below.refl _ _).drew); rw [hl] at this; exact this)
theorem pi_q {i : Nat} {o : Oper} {v : Value} {r : List (Nat × Bool)} {a : Act} {w : World} (hi : ops[i]? = some o) (hw : Region.wanted o (yielded ops a.tmps) = true) (hy : ∀ w', Below w.heap.size w w' → (execOp a.eval o).run P w' = .ok (.value v) w')
    (h : wpPi P ops Q r (a.put o.dst v) w) : wpPi P ops Q ((i, false) :: r) a w := ⟨o, v, hi, .inl ⟨hw, hy⟩, h⟩
theorem pi_no {i : Nat} {o : Oper} {r : List (Nat × Bool)} {a : Act} {w : World} (hi : ops[i]? = some o) (hw : Region.wanted o (yielded ops a.tmps) = false)
    (h : wpPi P ops Q r (a.put o.dst undef) w) : wpPi P ops Q ((i, false) :: r) a w := ⟨o, undef, hi, .inr ⟨hw, rfl⟩, h⟩
theorem pi_c {i : Nat} {o : Oper} {r : List (Nat × Bool)} {a : Act} {w : World} (hi : ops[i]? = some o) (hw : Region.wanted o (yielded ops a.tmps) = true)
    (h : ∀ K : Act → World → Prop, Shut (∀ a' w', Below w.heap.size w w' → wpPi P ops Q r a' w' → K a' w') → o.wp P a w K Q) : wpPi P ops Q ((i, true) :: r) a w :=
  ⟨o, hi, hw, h _ (fun _ _ h1 h2 => ⟨h1, h2⟩)⟩
theorem pi_nil {a : Act} {w : World} (h : Q .normal a w) : wpPi P ops Q [] a w := h
end
theorem zi {P : Program} {ops : Array Oper} {Q : Exit → Act → World → Prop} {i : Nat} {o : Oper} {v : Value} {r : List (Nat × Bool)} {a : Act} {w : World} {Z : Prop} (hi : ops[i]? = some o) (hw : Region.wanted o (yielded ops a.tmps) = true) (h : Z)
    (hy : ∀ w', Below w.heap.size w w' → (execOp a.eval o).run P w' = .ok (.value v) w' := by
      intro w' hBw'
      first | (go_simp; done) | (go_simp; with_reducible rfl))
    (hf : Z → wpPi P ops Q r (a.put o.dst v) w := by
      intro hz
      try simp only [zq]
      exact hz) : wpPi P ops Q ((i, false) :: r) a w := 
  pi_q hi hw hy (hf h)
theorem zig {P : Program} {ops : Array Oper} {Q : Exit → Act → World → Prop} {i : Nat} {o : Oper} {v : Value} {r : List (Nat × Bool)} {a : Act} {w : World} {Z : Prop} {p : World → Prop} (hi : ops[i]? = some o) (hw : Region.wanted o (yielded ops a.tmps) = true) (hp : ∀ w', Below w.heap.size w w' → p w') (h : Z)
    (hy : ∀ w', Below w.heap.size w w' → p w' → (execOp a.eval o).run P w' = .ok (.value v) w' := by
      intro w' hBw' qz0
      first | (go_simp; done) | (go_simp; with_reducible rfl))
    (hf : Z → wpPi P ops Q r (a.put o.dst v) w := by
      intro hz
      try simp only [zq]
      exact hz) : wpPi P ops Q ((i, false) :: r) a w := 
  pi_q hi hw (fun w' b => hy w' b (hp w' b)) (hf h)
section
variable {α : Type} {cells : α → List Value} {sz : Nat}
theorem rec_len (hsz : ∀ x, (cells x).length = sz) : ∀ (l : List α), (l.flatMap cells).length = l.length * sz
  | [] => by simp
  | x :: l => by rw [List.flatMap_cons, List.length_append, hsz, rec_len hsz l, List.length_cons, Nat.succ_mul, Nat.add_comm]
theorem rec_get (hsz : ∀ x, (cells x).length = sz) : ∀ (l : List α) (k : Nat) (hk : k < l.length) (j : Nat), j < sz → (l.flatMap cells)[k * sz + j]? = (cells l[k])[j]?
  | x :: l, 0, _, j, hj => by
    rw [List.flatMap_cons, Nat.zero_mul, Nat.zero_add, List.getElem?_append_left (by rw [hsz]; exact hj)]; rfl
  | x :: l, k + 1, hk, j, hj => by
    have := rec_get hsz l k (by simpa using hk) j hj; rw [List.flatMap_cons, List.getElem?_append_right (by rw [hsz, Nat.succ_mul]; omega), hsz, show (k + 1) * sz + j - sz = k * sz + j by rw [Nat.succ_mul]; omega]; exact this
theorem Sl.recs {w : World} {v : Value} {n : Nat} {l : List α} (hsz : ∀ x, (cells x).length = sz) (h0 : 0 < sz) (hv : Sl w sz v n (l.flatMap cells)) : l.length = n := by
  have := hv.1; rw [rec_len hsz] at this; exact Nat.eq_of_mul_eq_mul_right h0 this
theorem Sl.rec_at {w : World} {a : Option Addr} {c n : Nat} {l : List α} (hsz : ∀ x, (cells x).length = sz) (hv : Sl w sz (.slice a n c) n (l.flatMap cells)) {k : Nat} (hk : k < n) (hk' : k < l.length) :
    ∃ b off, a = some ⟨b, off, none⟩ ∧ w.rangeAt b (off + k * sz) (cells l[k]) := by
  obtain ⟨b, off, rfl, hc⟩ := hv.cells_at hk; refine ⟨b, off, rfl, fun j u hj => ?_⟩
  have hjs : j < sz := by have := (List.getElem?_eq_some_iff.1 hj).1; rwa [hsz] at this
  rw [hc j hjs, rec_get hsz l k hk' j hjs]; exact hj
end
theorem Sl.n_max {w : World} {sz : Nat} {v : Value} {n : Nat} {cs : List Value} (h : Sl w sz v n cs) : n ≤ 9223372036854775807 := by
  obtain ⟨_, ⟨_, _, _, h⟩ | ⟨_, _, cap, _, hn, hm, _⟩⟩ := h
  · omega
  · simp only [maxLen] at hm; omega
theorem rangeAt_new (w : World) (cs : List Value) (T : TypeId) (f : Nat × Nat) : (w.alloc (.cells cs.toArray T f)).rangeAt w.heap.size 0 cs := fun j v hj => by
  have : (w.alloc (.cells cs.toArray T f)).heap[w.heap.size]? = some (.cells cs.toArray T f) := heap_alloc_new w _; simp only [World.cell?, this, Nat.zero_add]
  simpa using hj
theorem rangeAt_up {w w' : World} {b o : Nat} {cs : List Value} (hb : Below w.heap.size w w') (h : w.rangeAt b o cs) : w'.rangeAt b o cs := fun j v hj => cell_up hb (h j v hj)
theorem pi_load {P : Program} {ops : Array Oper} {Q : Exit → Act → World → Prop} {i : Nat} {o : Oper} {r : List (Nat × Bool)} {a : Act} {w : World} (hi : ops[i]? = some o) (hw : Region.wanted o (yielded ops a.tmps) = true)
    (ty : TypeId) (x : Operand) (ho : o.op = .load ty x) (b off : Nat) (hx : a.eval x = .pointer (some ⟨b, off, none⟩)) (cs : List Value) (d : TypeDesc) (hr : w.rangeAt b off cs)
    (hu : P.underlying ty = some d) (hd : d.isRow = true) (hn : (P.info? ty).map (·.size) = some cs.length) (h : wpPi P ops Q r (a.put o.dst (.agg cs.toArray)) w) : wpPi P ops Q ((i, false) :: r) a w :=
  ⟨o, _, hi, yieldsIf_load_mid hw ty x ho b off hx cs d (fun _ hb => rangeAt_up hb hr) hu hd hn, h⟩
theorem rec_take {α : Type} {cells : α → List Value} {sz : Nat} (hsz : ∀ x, (cells x).length = sz) : ∀ (l : List α) (k : Nat), (l.flatMap cells).take (k * sz) = (l.take k).flatMap cells
  | [], k => by simp
  | x :: l, 0 => by simp
  | x :: l, k + 1 => by
    rw [List.flatMap_cons, List.take_succ_cons, List.flatMap_cons, List.take_append, hsz, List.take_of_length_le (by rw [hsz, Nat.succ_mul]; omega), show (k + 1) * sz - sz = k * sz by rw [Nat.succ_mul]; omega, rec_take hsz l k]
def RowAt (w : World) (H : Nat) (cs : Array Value) (T : TypeId) : Prop := w.heap[H]? = some (.cells cs T (0, 0))
theorem RowAt.lt {w : World} {H : Nat} {cs : Array Value} {T : TypeId} (h : RowAt w H cs T) : H < w.heap.size := (Array.getElem?_eq_some_iff.1 h).1
theorem RowAt.cell {w : World} {H : Nat} {cs : Array Value} {T : TypeId} (h : RowAt w H cs T) {i : Nat} {v : Value} (hi : cs[i]? = some v) : w.cell? ⟨H, i, none⟩ = some v := by
  simp [World.cell?, show w.heap[H]? = _ from h, hi]
theorem RowAt.fz {w : World} {H : Nat} {cs : Array Value} {T : TypeId} (h : RowAt w H cs T) (i : Nat) : w.frozen? ⟨H, i, none⟩ = false := by
  simp [World.frozen?, show w.heap[H]? = _ from h]
theorem RowAt.set {w : World} {H : Nat} {cs : Array Value} {T : TypeId} (h : RowAt w H cs T) (i : Nat) (v : Value) : RowAt (w.setCell ⟨H, i, none⟩ v) H (cs.setIfInBounds i v) T := by
  simp only [RowAt, World.setCell, Array.getElem?_modify]; simp [show w.heap[H]? = _ from h]
theorem RowAt.alloc {w : World} {H : Nat} {cs : Array Value} {T : TypeId} (h : RowAt w H cs T) (o : Obj) : RowAt (w.alloc o) H cs T := by
  have := h.lt; have e : (w.alloc o).heap = w.heap.push o := rfl; unfold RowAt; rw [e, Array.getElem?_push_lt this]; exact (Array.getElem?_eq_getElem this).symm.trans h
theorem RowAt.new (w : World) (cs : Array Value) (T : TypeId) : RowAt (w.alloc (.cells cs T)) w.heap.size cs T := heap_alloc_new w _
theorem RowAt.same {w : World} {H : Nat} {cs : Array Value} {T : TypeId} (h : RowAt w H cs T) {i : Nat} {v : Value} (hi : cs[i]? = some v) : w.setCell ⟨H, i, none⟩ v = w := by
  have e : (w.heap.modify H fun o => match o with | .cells c t f => .cells (c.setIfInBounds i v) t f | o => o) = w.heap := by
    refine Array.ext (by simp) fun j hj hj' => ?_
    rw [Array.getElem_modify]; split
    · rename_i e
      subst e
      have hg : w.heap[H] = .cells cs T (0, 0) := by
        have : w.heap[H]? = _ := h; rw [Array.getElem?_eq_getElem hj'] at this; exact Option.some.inj this
      rw [hg]; simp only
      congr 1
      refine Array.ext (by simp) fun k hk hk' => ?_
      rw [Array.getElem_setIfInBounds]; split
      · rename_i e
        subst e; rw [Array.getElem?_eq_getElem hk'] at hi; exact (Option.some.inj hi).symm
      · rfl
    · rfl
  show ({ w with heap := _ } : World) = w; exact congrArg (fun x => ({ w with heap := x } : World)) e
theorem RowAt.other {w : World} {H : Nat} {cs : Array Value} {T : TypeId} (h : RowAt w H cs T) {a : Addr} (ha : H ≠ a.block) (v : Value) : RowAt (w.setCell a v) H cs T := by
  unfold RowAt; rw [Below.heap_setCell _ _ _ _ ha]; exact h
theorem RowAt.range {w : World} {H : Nat} {cs : List Value} {T : TypeId} (h : RowAt w H cs.toArray T) : w.rangeAt H 0 cs := fun j v hj => by
  rw [Nat.zero_add]; exact h.cell (by simpa using hj)
theorem RowAt.below {w w' : World} {H : Nat} {cs : Array Value} {T : TypeId} (h : RowAt w H cs T) (hb : Below w.heap.size w w') : RowAt w' H cs T := (hb.block H h.lt).trans h
theorem RowAt.drew {w : World} {H : Nat} {cs : Array Value} {T : TypeId} (h : RowAt w H cs T) : RowAt w.drew H cs T := h
abbrev gup (e : Int) : List PanicEntry := [{ v := .iface 33 (.int .i64 e), recovered := false }]
abbrev gupR (e : Int) : List PanicEntry := [{ v := .iface 33 (.int .i64 e), recovered := true }]
theorem must_yes (e : Int) (w : World) : Calls Tryz.prog 125 #[.bool true, .int .i64 e] w fun en w' => en = .returned (.tuple #[]) ∧ w = w' := by
  go_enter Tryz.func125, Tryz.ntmps125; go_wp2
  go_end0
  exact ⟨rfl, rfl⟩
theorem must_no (e : Int) (w : World) : Calls Tryz.prog 125 #[.bool false, .int .i64 e] w fun en w' => en = .panicked (gup e) ∧ w = w' := by
  go_enter Tryz.func125, Tryz.ntmps125; go_wp2; exact ⟨rfl, rfl, rfl⟩
theorem caught_idle (p : Addr) (g : FuncId) (caps : Array Value) (w : World) :
    CallsD Tryz.prog 123 #[.pointer (some p), .func (.func g) #[] caps] .returning w fun e u' w' => e = .returned (.tuple #[]) ∧ u' = .returning ∧ w' = w := by
  refine callsD_of_wpS Tryz.func123 rfl fun c₀ cs hu => ?_
  apply wpS_seq; apply wpS_region; simp [wpOpsS, go_sem, recoverD, hu, Tryz.ntmps123, Exit.thenS, Array.replicate_succ]; refine wpS_of_wp ?_; go_wp2; cases c₀; simp_all [bodyPostS, results, Tryz.results123, Exit.thenS]
theorem caught_gup (p : Nat) (e e0 : Int) (g : FuncId) (caps : Array Value) (hg : Enters Tryz.prog g) (w : World) (hc : w.cell? ⟨p, 0, none⟩ = some (.int .i64 e0)) (hz : w.frozen? ⟨p, 0, none⟩ = false) {R : World → Prop}
    (hcl : Calls Tryz.prog g caps (w.setCell ⟨p, 0, none⟩ (.int .i64 e)) fun en w' => en = .returned (.tuple #[]) ∧ R w') :
    CallsD Tryz.prog 123 #[.pointer (some ⟨p, 0, none⟩), .func (.func g) #[] caps] (.panicking (gup e)) w fun en u' w' => en = .returned (.tuple #[]) ∧ u' = .panicking (gupR e) ∧ R w' := by
  refine callsD_of_wpS Tryz.func123 rfl fun c₀ cs hu => ?_
  have HC := Lib.hid hcl; clear hcl
  have hta : ∀ (e : Int) (w : World), (Instr.typeAssert (.iface 33 (.int .i64 e)) 20 33 false).run Tryz.prog w = .ok (.int .i64 e) w := fun _ _ => by kernel_rfl
  apply wpS_seq; apply wpS_region; simp [wpOpsS, go_sem, recoverD, hu, Tryz.ntmps123, Exit.thenS, Array.replicate_succ]; refine wpS_of_wp ?_; unfold Enters at hg
  go_wp2_with (refine HC.out.mono ?_; rintro en w1 ⟨rfl, hr⟩)
  cases c₀; simp_all [bodyPostS, results, Tryz.results123, Exit.thenS]
theorem indexI_c (l : List Int) (v : Value) (n : Nat) (x : Int) (w : World) (hv : Sl w 1 v n (l.map (.int .i64))) (hn : n ≤ 9223372036854775807) :
    Calls Tryz.prog 161 #[v, .int .i64 x] w fun e w' => e = .returned (.int .i64 (idx (fun y => x == y) l)) ∧ w = w' := by
  have hln : l.length = n := by have := hv.1; simpa using this
  obtain ⟨a1, c1, rfl⟩ := hv.len; have Hln := Lib.hid hln; clear hln; go_enter Tryz.func161, Tryz.ntmps161; go_wp2
  go_loop [8] (fun i => ∃ k : Nat, k ≤ n ∧ i = .int .i64 k ∧ (∀ j, j < k → ∀ hj : j < l.length, (x == l[j]) = false)) (fun i => n - (intOf i).toNat)
  case atStart => exact ⟨0, Nat.zero_le _, rfl, by intro j hj; omega⟩
  case round =>
    obtain ⟨k, hk, rfl, hno⟩ := hrel; have Hno := Lib.hid hno; clear hno; by_cases hlt : k < n
    · have hlt' : k < l.length := by rw [Hln.out]; exact hlt
      obtain ⟨b, off, rfl, hc⟩ := hv.cellAt (k := k) (by omega) (by omega)
      have hc1 : w.cell? ⟨b, off + k, none⟩ = some (.int .i64 l[k]) := by
        simpa [hlt'] using hc
      clear hc
      cases hpk : (x == l[k]) with
      | true =>
        go_wp2; go_ret; exact ⟨retI (idx_some (p := fun y => x == y) hlt' Hno.out hpk).symm, rfl⟩
      | false =>
        go_wp2
        go_round
        case rel =>
          refine ⟨k + 1, by omega, by go_num, fun j hj hj' => ?_⟩; rcases Nat.lt_or_ge j k with h | h
          · exact Hno.out j h hj'
          · obtain rfl : j = k := by omega
            exact hpk
        case measure => simp [intOf]; omega
    · obtain rfl : k = n := by omega
      go_wp2; go_ret; exact ⟨retI (idx_none (p := fun y => x == y) fun j hj => Hno.out j (by rw [← Hln.out]; exact hj) hj).symm, rfl⟩
theorem containsI_c (l : List Int) (v : Value) (n : Nat) (x : Int) (w : World) (hv : Sl w 1 v n (l.map (.int .i64))) (hn : n ≤ 9223372036854775807) :
    Calls Tryz.prog 142 #[v, .int .i64 x] w fun e w' => e = .returned (.bool (l.any fun y => x == y)) ∧ w = w' := by
  go_enter Tryz.func142, Tryz.ntmps142
  go_wp2_with (go_at_call 161; refine (indexI_c l v n x _ hv hn).mono ?_; rintro e w1 ⟨rfl, rfl⟩)
  go_ret; exact ⟨retB (idx_any _ l), rfl⟩
theorem widths_c (w : World) : Calls Tryz.prog 141 #[] w (Ret (.agg #[.int .i64 1, .int .i64 2, .int .i64 4, .int .i64 8]) w) := by
  go_enter Tryz.func141, Tryz.ntmps141; go_wp2; exact bodyPost_ret (v := .agg #[.int .i64 1, .int .i64 2, .int .i64 4, .int .i64 8]) (by simp [results, Tryz.results141, go_sem]) rfl ⟨rfl, below_alloc _ _⟩
namespace Oct
def okW (n : Int) : Bool := n == 1 || n == 2 || n == 4 || n == 8
theorem okW_cases {n : Int} (h : okW n = true) : n = 1 ∨ n = 2 ∨ n = 4 ∨ n = 8 := by simpa [okW, or_assoc] using h
theorem mem4 {x : Int} (h : x ∈ [(1 : Int), 2, 4, 8]) : okW x = true := by simp at h; simp [okW]; omega
end Oct
theorem sl4 (w : World) (k : Nat) (hk : k = w.heap.size) (T : TypeId) : Sl (w.alloc (.cells #[.int .i64 1, .int .i64 2, .int .i64 4, .int .i64 8] T)) 1 (.slice (some ⟨k, 0, none⟩) 4 4) 4 ([1, 2, 4, 8].map (.int .i64)) := by
  subst hk; exact Sl.of_own (World.ownsRow_lit w #[.int .i64 1, .int .i64 2, .int .i64 4, .int .i64 8] 4 (size := 1) (e := T) (Nat.le_refl _) (by decide) rfl)
theorem is_c (n : Int) (w : World) : Calls Tryz.prog 118 #[.int .i64 n] w (Ret (.bool (Oct.okW n)) w) := by
  go_enter Tryz.func118, Tryz.ntmps118
  go_wp2_with (first
    | (go_at_call 141; refine (widths_c _).mono ?_; rintro e w1 ⟨rfl, hb⟩)
    | (go_at_call 142; refine (containsI_c [1, 2, 4, 8] _ 4 _ _ (sl4 _ _ rfl _) (by decide)).mono ?_; rintro e w2 ⟨rfl, rfl⟩))
  go_ret; exact ⟨retB (by simp [Oct.okW, Bool.or_assoc]), below_up hb (below_alloc _ _)⟩
theorem widthR_c (n : Int) (w : World) : Calls Tryz.prog 128 #[.int .i64 n] w fun e w' => e = .returned (.bool (Oct.okW n)) ∧ w = w' := by
  go_enter Tryz.func128, Tryz.ntmps128; go_wp2
  all_goals
    go_ret; exact ⟨retB (by unfold Oct.okW; simp [*]), rfl⟩
namespace Oct
def fitsB (k : Int) (n : Int) : Bool := decide (n < 256 ^ k.toNat)
def leastF (n : Int) : Int := if n < 256 then 1 else if n < 65536 then 2 else if n < 4294967296 then 4 else 8
theorem leastF_ok (n : Int) : okW (leastF n) = true := by unfold leastF; split; · rfl
                                                          split; · rfl
                                                          split <;> rfl
def firstF (p : Int → Bool) (l : List Int) : Int := (l.find? p).getD 0
theorem least_find {n : Int} (h1 : n ≤ 18446744073709551615) : firstF (fun k => fitsB k n) [1, 2, 4, 8] = leastF n := by
  unfold firstF leastF fitsB
  have e1 : (256 : Int) ^ (1 : Int).toNat = 256 := by decide
  have e2 : (256 : Int) ^ (2 : Int).toNat = 65536 := by decide
  have e4 : (256 : Int) ^ (4 : Int).toNat = 4294967296 := by decide
  have e8 : (256 : Int) ^ (8 : Int).toNat = 18446744073709551616 := by decide
  simp only [List.find?, e1, e2, e4, e8]; by_cases h : n < 256
  · simp [h]
  · by_cases h2 : n < 65536
    · simp [h, h2]
    · by_cases h3 : n < 4294967296
      · simp [h, h2, h3]
      · have h4 : n < 18446744073709551616 := by omega
        simp [h, h2, h3, h4]
end Oct
theorem fits_c (k n : Int) (w : World) (hk : Oct.okW k = true) (h0 : 0 ≤ n) (h1 : n ≤ 18446744073709551615) : Calls Tryz.prog 119 #[.agg #[.int .i64 k, .int .u64 n]] w (Ret (.bool (Oct.fitsB k n)) w) := by
  rcases Oct.okW_cases hk with rfl | rfl | rfl | rfl
  all_goals
    clear hk; go_enter Tryz.func119, Tryz.ntmps119; go_wp2
    all_goals
      go_ret; refine ⟨retB ?_, below_alloc _ _⟩; rw [Bool.eq_iff_iff]; simp [Oct.fitsB]; omega
theorem indexFI_c (l : List Int) (v : Value) (n : Nat) (w : World) (hv : Sl w 1 v n (l.map (.int .i64))) (hn : n * 8 ≤ 140737488351232) (f : FuncId) (hf : Enters Tryz.prog f) (caps : Array Value) (p : Int → Bool)
    (hp : ∀ x ∈ l, ∀ w1, Below w.heap.size w w1 → Calls Tryz.prog f (#[.int .i64 x] ++ caps) w1 (Ret (.bool (p x)) w1)) :
    Calls Tryz.prog 186 #[v, .func (.func f) #[] caps] w (Ret (.int .i64 (idx p l)) w) := by
  have hln : l.length = n := by have := hv.1; simpa using this
  obtain ⟨a1, c1, rfl⟩ := hv.len; have Hln := Lib.hid hln; clear hln; go_enter Tryz.func186, Tryz.ntmps186; go_wp2
  go_loopw [8] (fun i wr => ∃ k : Nat, k ≤ n ∧ i = .int .i64 k ∧ (∀ j, j < k → ∀ hj : j < l.length, p l[j] = false) ∧ Below w.heap.size w wr) (fun i _ => n - (intOf i).toNat)
  case atStart => exact ⟨0, Nat.zero_le _, rfl, by intro j hj; omega, Below.refl _ _⟩
  case round =>
    obtain ⟨k, hk, rfl, hno, hB⟩ := hrel
    have hm : n ≤ 9223372036854775807 := by omega
    have Hno := Lib.hid hno; clear hno; by_cases hlt : k < n
    · have hlt' : k < l.length := by rw [Hln.out]; exact hlt
      obtain ⟨b, off, rfl, hc⟩ := (hv.up hB).cellAt (k := k) (by omega) (by omega)
      have hc1 : wr.cell? ⟨b, off + k, none⟩ = some (.int .i64 l[k]) := by
        simpa [hlt'] using hc
      have hcall := hp l[k] (List.getElem_mem hlt') wr hB; unfold Enters at hf; by_cases hpk : p l[k] = true
      · rw [hpk] at hcall
        have Hpk := Lib.hid hpk; clear hpk
        go_wp2_with (refine hcall.mono ?_; rintro e w1 ⟨rfl, hb⟩)
        go_ret; exact ⟨retI (idx_some hlt' Hno.out Hpk.out).symm, hB.trans (hb.mono hB.size)⟩
      · have hpk : p l[k] = false := by simpa using hpk
        rw [hpk] at hcall; have Hpk := Lib.hid hpk; clear hpk
        go_wp2_with (refine hcall.mono ?_; rintro e w1 ⟨rfl, hb⟩)
        go_roundw
        case rel =>
          refine ⟨k + 1, by omega, by go_num, fun j hj hj' => ?_, hB.trans (hb.mono hB.size)⟩; rcases Nat.lt_or_ge j k with h | h
          · exact Hno.out j h hj'
          · obtain rfl : j = k := by omega
            exact Hpk.out
        case measure => simp [intOf]; omega
    · obtain rfl : k = n := by omega
      go_wp2; go_ret; exact ⟨retI (idx_none fun j hj => Hno.out j (by rw [← Hln.out]; exact hj) hj).symm, hB⟩
theorem idx_find {p : Int → Bool} {l : List Int} : (idx p l = -1 ∧ Oct.firstF p l = 0) ∨ ∃ k : Nat, ∃ h : k < l.length, idx p l = k ∧ Oct.firstF p l = l[k] := by
  cases h : l.findIdx? p with
  | none =>
    left; refine ⟨by simp [idx, h], ?_⟩; rw [List.findIdx?_eq_none_iff] at h; have : l.find? p = none := List.find?_eq_none.2 (by intro x hx; simp [h x hx]); simp [Oct.firstF, this]
  | some i =>
    right; have h' := h; rw [List.findIdx?_eq_some_iff_getElem] at h; obtain ⟨hi, hp, hj⟩ := h; refine ⟨i, hi, by simp [idx, h'], ?_⟩
    have : l.find? p = some l[i] := by
      rw [List.find?_eq_some_iff_getElem]; exact ⟨hp, i, hi, rfl, fun j hji => by have := hj j hji; simpa using this⟩
    simp [Oct.firstF, this]
theorem first_c (l : List Int) (v : Value) (n : Nat) (w : World) (hv : Sl w 1 v n (l.map (.int .i64))) (hn : n * 8 ≤ 140737488351232) (f : FuncId) (hf : Enters Tryz.prog f) (caps : Array Value) (p : Int → Bool)
    (hp : ∀ x ∈ l, ∀ w1, Below w.heap.size w w1 → Calls Tryz.prog f (#[.int .i64 x] ++ caps) w1 (Ret (.bool (p x)) w1)) :
    Calls Tryz.prog 183 #[.func (.func f) #[] caps, v] w (Ret (.int .i64 (Oct.firstF p l)) w) := by
  have hln : l.length = n := by have := hv.1; simpa using this
  rcases @idx_find p l with ⟨hi, hF⟩ | ⟨k, hk, hi, hF⟩
  · rw [hF]
    have Hi := Lib.hid hi; clear hi hF hln; go_enter Tryz.func183, Tryz.ntmps183
    go_wp2_with (go_at_call 186; refine (indexFI_c l v n _ hv hn f hf caps p hp).mono ?_; rw [Hi.out]; rintro e w1 ⟨rfl, hb⟩)
    go_ret; exact ⟨rfl, hb⟩
  · rw [hF]
    have Hi := Lib.hid hi; clear hi hF
    have hkn : k < n := by omega
    have Hln := Lib.hid hln; clear hln; obtain ⟨a1, c1, rfl⟩ := hv.len; go_enter Tryz.func183, Tryz.ntmps183
    go_wp2_with fail
    refine (indexFI_c l _ n _ hv hn f hf caps p hp).mono ?_; rw [Hi.out]; rintro e w1 ⟨rfl, hb⟩; obtain ⟨b, off, rfl, hc⟩ := (hv.up hb).cellAt (k := k) (by omega) (by omega)
    have hc1 : w1.cell? ⟨b, off + k, none⟩ = some (.int .i64 l[k]) := by
      simpa [hk] using hc
    go_wp2; go_ret; exact ⟨rfl, hb⟩
theorem least1_c (k n : Int) (b : Nat) (w : World) (hc : w.cell? ⟨b, 0, none⟩ = some (.int .u64 n)) (hk : Oct.okW k = true) (h0 : 0 ≤ n) (h1 : n ≤ 18446744073709551615) :
    Calls Tryz.prog 184 #[.int .i64 k, .pointer (some ⟨b, 0, none⟩)] w (Ret (.bool (Oct.fitsB k n)) w) := by
  go_enter Tryz.func184, Tryz.ntmps184
  go_wp2_with (go_at_call 119; refine (fits_c k n _ hk h0 h1).mono ?_; rintro e w1 ⟨rfl, hb⟩)
  go_ret; exact ⟨rfl, hb⟩
theorem enters_least1 : Enters Tryz.prog 184 := enters_of Tryz.func184 (by kernel_rfl) rfl
theorem least_c (n : Int) (w : World) (h0 : 0 ≤ n) (h1 : n ≤ 18446744073709551615) : Calls Tryz.prog 179 #[.int .u64 n] w (Ret (.int .i64 (Oct.leastF n)) w) := by
  have hmf : ∀ (fn : Fn) (first cap : Array Value) (w : World), (Instr.makeFunc fn first cap).run Tryz.prog w = .ok (.func fn first cap) w := fun _ _ _ _ => rfl
  rw [← Oct.least_find h1]; go_enter Tryz.func179, Tryz.ntmps179
  go_wp2_with (first
    | (go_at_call 141; refine (widths_c _).mono ?_; rintro e w1 ⟨rfl, hb⟩)
    | (go_at_call 183; refine (first_c [1, 2, 4, 8] _ 4 _ (sl4 _ _ rfl _) (by decide) _ enters_least1 #[.pointer (some ⟨w.heap.size, 0, none⟩)] (fun k => Oct.fitsB k n) (fun x hx w2 hB => Calls.cast rfl (least1_c x n w.heap.size w2 (cell_up hB (cell_up (below_alloc _ _) (cell_up hb (cell_new _ _ _)))) (Oct.mem4 hx) h0 h1))).mono ?_; rintro e w3 ⟨rfl, hb3⟩))
  go_ret; exact ⟨rfl, below_up (below_new hb) (below_new hb3)⟩
end Go.Proofs.YtpkonagjnfphkaaGreatDoor
