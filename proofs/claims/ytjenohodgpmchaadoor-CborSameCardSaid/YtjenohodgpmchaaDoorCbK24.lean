/-
  CbRc, CbTk, PtM: several texts in one (bundle.py).
-/
import Derived.Test.YtjenohodgpmchaaDoorCbK23
import Derived.Test.YtjenohodgpmchaaDoorCbK10
import Derived.Test.YtjenohodgpmchaaDoorCbK11
import Derived.Test.YtjenohodgpmchaaDoorCbK03
import Derived.Test.YtjenohodgpmchaaDoorCbK04
import Derived.Test.YtjenohodgpmchaaDoorCbK15
namespace Go.Proofs.YtjenohodgpmchaaDoor
open Go.RowKit Cb
set_option linter.unusedSimpArgs false
set_option linter.unusedVariables false
set_option maxHeartbeats 4000000 in
set_option maxRecDepth 100000 in
theorem checkR_c (S : Nat → Prop) (x : It) (r : Rw) (w : World) (hr : ItR S w x r) (hcx : cnt x ≤ 1000000) : Calls Tryd.prog 19 #[rwV r] w (Ret (.int .i64 (chk x)) w) := by
  obtain ⟨k1, n1, ba1, bn1, bc1, s1, la1, ln1, lc1, rfl⟩ := hr.shape
  have hB1 := below_alloc w (.cells (rwC ⟨k1, n1, .slice ba1 bn1 bc1, s1, .slice la1 ln1 lc1⟩).toArray 28)
  have e1 := rangeAt_new w (rwC ⟨k1, n1, .slice ba1 bn1 bc1, s1, .slice la1 ln1 lc1⟩) 28 (0, 0)
  have hri := rightR_c S x _ _ (hr.up hB1) hcx
  have hde := fun w' (hb : Below (w.alloc (.cells (rwC ⟨k1, n1, .slice ba1 bn1 bc1, s1, .slice la1 ln1 lc1⟩).toArray 28)).heap.size (w.alloc (.cells (rwC ⟨k1, n1, .slice ba1 bn1 bc1, s1, .slice la1 ln1 lc1⟩).toArray 28)) w') => depthR_c S x _ w' ((hr.up hB1).up hb) hcx
  have hwr := fun (h : rightB x = true) w' (hb : Below (w.alloc (.cells (rwC ⟨k1, n1, .slice ba1 bn1 bc1, s1, .slice la1 ln1 lc1⟩).toArray 28)).heap.size (w.alloc (.cells (rwC ⟨k1, n1, .slice ba1 bn1 bc1, s1, .slice la1 ln1 lc1⟩).toArray 28)) w') => bytesR_c S x _ w' ((hr.up hB1).up hb) hcx h
  have hdc := depth_cnt x
  have hbl := bytes_le x
  have hide := Lib.hid hde
  have hiwr := Lib.hid hwr
  clear hr hde hwr
  have e0 := e1 0 _ rfl
  have f1 := e1 1 _ rfl
  have f2 := e1 2 _ rfl
  have f3 := e1 3 _ rfl
  have f4 := e1 4 _ rfl
  simp only [Nat.zero_add] at e0 f1 f2 f3 f4
  by_cases hR : rightB x = false
  · have HC := Lib.hid (show chk x = 2 by unfold chk; rw [if_pos hR])
    rw [hR] at hri
    go_enter Tryd.func19, Tryd.ntmps19
    go_wp2_with (go_at_call 40; refine hri.mono ?_; rintro en w1 ⟨rfl, hb1⟩)
    go_ret
    exact ⟨by rw [HC.out]; rfl, below_up hB1 hb1⟩
  · have hR' : rightB x = true := by simpa using hR
    rw [hR'] at hri
    have hwr := Lib.hid (hiwr.out hR')
    obtain ⟨D, hD⟩ : ∃ D, depth x = D := ⟨_, rfl⟩
    have hde := Lib.hid (fun w' hb => by have := hide.out w' hb; rw [hD] at this; exact this)
    rw [hD] at hdc
    obtain ⟨bs, hbs⟩ : ∃ bs, bytesOf x = bs := ⟨_, rfl⟩
    rw [hbs] at hwr hbl
    obtain ⟨L, hLL⟩ : ∃ L, bs.length = L := ⟨_, rfl⟩
    have HBS := Lib.hid hLL
    have hwr := Lib.hid (fun w' hb => by have := hwr.out w' hb; unfold ByE at this; rw [hLL] at this; exact this)
    rw [hLL] at hbl
    by_cases hd : 8 < D
    · have HC := Lib.hid (show chk x = 120 by unfold chk; rw [if_neg hR, hD, if_pos hd])
      have hd1 : decide (8 < (D : Int)) = true := decide_eq_true (by omega)
      have hd2 : decide ((D : Int) > 8) = true := decide_eq_true (by omega)
      clear hR hR' hD hbs hLL hd
      go_enter Tryd.func19, Tryd.ntmps19
      go_wp2_with (first
        | (go_at_call 40; refine hri.mono ?_; rintro en w1 ⟨rfl, hb1⟩; have q1 := rangeAt_up hb1 e1; have a0 := q1 0 _ rfl; have a1 := q1 1 _ rfl; have a2 := q1 2 _ rfl; have a3 := q1 3 _ rfl; have a4 := q1 4 _ rfl; simp only [Nat.zero_add] at a0 a1 a2 a3 a4)
        | (go_at_call 28; refine (hde.out w1 hb1).mono ?_; rintro en w2 ⟨rfl, hb2⟩))
      go_ret
      exact ⟨by rw [HC.out]; rfl, below_up (below_up hB1 hb1) hb2⟩
    · have hd1 : decide (8 < (D : Int)) = false := decide_eq_false (by omega)
      have hd2 : decide ((D : Int) > 8) = false := decide_eq_false (by omega)
      by_cases hL : 65536 < L
      · have HC := Lib.hid (show chk x = 3 by unfold chk; rw [if_neg hR, hD, if_neg hd, hbs, hLL, if_pos hL])
        have hl1 : decide (65536 < (L : Int)) = true := decide_eq_true (by omega)
        have hl2 : decide ((L : Int) > 65536) = true := decide_eq_true (by omega)
        clear hR hR' hD hbs hLL hd hL
        go_enter Tryd.func19, Tryd.ntmps19
        go_wp2_with (first
        | (go_at_call 40; refine hri.mono ?_; rintro en w1 ⟨rfl, hb1⟩; have q1 := rangeAt_up hb1 e1; have a0 := q1 0 _ rfl; have a1 := q1 1 _ rfl; have a2 := q1 2 _ rfl; have a3 := q1 3 _ rfl; have a4 := q1 4 _ rfl; simp only [Nat.zero_add] at a0 a1 a2 a3 a4)
        | (go_at_call 28; refine (hde.out w1 hb1).mono ?_; rintro en w2 ⟨rfl, hb2⟩; have q2 := rangeAt_up hb2 q1; have b0 := q2 0 _ rfl; have b1 := q2 1 _ rfl; have b2 := q2 2 _ rfl; have b3 := q2 3 _ rfl; have b4 := q2 4 _ rfl; simp only [Nat.zero_add] at b0 b1 b2 b3 b4)
        | (go_at_call 21; refine (hwr.out w2 (below_up hb1 hb2)).mono ?_; rintro en w3 ⟨v3, rfl, ho3, hb3⟩; obtain ⟨p3, c3, rfl⟩ := own_slice ho3))
        go_ret
        exact ⟨by rw [HC.out]; rfl, below_up (below_up (below_up hB1 hb1) hb2) hb3⟩
      · have HC := Lib.hid (show chk x = 0 by unfold chk; rw [if_neg hR, hD, if_neg hd, hbs, hLL, if_neg hL])
        have hl1 : decide (65536 < (L : Int)) = false := decide_eq_false (by omega)
        have hl2 : decide ((L : Int) > 65536) = false := decide_eq_false (by omega)
        clear hR hR' hD hbs hLL hd hL
        go_enter Tryd.func19, Tryd.ntmps19
        go_wp2_with (first
        | (go_at_call 40; refine hri.mono ?_; rintro en w1 ⟨rfl, hb1⟩; have q1 := rangeAt_up hb1 e1; have a0 := q1 0 _ rfl; have a1 := q1 1 _ rfl; have a2 := q1 2 _ rfl; have a3 := q1 3 _ rfl; have a4 := q1 4 _ rfl; simp only [Nat.zero_add] at a0 a1 a2 a3 a4)
        | (go_at_call 28; refine (hde.out w1 hb1).mono ?_; rintro en w2 ⟨rfl, hb2⟩; have q2 := rangeAt_up hb2 q1; have b0 := q2 0 _ rfl; have b1 := q2 1 _ rfl; have b2 := q2 2 _ rfl; have b3 := q2 3 _ rfl; have b4 := q2 4 _ rfl; simp only [Nat.zero_add] at b0 b1 b2 b3 b4)
        | (go_at_call 21; refine (hwr.out w2 (below_up hb1 hb2)).mono ?_; rintro en w3 ⟨v3, rfl, ho3, hb3⟩; obtain ⟨p3, c3, rfl⟩ := own_slice ho3))
        go_ret
        exact ⟨by rw [HC.out]; rfl, below_up (below_up (below_up hB1 hb1) hb2) hb3⟩
end Go.Proofs.YtjenohodgpmchaaDoor

namespace Go.Proofs.YtjenohodgpmchaaDoor
open Go.RowKit Cb
set_option linter.unusedSimpArgs false
set_option linter.unusedVariables false
theorem slT_left : SlT Tryd.prog 65 5 1 1 := SlT.mk' Tryd.underlying65 (z := .int .u8 0) (by kernel_rfl) rfl (by decide)
set_option maxRecDepth 100000 in
theorem cloneLeft_c (l : List UInt8) (v : Value) (n : Nat) (w : World) (hv : Sl w 1 v n (by8 l)) (hn : n ≤ 140737488351233) :
    Calls Tryd.prog 56 #[v] w fun e w' => ∃ v', e = .returned v' ∧ w'.ownsRow w.heap.size 5 1 v' n (by8 l) ∧ Below w.heap.size w w' := by
  obtain ⟨a, c, rfl⟩ := hv.len
  have hnil := fun w a => Lib.run_eql_slice_nil (P := Tryd.prog) w 65 _ a n c 0 0 Tryd.underlying65
  cases a with
  | none =>
    have h0 : n = 0 ∧ l = [] := by
      rcases hv.2 with ⟨_, _, _, h⟩ | ⟨b, off, cap, e, _⟩
      · have := hv.n_len; exact ⟨h, List.eq_nil_of_length_eq_zero (by omega)⟩
      · simp at e
    obtain ⟨rfl, rfl⟩ := h0
    go_enter Tryd.func56, Tryd.ntmps56
    go_wp2
    go_ret
    exact ⟨_, rfl, World.ownsRow_nil _ _ _ _, Below.refl _ _⟩
  | some a =>
    go_enter Tryd.func56, Tryd.ntmps56
    go_wp2_with (at_builtin; refine wpList_app rfl _ _ 65 rfl slT_left w.heap.size rfl (World.ownsRow_lit w #[] 0 (Nat.le_refl _) (by decide) rfl) rfl (hv.up (below_alloc _ _)) (one_by8 _) (by simp [maxLen]; omega) (by omega) (by simp) ?_; intro v' w1 hown hgrow _)
    go_ret
    exact ⟨v', rfl, by simpa using hown, grown_below (below_alloc _ _) hgrow (fun k hk => by have : w.heap.size = k := Option.some.inj hk; omega)⟩
/-- What is behind a place of a slice: it lies in the slice's own block. -/
theorem cut_lb {P : Program} {t e : TypeId} {sz bytes : Nat} (T : SlT P t e sz bytes) {w : World} {a : Option Addr} {n c : Nat} {cs : List Value} (h : Sl w sz (.slice a n c) n cs) (lo : Nat) (h1 : lo ≤ n) :
    ∃ a', (∀ (kl : IntKind) (w' : World), (Instr.slice t (.slice a n c) (some (.int kl (lo : Int))) none none).run P w' = .ok (.slice a' (n - lo) (c - lo)) w') ∧ Sl w sz (.slice a' (n - lo) (c - lo)) (n - lo) (cs.drop (lo * sz)) ∧
      ∀ k, (Value.slice a' (n - lo) (c - lo)).ownBlock = some k → (Value.slice a n c).ownBlock = some k := by
  have hc : n ≤ c := by
    rcases h.n_le with h | h
    · exact h
    · omega
  have := h.cut (lo := lo) (hi := n) (mx := c) h1 (Nat.le_refl _) hc (Nat.le_refl _)
  rw [List.take_of_length_le (by rw [List.length_drop, h.1, Nat.sub_mul]; exact Nat.le_refl _)] at this
  refine ⟨if c = lo then a else a.map (fun x : Addr => x.add (lo * sz)), fun kl w' => run_cut_l T a n c lo kl h1 w', this, fun k hk => ?_⟩
  cases a with
  | none => split at hk <;> exact hk
  | some a =>
    by_cases hz : c = lo
    · rw [if_pos hz] at hk; exact hk
    · rw [if_neg hz] at hk
      simp only [Option.map_some, Value.ownBlock, Option.some.injEq] at hk ⊢
      rw [← hk]
      unfold Addr.add
      split <;> rfl
/-- A reader at D: what is left to read. -/
structure RdAt (w : World) (D : Nat) (v : Value) (b : List UInt8) : Prop where
  box : RowAt w D #[v] 67
  sl : Sl w 1 v b.length (by8 b)
  far : b.length = 0 ∨ ∀ k, v.ownBlock = some k → k < D
theorem RdAt.up {w w' : World} {D : Nat} {v : Value} {b : List UInt8} (h : RdAt w D v b) (hb : Below w.heap.size w w') : RdAt w' D v b := ⟨h.box.below hb, h.sl.up hb, h.far⟩
set_option maxHeartbeats 1000000 in
set_option maxRecDepth 100000 in
theorem take_yes (w : World) (D : Nat) (v : Value) (b : List UInt8) (n : Nat) (h : RdAt w D v b) (hn : n ≤ b.length) (hbl : b.length ≤ 1000000) :
    Calls Tryd.prog 44 #[.pointer (some ⟨D, 0, none⟩), .int .u64 n] w fun en w' => ∃ u v', en = .returned u ∧ w'.ownsRow w.heap.size 5 1 u n (by8 (b.take n)) ∧ RdAt w' D v' (b.drop n) ∧ But (fun k => k = D) w w' := by
  obtain ⟨a, c, rfl⟩ := h.sl.len
  have c0 := h.box.cell (i := 0) (v := .slice a b.length c) rfl
  have hd : decide ((n : Int) ≤ (b.length : Int)) = true := decide_eq_true (by omega)
  obtain ⟨a1, hr1, hs1⟩ := cut_h slT_left h.sl n hn
  obtain ⟨a2, hr2, hs2, hk2⟩ := cut_lb slT_left h.sl n hn
  rw [Nat.mul_one, ← by8_take] at hs1
  rw [Nat.mul_one, ← by8_drop] at hs2
  have hbox := h.box
  have hfar := h.far
  have hdl : (b.drop n).length = b.length - n := List.length_drop
  clear h
  generalize hB : b.length = B at *
  go_enter Tryd.func44, Tryd.ntmps44
  go_wp2_with (first
    | (go_at_call 31; with_reducible refine (must_yes _ _).mono ?_; rintro en w1 ⟨rfl, rfl⟩)
    | (go_at_call 56; refine (cloneLeft_c (b.take n) _ n _ hs1 (by omega)).mono ?_; rintro en w1 ⟨u, rfl, ho, hb⟩; obtain ⟨au, cu, rfl⟩ := own_slice ho; have z0 := hbox.below hb; have c1 := z0.cell (i := 0) rfl; have f1 := z0.fz 0))
  go_ret
  have hDw := hbox.lt
  have s1 : But (fun k => k = D) w1 (w1.setCell ⟨D, 0, none⟩ (.slice a2 (B - n) (c - n))) := But.setCell _ _ _ (.inl rfl)
  have hfar2 : B - n = 0 ∨ ∀ k, (Value.slice a2 (B - n) (c - n)).ownBlock = some k → k < D := by
    rcases hfar with h | h
    · exact .inl (by omega)
    · exact .inr fun k hk => h k (hk2 k hk)
  refine ⟨_, .slice a2 (B - n) (c - n), rfl, own_but ho s1 (fun k hk e => by have := (own_of_some ho hk).1; omega), ⟨z0.set 0 _, ?_, by rw [hdl]; exact hfar2⟩, (But.of_below hb).trans s1⟩
  rw [hdl]
  exact (hs2.up hb).but s1 (hfar2.imp id fun h k hk => Nat.ne_of_lt (h k hk))
set_option maxRecDepth 100000 in
theorem take_no (w : World) (D : Nat) (v : Value) (b : List UInt8) (n : Int) (h : RdAt w D v b) (hn : (b.length : Int) < n) (hbl : b.length ≤ 1000000) :
    Calls Tryd.prog 44 #[.pointer (some ⟨D, 0, none⟩), .int .u64 n] w fun en w' => en = .panicked (gup 121) ∧ w = w' := by
  obtain ⟨a, c, rfl⟩ := h.sl.len
  have c0 := h.box.cell (i := 0) (v := .slice a b.length c) rfl
  have hd : decide (n ≤ (b.length : Int)) = false := decide_eq_false (by omega)
  clear h
  generalize hB : b.length = B at *
  go_enter Tryd.func44, Tryd.ntmps44
  go_wp2_with (go_at_call 31; with_reducible refine (must_no _ _).mono ?_; rintro en w1 ⟨rfl, rfl⟩)
  exact ⟨rfl, rfl, rfl⟩
end Go.Proofs.YtjenohodgpmchaaDoor

namespace Go.Proofs.YtjenohodgpmchaaDoor
open Go.RowKit

def onlyN (Q : Exit → Act → World → Prop) : Exit → Act → World → Prop := fun e a w => e = .normal ∧ Q .normal a w
theorem onlyN_panic {Q : Exit → Act → World → Prop} : ∀ c (a : Act) d v w, onlyN Q (.panic c) (a.put d v) w → onlyN Q (.panic c) a w := fun _ _ _ _ _ h => by cases h.1
theorem wp_onlyN {P : Program} {c : Code} {Q : Exit → Act → World → Prop} {a : Act} {w : World} (h : c.wp P (onlyN Q) a w) : c.wp P Q a w :=
  Code.wp_mono (fun e a' w' he => by obtain ⟨rfl, h⟩ := he; exact h) h
theorem pt_doneN {P : Program} {ops : Array Oper} {Q : Exit → Act → World → Prop} {O : Nat → Prop} {a : Act} {w : World} (h : Q .normal a w) : wpPt P O ops (onlyN Q) .done a w := ⟨rfl, h⟩
theorem pi_nilN {P : Program} {ops : Array Oper} {Q : Exit → Act → World → Prop} {a : Act} {w : World} (h : Q .normal a w) : wpPi P ops (onlyN Q) [] a w := ⟨rfl, h⟩
/-- A guarded operation that is wanted and gives a value. -/
theorem wpList_valG {P : Program} {ops : Array Oper} {rest : List Oper} {o : Oper} {a : Act} {w : World} {Q : Exit → Act → World → Prop} (hw : Region.wanted o (yielded ops a.tmps) = true) {v : Value} (hv : (execOp a.eval o).run P w = .ok (.value v) w)
    (h : wpList P ops Q rest (a.put o.dst v) w) : wpList P ops Q (o :: rest) a w := by
  unfold wpList
  rw [if_pos hw]
  refine .inl ?_
  unfold Oper.wp
  rw [hv]
  exact h
/-- .. a record read whole. -/
theorem wpList_loadG {P : Program} {ops : Array Oper} {rest : List Oper} {o : Oper} {a : Act} {w : World} {Q : Exit → Act → World → Prop} (hw : Region.wanted o (yielded ops a.tmps) = true) (ty : TypeId) (x : Operand) (ho : o.op = .load ty x)
    (b off : Nat) (hx : a.eval x = .pointer (some ⟨b, off, none⟩)) (cs : List Value) (d : TypeDesc) (hr : w.rangeAt b off cs) (hu : P.underlying ty = some d) (hd : d.isRow = true) (hn : (P.info? ty).map (·.size) = some cs.length)
    (h : wpList P ops Q rest (a.put o.dst (.agg cs.toArray)) w) : wpList P ops Q (o :: rest) a w :=
  wpList_valG hw (by
    unfold execOp
    simp only [ho, hx, Instr.loadAt, Instr.sureAddr, Sem.run_bind, Sem.run_pure, Result.andThen_ok, run_loadVar_mid w b off ty cs d hr hu hd hn]) h
end Go.Proofs.YtjenohodgpmchaaDoor
