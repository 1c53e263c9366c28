/-
  Contracts: a clone of events; Events; its iterator.
-/
import Derived.Test.YthlgoclidgfejaaTraceF
import Derived.Test.YthlgoclidgfejaaTraceL
import Derived.Test.YthlgoclidgfejaaIterB
namespace Go.Proofs.Ythlgoclidgfejaa
open Go.RowKit Trc
set_option linter.unusedSimpArgs false
set_option linter.unusedVariables false
attribute [local go_sem] Oper.semAt_some

theorem one_ev (l : List Ev) : ∀ u ∈ l.flatMap evC, u.oneCell' = true := by
  intro u hu
  obtain ⟨e, _, hu⟩ := List.mem_flatMap.1 hu
  simp only [List.mem_cons, List.not_mem_nil, or_false] at hu
  rcases hu with h | h | h | h | h | h | h | h | h | h | h | h | h | h | h | h <;> (rw [h]; rfl)

theorem cloneE_c (l : List Ev) (v : Value) (n : Nat) (w : World) (hv : Sl w 16 v n (l.flatMap evC)) (hn : n ≤ 4096) :
    Calls Try.prog 25 #[v] w fun e w' => ∃ v', e = .returned v' ∧ w'.ownsRow w.heap.size 48 16 v' n (l.flatMap evC) ∧ Below w.heap.size w w' := by
  obtain ⟨a, c, rfl⟩ := hv.len
  have he := fun (w : World) (a : Option Addr) (n c : Nat) => Lib.run_eql_slice_nil (P := Try.prog) w 22 48 a n c 0 0 Try.underlying22
  cases a with
  | none =>
    have h0 : n = 0 ∧ l = [] := by
      have hl := Sl.recs (cells := evC) (sz := 16) (fun _ => rfl) (by decide) hv
      obtain ⟨_, ⟨a, c, h1, rfl⟩ | ⟨b, off, cap, h1, _⟩⟩ := hv
      · exact ⟨rfl, List.eq_nil_of_length_eq_zero hl⟩
      · simp at h1
    obtain ⟨rfl, rfl⟩ := h0
    go_enter Try.func25, Try.ntmps25
    go_wp2
    go_ret
    exact ⟨_, rfl, World.ownsRow_nil _ _ _ _, Below.refl _ _⟩
  | some a =>
    go_enter Try.func25, Try.ntmps25
    go_wp2_with (at_builtin; refine wpList_app rfl _ _ 22 rfl slT_ev w.heap.size rfl (World.ownsRow_lit w #[] 0 (Nat.le_refl _) (by decide) rfl) rfl (hv.up ((Below.refl _ _).alloc (Nat.le_refl _) _)) (one_ev _) (by simp [maxLen]; omega) (by omega) (by simp) ?_; intro v' w1 hown hgrow _)
    go_ret
    exact ⟨v', rfl, by simpa using hown, grown_below ((Below.refl _ _).alloc (Nat.le_refl _) _) hgrow (fun k hk => by have : w.heap.size = k := Option.some.inj hk; omega)⟩

/-- What Events hands out: its slice lies in block C, the name in block N. -/
structure EvsAt (w : World) (base C N : Nat) (v : Value) (n : Nat) (l : List Ev) (x : Nm) : Prop where
  var : w.cell? ⟨C, 0, none⟩ = some v
  sl : Sl w 16 v n (l.flatMap evC)
  name : RowAt w N (nmC x).toArray 39
  cs : base ≤ C
  ns : base ≤ N
  own : n = 0 ∨ ∀ k, v.ownBlock = some k → base ≤ k

theorem EvsAt.but {w w' : World} {base C N : Nat} {v : Value} {n : Nat} {l : List Ev} {x : Nm} (h : EvsAt w base C N v n l x) {O : Nat → Prop} (hb : But O w w') (hC : ¬ O C) (hN : ¬ O N) (hv : n = 0 ∨ ∀ k, v.ownBlock = some k → ¬ O k) : EvsAt w' base C N v n l x :=
  ⟨hb.cell h.var hC, h.sl.but hb hv, (hb.same N h.name.lt hN).trans h.name, h.cs, h.ns, h.own⟩

theorem events_c (l : List Ev) (v : Value) (n : Nat) (x : Nm) (w : World) (hv : Sl w 16 v n (l.flatMap evC)) (hn : n ≤ 4096) :
    Calls Try.prog 12 #[nmV x, v] w fun en w' => ∃ C N v', en = .returned (.func (.func 26) #[] #[.pointer (some ⟨C, 0, none⟩), .pointer (some ⟨N, 0, none⟩)]) ∧
      EvsAt w' w.heap.size C N v' n l x ∧ Below w.heap.size w w' := by
  obtain ⟨a, c, rfl⟩ := hv.len
  have hmf : ∀ (fn : Fn) (first cap : Array Value) (w : World), (Instr.makeFunc fn first cap).run Try.prog w = .ok (.func fn first cap) w := fun _ _ _ _ => rfl
  have N1 := RowAt.new w (nmC x).toArray 39
  have hB1 := below_alloc w (.cells (nmC x).toArray 39)
  go_enter Try.func12, Try.ntmps12
  go_wp2_with (go_at_call 25; refine (cloneE_c l _ n _ (hv.up hB1) hn).mono ?_; rintro en w1 ⟨v1, rfl, hown, hb1⟩; have N2 := N1.below hb1; have s1 := Sl.of_own hown; obtain ⟨a1, c1, rfl⟩ := own_slice hown)
  go_ret
  refine ⟨_, _, _, rfl, ⟨by simp [go_sem], s1.up (below_alloc _ _), N2.alloc _, ?_, Nat.le_refl _, .inr fun k hk => ?_⟩, (below_up hB1 hb1).alloc ?_ _⟩
  · have := (below_up hB1 hb1).size; omega
  · have := own_of_some hown hk; simp at this; omega
  · exact (below_up hB1 hb1).size

/-- Names are compared. -/
theorem exec_nmeq {ρ : Operand → Value} {o : Oper} {x y : Operand} {t : TypeId} (ho : o.op = .binOp .eql 39 x y t) {p q : Nm} (hx : ρ x = nmV p) (hy : ρ y = nmV q) {b : Bool} (hb : decide (p = q) = b) (w : World) :
    (execOp ρ o).run Try.prog w = .ok (.value (.bool b)) w := by
  subst hb
  unfold execOp
  simp only [ho, hx, hy]
  have h : decide (p = q) = (decide (p.node = q.node) && (decide (p.service = q.service) && (decide (p.time = q.time) && decide (p.seq = q.seq)))) := by
    rw [Bool.eq_iff_iff]; simp [Nm.ext_iff]
  rw [h]
  by_cases h1 : p.node = q.node <;> by_cases h2 : p.service = q.service <;> by_cases h3 : p.time = q.time <;> by_cases h4 : p.seq = q.seq <;> simp [go_sem, h1, h2, h3, h4]
theorem wpListIn_nmeq {F : Fence} {n : Nat} {ops : Array Oper} {rest : List Oper} {o : Oper} {a : Act} {w : World} {Q : Exit → Act → World → Prop} (hw : Region.wanted o (yielded ops a.tmps) = true) (x y : Operand) (t : TypeId)
    (ho : o.op = .binOp .eql 39 x y t) (p q : Nm) (hx : a.eval x = nmV p) (hy : a.eval y = nmV q) {b : Bool} (hb : decide (p = q) = b)
    (h : wpListIn F n Try.prog ops Q rest (a.put o.dst (.bool b)) w) : wpListIn F n Try.prog ops Q (o :: rest) a w :=
  wpListIn_val hw (fun f hf => by unfold Oper.about at hf; rw [ho] at hf; cases hf) (fun c hc => by rw [ho] at hc; cases hc) (exec_nmeq ho hx hy hb w) h
namespace Trc
def prs (x : Nm) (l : List Ev) : List (Ev × Nat) := l.zipIdx.filter fun p => decide (p.1.name = x)
theorem prs_snoc (x : Nm) (l : List Ev) (e : Ev) : prs x (l ++ [e]) = prs x l ++ if e.name = x then [(e, l.length)] else [] := by
  unfold prs
  rw [List.zipIdx_append, List.filter_append]
  by_cases h : e.name = x <;> simp [h]
theorem prs_le (x : Nm) (l : List Ev) (i : Nat) : ∃ r, prs x l = prs x (l.take i) ++ r := by
  refine ⟨((l.drop i).zipIdx (0 + (l.take i).length)).filter fun p => decide (p.1.name = x), ?_⟩
  unfold prs
  rw [← List.filter_append, ← List.zipIdx_append, List.take_append_drop]
theorem prs_at {x : Nm} {l : List Ev} {i : Nat} (hi : i < l.length) (h : l[i].name = x) : (prs x l)[(prs x (l.take i)).length]? = some (l[i], i) := by
  obtain ⟨r, hr⟩ := prs_le x l (i + 1)
  rw [List.take_succ_eq_append_getElem hi, prs_snoc, if_pos h] at hr
  rw [hr, List.append_assoc, List.getElem?_append_right (Nat.le_refl _), Nat.sub_self]
  simp [List.length_take, Nat.min_eq_left (Nat.le_of_lt hi)]
theorem prs_len (x : Nm) (l : List Ev) (i : Nat) : (prs x (l.take i)).length ≤ (prs x l).length := by
  obtain ⟨r, hr⟩ := prs_le x l i
  rw [hr, List.length_append]; omega
end Trc
/-- The k-th of a name's events, and its place. -/
def prAt (x : Nm) (l : List Ev) (k : Nat) : Ev × Nat := (prs x l).getD k (⟨0, 0, 0, 0, 0, ⟨0, 0, 0, 0⟩, 0, ⟨0, 0, 0, 0⟩, 0, 0⟩, 0)
def prArgs (x : Nm) (l : List Ev) (k : Nat) : Array Value := #[.int .i64 (prAt x l k).2, evV (prAt x l k).1]

set_option maxHeartbeats 2000000 in
set_option maxRecDepth 100000 in
theorem events1_x (l : List Ev) (x : Nm) (C N base n : Nat) (v : Value) (S : Nat → Prop) (w : World) (h : EvsAt w base C N v n l x) (hn : n ≤ 4096) (hSS : S C ∧ S N ∧ (n = 0 ∨ ∀ k, v.ownBlock = some k → S k)) :
    SeqX Try.prog 26 #[.pointer (some ⟨C, 0, none⟩), .pointer (some ⟨N, 0, none⟩)] (prArgs x l) (prs x l).length S w := by
  intro l' G J Jx W hW hS hG hJ hJx hY h0
  have hE := h.but (O := fun _ => False) (But.of_below hW) (fun h => h) (fun h => h) (.inr fun _ _ h => h)
  have Hln := Lib.hid (Sl.recs (cells := evC) (sz := 16) (fun _ => rfl) (by decide) hE.sl)
  obtain ⟨a, c, rfl⟩ := hE.sl.len
  have hc0 := hE.var
  clear h hW
  refine (callsIn_wide (n := 3)).1 ?_
  refine callsIn_of_wp Try.func26 rfl trivial ?_ rfl
  simp only [Try.ntmps26, List.size_toArray, List.length_cons, List.length_nil, Nat.reduceAdd, Nat.reduceSub, Array.replicate_succ, Array.replicate_zero, List.push_toArray, List.append_toArray, List.nil_append, List.cons_append]
  gi_wp2
  refine wpIn_scope0 ?_
  gi_wp2
  gi_loopw [8] (fun i wr => ∃ (j : Nat) (G : Nat → Prop), j ≤ n ∧ i = .int .i64 j ∧ J (prs x (l.take j)).length G wr ∧ EvsAt wr base C N (.slice a n c) n l x ∧ (∀ k, S k → ¬ G k) ∧ W.heap.size ≤ wr.heap.size) (fun i _ => n - (intOf i).toNat)
  case atStart => exact ⟨0, G, Nat.zero_le _, rfl, h0, hE, fun k hk => (hS k hk).2, Nat.le_refl _⟩
  case round =>
    obtain ⟨j, G1, hk, rfl, hj, hE1, hG1, hsz⟩ := hrel
    by_cases hlt : j < n
    · have hlt' : j < l.length := by rw [Hln.out]; exact hlt
      obtain ⟨b, off, rfl, hr⟩ := hE1.sl.rec_at (cells := evC) (sz := 16) (fun _ => rfl) hlt hlt'
      have hjn : (j : Int) < (n : Int) := by omega
      have hpa : l[j].name = x → prArgs x l (prs x (l.take j)).length = #[.int .i64 j, evV l[j]] := fun e => by
        unfold prArgs prAt
        rw [List.getD_eq_getElem?_getD, prs_at hlt' e]; rfl
      have hsn : (prs x (l.take (j + 1))).length = (prs x (l.take j)).length + if l[j].name = x then 1 else 0 := by
        rw [List.take_succ_eq_append_getElem hlt', prs_snoc]
        by_cases h : l[j].name = x <;> simp [h]
      have hkl : l[j].name = x → (prs x (l.take j)).length < (prs x l).length := fun e => by
        have := prs_len x l (j + 1)
        rw [hsn, if_pos e] at this; omega
      generalize l[j] = e at *
      have hCl := World.block_lt_of_cell? wr _ hE1.var
      have hNl := hE1.name.lt
      have E1 := RowAt.new wr (evA e) 48
      have hEa := hE1.but (But.alloc (O := fun _ => False) wr (.cells (evA e) 48)) (fun h => h) (fun h => h) (.inr fun _ _ h => h)
      have N1 := hEa.name
      have hJa := (hJ _).alloc (.cells (evA e) 48) (((hJ _).up (Nat.le_refl _)) _ _ _ hj (But.refl _ _))
      have Hsn := Lib.hid hsn
      clear hsn
      by_cases hnm : e.name = x
      · obtain ⟨fn, tmps, assign, body, hy, hR⟩ := yieldAt_wide (m' := 2) (hY _ _ _ (hkl hnm) hJa)
        rw [hpa hnm] at hy
        have hkl' := hkl hnm
        subst hnm
        clear hpa hkl
        gi_wp2_with (first
          | (refine wpListIn_loadr rfl 48 (.tmp 11) rfl b (off + j * 16) rfl (evC e) _ hr Try.underlying48 rfl (by kernel_rfl) ?_)
          | (refine wpListIn_loadr rfl 39 (.tmp 13) rfl wr.heap.size 5 rfl (nmC e.name) _ (rangeAt_sub E1.range 5 5 rfl (evC_name e)) Try.underlying39 rfl (by kernel_rfl) ?_)
          | (refine wpListIn_loadr rfl 39 (.tmp 2) rfl N 0 rfl (nmC e.name) _ N1.range Try.underlying39 rfl (by kernel_rfl) ?_)
          | (refine wpListIn_loadr rfl 48 (.tmp 5) rfl wr.heap.size 0 rfl (evC e) _ E1.range Try.underlying48 rfl (by kernel_rfl) ?_))
        refine hR.mono ?_
        rintro en W3 ⟨g, rfl, hw⟩
        have hE3 := hEa.but hw.but (hG1 C hSS.1) (hG1 N hSS.2.1) (hSS.2.2.elim .inl fun h => .inr fun k hk => hG1 k (h k hk))
        have hs3 := hw.but.size
        simp only [World.size_alloc] at hs3
        cases g with
        | true =>
          gi_wp2
          go_roundw
          case rel => exact ⟨j + 1, _, by omega, by simp, by rw [Hsn.out, if_pos trivial]; exact hw.on rfl, hE3, fun k hk => newG_not (hG1 k hk) (by have := (hS k hk).1; simp; omega), by omega⟩
          case measure => simp [intOf]; omega
        | false =>
          gi_wp2
          rw [Exit.noGoto_normal]
          go_end0
          exact ⟨⟨_, rfl⟩, _, .inr ⟨_, hkl', hw.off rfl⟩⟩
      · clear hpa hkl
        have Hnm := Lib.hid hnm
        clear hnm
        gi_wp2_with (first
          | (refine wpListIn_loadr rfl 48 (.tmp 11) rfl b (off + j * 16) rfl (evC e) _ hr Try.underlying48 rfl (by kernel_rfl) ?_)
          | (refine wpListIn_loadr rfl 39 (.tmp 13) rfl wr.heap.size 5 rfl (nmC e.name) _ (rangeAt_sub E1.range 5 5 rfl (evC_name e)) Try.underlying39 rfl (by kernel_rfl) ?_)
          | (refine wpListIn_loadr rfl 39 (.tmp 2) rfl N 0 rfl (nmC x) _ N1.range Try.underlying39 rfl (by kernel_rfl) ?_)
          | (refine wpListIn_loadr rfl 48 (.tmp 5) rfl wr.heap.size 0 rfl (evC e) _ E1.range Try.underlying48 rfl (by kernel_rfl) ?_)
          | (refine wpListIn_nmeq rfl (.tmp 14) (.tmp 15) _ rfl e.name x rfl rfl (decide_eq_false Hnm.out) ?_))
        refine ⟨(fun _ h => by cases h), ?_⟩
        gi_wp2
        go_roundw
        case rel => exact ⟨j + 1, G1, by omega, by simp, by rw [Hsn.out, if_neg Hnm.out]; exact hJa, hEa, hG1, by simp; omega⟩
        case measure => simp [intOf]; omega
    · obtain rfl : j = n := by omega
      have hall : l.take j = l := List.take_of_length_le (by rw [Hln.out]; exact Nat.le_refl _)
      rw [hall] at hj
      gi_wp2
      rw [Exit.noGoto_normal]
      go_end0
      exact ⟨⟨_, rfl⟩, _, .inl hj⟩
end Go.Proofs.Ythlgoclidgfejaa
