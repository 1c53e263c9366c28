/-
  IterB, CbV, CbRt: several texts in one (bundle.py).
-/
import Derived.Test.YtjenohodgpmchaaDoorCbK04
import Derived.Test.YtjenohodgpmchaaDoorCbK03
import Derived.Test.YtjenohodgpmchaaDoorCbK05
import Derived.Test.YtjenohodgpmchaaDoorCbK13
import Derived.Test.YtjenohodgpmchaaDoorCbK30
import Derived.Test.YtjenohodgpmchaaDoorCbK10
import Derived.Test.YtjenohodgpmchaaDoorCbK12
namespace Go.Proofs.YtjenohodgpmchaaDoor
open Go.RowKit
set_option linter.unusedVariables false

abbrev markD (D : Nat) : Deferred := { target := .collected D, args := #[] }

theorem leaves_marks {F : Fence} {n : Nat} {P : Program} {fn : Func} {tmps : Array Value} {R : Ending → World → Prop} : ∀ (Ds : List Nat) (w : World), Ds.Nodup → (∀ D ∈ Ds, w.heap[D]? = some (.deferred (some []))) →
    (∀ w', But (· ∈ Ds) w w' → ∃ v, (results fn tmps).run P w' = .ok v w' ∧ R (.returned v) w') → LeavesInM F n P fn tmps R (Ds.map markD) .returning w
  | [], w, _, _, h => h w (But.refl _ _)
  | D :: Ds, w, hnd, hD, h => by
    simp only [List.nodup_cons] at hnd
    have h0 := hD D (by simp)
    refine ⟨by simp, .inl ⟨_, _, rfl, run_takeDeferred h0, leaves_marks Ds _ hnd.2 (fun D' hD' => ?_) (fun w' hb => h w' ?_)⟩⟩
    · rw [World.putObj_heap_other (fun e => hnd.1 (by rw [← e]; exact hD'))]
      exact hD D' (by simp [hD'])
    · exact (But.putObj _ _ _ (.inl (by simp))).trans (hb.mono fun k _ hk => by simp [hk])

theorem still_val {P : Program} {ops : Array Oper} {w : World} {K : Act → Prop} {o : Oper} {rest : List Oper} {a : Act} (hw : Region.wanted o (yielded ops a.tmps) = true) {v : Value} (hv : (execOp a.eval o).run P w = .ok (.value v) w)
    (h : wpStill P ops w K rest (a.put o.dst v)) : wpStill P ops w K (o :: rest) a := by
  unfold wpStill
  rw [if_pos hw]
  unfold Oper.still
  rw [hv]
  exact ⟨rfl, h⟩
theorem still_load {P : Program} {ops : Array Oper} {w : World} {K : Act → Prop} {o : Oper} {rest : List Oper} {a : Act} (hw : Region.wanted o (yielded ops a.tmps) = true) (ty : TypeId) (x : Operand) (ho : o.op = .load ty x)
    (b off : Nat) (hx : a.eval x = .pointer (some ⟨b, off, none⟩)) (cs : List Value) (d : TypeDesc) (hr : w.rangeAt b off cs) (hu : P.underlying ty = some d) (hd : d.isRow = true) (hn : (P.info? ty).map (·.size) = some cs.length)
    (h : wpStill P ops w K rest (a.put o.dst (.agg cs.toArray))) : wpStill P ops w K (o :: rest) a :=
  still_val hw (by
    unfold execOp
    simp only [ho, hx, Instr.loadAt, Instr.sureAddr, Sem.run_bind, Sem.run_pure, Result.andThen_ok, run_loadVar_mid w b off ty cs d hr hu hd hn]) h
theorem wpListIn_val {F : Fence} {n : Nat} {P : Program} {ops : Array Oper} {rest : List Oper} {o : Oper} {a : Act} {w : World} {Q : Exit → Act → World → Prop} (hw : Region.wanted o (yielded ops a.tmps) = true)
    (hab : ∀ f, o.about P w a.eval = some f → F.fn f) (hnd : ∀ c, o.op ≠ .defer c) {v : Value} (hv : (execOp a.eval o).run P w = .ok (.value v) w) (h : wpListIn F n P ops Q rest (a.put o.dst v) w) : wpListIn F n P ops Q (o :: rest) a w := by
  unfold wpListIn
  rw [if_pos hw]
  refine ⟨hab, ?_⟩
  rw [Oper.semAt_eq _ _ _ hnd, hv]
  exact h
theorem wpListIn_loadr {F : Fence} {n : Nat} {P : Program} {ops : Array Oper} {rest : List Oper} {o : Oper} {a : Act} {w : World} {Q : Exit → Act → World → Prop} (hw : Region.wanted o (yielded ops a.tmps) = true) (ty : TypeId) (x : Operand) (ho : o.op = .load ty x)
    (b off : Nat) (hx : a.eval x = .pointer (some ⟨b, off, none⟩)) (cs : List Value) (d : TypeDesc) (hr : w.rangeAt b off cs) (hu : P.underlying ty = some d) (hd : d.isRow = true) (hn : (P.info? ty).map (·.size) = some cs.length)
    (h : wpListIn F n P ops Q rest (a.put o.dst (.agg cs.toArray)) w) : wpListIn F n P ops Q (o :: rest) a w :=
  wpListIn_val hw (fun f hf => by unfold Oper.about at hf; rw [ho] at hf; cases hf) (fun c hc => by rw [ho] at hc; cases hc) (by
    unfold execOp
    simp only [ho, hx, Instr.loadAt, Instr.sureAddr, Sem.run_bind, Sem.run_pure, Result.andThen_ok, run_loadVar_mid w b off ty cs d hr hu hd hn]) h
end Go.Proofs.YtjenohodgpmchaaDoor

namespace Go.Proofs.YtjenohodgpmchaaDoor
open Go.RowKit Cb
set_option linter.unusedSimpArgs false
set_option linter.unusedVariables false
attribute [local go_sem] Oper.semAt_some
/-- A variable that holds a slice of records. -/
structure RoAt (w : World) (C : Nat) (v : Value) (n : Nat) (L : List Rw) : Prop where
  var : w.cell? ⟨C, 0, none⟩ = some v
  sl : Sl w 5 v n (L.flatMap rwC)
theorem RoAt.but {w w' : World} {C : Nat} {v : Value} {n : Nat} {L : List Rw} {O : Nat → Prop} (h : RoAt w C v n L) (hb : But O w w') (hC : ¬ O C) (hv : n = 0 ∨ ∀ k, v.ownBlock = some k → ¬ O k) : RoAt w' C v n L :=
  ⟨hb.cell h.var hC, h.sl.but hb hv⟩
theorem RoAt.up {w w' : World} {C : Nat} {v : Value} {n : Nat} {L : List Rw} (h : RoAt w C v n L) (hb : Below w.heap.size w w') : RoAt w' C v n L := h.but (O := fun _ => False) (But.of_below hb) (fun e => e) (.inr fun _ _ e => e)
def Shp (r : Rw) : Prop := ∃ k n ba bn bc s la ln lc, r = ⟨k, n, .slice ba bn bc, s, .slice la ln lc⟩
theorem ItsR.shp {S : Nat → Prop} {w : World} {l : List It} {rows : List Rw} (h : ItsR S w l rows) : ∀ r ∈ rows, Shp r := by
  intro r hr
  obtain ⟨i, hi, rfl⟩ := List.getElem_of_mem hr
  have := h.len
  exact (h.get (i := i) (by omega) hi).shape
def itArgs (L : List Rw) (k : Nat) : Array Value := #[rwV (L.getD k ⟨0, 0, .slice none 0 0, ⟨#[]⟩, .slice none 0 0⟩)]
set_option maxRecDepth 100000 in
theorem valuesI_c (a : Option Addr) (n c : Nat) (w : World) : Calls Tryd.prog 50 #[.slice a n c] w fun en w' => en = .returned (.func (.func 70) #[] #[.pointer (some ⟨w.heap.size, 0, none⟩)]) ∧ w' = w.alloc (.cells #[.slice a n c] 26) := by
  have hmf : ∀ (fn : Fn) (first cap : Array Value) (w : World), (Instr.makeFunc fn first cap).run Tryd.prog w = .ok (.func fn first cap) w := fun _ _ _ _ => rfl
  go_enter Tryd.func50, Tryd.ntmps50
  go_wp2
  go_ret
  exact ⟨rfl, rfl⟩
theorem enters_valI1 : Enters Tryd.prog 70 := enters_of Tryd.func70 (by kernel_rfl) rfl
set_option maxHeartbeats 2000000 in
set_option maxRecDepth 100000 in
theorem valI1_z (L : List Rw) (C n : Nat) (v : Value) (S : Nat → Prop) (w : World) (h : RoAt w C v n L) (hsh : ∀ r ∈ L, Shp r) (hSS : S C ∧ (n = 0 ∨ ∀ k, v.ownBlock = some k → S k)) :
    SeqZ Tryd.prog 70 #[.pointer (some ⟨C, 0, none⟩)] (itArgs L) n S w := by
  intro l' G J Jx Jp W hW hS hG hJ hJx hY h0
  have hE := h.up hW
  have Hln := Lib.hid (Sl.recs (cells := rwC) (sz := 5) (fun _ => rfl) (by decide) hE.sl)
  have hn := hE.sl.n_max
  obtain ⟨a, c, rfl⟩ := hE.sl.len
  have hc0 := hE.var
  clear h hW
  refine (callsIn_wide (n := 3)).1 ?_
  refine callsIn_of_wp Tryd.func70 rfl trivial ?_ rfl
  simp only [Tryd.ntmps70, List.size_toArray, List.length_cons, List.length_nil, Nat.reduceAdd, Nat.reduceSub, Array.replicate_succ, Array.replicate_zero, List.push_toArray, List.append_toArray, List.nil_append, List.cons_append]
  gi_wp2
  gi_loopw [7] (fun i wr => ∃ (j : Nat) (G : Nat → Prop), j ≤ n ∧ i = .int .i64 j ∧ J j G wr ∧ RoAt wr C (.slice a n c) n L ∧ (∀ k, S k → ¬ G k) ∧ W.heap.size ≤ wr.heap.size) (fun i _ => n - (intOf i).toNat)
  case atStart => exact ⟨0, G, Nat.zero_le _, rfl, h0, hE, fun k hk => (hS k hk).2, Nat.le_refl _⟩
  case round =>
    obtain ⟨j, G1, hk, rfl, hj, hE1, hG1, hsz⟩ := hrel
    by_cases hlt : j < n
    · have hlt' : j < L.length := by rw [Hln.out]; exact hlt
      obtain ⟨b, off, rfl, hr⟩ := hE1.sl.rec_at (cells := rwC) (sz := 5) (fun _ => rfl) hlt hlt'
      have hjn : (j : Int) < (n : Int) := by omega
      have hat : itArgs L j = #[rwV L[j]] := by unfold itArgs; rw [List.getD_eq_getElem?_getD, List.getElem?_eq_getElem hlt']; rfl
      have hes := hsh L[j] (List.getElem_mem hlt')
      generalize L[j] = e at *
      obtain ⟨k1, n1, ba1, bn1, bc1, s1, la1, ln1, lc1, rfl⟩ := hes
      have hCl := World.block_lt_of_cell? wr _ hE1.var
      have E1 := RowAt.new wr (rwC ⟨k1, n1, .slice ba1 bn1 bc1, s1, .slice la1 ln1 lc1⟩).toArray 28
      have hEa := hE1.but (But.alloc (O := fun _ => False) wr (.cells (rwC ⟨k1, n1, .slice ba1 bn1 bc1, s1, .slice la1 ln1 lc1⟩).toArray 28)) (fun h => h) (.inr fun _ _ h => h)
      have hJa := (hJ _).alloc (.cells (rwC ⟨k1, n1, .slice ba1 bn1 bc1, s1, .slice la1 ln1 lc1⟩).toArray 28) (((hJ _).up (Nat.le_refl _)) _ _ _ hj (But.refl _ _))
      obtain ⟨fn, tmps, assign, body, hy, hR⟩ := yieldAt_wide (m' := 2) (hY _ _ _ hlt hJa)
      rw [hat] at hy
      clear hat
      gi_wp2_with (first
        | (refine wpListIn_loadr rfl 28 (.tmp 9) rfl b (off + j * 5) rfl (rwC ⟨k1, n1, .slice ba1 bn1 bc1, s1, .slice la1 ln1 lc1⟩) _ hr Tryd.underlying28 rfl (by kernel_rfl) ?_)
        | (refine wpListIn_loadr rfl 28 (.tmp 4) rfl wr.heap.size 0 rfl (rwC ⟨k1, n1, .slice ba1 bn1 bc1, s1, .slice la1 ln1 lc1⟩) _ E1.range Tryd.underlying28 rfl (by kernel_rfl) ?_))
      refine hR.mono ?_
      rintro en W3 (⟨g, rfl, hw⟩ | ⟨ch, rfl, hp⟩)
      rotate_left
      · exact ⟨rfl, .inr ⟨ch, rfl, hp⟩⟩
      have hE3 := hEa.but hw.but (hG1 C hSS.1) (hSS.2.elim .inl fun h => .inr fun k hk => hG1 k (h k hk))
      have hs3 := hw.but.size
      simp only [World.size_alloc] at hs3
      cases g with
      | true =>
        gi_wp2
        go_roundw
        case rel => exact ⟨j + 1, _, by omega, by go_num, hw.on rfl, hE3, fun k hk => newG_not (hG1 k hk) (by have := (hS k hk).1; simp; omega), by omega⟩
        case measure => simp [intOf]; omega
      | false =>
        gi_wp2
        refine bodyPost_ret (results_none rfl _ _ _) rfl ?_
        exact .inl ⟨⟨_, rfl⟩, _, .inr ⟨_, hlt, hw.off rfl⟩⟩
    · obtain rfl : j = n := by omega
      gi_wp2
      go_end0
      exact .inl ⟨⟨_, rfl⟩, _, .inl hj⟩
end Go.Proofs.YtjenohodgpmchaaDoor

namespace Go.Proofs.YtjenohodgpmchaaDoor
open Go.RowKit Cb
set_option linter.unusedSimpArgs false
set_option linter.unusedVariables false
attribute [local go_sem] Oper.semAt_some
def seqTail : Nat → Code → Code
  | 0, c => c
  | n + 1, .seq _ b => seqTail n b
  | _, c => c
namespace Cb
mutual
/-- The kinds are numbers that an int has. -/
def kwB : It → Prop
  | .mk k _ _ _ l => (-9223372036854775808 ≤ k ∧ k ≤ 9223372036854775807) ∧ kwL l
def kwL : List It → Prop
  | [] => True
  | x :: l => kwB x ∧ kwL l
end
theorem kwB_eq (x : It) : kwB x ↔ (-9223372036854775808 ≤ x.k ∧ x.k ≤ 9223372036854775807) ∧ kwL x.l := by cases x; exact Iff.rfl
theorem kwL_mem : ∀ {l : List It} {x : It}, kwL l → x ∈ l → kwB x
  | y :: l, x, h, hx => by
    simp only [kwL] at h
    rcases List.mem_cons.1 hx with rfl | hx
    · exact h.1
    · exact kwL_mem h.2 hx
theorem kwL_all : ∀ {l : List It}, (∀ x ∈ l, kwB x) → kwL l
  | [], _ => trivial
  | y :: l, h => ⟨h y (by simp), kwL_all fun x hx => h x (by simp [hx])⟩
theorem kw_right (x : It) : rightB x = true → kwB x := by
  induction x using It.ind with
  | h x ih =>
    intro h
    rw [rightB_eq, Bool.and_eq_true] at h
    obtain ⟨h1, h2⟩ := h
    simp only [ownB, Bool.and_eq_true, decide_eq_true_eq] at h1
    exact (kwB_eq x).2 ⟨⟨by omega, by omega⟩, kwL_all fun y hy => ih y hy (rightL_mem h2 hy)⟩
end Cb
abbrev RiE (ok : Bool) (w : World) (en : Ending) (w' : World) : Prop := Below w.heap.size w w' ∧ en = if ok then .returned (.tuple #[]) else .panicked (gup 2)
abbrev RiC (S : Nat → Prop) (x : It) : Prop := ∀ (r : Rw) (w : World), ItR S w x r → cnt x ≤ 1000000 → kwB x → Tabs w → (∀ k, S k → k < w.heap.size) → Calls Tryd.prog 35 #[rwV r] w (RiE (rightB x) w)
def rwAt (L : List Rw) (k : Nat) : Rw := L.getD k ⟨0, 0, .slice none 0 0, ⟨#[]⟩, .slice none 0 0⟩
theorem rwAt_eq {L : List Rw} {k : Nat} (hk : k < L.length) : rwAt L k = L[k] := by unfold rwAt; rw [List.getD_eq_getElem?_getD, List.getElem?_eq_getElem hk]; rfl
theorem leaves_mark_panic {P : Program} {fn : Func} {tmps : Array Value} {R : Ending → World → Prop} {D : Nat} {w : World} {ch : List PanicEntry} (hD : w.heap[D]? = some (.deferred (some []))) (h : R (.panicked ch) (w.putObj D (.deferred none))) :
    LeavesInM Fence.wide 0 P fn tmps R [{ target := .collected D, args := #[] }] (.panicking ch) w :=
  ⟨by simp, .inl ⟨_, _, rfl, run_takeDeferred hD, by simpa [LeavesInM, LeavesIn] using h⟩⟩
set_option maxHeartbeats 4000000 in
set_option maxRecDepth 100000 in
theorem right_tail (S : Nat → Prop) (l : List It) (hp : ∀ x ∈ l, RiC S x) (hc : cntL l ≤ 1000000) (hkw : kwL l) (w0 w : World) (hw0 : Below w0.heap.size w0 w) (hSk : ∀ k, S k → k < w.heap.size) (B : Nat) (k1 n1 : Int) (vb : Value) (s1 : ByteArray) (la1 : Option Addr) (ln1 lc1 : Nat) (rows : List Rw)
    (hT : Tabs w) (hr : w.cell? ⟨B, 0 + 4, none⟩ = some (.slice la1 ln1 lc1)) (hu : SlS S w 5 (.slice la1 ln1 lc1) l.length (rows.flatMap rwC)) (hl : ItsR S w l rows) (u0 u2 u3 u4 u5 u6 u7 u8 u9 u10 u11 u12 u13 u14 u15 u16 u17 u18 u19 u20 u21 u22 u23 u24 u25 u26 u27 u28 u29 u30 u31 u32 u33 u34 u35 u36 u37 u38 u39 u40 u41 u42 u43 u44 u45 u46 u47 u48 u49 u50 u51 u52 u53 u54 u55 u56 u57 u58 u59 u60 u61 u62 u63 u64 u65 u66 u67 u68 u69 u70 u71 u72 : Value) :
    wpK Tryd.prog (seqTail 6 (Tryd.f35.body.getD .skip)) (bodyPostM Fence.wide 0 Tryd.prog Tryd.f35 (RiE (rightL l) w0)) { tmps := #[u0, .pointer (some ⟨B, 0, none⟩), u2, u3, u4, u5, u6, u7, u8, u9, u10, u11, u12, u13, u14, u15, u16, u17, u18, u19, u20, u21, u22, u23, u24, u25, u26, u27, u28, u29, u30, u31, u32, u33, u34, u35, u36, u37, u38, u39, u40, u41, u42, u43, u44, u45, u46, u47, u48, u49, u50, u51, u52, u53, u54, u55, u56, u57, u58, u59, u60, u61, u62, u63, u64, u65, u66, u67, u68, u69, u70, u71, u72], defers := [] } w := by
  obtain ⟨Q, hQ⟩ : ∃ Q, bodyPostM Fence.wide 0 Tryd.prog Tryd.f35 (RiE (rightL l) w0) = Q := ⟨_, rfl⟩
  rw [hQ]
  simp only [Tryd.f35, Option.getD, seqTail]
  subst hQ
  have hlr := hl.len
  have hll : ln1 = l.length := by obtain ⟨a, c, h⟩ := hu.1.len; simp at h; exact h.2.1
  subst hll
  refine wpK_seq_k fun K hK => ?_
  go_wp2_with (go_at_call 50; refine (valuesI_c la1 l.length lc1 _).mono ?_; rintro en w1 ⟨rfl, rfl⟩)
  refine wpK_block ?_
  have hb1 := below_alloc w (.cells #[.slice la1 l.length lc1] 26)
  have hz1 : (w.alloc (.cells #[.slice la1 l.length lc1] 26)).heap.size = w.heap.size + 1 := by simp
  have hRo : RoAt (w.alloc (.cells #[.slice la1 l.length lc1] 26)) w.heap.size (.slice la1 l.length lc1) l.length rows := ⟨(RowAt.new w #[.slice la1 l.length lc1] 26).cell (i := 0) rfl, (hu.up hb1).1⟩
  obtain ⟨w1, hw1⟩ : ∃ w1, w.alloc (.cells #[.slice la1 l.length lc1] 26) = w1 := ⟨_, rfl⟩
  rw [hw1] at hb1 hz1 hRo ⊢
  clear hw1
  have hln := cntL_len l
  have hl1 := hl.up hb1
  have hT1 := hT.up hb1
  refine wp_rangeP (n := 3) (S := fun q => q = w.heap.size ∨ S q) (gf := 70) (lb := #[.pointer (some ⟨w.heap.size, 0, none⟩)]) rfl enters_valI1 (args := fun k => #[rwV (rwAt rows k)]) (N := l.length)
    (valI1_z rows w.heap.size l.length _ _ w1 hRo hl.shp ⟨.inl rfl, hu.2.imp id fun h k hk => .inr (h k hk)⟩) (Below.refl _ _) (fun _ => rfl)
    (fun _ => False) (fun k h => h.elim) ?hS
    (fun k G W => Below w1.heap.size w1 W ∧ RowKit.Hid (∀ (i : Nat) (hi : i < l.length), i < k → rightB l[i] = true))
    (fun k a' G W => (∃ b, a' = { tmps := #[u0, .pointer (some ⟨B, 0, none⟩), u2, u3, u4, u5, u6, .pointer (some ⟨b, 0, none⟩), u8, u9, u10, u11, u12, u13, u14, u15, u16, u17, u18, u19, u20, u21, u22, u23, u24, u25, u26, u27, u28, u29, u30, u31, u32, u33, u34, u35, u36, u37, u38, u39, u40, u41, u42, u43, u44, u45, u46, u47, u48, u49, u50, u51, u52, u53, u54, u55, u56, u57, u58, u59, u60, u61, u62, u63, u64, u65, u66, .pointer (some ⟨B, 4, none⟩), .slice la1 l.length lc1, .func (.func 70) #[] #[.pointer (some ⟨w.heap.size, 0, none⟩)], rwV (rwAt rows k), u71, u72], defers := [] } ∧ G b ∧ W.rangeAt b 0 (rwC (rwAt rows k))) ∧ Below w1.heap.size w1 W ∧ RowKit.Hid (∀ (i : Nat) (hi : i < l.length), i < k → rightB l[i] = true))
    (fun c k G W => False)
    (fun ch W => ch = gup 2 ∧ Below w1.heap.size w1 W ∧ rightL l = false)
    ?abI ?abM ?abX ⟨Below.refl _ _, Lib.hid (fun i hi h => by omega)⟩ ?assign ?body ?pan ?done ?stop
  case hS =>
    rintro q (rfl | hq)
    · exact ⟨by omega, fun h => h⟩
    · have := hSk q hq; exact ⟨by omega, fun h => h⟩
  case abI =>
    rintro k G A B ⟨h1, h2⟩ hb
    exact ⟨h1.trans (hb.below (fun k e => e.1) h1.size), h2⟩
  case abM =>
    rintro k a' G A B' ⟨⟨b, rfl, hG, h1⟩, h2, h3⟩ hb
    exact ⟨⟨b, rfl, hG, fun j v hj => hb.cell (h1 j v hj) (fun e => e.2 hG)⟩, h2.trans (hb.below (fun k e => e.1) h2.size), h3⟩
  case abX => exact fun c k G A B h => h.elim
  case assign =>
    rintro l2 k G W K hk ⟨h1, h2⟩ hK
    obtain ⟨ka, na, ba, bna, bca, sa, la, lna, lca, he⟩ : Shp (rwAt rows k) := by rw [rwAt_eq (by omega)]; exact hl.shp _ (List.getElem_mem _)
    have hrw : rwV (rwAt rows k) = rwV ⟨ka, na, .slice ba bna bca, sa, .slice la lna lca⟩ := by rw [he]
    rw [hrw]
    gi_wp2
    refine hK _ _ (But.alloc W _) ⟨⟨W.heap.size, by rw [hrw], .inr ⟨Nat.le_refl _, by simp⟩, ?_⟩, h1.alloc h1.size _, h2⟩
    rw [he]
    exact rangeAt_new W (rwC ⟨ka, na, .slice ba bna bca, sa, .slice la lna lca⟩) 28 (0, 0)
  case body =>
    rintro l2 k a' G W hk hl2 _ hGl ⟨⟨b, rfl, hG, hrg⟩, h2, h3⟩
    have hkr : k < rows.length := by omega
    have hcl := hp l[k] (List.getElem_mem hk) (rwAt rows k) W (by rw [rwAt_eq hkr]; exact (hl1.get hk hkr).up h2) (by have := cntL_mem (List.getElem_mem hk); omega) (kwL_mem hkw (List.getElem_mem hk)) (hT1.up h2) (fun q hq => by have := hSk q hq; have := h2.size; omega)
    have hnx := Lib.hid (fun (e : rightB l[k] = true) => show ∀ (i : Nat) (hi : i < l.length), i < k + 1 → rightB l[i] = true from fun i hi h => by
      by_cases hik : i < k
      · exact h3.out i hi hik
      · obtain rfl : i = k := by omega
        exact e)
    have hbad := Lib.hid (fun (e : rightB l[k] = false) => show rightL l = false from by
      rw [Bool.eq_false_iff]
      intro h
      have := rightL_mem h (List.getElem_mem hk)
      rw [e] at this; cases this)
    generalize rightB l[k] = z at hcl hnx hbad
    cases z
    · gi_wp2_with (first
        | (refine wpListIn_loadr rfl 28 (.tmp 7) rfl b 0 rfl (rwC (rwAt rows k)) _ hrg Tryd.underlying28 rfl (by kernel_rfl) ?_)
        | ((try refine ⟨trivial, ?_⟩); gi_at_call 35; refine (CallsIn.inRound l2 (callsIn_wide.2 hcl)).mono ?_; rintro en w3 ⟨hb3, rfl⟩))
      exact ⟨rfl, But.of_below hb3, rfl, below_up h2 hb3, hbad.out trivial⟩
    · gi_wp2_with (first
        | (refine wpListIn_loadr rfl 28 (.tmp 7) rfl b 0 rfl (rwC (rwAt rows k)) _ hrg Tryd.underlying28 rfl (by kernel_rfl) ?_)
        | ((try refine ⟨trivial, ?_⟩); gi_at_call 35; refine (CallsIn.inRound l2 (callsIn_wide.2 hcl)).mono ?_; rintro en w3 ⟨hb3, rfl⟩))
      exact ⟨But.of_below hb3, below_up h2 hb3, Lib.hid (hnx.out trivial)⟩
  case pan =>
    rintro D ch W hD ⟨rfl, hb, hrf⟩ hK
    have hp2 : But (· = D) W (W.putObj D (.deferred none)) := But.putObj _ _ _ (.inl rfl)
    have hbw := below_up (below_up hw0 hb1) hb
    have hwz := hw0.size
    refine leaves_mark_panic hK ⟨hbw.trans (hp2.below (fun j e => by omega) hbw.size), by rw [hrf]; rfl⟩
  case done =>
    rintro D G W hD hGD ⟨h1, h2⟩ hK
    have hp2 : But (· = D) W (W.putObj D (.deferred none)) := But.putObj _ _ _ (.inl rfl)
    have hbw := below_up (below_up hw0 hb1) h1
    have hwz := hw0.size
    have hrt : rightL l = true := by
      rw [rightL_all, List.all_eq_true]
      intro x hx
      obtain ⟨i, hi, rfl⟩ := List.getElem_of_mem hx
      exact h2.out i hi hi
    refine ⟨by simp, .inl ⟨_, _, rfl, run_takeDeferred hK, ?_⟩⟩
    exact ⟨.tuple #[], by simp [results, Tryd.results35, go_sem], hbw.trans (hp2.below (fun j e => by omega) hbw.size), by rw [hrt]; rfl⟩
  case stop => exact fun D c k G W hD hG hk h => h.elim
end Go.Proofs.YtjenohodgpmchaaDoor
