/-
  IterB, CbV, CbRt, Map, MapB, CbW, OctetG, OctetH, CbM: several texts in one (bundle.py).
-/
import Derived.Test.YtpkonagjnfphkaaGreatDoorPmY05
import Derived.Test.YtpkonagjnfphkaaGreatDoorPmY02
import Derived.Test.YtpkonagjnfphkaaGreatDoorPmY07
import Derived.Test.YtpkonagjnfphkaaGreatDoorPmY10
import Derived.Test.YtpkonagjnfphkaaGreatDoorPmY08
import Derived.Maps.Keyed
import Derived.MapKept
import Derived.DeepKeys4
import Derived.Test.YtpkonagjnfphkaaGreatDoorPmY06
import Derived.Test.YtpkonagjnfphkaaGreatDoorPmY04
set_option linter.unusedSimpArgs false
set_option linter.unusedVariables false
set_option maxRecDepth 100000
set_option maxHeartbeats 4000000
namespace Go.Proofs.YtpkonagjnfphkaaGreatDoor
open Go.RowKit
theorem wpListIn_val {F : Fence} {n : Nat} {P : Program} {ops : Array Oper} {rest : List Oper} {o : Oper} {a : Act} {w : World} {Q : Exit → Act → World → Prop} (hw : Region.wanted o (yielded ops a.tmps) = true)
    (hab : ∀ f, o.about P w a.eval = some f → F.fn f) (hnd : ∀ c, o.op ≠ .defer c) {v : Value} (hv : (execOp a.eval o).run P w = .ok (.value v) w) (h : wpListIn F n P ops Q rest (a.put o.dst v) w) : wpListIn F n P ops Q (o :: rest) a w := by
  unfold wpListIn; rw [if_pos hw]; refine ⟨hab, ?_⟩; rw [Oper.semAt_eq _ _ _ hnd, hv]; exact h
theorem wpListIn_loadr {F : Fence} {n : Nat} {P : Program} {ops : Array Oper} {rest : List Oper} {o : Oper} {a : Act} {w : World} {Q : Exit → Act → World → Prop} (hw : Region.wanted o (yielded ops a.tmps) = true) (ty : TypeId) (x : Operand) (ho : o.op = .load ty x)
    (b off : Nat) (hx : a.eval x = .pointer (some ⟨b, off, none⟩)) (cs : List Value) (d : TypeDesc) (hr : w.rangeAt b off cs) (hu : P.underlying ty = some d) (hd : d.isRow = true) (hn : (P.info? ty).map (·.size) = some cs.length)
    (h : wpListIn F n P ops Q rest (a.put o.dst (.agg cs.toArray)) w) : wpListIn F n P ops Q (o :: rest) a w :=
  wpListIn_val hw (fun f hf => by unfold Oper.about at hf; rw [ho] at hf; cases hf) (fun c hc => by rw [ho] at hc; cases hc) (by
    unfold execOp
    simp only [ho, hx, Instr.loadAt, Instr.sureAddr, Sem.run_bind, Sem.run_pure, Result.andThen_ok, run_loadVar_mid w b off ty cs d hr hu hd hn]) h
end Go.Proofs.YtpkonagjnfphkaaGreatDoor
namespace Go.Proofs.YtpkonagjnfphkaaGreatDoor
open Go.RowKit Cb
attribute [local go_sem] Oper.semAt_some
structure RoAt (w : World) (C : Nat) (v : Value) (n : Nat) (L : List Rw) : Prop where
  var : w.cell? ⟨C, 0, none⟩ = some v
  sl : Sl w 5 v n (L.flatMap rwC)
theorem RoAt.but {w w' : World} {C : Nat} {v : Value} {n : Nat} {L : List Rw} {O : Nat → Prop} (h : RoAt w C v n L) (hb : But O w w') (hC : ¬ O C) (hv : n = 0 ∨ ∀ k, v.ownBlock = some k → ¬ O k) : RoAt w' C v n L :=
  ⟨hb.cell h.var hC, h.sl.but hb hv⟩
theorem RoAt.up {w w' : World} {C : Nat} {v : Value} {n : Nat} {L : List Rw} (h : RoAt w C v n L) (hb : Below w.heap.size w w') : RoAt w' C v n L := h.but (O := fun _ => False) (But.of_below hb) (fun e => e) (.inr fun _ _ e => e)
def Shp (r : Rw) : Prop := ∃ k n ba bn bc s la ln lc, r = ⟨k, n, .slice ba bn bc, s, .slice la ln lc⟩
theorem ItsR.shp {S : Nat → Prop} {w : World} {l : List It} {rows : List Rw} (h : ItsR S w l rows) : ∀ r ∈ rows, Shp r := by
  intro r hr; obtain ⟨i, hi, rfl⟩ := List.getElem_of_mem hr; have := h.len; exact (h.get (i := i) (by omega) hi).shape
def itArgs (L : List Rw) (k : Nat) : Array Value := #[rwV (L.getD k ⟨0, 0, .slice none 0 0, ⟨#[]⟩, .slice none 0 0⟩)]
theorem valuesI_c (a : Option Addr) (n c : Nat) (w : World) : Calls Tryz.prog 157 #[.slice a n c] w fun en w' => en = .returned (.func (.func 178) #[] #[.pointer (some ⟨w.heap.size, 0, none⟩)]) ∧ w' = w.alloc (.cells #[.slice a n c] 59) := by
  have hmf : ∀ (fn : Fn) (first cap : Array Value) (w : World), (Instr.makeFunc fn first cap).run Tryz.prog w = .ok (.func fn first cap) w := fun _ _ _ _ => rfl
  go_enter Tryz.func157, Tryz.ntmps157; go_wp2; go_ret; exact ⟨rfl, rfl⟩
theorem enters_valI1 : Enters Tryz.prog 178 := enters_of Tryz.func178 (by kernel_rfl) rfl
theorem valI1_z (L : List Rw) (C n : Nat) (v : Value) (S : Nat → Prop) (w : World) (h : RoAt w C v n L) (hsh : ∀ r ∈ L, Shp r) (hSS : S C ∧ (n = 0 ∨ ∀ k, v.ownBlock = some k → S k)) :
    SeqZ Tryz.prog 178 #[.pointer (some ⟨C, 0, none⟩)] (itArgs L) n S w := by
  intro l' G J Jx Jp W hW hS hG hJ hJx hY h0; have hE := h.up hW; have Hln := Lib.hid (Sl.recs (cells := rwC) (sz := 5) (fun _ => rfl) (by decide) hE.sl); have hn := hE.sl.n_max; obtain ⟨a, c, rfl⟩ := hE.sl.len; have hc0 := hE.var; clear h hW; refine (callsIn_wide (n := 3)).1 ?_; refine callsIn_of_wp Tryz.func178 rfl trivial ?_ rfl; simp only [Tryz.ntmps178, List.size_toArray, List.length_cons, List.length_nil, Nat.reduceAdd, Nat.reduceSub, Array.replicate_succ, Array.replicate_zero, List.push_toArray, List.append_toArray, List.nil_append, List.cons_append]
  gi_wp2
  gi_loopw [7] (fun i wr => ∃ (j : Nat) (G : Nat → Prop), j ≤ n ∧ i = .int .i64 j ∧ J j G wr ∧ RoAt wr C (.slice a n c) n L ∧ (∀ k, S k → ¬ G k) ∧ W.heap.size ≤ wr.heap.size) (fun i _ => n - (intOf i).toNat)
  case atStart => exact ⟨0, G, Nat.zero_le _, rfl, h0, hE, fun k hk => (hS k hk).2, Nat.le_refl _⟩
  case round =>
    obtain ⟨j, G1, hk, rfl, hj, hE1, hG1, hsz⟩ := hrel; by_cases hlt : j < n
    · have hlt' : j < L.length := by rw [Hln.out]; exact hlt
      obtain ⟨b, off, rfl, hr⟩ := hE1.sl.rec_at (cells := rwC) (sz := 5) (fun _ => rfl) hlt hlt'
      have hjn : (j : Int) < (n : Int) := by omega
      have hat : itArgs L j = #[rwV L[j]] := by unfold itArgs; rw [List.getD_eq_getElem?_getD, List.getElem?_eq_getElem hlt']; rfl
      have hes := hsh L[j] (List.getElem_mem hlt'); generalize L[j] = e at *; obtain ⟨k1, n1, ba1, bn1, bc1, s1, la1, ln1, lc1, rfl⟩ := hes; have hCl := World.block_lt_of_cell? wr _ hE1.var; have E1 := RowAt.new wr (rwC ⟨k1, n1, .slice ba1 bn1 bc1, s1, .slice la1 ln1 lc1⟩).toArray 62; have hEa := hE1.but (But.alloc (O := fun _ => False) wr (.cells (rwC ⟨k1, n1, .slice ba1 bn1 bc1, s1, .slice la1 ln1 lc1⟩).toArray 62)) (fun h => h) (.inr fun _ _ h => h); have hJa := (hJ _).alloc (.cells (rwC ⟨k1, n1, .slice ba1 bn1 bc1, s1, .slice la1 ln1 lc1⟩).toArray 62) (((hJ _).up (Nat.le_refl _)) _ _ _ hj (But.refl _ _)); obtain ⟨fn, tmps, assign, body, hy, hR⟩ := yieldAt_wide (m' := 2) (hY _ _ _ hlt hJa); rw [hat] at hy; clear hat
      gi_wp2_with (first
        | (refine wpListIn_loadr rfl 62 (.tmp 9) rfl b (off + j * 5) rfl (rwC ⟨k1, n1, .slice ba1 bn1 bc1, s1, .slice la1 ln1 lc1⟩) _ hr Tryz.underlying62 rfl (by kernel_rfl) ?_)
        | (refine wpListIn_loadr rfl 62 (.tmp 4) rfl wr.heap.size 0 rfl (rwC ⟨k1, n1, .slice ba1 bn1 bc1, s1, .slice la1 ln1 lc1⟩) _ E1.range Tryz.underlying62 rfl (by kernel_rfl) ?_))
      refine hR.mono ?_; rintro en W3 (⟨g, rfl, hw⟩ | ⟨ch, rfl, hp⟩); rotate_left
      · exact ⟨rfl, .inr ⟨ch, rfl, hp⟩⟩
      have hE3 := hEa.but hw.but (hG1 C hSS.1) (hSS.2.elim .inl fun h => .inr fun k hk => hG1 k (h k hk)); have hs3 := hw.but.size; simp only [World.size_alloc] at hs3
      cases g with
      | true =>
        gi_wp2
        go_roundw
        case rel => exact ⟨j + 1, _, by omega, by go_num, hw.on rfl, hE3, fun k hk => newG_not (hG1 k hk) (by have := (hS k hk).1; simp; omega), by omega⟩
        case measure => simp [intOf]; omega
      | false =>
        gi_wp2
        refine bodyPost_ret (results_none rfl _ _ _) rfl ?_; exact .inl ⟨⟨_, rfl⟩, _, .inr ⟨_, hlt, hw.off rfl⟩⟩
    · obtain rfl : j = n := by omega
      gi_wp2
      go_end0
      exact .inl ⟨⟨_, rfl⟩, _, .inl hj⟩
attribute [local go_sem] Oper.semAt_some
def seqTail : Nat → Code → Code
  | 0, c => c
  | n + 1, .seq _ b => seqTail n b
  | _, c => c
namespace Cb
end Cb
abbrev RiE (ok : Bool) (w : World) (en : Ending) (w' : World) : Prop := Below w.heap.size w w' ∧ en = if ok then .returned (.tuple #[]) else .panicked (gup 2)
abbrev RiC (S : Nat → Prop) (x : It) : Prop := ∀ (r : Rw) (w : World), ItR S w x r → cnt x ≤ 1000000 → kwB x → Tabs w → (∀ k, S k → k < w.heap.size) → Calls Tryz.prog 135 #[rwV r] w (RiE (rightB x) w)
def rwAt (L : List Rw) (k : Nat) : Rw := L.getD k ⟨0, 0, .slice none 0 0, ⟨#[]⟩, .slice none 0 0⟩
theorem rwAt_eq {L : List Rw} {k : Nat} (hk : k < L.length) : rwAt L k = L[k] := by unfold rwAt; rw [List.getD_eq_getElem?_getD, List.getElem?_eq_getElem hk]; rfl
theorem leaves_mark_panic {P : Program} {fn : Func} {tmps : Array Value} {R : Ending → World → Prop} {D : Nat} {w : World} {ch : List PanicEntry} (hD : w.heap[D]? = some (.deferred (some []))) (h : R (.panicked ch) (w.putObj D (.deferred none))) :
    LeavesInM Fence.wide 0 P fn tmps R [{ target := .collected D, args := #[] }] (.panicking ch) w :=
  ⟨by simp, .inl ⟨_, _, rfl, run_takeDeferred hD, by simpa [LeavesInM, LeavesIn] using h⟩⟩
theorem right_tail (S : Nat → Prop) (l : List It) (hp : ∀ x ∈ l, RiC S x) (hc : cntL l ≤ 1000000) (hkw : kwL l) (w0 w : World) (hw0 : Below w0.heap.size w0 w) (hSk : ∀ k, S k → k < w.heap.size) (B : Nat) (k1 n1 : Int) (vb : Value) (s1 : ByteArray) (la1 : Option Addr) (ln1 lc1 : Nat) (rows : List Rw)
    (hT : Tabs w) (hr : w.cell? ⟨B, 0 + 4, none⟩ = some (.slice la1 ln1 lc1)) (hu : SlS S w 5 (.slice la1 ln1 lc1) l.length (rows.flatMap rwC)) (hl : ItsR S w l rows) (u0 u2 u3 u4 u5 u6 u7 u8 u9 u10 u11 u12 u13 u14 u15 u16 u17 u18 u19 u20 u21 u22 u23 u24 u25 u26 u27 u28 u29 u30 u31 u32 u33 u34 u35 u36 u37 u38 u39 u40 u41 u42 u43 u44 u45 u46 u47 u48 u49 u50 u51 u52 u53 u54 u55 u56 u57 u58 u59 u60 u61 u62 u63 u64 u65 u66 u67 u68 u69 u70 u71 u72 : Value) :
    wpK Tryz.prog (seqTail 6 (Tryz.f135.body.getD .skip)) (bodyPostM Fence.wide 0 Tryz.prog Tryz.f135 (RiE (rightL l) w0)) { tmps := #[u0, .pointer (some ⟨B, 0, none⟩), u2, u3, u4, u5, u6, u7, u8, u9, u10, u11, u12, u13, u14, u15, u16, u17, u18, u19, u20, u21, u22, u23, u24, u25, u26, u27, u28, u29, u30, u31, u32, u33, u34, u35, u36, u37, u38, u39, u40, u41, u42, u43, u44, u45, u46, u47, u48, u49, u50, u51, u52, u53, u54, u55, u56, u57, u58, u59, u60, u61, u62, u63, u64, u65, u66, u67, u68, u69, u70, u71, u72], defers := [] } w := by
  obtain ⟨Q, hQ⟩ : ∃ Q, bodyPostM Fence.wide 0 Tryz.prog Tryz.f135 (RiE (rightL l) w0) = Q := ⟨_, rfl⟩; rw [hQ]; simp only [Tryz.f135, Option.getD, seqTail]; subst hQ; have hlr := hl.len
  have hll : ln1 = l.length := by obtain ⟨a, c, h⟩ := hu.1.len; simp at h; exact h.2.1
  subst hll
  refine wpK_seq_k fun K hK => ?_
  go_wp2_with (go_at_call 157; refine (valuesI_c la1 l.length lc1 _).mono ?_; rintro en w1 ⟨rfl, rfl⟩)
  refine wpK_block ?_; have hb1 := below_alloc w (.cells #[.slice la1 l.length lc1] 59)
  have hz1 : (w.alloc (.cells #[.slice la1 l.length lc1] 59)).heap.size = w.heap.size + 1 := by simp
  have hRo : RoAt (w.alloc (.cells #[.slice la1 l.length lc1] 59)) w.heap.size (.slice la1 l.length lc1) l.length rows := ⟨(RowAt.new w #[.slice la1 l.length lc1] 59).cell (i := 0) rfl, (hu.up hb1).1⟩; obtain ⟨w1, hw1⟩ : ∃ w1, w.alloc (.cells #[.slice la1 l.length lc1] 59) = w1 := ⟨_, rfl⟩; rw [hw1] at hb1 hz1 hRo ⊢; clear hw1; have hln := cntL_len l; have hl1 := hl.up hb1; have hT1 := hT.up hb1
  refine wp_rangeP (n := 3) (S := fun q => q = w.heap.size ∨ S q) (gf := 178) (lb := #[.pointer (some ⟨w.heap.size, 0, none⟩)]) rfl enters_valI1 (args := fun k => #[rwV (rwAt rows k)]) (N := l.length)
    (valI1_z rows w.heap.size l.length _ _ w1 hRo hl.shp ⟨.inl rfl, hu.2.imp id fun h k hk => .inr (h k hk)⟩) (Below.refl _ _) (fun _ => rfl)
    (fun _ => False) (fun k h => h.elim) ?hS
    (fun k G W => Below w1.heap.size w1 W ∧ RowKit.Hid (∀ (i : Nat) (hi : i < l.length), i < k → rightB l[i] = true))
    (fun k a' G W => (∃ b, a' = { tmps := #[u0, .pointer (some ⟨B, 0, none⟩), u2, u3, u4, u5, u6, .pointer (some ⟨b, 0, none⟩), u8, u9, u10, u11, u12, u13, u14, u15, u16, u17, u18, u19, u20, u21, u22, u23, u24, u25, u26, u27, u28, u29, u30, u31, u32, u33, u34, u35, u36, u37, u38, u39, u40, u41, u42, u43, u44, u45, u46, u47, u48, u49, u50, u51, u52, u53, u54, u55, u56, u57, u58, u59, u60, u61, u62, u63, u64, u65, u66, .pointer (some ⟨B, 4, none⟩), .slice la1 l.length lc1, .func (.func 178) #[] #[.pointer (some ⟨w.heap.size, 0, none⟩)], rwV (rwAt rows k), u71, u72], defers := [] } ∧ G b ∧ W.rangeAt b 0 (rwC (rwAt rows k))) ∧ Below w1.heap.size w1 W ∧ RowKit.Hid (∀ (i : Nat) (hi : i < l.length), i < k → rightB l[i] = true))
    (fun c k G W => False)
    (fun ch W => ch = gup 2 ∧ Below w1.heap.size w1 W ∧ rightL l = false)
    ?abI ?abM ?abX ⟨Below.refl _ _, Lib.hid (fun i hi h => by omega)⟩ ?assign ?body ?pan ?done ?stop
  case hS =>
    rintro q (rfl | hq)
    · exact ⟨by omega, fun h => h⟩
    · have := hSk q hq; exact ⟨by omega, fun h => h⟩
  case abI =>
    rintro k G A B ⟨h1, h2⟩ hb; exact ⟨h1.trans (hb.below (fun k e => e.1) h1.size), h2⟩
  case abM =>
    rintro k a' G A B' ⟨⟨b, rfl, hG, h1⟩, h2, h3⟩ hb; exact ⟨⟨b, rfl, hG, fun j v hj => hb.cell (h1 j v hj) (fun e => e.2 hG)⟩, h2.trans (hb.below (fun k e => e.1) h2.size), h3⟩
  case abX => exact fun c k G A B h => h.elim
  case assign =>
    rintro l2 k G W K hk ⟨h1, h2⟩ hK
    obtain ⟨ka, na, ba, bna, bca, sa, la, lna, lca, he⟩ : Shp (rwAt rows k) := by rw [rwAt_eq (by omega)]; exact hl.shp _ (List.getElem_mem _)
    have hrw : rwV (rwAt rows k) = rwV ⟨ka, na, .slice ba bna bca, sa, .slice la lna lca⟩ := by rw [he]
    rw [hrw]
    gi_wp2
    refine hK _ _ (But.alloc W _) ⟨⟨W.heap.size, by rw [hrw], .inr ⟨Nat.le_refl _, by simp⟩, ?_⟩, h1.alloc h1.size _, h2⟩; rw [he]; exact rangeAt_new W (rwC ⟨ka, na, .slice ba bna bca, sa, .slice la lna lca⟩) 62 (0, 0)
  case body =>
    rintro l2 k a' G W hk hl2 _ hGl ⟨⟨b, rfl, hG, hrg⟩, h2, h3⟩
    have hkr : k < rows.length := by omega
    have hcl := hp l[k] (List.getElem_mem hk) (rwAt rows k) W (by rw [rwAt_eq hkr]; exact (hl1.get hk hkr).up h2) (by have := cntL_mem (List.getElem_mem hk); omega) (kwL_mem hkw (List.getElem_mem hk)) (hT1.up h2) (fun q hq => by have := hSk q hq; have := h2.size; omega)
    have hnx := Lib.hid (fun (e : rightB l[k] = true) => show ∀ (i : Nat) (hi : i < l.length), i < k + 1 → rightB l[i] = true from fun i hi h => by
      by_cases hik : i < k
      · exact h3.out i hi hik
      · obtain rfl : i = k := by omega
        exact e)
    have hbad := Lib.hid (fun (e : rightB l[k] = false) => show rightL l = false from by
      rw [Bool.eq_false_iff]; intro h; have := rightL_mem h (List.getElem_mem hk)
      rw [e] at this; cases this)
    generalize rightB l[k] = z at hcl hnx hbad; cases z
    · gi_wp2_with (first
        | (refine wpListIn_loadr rfl 62 (.tmp 7) rfl b 0 rfl (rwC (rwAt rows k)) _ hrg Tryz.underlying62 rfl (by kernel_rfl) ?_)
        | ((try refine ⟨trivial, ?_⟩); gi_at_call 135; refine (CallsIn.inRound l2 (callsIn_wide.2 hcl)).mono ?_; rintro en w3 ⟨hb3, rfl⟩))
      exact ⟨rfl, But.of_below hb3, rfl, below_up h2 hb3, hbad.out trivial⟩
    · gi_wp2_with (first
        | (refine wpListIn_loadr rfl 62 (.tmp 7) rfl b 0 rfl (rwC (rwAt rows k)) _ hrg Tryz.underlying62 rfl (by kernel_rfl) ?_)
        | ((try refine ⟨trivial, ?_⟩); gi_at_call 135; refine (CallsIn.inRound l2 (callsIn_wide.2 hcl)).mono ?_; rintro en w3 ⟨hb3, rfl⟩))
      exact ⟨But.of_below hb3, below_up h2 hb3, Lib.hid (hnx.out trivial)⟩
  case pan =>
    rintro D ch W hD ⟨rfl, hb, hrf⟩ hK; have hp2 : But (· = D) W (W.putObj D (.deferred none)) := But.putObj _ _ _ (.inl rfl); have hbw := below_up (below_up hw0 hb1) hb; have hwz := hw0.size; refine leaves_mark_panic hK ⟨hbw.trans (hp2.below (fun j e => by omega) hbw.size), by rw [hrf]; rfl⟩
  case done =>
    rintro D G W hD hGD ⟨h1, h2⟩ hK; have hp2 : But (· = D) W (W.putObj D (.deferred none)) := But.putObj _ _ _ (.inl rfl); have hbw := below_up (below_up hw0 hb1) h1; have hwz := hw0.size
    have hrt : rightL l = true := by
      rw [rightL_all, List.all_eq_true]; intro x hx; obtain ⟨i, hi, rfl⟩ := List.getElem_of_mem hx; exact h2.out i hi hi
    refine ⟨by simp, .inl ⟨_, _, rfl, run_takeDeferred hK, ?_⟩⟩; exact ⟨.tuple #[], by simp [results, Tryz.results135, go_sem], hbw.trans (hp2.below (fun j e => by omega) hbw.size), by rw [hrt]; rfl⟩
  case stop => exact fun D c k G W hD hG hk h => h.elim
end Go.Proofs.YtpkonagjnfphkaaGreatDoor
namespace Go.Proofs.YtpkonagjnfphkaaGreatDoor
open Go.RowKit Go.Maps
section
variable {P : Program} {k : TypeId}
def Born (es : Array MapEntry) (clock : Nat) : Prop := (∀ e ∈ es.toList, e.born < clock) ∧ (es.toList.map (·.born)).Nodup
theorem Born.nil (c : Nat) : Born #[] c := ⟨fun e he => by simp at he, by simp⟩
theorem Born.push {es : Array MapEntry} {c : Nat} (h : Born es c) (x v : Value) : Born (es.push ⟨x, v, c⟩) (c + 1) := by
  refine ⟨fun e he => ?_, ?_⟩
  · rw [Array.toList_push] at he
    rcases List.mem_append.1 he with he | he
    · have := h.1 e he; omega
    · rw [List.mem_singleton.1 he]; exact Nat.lt_succ_self c
  · rw [Array.toList_push, List.map_append, List.nodup_append]
    refine ⟨h.2, by simp, fun a ha b hb e => ?_⟩; obtain ⟨y, hy, rfl⟩ := List.mem_map.1 ha; have := h.1 y hy; simp at hb; omega
theorem Born.of_borns {es es' : Array MapEntry} {c : Nat} (h : Born es c) (e : es'.toList.map (·.born) = es.toList.map (·.born)) : Born es' c := by
  refine ⟨fun x hx => ?_, by rw [e]; exact h.2⟩
  have : x.born ∈ es.toList.map (·.born) := by rw [← e]; exact List.mem_map.2 ⟨x, hx, rfl⟩
  obtain ⟨y, hy, hxy⟩ := List.mem_map.1 this; rw [← hxy]; exact h.1 y hy
theorem Born.modify {es : Array MapEntry} {c : Nat} (h : Born es c) (j : Nat) (x v : Value) : Born (es.modify j fun e => { e with key := x, val := v }) c := by
  refine h.of_borns (List.ext_getElem? fun i => ?_); rw [List.getElem?_map, Array.getElem?_toList, Array.getElem?_modify, List.getElem?_map, Array.getElem?_toList]; split
  · cases es[i]? <;> rfl
  · rfl
structure MapAt (P : Program) (k : TypeId) (w : World) (B : Nat) (ents : List (Value × Value)) : Prop where
  ex : ∃ es clock, w.heap[B]? = some (.map es clock) ∧ es.toList.map (fun e => (e.key, e.val)) = ents ∧ Born es clock
  keys : ∀ p ∈ ents, ∃ l, keyOf P k p.1 = some l
  one : (ents.map (·.1)).Nodup
theorem MapAt.lt {w : World} {B : Nat} {ents : List (Value × Value)} (h : MapAt P k w B ents) : B < w.heap.size := by
  obtain ⟨es, clock, hb, _⟩ := h.ex; exact (Array.getElem?_eq_some_iff.1 hb).1
theorem MapAt.heap {w w' : World} {B : Nat} {ents : List (Value × Value)} (h : MapAt P k w B ents) (e : w'.heap[B]? = w.heap[B]?) : MapAt P k w' B ents := by
  obtain ⟨es, clock, hb, he, hbn⟩ := h.ex; exact ⟨⟨es, clock, e.trans hb, he, hbn⟩, h.keys, h.one⟩
theorem MapAt.new (w : World) : MapAt P k (w.alloc (.map #[] 0)) w.heap.size [] := ⟨⟨#[], 0, heap_alloc_new w _, rfl, Born.nil 0⟩, fun p hp => (by cases hp), List.nodup_nil⟩
theorem MapAt.look_none {w : World} {B : Nat} {ents : List (Value × Value)} (h : MapAt P k w B ents) (K : Keyed P k) {t e : TypeId} (ht : P.underlying t = some (.map k e)) {z : Value} (hz : (zeroValue e).run P w = .ok z w)
    {x : Value} {l : Lit} (hx : keyOf P k x = some l) (hn : ∀ p ∈ ents, p.1 ≠ x) (c : Bool) :
    (Instr.lookup t (.map (some B)) x c).run P w = .ok (if c then .tuple #[z, .bool false] else z) w := by
  obtain ⟨es, clock, hb, he, hbn⟩ := h.ex
  have hks : ∀ e ∈ es.toList, ∃ l, keyOf P k e.key = some l := fun e hm => h.keys (e.key, e.val) (by rw [← he]; exact List.mem_map.2 ⟨e, hm, rfl⟩)
  rcases K.find w hx es.toList hks with ⟨h1, h2⟩ | ⟨j, e0, h1, h2, h3⟩
  · simp [Instr.lookup, run_underlying ht, MapKept.run_getObj_map hb, K.check w _ hx, h1, hz, Result.andThen]
  · exact absurd h3 (hn (e0.key, e0.val) (by rw [← he]; exact List.mem_map.2 ⟨e0, List.mem_of_getElem? h2, rfl⟩))
theorem MapAt.look_some {w : World} {B : Nat} {ents : List (Value × Value)} (h : MapAt P k w B ents) (K : Keyed P k) {t e : TypeId} (ht : P.underlying t = some (.map k e))
    {x v : Value} {l : Lit} (hx : keyOf P k x = some l) (hm : (x, v) ∈ ents) (c : Bool) :
    (Instr.lookup t (.map (some B)) x c).run P w = .ok (if c then .tuple #[v, .bool true] else v) w := by
  obtain ⟨es, clock, hb, he, hbn⟩ := h.ex
  have hks : ∀ e ∈ es.toList, ∃ l, keyOf P k e.key = some l := fun e hm => h.keys (e.key, e.val) (by rw [← he]; exact List.mem_map.2 ⟨e, hm, rfl⟩)
  rcases K.find w hx es.toList hks with ⟨h1, h2⟩ | ⟨j, e0, h1, h2, h3⟩
  · rw [← he] at hm
    obtain ⟨e1, hm1, e2⟩ := List.mem_map.1 hm; exact absurd (congrArg Prod.fst e2) (h2 e1 hm1)
  · have h4 : (e0.key, e0.val) ∈ ents := by rw [← he]; exact List.mem_map.2 ⟨e0, List.mem_of_getElem? h2, rfl⟩
    have hv : e0.val = v := by
      have hone := h.one; rw [h3] at h4; clear he h1 h2 h3 hks hb h
      induction ents with
      | nil => cases hm
      | cons p r ih =>
        simp only [List.map_cons, List.nodup_cons] at hone
        rcases List.mem_cons.1 hm with e1 | e1 <;> rcases List.mem_cons.1 h4 with e2 | e2
        · exact congrArg Prod.snd (e2.trans e1.symm)
        · exact absurd (List.mem_map.2 ⟨_, e2, rfl⟩) (by rw [← e1] at hone; exact hone.1)
        · exact absurd (List.mem_map.2 ⟨_, e1, rfl⟩) (by rw [← e2] at hone; exact hone.1)
        · exact ih e1 e2 hone.2
    simp [Instr.lookup, run_underlying ht, MapKept.run_getObj_map hb, K.check w _ hx, h1, Result.andThen, hv]
theorem MapAt.put_new {w : World} {B : Nat} {ents : List (Value × Value)} (h : MapAt P k w B ents) (K : Keyed P k) {t e : TypeId} (ht : P.underlying t = some (.map k e))
    {x v : Value} {l : Lit} (hx : keyOf P k x = some l) (hn : ∀ p ∈ ents, p.1 ≠ x) :
    ∃ w', (Instr.mapUpdate t (.map (some B)) x v).run P w = .ok () w' ∧ MapAt P k w' B (ents ++ [(x, v)]) ∧ But (· = B) w w' := by
  obtain ⟨es, clock, hb, he, hbn⟩ := h.ex
  have hks : ∀ e ∈ es.toList, ∃ l, keyOf P k e.key = some l := fun e hm => h.keys (e.key, e.val) (by rw [← he]; exact List.mem_map.2 ⟨e, hm, rfl⟩)
  rcases K.find w hx es.toList hks with ⟨h1, h2⟩ | ⟨j, e0, h1, h2, h3⟩
  · refine ⟨{ w with heap := w.heap.setIfInBounds B (.map (es.push ⟨x, v, clock⟩) (clock + 1)) }, ?_, ⟨⟨es.push ⟨x, v, clock⟩, clock + 1, ?_, ?_, hbn.push x v⟩, ?_, ?_⟩, ?_⟩
    · simp [Instr.mapUpdate, run_underlying ht, MapKept.run_getObj_map hb, K.check w false hx, h1, MapKept.run_setObj_map _ hb, Result.andThen]
    · exact Array.getElem?_setIfInBounds_self_of_lt h.lt
    · rw [Array.toList_push, List.map_append, he]; rfl
    · intro p hp
      rcases List.mem_append.1 hp with hp | hp
      · exact h.keys p hp
      · rw [List.mem_singleton.1 hp]; exact ⟨l, hx⟩
    · rw [List.map_append, List.nodup_append]
      refine ⟨h.one, by simp, fun a ha b hb' e => ?_⟩; obtain ⟨p, hp, rfl⟩ := List.mem_map.1 ha; simp at hb'; exact hn p hp (e.trans hb')
    · exact ⟨rfl, rfl, rfl, by simp, fun i hi hne => Array.getElem?_setIfInBounds_ne (fun e => hne e.symm)⟩
  · exact absurd h3 (hn (e0.key, e0.val) (by rw [← he]; exact List.mem_map.2 ⟨e0, List.mem_of_getElem? h2, rfl⟩))
end
section
variable {P : Program} {k : TypeId}
theorem MapAt.len {w : World} {B : Nat} {ents : List (Value × Value)} (h : MapAt P k w B ents) {t e : TypeId} (ht : P.underlying t = some (.map k e)) (ty : TypeId) :
    (Builtin.len_ #[t] ty #[.map (some B)]).run P w = .ok (.int .i64 ents.length) w := by
  obtain ⟨es, clock, hb, he, hbn⟩ := h.ex
  have : es.size = ents.length := by rw [← he]; simp
  simp [Builtin.len_, run_underlying ht, MapKept.run_getObj_map hb, goInt, this]
end
end Go.Proofs.YtpkonagjnfphkaaGreatDoor
namespace Go.Proofs.YtpkonagjnfphkaaGreatDoor
open Go.RowKit Go.Maps Cb
section
variable {P : Program}
theorem cb_ins {ops : Array Oper} {rest : List Oper} {o : Oper} {a : Act} {w w' : World} {Q : Exit → Act → World → Prop} (hgd : o.guard = none) (t : TypeId) (m x y : Operand) (ho : o.op = .insert t m x y) {mv xv yv : Value} (hm : a.eval m = mv) (hx : a.eval x = xv) (hy : a.eval y = yv)
    (hr : (Instr.mapUpdate t mv xv yv).run P w = .ok () w') (h : wpList P ops Q rest (a.put o.dst undef) w') : wpList P ops Q (o :: rest) a w :=
  wpList_plain hgd fun K hK => by
    unfold Oper.wp execOp; simp only [ho, hm, hx, hy, Sem.run_bind, Sem.run_pure, Result.andThen_ok, hr]; exact hK _ _ h
end
abbrev wEnts : List (Value × Value) := [(.int .i64 1, .func (.func 169) #[] #[]), (.int .i64 2, .func (.func 170) #[] #[]), (.int .i64 3, .func (.func 172) #[] #[]), (.int .i64 4, .func (.func 173) #[] #[]), (.int .i64 5, .func (.func 175) #[] #[]), (.int .i64 6, .func (.func 176) #[] #[])]
abbrev WMap (w : World) (M : Nat) : Prop := MapAt Tryz.prog 60 w M wEnts
theorem writes_c (w : World) : Calls Tryz.prog 155 #[] w fun en w' => en = .returned (.map (some w.heap.size)) ∧ WMap w' w.heap.size ∧ Below w.heap.size w w' := by
  have hmk := run_makeMap (P := Tryz.prog) 192 w; have K : Keyed Tryz.prog 60 := int_keyed Tryz.underlying60; have hB := below_alloc w (.map #[] 0); have hm0 := MapAt.new (P := Tryz.prog) (k := 60) w; obtain ⟨w1, hr1, hm1, hb1⟩ := hm0.put_new K Tryz.underlying192 (v := .func (.func 169) #[] #[]) (keyOf_int_mk (a := 1) Tryz.underlying60 (by decide)) (fun p hp e => by simp at hp; try rcases hp with rfl <;> simp at e); obtain ⟨w2, hr2, hm2, hb2⟩ := hm1.put_new K Tryz.underlying192 (v := .func (.func 170) #[] #[]) (keyOf_int_mk (a := 2) Tryz.underlying60 (by decide)) (fun p hp e => by simp at hp; try rcases hp with rfl <;> simp at e)
  obtain ⟨w3, hr3, hm3, hb3⟩ := hm2.put_new K Tryz.underlying192 (v := .func (.func 172) #[] #[]) (keyOf_int_mk (a := 3) Tryz.underlying60 (by decide)) (fun p hp e => by simp at hp; try rcases hp with rfl | rfl <;> simp at e); obtain ⟨w4, hr4, hm4, hb4⟩ := hm3.put_new K Tryz.underlying192 (v := .func (.func 173) #[] #[]) (keyOf_int_mk (a := 4) Tryz.underlying60 (by decide)) (fun p hp e => by simp at hp; try rcases hp with rfl | rfl | rfl <;> simp at e); obtain ⟨w5, hr5, hm5, hb5⟩ := hm4.put_new K Tryz.underlying192 (v := .func (.func 175) #[] #[]) (keyOf_int_mk (a := 5) Tryz.underlying60 (by decide)) (fun p hp e => by simp at hp; try rcases hp with rfl | rfl | rfl | rfl <;> simp at e)
  obtain ⟨w6, hr6, hm6, hb6⟩ := hm5.put_new K Tryz.underlying192 (v := .func (.func 176) #[] #[]) (keyOf_int_mk (a := 6) Tryz.underlying60 (by decide)) (fun p hp e => by simp at hp; try rcases hp with rfl | rfl | rfl | rfl | rfl <;> simp at e); have hB2 := hB.trans (((((((hb1.trans hb2).trans hb3).trans hb4).trans hb5).trans hb6)).below (fun q e => by omega) hB.size); go_enter Tryz.func155, Tryz.ntmps155
  go_wp2_with (first
    | (refine cb_ins rfl 192 (.tmp 1) (.const (.int .i64 1)) (.func 169) rfl rfl rfl rfl hr1 ?_)
    | (refine cb_ins rfl 192 (.tmp 1) (.const (.int .i64 2)) (.func 170) rfl rfl rfl rfl hr2 ?_)
    | (refine cb_ins rfl 192 (.tmp 1) (.const (.int .i64 3)) (.func 172) rfl rfl rfl rfl hr3 ?_)
    | (refine cb_ins rfl 192 (.tmp 1) (.const (.int .i64 4)) (.func 173) rfl rfl rfl rfl hr4 ?_)
    | (refine cb_ins rfl 192 (.tmp 1) (.const (.int .i64 5)) (.func 175) rfl rfl rfl rfl hr5 ?_)
    | (refine cb_ins rfl 192 (.tmp 1) (.const (.int .i64 6)) (.func 176) rfl rfl rfl rfl hr6 ?_))
  go_ret; exact ⟨rfl, hm6, hB2⟩
end Go.Proofs.YtpkonagjnfphkaaGreatDoor
namespace Go.Proofs.YtpkonagjnfphkaaGreatDoor
open Go.RowKit
namespace Oct
def fr (at_ : List Int) (k : Nat) : Int := if k = 0 then 0 else at_.getD (k - 1) 0
def piece (l : List UInt8) (at_ : List Int) (k : Nat) : List UInt8 := (l.drop (fr at_ k).toNat).take ((at_.getD k 0).toNat - (fr at_ k).toNat)
def pieces (l : List UInt8) (at_ : List Int) (k : Nat) : List (List UInt8) := (List.range k).map (piece l at_)
end Oct
theorem slT_bb : SlT Tryz.prog 150 48 1 24 := SlT.mk' Tryz.underlying150 (z := .slice none 0 0) (by kernel_rfl) rfl (by decide)
def InRow (own : Value) (N : Nat) (u : Value) (m : Nat) : Prop :=
  ∃ a', u = .slice a' m m ∧ (m = 0 ∨ ∃ g lo cap, own = .slice (some ⟨g, 0, none⟩) N cap ∧ a' = some ⟨g, lo, none⟩ ∧ lo + m ≤ N)
structure Split (base : Nat) (w' : World) (own v : Value) (n N : Nat) (vs : List Value) (l : List UInt8) (ls : List (List UInt8)) : Prop where
  own_ : w'.ownsRow base 5 1 own N (by8 l)
  row : ∃ base2, base ≤ base2 ∧ (∀ k, own.ownBlock = some k → k < base2) ∧ w'.ownsRow base2 48 1 v n vs
  len : vs.length = ls.length
  each : ∀ (i : Nat) (u : Value) (l' : List UInt8), vs[i]? = some u → ls[i]? = some l' → Sl w' 1 u l'.length (by8 l') ∧ InRow own N u l'.length
theorem Split.slB {base : Nat} {w' : World} {own v : Value} {n N : Nat} {vs : List Value} {l : List UInt8} {ls : List (List UInt8)} (h : Split base w' own v n N vs l ls) : SlB w' v n vs ls := by
  obtain ⟨b2, _, _, h2⟩ := h.row; exact ⟨Sl.of_own h2, h.len, fun i u l' h1 h2 => (h.each i u l' h1 h2).1⟩
theorem Sl.below {w w' : World} {B sz : Nat} {u : Value} {m : Nat} {cs : List Value} (h : Sl w sz u m cs) (hB : Below B w w') (hb : m = 0 ∨ ∀ k, u.ownBlock = some k → k < B) : Sl w' sz u m cs := by
  obtain ⟨hl, ⟨a, c, rfl, rfl⟩ | ⟨b, off, cap, rfl, hn, hm, hc⟩⟩ := h
  · exact ⟨hl, .inl ⟨a, c, rfl, rfl⟩⟩
  · rcases hb with rfl | hb
    · exact ⟨hl, .inl ⟨_, _, rfl, rfl⟩⟩
    · refine ⟨hl, .inr ⟨b, off, cap, rfl, hn, hm, fun j u hj => ?_⟩⟩
      rw [hB.cell (p := ⟨b, off + j, none⟩) (hb b rfl)]; exact hc j u hj
theorem InRow.lt {own u : Value} {N m B : Nat} (h : InRow own N u m) (hb : ∀ k, own.ownBlock = some k → k < B) : m = 0 ∨ ∀ k, u.ownBlock = some k → k < B := by
  obtain ⟨a', rfl, h | ⟨g, lo, cap, rfl, rfl, _⟩⟩ := h
  · exact .inl h
  · exact .inr fun k hk => hb k hk
namespace Oct
end Oct
def Ty (w : World) (v : Value) (e : TypeId) : Prop := ∀ k, v.ownBlock = some k → ∃ cur f, w.heap[k]? = some (.cells cur e f)
theorem own_ty {w : World} {base : Nat} {e : TypeId} {sz : Nat} {v : Value} {n : Nat} {xs : List Value} (h : w.ownsRow base e sz v n xs) : Ty w v e := by
  intro k hk; rcases h.2 with ⟨rfl, _⟩ | ⟨g, cap, cur, rfl, _, hc, _⟩
  · cases hk
  · cases hk; exact ⟨_, _, hc⟩
theorem Ty.ne {w : World} {base : Nat} {e e' : TypeId} {sz : Nat} {u v : Value} {n : Nat} {xs : List Value} (h : Ty w u e) (ho : w.ownsRow base e' sz v n xs) (hne : e ≠ e') : ∀ k, u.ownBlock = some k → v.ownBlock ≠ some k := by
  intro k hk hv; obtain ⟨cur, f, h1⟩ := h k hk; obtain ⟨cur', f', h2⟩ := own_ty ho k hv; rw [h1] at h2; simp only [Option.some.injEq, Obj.cells.injEq] at h2; exact hne h2.2.1
theorem Ty.up {w w' : World} {u : Value} {e : TypeId} (h : Ty w u e) (hb : Below w.heap.size w w') : Ty w' u e := by
  intro k hk; obtain ⟨cur, f, h1⟩ := h k hk; exact ⟨cur, f, by rw [hb.block k (lt_of_block h1)]; exact h1⟩
theorem Ty.grown {w w' : World} {u : Value} {e : TypeId} {row : Option Nat} (h : Ty w u e) (hg : w.grownBy w' row) (hn : ∀ k, u.ownBlock = some k → row ≠ some k) : Ty w' u e := by
  intro k hk; obtain ⟨cur, f, h1⟩ := h k hk; exact ⟨cur, f, by rw [hg.block k (lt_of_block h1) (fun e => hn k hk e.symm)]; exact h1⟩
theorem Sl.grown {w w' : World} {sz : Nat} {u : Value} {m : Nat} {cs : List Value} {row : Option Nat} (h : Sl w sz u m cs) (hg : w.grownBy w' row) (hn : ∀ k, u.ownBlock = some k → row ≠ some k) : Sl w' sz u m cs := by
  obtain ⟨hl, ⟨a, c, rfl, rfl⟩ | ⟨b, off, cap, rfl, hn', hm, hc⟩⟩ := h
  · exact ⟨hl, .inl ⟨a, c, rfl, rfl⟩⟩
  · exact ⟨hl, .inr ⟨b, off, cap, rfl, hn', hm, fun j u hj => hg.cell (hc j u hj) (fun e => hn b rfl e.symm)⟩⟩
end Go.Proofs.YtpkonagjnfphkaaGreatDoor
namespace Go.Proofs.YtpkonagjnfphkaaGreatDoor
open Go.RowKit Cb
theorem own_grown {w w' : World} {base : Nat} {e : TypeId} {sz : Nat} {v : Value} {n : Nat} {xs : List Value} {row : Option Nat} (h : w.ownsRow base e sz v n xs) (hg : w.grownBy w' row) (hn : ∀ k, v.ownBlock = some k → row ≠ some k) : w'.ownsRow base e sz v n xs :=
  own_but (O := fun k => row = some k) h (But.grown hg (fun r e => .inl e)) (fun k hk => hn k hk)
structure EB (w : World) (vs : List Value) (ls : List (List UInt8)) : Prop where
  len : vs.length = ls.length
  each : ∀ (i : Nat) (u : Value) (l : List UInt8), vs[i]? = some u → ls[i]? = some l → ∃ base, w.ownsRow base 5 1 u l.length (by8 l)
theorem EB.nil (w : World) : EB w [] [] := ⟨rfl, fun i u l h => by simp at h⟩
theorem EB.up {w w' : World} {vs : List Value} {ls : List (List UInt8)} (h : EB w vs ls) (hb : Below w.heap.size w w') : EB w' vs ls :=
  ⟨h.len, fun i u l h1 h2 => by obtain ⟨b, h3⟩ := h.each i u l h1 h2; exact ⟨b, own_up h3 hb⟩⟩
theorem EB.grown {w w' : World} {vs : List Value} {ls : List (List UInt8)} (h : EB w vs ls) {e : TypeId} {base sz : Nat} {v : Value} {n : Nat} {xs : List Value} (ho : w.ownsRow base e sz v n xs) (hne : 5 ≠ e) (hg : w.grownBy w' v.ownBlock) : EB w' vs ls :=
  ⟨h.len, fun i u l h1 h2 => by
    obtain ⟨b, h3⟩ := h.each i u l h1 h2
    exact ⟨b, own_grown h3 hg ((own_ty h3).ne ho hne)⟩⟩
theorem EB.snoc {w : World} {vs : List Value} {ls : List (List UInt8)} (h : EB w vs ls) {u : Value} {p : List UInt8} {base : Nat} (hu : w.ownsRow base 5 1 u p.length (by8 p)) : EB w (vs ++ [u]) (ls ++ [p]) := by
  refine ⟨by simp [h.len], fun i u' l' h1 h2 => ?_⟩; have hl := h.len; rcases Nat.lt_or_ge i vs.length with hi | hi
  · rw [List.getElem?_append_left hi] at h1
    rw [List.getElem?_append_left (by omega)] at h2; exact h.each i u' l' h1 h2
  · rw [List.getElem?_append_right hi] at h1
    rw [List.getElem?_append_right (by omega)] at h2
    have e : i - vs.length = 0 := by
      rcases Nat.eq_zero_or_pos (i - vs.length) with h | h
      · exact h
      · rw [List.getElem?_eq_none (by simp; omega)] at h1; cases h1
    rw [e] at h1; rw [← hl, e] at h2; simp at h1 h2; subst h1 h2; exact ⟨base, hu⟩
theorem EB.slB {w : World} {vs : List Value} {ls : List (List UInt8)} (h : EB w vs ls) {v : Value} {n : Nat} (hv : Sl w 1 v n vs) : SlB w v n vs ls :=
  ⟨hv, h.len, fun i u l h1 h2 => by obtain ⟨b, h3⟩ := h.each i u l h1 h2; exact Sl.of_own h3⟩
abbrev WrC (S : Nat → Prop) (x : It) : Prop := ∀ (r : Rw) (w : World), ItR S w x r → cnt x ≤ 1000000 → rightB x = true → Calls Tryz.prog 137 #[rwV r] w fun en w' => ∃ v, en = .returned v ∧ w'.ownsRow w.heap.size 5 1 v (bytesOf x).length (by8 (bytesOf x)) ∧ Below w.heap.size w w'
theorem madeB_c (S : Nat → Prop) (l : List It) (hp : ∀ x ∈ l, WrC S x) (hri : rightL l = true) (hc : cntL l ≤ 1000000) (u : Value) (n : Nat) (rows : List Rw) (w : World) (hu : SlS S w 5 u n (rows.flatMap rwC)) (hl : ItsR S w l rows) :
    Calls Tryz.prog 174 #[u, .func (.func 137) #[] #[]] w fun en w' => ∃ v vs, en = .returned v ∧ w'.ownsRow w.heap.size 48 1 v n vs ∧ EB w' vs (l.map bytesOf) ∧ Below w.heap.size w w' := by
  have Hrn := Lib.hid (show rows.length = n from Sl.recs (cells := rwC) (sz := 5) (fun _ => rfl) (by decide) hu.1); have Hln := Lib.hid (show l.length = n by rw [← hl.len]; exact Hrn.out)
  have hn : n ≤ 1000000 := by have := cntL_len l; have := Hln.out; omega
  obtain ⟨a, c, rfl⟩ := hu.1.len; go_enter Tryz.func174, Tryz.ntmps174; go_wp2
  go_loopw [4, 9] (fun o i wr => ∃ (j : Nat) (vs : List Value), j ≤ n ∧ i = .int .i64 j ∧ wr.ownsRow w.heap.size 48 1 o j vs ∧ EB wr vs ((l.take j).map bytesOf) ∧ Below w.heap.size w wr) (fun _ i _ => n - (intOf i).toNat)
  case atStart => exact ⟨0, [], Nat.zero_le _, rfl, World.ownsRow_nil _ _ _ _, EB.nil _, Below.refl _ _⟩
  case round =>
    obtain ⟨j, vs, hj, rfl, ho, hE, hB⟩ := hrel; have HE := Lib.hid hE; by_cases hlt : j < n
    · have hl' : j < l.length := by rw [Hln.out]; exact hlt
      have hr' : j < rows.length := by rw [Hrn.out]; exact hlt
      obtain ⟨b, off, rfl, hr⟩ := (hu.1.up hB).rec_at (cells := rwC) (sz := 5) (fun _ => rfl) hlt hr'; have hs1 := Lib.hid (show (l.take (j + 1)).map bytesOf = (l.take j).map bytesOf ++ [bytesOf l[j]] by rw [List.take_succ_eq_append_getElem hl', List.map_append]; rfl); have hbq : Below w.heap.size w (wr.alloc (.cells (rwC rows[j]).toArray 62)) := hB.alloc hB.size _; have hcl := hp l[j] (List.getElem_mem hl') rows[j] _ ((hl.get hl' hr').up hbq) (by have := cntL_mem (List.getElem_mem hl'); omega) (rightL_mem hri (List.getElem_mem hl')); have Hbq := Lib.hid hbq; have Ho := Lib.hid ho; have HB := Lib.hid hB; have hsx := (hl.get hl' hr').shape; clear hbq ho hE; generalize rows[j] = rx at *; obtain ⟨k1, n1, ba1, bn1, bc1, s1, la1, ln1, lc1, rfl⟩ := hsx; generalize l[j] = x at *; generalize bytesOf x = bs at *; obtain ⟨ao, co, rfl⟩ := own_slice Ho.out
      go_wp2_with (first
        | (refine wpList_load_mid rfl 62 (.tmp 11) rfl b (off + j * 5) rfl (rwC ⟨k1, n1, .slice ba1 bn1 bc1, s1, .slice la1 ln1 lc1⟩) _ hr Tryz.underlying62 rfl (by kernel_rfl) ?_)
        | (go_at_call 137; refine hcl.mono ?_; rintro en w1 ⟨v1, rfl, ho1, hb1⟩; obtain ⟨a1, c1, rfl⟩ := own_slice ho1)
        | (at_builtin; refine wpList_app rfl _ _ 150 rfl slT_bb w.heap.size rfl ((own_up (own_up Ho.out (below_alloc _ _)) hb1).alloc _) rfl (sl1 _ _ rfl (.slice a1 bs.length c1) _) (by intro u hu; simp at hu; subst hu; rfl) (by simp only [maxLen]; omega) (by omega) (by have := Hbq.out.size; have := hb1.size; simp at *; omega) ?_; intro o' w3 ho' hg' _))
      have hE1 := (HE.out.up (below_alloc _ _)).up hb1
      have hz : w1.heap.size ≤ (w1.alloc (.cells #[.slice a1 bs.length c1] 48)).heap.size := by simp
      have hE3 := ((hE1.up (below_alloc w1 (.cells #[.slice a1 bs.length c1] 48))).snoc (own_up ho1 (below_alloc _ _))).grown ((own_up (own_up Ho.out (below_alloc _ _)) hb1).alloc _) (by decide) hg'; have hB3 := grown_below (below_up (below_up Hbq.out hb1) (below_alloc w1 (.cells #[.slice a1 bs.length c1] 48))) hg' (fun q hq => (own_of_some Ho.out hq).1)
      go_roundw
      case rel => exact ⟨j + 1, _, by omega, by go_num, ho', by rw [hs1.out]; exact hE3, hB3⟩
      case measure => simp [intOf]; omega
    · obtain rfl : j = n := by omega
      have hall : l.take j = l := List.take_of_length_le (by rw [Hln.out]; exact Nat.le_refl _); have Hall := Lib.hid hall; clear hall hE; obtain ⟨ao, co, rfl⟩ := own_slice ho; go_wp2; go_ret; exact ⟨_, vs, rfl, ho, by rw [← Hall.out]; exact HE.out, hB⟩
end Go.Proofs.YtpkonagjnfphkaaGreatDoor
