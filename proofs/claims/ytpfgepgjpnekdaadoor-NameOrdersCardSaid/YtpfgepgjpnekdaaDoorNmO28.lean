/-
  NmSq: several texts in one (bundle.py).
-/
import Derived.Test.YtpfgepgjpnekdaaDoorNmO12
import Derived.Test.YtpfgepgjpnekdaaDoorNmO13
import Derived.Test.YtpfgepgjpnekdaaDoorNmO14
import Derived.Test.YtpfgepgjpnekdaaDoorNmO15
import Derived.Test.YtpfgepgjpnekdaaDoorNmO17
import Derived.Test.YtpfgepgjpnekdaaDoorNmO23
import Derived.Test.YtpfgepgjpnekdaaDoorNmO27
namespace Go.Proofs.YtpfgepgjpnekdaaDoor
open Go.RowKit Trc
set_option linter.unusedSimpArgs false
set_option linter.unusedVariables false
attribute [local go_sem] Oper.semAt_some

theorem slN : SlT Tryd.prog 71 31 4 24 := SlT.mk' Tryd.underlying71 (z := .agg #[.int .u32 0, .int .u32 0, .int .u64 0, .int .u32 0]) (by kernel_rfl) rfl (by decide)
theorem slN1 (w : World) (k : Nat) (hk : k = w.heap.size) (m : Nm) : Sl (w.alloc (.cells (nmC m).toArray 31)) 4 (.slice (some ⟨k, 0, none⟩) 1 1) 1 (nmC m) := by
  subst hk
  exact Sl.of_own (World.ownsRow_lit w (nmC m).toArray 1 (size := 4) (e := 31) (Nat.le_refl _) (by decide) rfl)
/-- One step of a walk over names. -/
def NmR (N : Nat) (acc : List Nm) (x : Array Value) (acc' : List Nm) : Prop := ∃ m, x = #[nmV m] ∧ acc' = acc ++ [m] ∧ acc'.length ≤ N
/-- What AppendSeq has collected; its variable lies behind w. -/
structure ApN (w : World) (N : Nat) (acc : List Nm) (G : Nat → Prop) (W : World) : Prop where
  row : ∃ v, Boxed W w.heap.size 71 v ∧ W.ownsRow w.heap.size 31 4 v acc.length (acc.flatMap nmC) ∧ ∀ j, v.ownBlock = some j → G j
  own : G w.heap.size
  low : ∀ j, G j → w.heap.size ≤ j
  below : Below w.heap.size w W
  size : w.heap.size + 1 ≤ W.heap.size
  len : acc.length ≤ N
theorem ApN.abide {w : World} {N : Nat} {acc : List Nm} {B : Nat} (hB : w.heap.size ≤ B) : Abide B (ApN w N acc) := by
  intro G W W' h hb
  obtain ⟨v, h1, h2, h3⟩ := h.row
  exact ⟨⟨v, hb.boxed h1 (fun e => e.2 h.own), own_but h2 hb (fun j hj e => e.2 (h3 j hj)), h3⟩, h.own, h.low, h.below.trans (hb.below (fun _ e => by omega) h.below.size), Nat.le_trans h.size hb.size, h.len⟩
theorem ApN.start (w : World) (N : Nat) : ApN w N [] (· = w.heap.size) (w.alloc (.cells #[.slice none 0 0] 71)) :=
  ⟨⟨_, Boxed.new w _ _, World.ownsRow_nil _ _ _ _, fun j hj => by cases hj⟩, rfl, fun j h => by omega, below_alloc _ _, by simp, Nat.zero_le _⟩
theorem ApN.step {w : World} {N : Nat} {acc : List Nm} {m : Nm} {G : Nat → Prop} {W w1 : World} (hi : ApN w N acc G W) (hl : (acc ++ [m]).length ≤ N) {v v' : Value} (hv : Boxed W w.heap.size 71 v) (hrow : W.ownsRow w.heap.size 31 4 v acc.length (acc.flatMap nmC)) (hvG : ∀ j, v.ownBlock = some j → G j) {tmp : Obj}
    (hown : w1.ownsRow w.heap.size 31 4 v' (acc.length + 1) (acc.flatMap nmC ++ nmC m)) (hgrow : (W.alloc tmp).grownBy w1 v.ownBlock) (hat : v'.ownBlock = v.ownBlock ∨ v'.ownBlock = some (W.alloc tmp).heap.size) :
    Boxed w1 w.heap.size 71 v ∧ But G W (w1.setCell ⟨w.heap.size, 0, none⟩ v') ∧ ApN w N (acc ++ [m]) (newG G W (w1.setCell ⟨w.heap.size, 0, none⟩ v')) (w1.setCell ⟨w.heap.size, 0, none⟩ v') := by
  have hsz := hi.below.size
  obtain ⟨h1, h2, h3, _, h5⟩ := hv.appended (by decide) hrow hsz (Nat.le_refl _) hown hgrow
  have hb1 : But G W w1 := (But.alloc W _).then (But.grown (O := G) hgrow (fun r e => .inl (hvG r e))) (fun _ _ h => h)
  have hb : But G W (w1.setCell ⟨w.heap.size, 0, none⟩ v') := hb1.trans (But.setCell _ _ _ (.inl hi.own))
  refine ⟨h1, hb, ⟨v', h2, by rw [List.flatMap_append, List.length_append]; simpa using h3, fun j hj => ?_⟩, newG_old hi.own, fun j hj => ?_, hi.below.trans h5, Nat.le_trans hi.size hb.size, hl⟩
  · rcases hat with h | h
    · exact newG_old (hvG j (h ▸ hj))
    · have hlt := (own_of_some hown hj).2
      rw [h] at hj
      simp only [World.size_alloc, Option.some.injEq] at hj
      exact .inr ⟨by omega, by simpa using hlt⟩
  · rcases hj with h | h
    · exact hi.low j h
    · have := hi.size; omega


set_option maxHeartbeats 2000000 in
set_option maxRecDepth 100000 in
theorem appSeqN_c {gf : Nat} {lb : Array Value} (eg : ∀ args w, (callFunc gf args).run Tryd.prog w = .ok (.enter gf args) w) {N : Nat} {F : List Nm → Prop} {S : Nat → Prop} (w : World) (hseq : SeqP Tryd.prog gf lb (NmR N) ([] : List Nm) F S w) (hS : ∀ k, S k → k < w.heap.size) (hN : N ≤ 100000) :
    Calls Tryd.prog 100 #[.slice none 0 0, .func (.func gf) #[] lb] w fun en w' => ∃ (v : Value) (acc : List Nm), en = .returned v ∧ F acc ∧ acc.length ≤ N ∧ w'.ownsRow w.heap.size 31 4 v acc.length (acc.flatMap nmC) ∧ Below w.heap.size w w' := by
  refine (callsIn_wide (n := 3)).1 ?_
  refine callsIn_of_wp_marks Tryd.func100 rfl trivial ?_ rfl
  simp only [Tryd.ntmps100, List.size_toArray, List.length_cons, List.length_nil, Nat.reduceAdd, Nat.reduceSub, Array.replicate_succ, Array.replicate_zero, List.push_toArray, List.append_toArray, List.nil_append, List.cons_append]
  refine wpIn_wide.2 ?_
  go_wp2
  have hB := below_alloc w (.cells #[.slice none 0 0] 71)
  have I0 := ApN.start w N
  have hsz : (w.alloc (.cells #[.slice none 0 0] 71)).heap.size = w.heap.size + 1 := by simp
  obtain ⟨W0, hW0⟩ : ∃ W0, w.alloc (.cells #[.slice none 0 0] 71) = W0 := ⟨_, rfl⟩
  rw [hW0] at I0 hsz hB ⊢
  clear hW0
  refine wpIn_wide.1 (wp_rangeP (n := 3) (S := S) (gf := gf) (lb := lb) rfl eg
    hseq hB (fun acc x acc' h => by obtain ⟨m, rfl, _⟩ := h; rfl)
    (fun q => q = w.heap.size) (fun k h => by omega) (fun k h => by have := hS k h; exact ⟨by omega, by omega⟩)
    (fun acc G W => ApN w N acc G W)
    (fun acc x acc' a' G W => ∃ m V, acc' = acc ++ [m] ∧ (acc ++ [m]).length ≤ N ∧ a' = { tmps := #[.slice none 0 0, .func (.func gf) #[] lb, .pointer (some ⟨w.heap.size, 0, none⟩), undef, .slice none 0 0, .pointer (some ⟨V, 0, none⟩), .func (.func gf) #[] lb, nmV m, undef, undef, undef, undef, undef], defers := [] } ∧ RowAt W V (nmC m).toArray 31 ∧ G V ∧ ApN w N acc G W)
    (fun c acc G W => False)
    (fun acc => ApN.abide (by omega)) ?abM (fun c acc G A B h _ => h.elim) I0 ?assign ?body ?done ?stop)
  case abM =>
    rintro acc x acc' a' G A B ⟨m, V, h1, h2, h3, hV, hG, h⟩ hb
    exact ⟨m, V, h1, h2, h3, (hb.same V hV.lt (fun e => e.2 hG)).trans hV, hG, ApN.abide (by omega) G A B h hb⟩
  case assign =>
    rintro l2 acc x acc' G W K ⟨m, rfl, rfl, hl⟩ hi hK
    gi_wp2
    refine hK _ _ (But.alloc _ _) ⟨m, _, rfl, hl, rfl, RowAt.new _ _ _, .inr ⟨Nat.le_refl _, by simp⟩, ?_⟩
    obtain ⟨v, h1, h2, h3⟩ := hi.row
    exact ⟨⟨v, h1.alloc _, h2.alloc _, fun j hj => newG_old (h3 j hj)⟩, newG_old hi.own, fun j hj => by rcases hj with h | h; exact hi.low j h; have := hi.size; omega, hi.below.alloc hi.below.size _, by have := hi.size; simp; omega, hi.len⟩
  case body =>
    rintro l2 acc x acc' a' G W _ hl2 hl3 hGl ⟨m, V, rfl, hl, rfl, hV, hG, hi⟩
    obtain ⟨v, h1, h2, h3⟩ := hi.row
    have hsW := hi.below.size
    have hlE : acc.length + 1 ≤ 100000 := by have := hi.len; simp at hl; omega
    have cl := h1.cell
    have fl := h1.frozen
    obtain ⟨av, cv, rfl⟩ := own_slice h2
    have v0 := hV.cell (i := 0) (v := .int .u32 m.node) rfl
    have v1 := hV.cell (i := 1) (v := .int .u32 m.service) rfl
    have v2 := hV.cell (i := 2) (v := .int .u64 m.time) rfl
    have v3 := hV.cell (i := 3) (v := .int .u32 m.seq) rfl
    gi_wp2_with (first
      | (gi_at_builtin; refine wpListIn_app rfl _ _ 71 rfl slN w.heap.size rfl (h2.alloc _) rfl (slN1 _ _ rfl _) (by simp [Value.oneCell']) (by simp [maxLen]; omega) (by omega) (by simp; omega) ?_; intro v' w1 hown' hgrow _ hat; obtain ⟨g', cap', rfl⟩ := ownsRow_succ hown'; obtain ⟨hv1, hbut, hstep⟩ := hi.step hl h1 h2 h3 hown' hgrow hat; have HS := Lib.hid hstep; have HB := Lib.hid hbut; clear hstep hbut; have hc1 := hv1.cell; have hf1 := hv1.frozen))
    exact ⟨HB.out, HS.out⟩
  case done =>
    rintro D acc G W hD hGD hF hi hK
    obtain ⟨v, h1, h2, h3⟩ := hi.row
    have c1 := h1.cell
    have HK := Lib.hid hK
    have HF := Lib.hid hF
    go_wp2
    refine ⟨by simp, .inl ⟨_, _, rfl, run_takeDeferred HK.out, ?_⟩⟩
    have hp : But (· = D) W (W.putObj D (.deferred none)) := But.putObj _ _ _ (.inl rfl)
    refine ⟨v, by simp [results, Tryd.results100, go_sem], v, acc, rfl, HF.out, hi.len, own_but h2 hp (fun j hj e => hGD (by rw [← e]; exact h3 j hj)), hi.below.trans (hp.below (fun j e => by omega) hi.below.size)⟩
  case stop =>
    intro D c acc G W hD hGD hi hK
    exact hi.elim
theorem collectN_c {gf : Nat} {lb : Array Value} (eg : ∀ args w, (callFunc gf args).run Tryd.prog w = .ok (.enter gf args) w) {N : Nat} {F : List Nm → Prop} {S : Nat → Prop} (w : World) (hseq : SeqP Tryd.prog gf lb (NmR N) ([] : List Nm) F S w) (hS : ∀ k, S k → k < w.heap.size) (hN : N ≤ 100000) :
    Calls Tryd.prog 89 #[.func (.func gf) #[] lb] w fun en w' => ∃ (v : Value) (acc : List Nm), en = .returned v ∧ F acc ∧ acc.length ≤ N ∧ w'.ownsRow w.heap.size 31 4 v acc.length (acc.flatMap nmC) ∧ Below w.heap.size w w' := by
  go_enter Tryd.func89, Tryd.ntmps89
  go_wp2_with (go_at_call 100; refine (appSeqN_c eg _ hseq hS hN).mono ?_; rintro en w1 ⟨v, acc, rfl, hp, hl, hown, hb⟩)
  go_ret
  exact ⟨v, acc, rfl, hp, hl, hown, hb⟩

/-- A variable in block C holds a slice of names. -/
structure NoAt (w : World) (C : Nat) (v : Value) (n : Nat) (L : List Nm) : Prop where
  var : w.cell? ⟨C, 0, none⟩ = some v
  sl : Sl w 4 v n (L.flatMap nmC)
theorem NoAt.but {w w' : World} {C : Nat} {v : Value} {n : Nat} {L : List Nm} (h : NoAt w C v n L) {O : Nat → Prop} (hb : But O w w') (hC : ¬ O C) (hv : n = 0 ∨ ∀ k, v.ownBlock = some k → ¬ O k) : NoAt w' C v n L :=
  ⟨hb.cell h.var hC, h.sl.but hb hv⟩
theorem NoAt.up {w w' : World} {C : Nat} {v : Value} {n : Nat} {L : List Nm} (h : NoAt w C v n L) (hb : Below w.heap.size w w') : NoAt w' C v n L := h.but (O := fun _ => False) (But.of_below hb) (fun e => e) (.inr fun _ _ e => e)
set_option maxRecDepth 100000 in
theorem valuesN_c (a : Option Addr) (n c : Nat) (w : World) : Calls Tryd.prog 78 #[.slice a n c] w fun en w' => en = .returned (.func (.func 91) #[] #[.pointer (some ⟨w.heap.size, 0, none⟩)]) ∧ w' = w.alloc (.cells #[.slice a n c] 71) := by
  have hmf : ∀ (fn : Fn) (first cap : Array Value) (w : World), (Instr.makeFunc fn first cap).run Tryd.prog w = .ok (.func fn first cap) w := fun _ _ _ _ => rfl
  go_enter Tryd.func78, Tryd.ntmps78
  go_wp2
  go_ret
  exact ⟨rfl, rfl⟩
theorem enters_valN1 : Enters Tryd.prog 91 := enters_of Tryd.func91 (by kernel_rfl) rfl
set_option maxHeartbeats 2000000 in
set_option maxRecDepth 100000 in
theorem valN1_x (L : List Nm) (C n : Nat) (v : Value) (S : Nat → Prop) (w : World) (h : NoAt w C v n L) (hSS : S C ∧ (n = 0 ∨ ∀ k, v.ownBlock = some k → S k)) :
    SeqP Tryd.prog 91 #[.pointer (some ⟨C, 0, none⟩)] (NmR n) ([] : List Nm) (fun acc => acc = L) S w := by
  intro l' G J Jx W hW hS hG hJ hJx hY h0
  have hE := h.up hW
  have Hln := Lib.hid (Sl.recs (cells := nmC) (sz := 4) (fun _ => rfl) (by decide) hE.sl)
  have hn := hE.sl.n_max
  obtain ⟨a, c, rfl⟩ := hE.sl.len
  have hc0 := hE.var
  clear h hW
  refine (callsIn_wide (n := 3)).1 ?_
  refine callsIn_of_wp Tryd.func91 rfl trivial ?_ rfl
  simp only [Tryd.ntmps91, List.size_toArray, List.length_cons, List.length_nil, Nat.reduceAdd, Nat.reduceSub, Array.replicate_succ, Array.replicate_zero, List.push_toArray, List.append_toArray, List.nil_append, List.cons_append]
  gi_wp2
  gi_loopw [7] (fun i wr => ∃ (j : Nat) (G : Nat → Prop), j ≤ n ∧ i = .int .i64 j ∧ J (L.take j) G wr ∧ NoAt wr C (.slice a n c) n L ∧ (∀ k, S k → ¬ G k) ∧ W.heap.size ≤ wr.heap.size) (fun i _ => n - (intOf i).toNat)
  case atStart => exact ⟨0, G, Nat.zero_le _, rfl, h0, hE, fun k hk => (hS k hk).2, Nat.le_refl _⟩
  case round =>
    obtain ⟨j, G1, hk, rfl, hj, hE1, hG1, hsz⟩ := hrel
    by_cases hlt : j < n
    · have hlt' : j < L.length := by rw [Hln.out]; exact hlt
      obtain ⟨b, off, rfl, hr⟩ := hE1.sl.rec_at (cells := nmC) (sz := 4) (fun _ => rfl) hlt hlt'
      have hjn : (j : Int) < (n : Int) := by omega
      have hts := List.take_succ_eq_append_getElem hlt'
      have htl : (L.take (j + 1)).length ≤ n := by rw [List.length_take]; omega
      generalize L[j] = e at *
      have hR0 : NmR n (L.take j) #[nmV e] (L.take (j + 1)) := ⟨e, rfl, hts, htl⟩
      have hCl := World.block_lt_of_cell? wr _ hE1.var
      have E1 := RowAt.new wr (nmC e).toArray 31
      have hEa := hE1.but (But.alloc (O := fun _ => False) wr (.cells (nmC e).toArray 31)) (fun h => h) (.inr fun _ _ h => h)
      have hJa := (hJ _).alloc (.cells (nmC e).toArray 31) (((hJ _).up (Nat.le_refl _)) _ _ _ hj (But.refl _ _))
      obtain ⟨fn, tmps, assign, body, hy, hR⟩ := yieldAt_wide (m' := 2) (hY _ _ _ _ _ hR0 hJa)
      clear hR0 hts htl
      gi_wp2_with (first
        | (refine wpListIn_loadr rfl 31 (.tmp 9) rfl b (off + j * 4) rfl (nmC e) _ hr Tryd.underlying31 rfl (by kernel_rfl) ?_)
        | (refine wpListIn_loadr rfl 31 (.tmp 4) rfl wr.heap.size 0 rfl (nmC e) _ E1.range Tryd.underlying31 rfl (by kernel_rfl) ?_))
      refine hR.mono ?_
      rintro en W3 ⟨g, rfl, hw⟩
      have hE3 := hEa.but hw.but (hG1 C hSS.1) (hSS.2.elim .inl fun h => .inr fun k hk => hG1 k (h k hk))
      have hs3 := hw.but.size
      simp only [World.size_alloc] at hs3
      cases g with
      | true =>
        gi_wp2
        go_roundw
        case rel => exact ⟨j + 1, _, by omega, by go_num, hw.on rfl, hE3, fun k hk => newG_not (hG1 k hk) (by have := (hS k hk).1; simp; omega), by omega⟩
        case measure => simp [intOf]; omega
      | false =>
        gi_wp2
        refine bodyPost_ret (results_none rfl _ _ _) rfl ?_
        exact ⟨⟨_, rfl⟩, _, .inr ⟨_, hw.off rfl⟩⟩
    · obtain rfl : j = n := by omega
      rw [List.take_of_length_le (by rw [Hln.out]; exact Nat.le_refl _)] at hj
      gi_wp2
      go_end0
      exact ⟨⟨_, rfl⟩, _, .inl ⟨L, rfl, hj⟩⟩
end Go.Proofs.YtpfgepgjpnekdaaDoor

namespace Go.Proofs.YtpfgepgjpnekdaaDoor
open Go.RowKit Srt Trc
set_option linter.unusedSimpArgs false
set_option linter.unusedVariables false
attribute [local go_sem] Oper.semAt_some

/-- Names that are right, with that. -/
def wns (L : List Nm) (h : ∀ x ∈ L, x.wf) : List WN := L.attachWith _ h
theorem wns_val (L : List Nm) (h : ∀ x ∈ L, x.wf) : (wns L h).map (·.1) = L := by unfold wns; simp
theorem wn_flat (L : List WN) : L.flatMap wnC = (L.map (·.1)).flatMap nmC := by rw [List.flatMap_map]
theorem wns_flat (L : List Nm) (h : ∀ x ∈ L, x.wf) : (wns L h).flatMap wnC = L.flatMap nmC := by rw [wn_flat, wns_val]
theorem wn_perm {W L : List WN} (h : (W.map (·.1)).Perm (L.map (·.1))) : W.Perm L := by
  have hw : ∀ X : List WN, ∀ x ∈ X.map (·.1), x.wf := fun X x hx => by obtain ⟨y, _, rfl⟩ := List.mem_map.1 hx; exact y.2
  have e : ∀ X : List WN, (X.map (·.1)).pmap (fun x hx => (⟨x, hx⟩ : WN)) (hw X) = X := fun X => by
    induction X with
    | nil => rfl
    | cons a X ih => exact congrArg (a :: ·) ih
  have := h.pmap (fun x hx => (⟨x, hx⟩ : WN)) (H₁ := hw W) (H₂ := hw L)
  rwa [e, e] at this
theorem enters_nord : Enters Tryd.prog 18 := enters_of Tryd.func18 (by kernel_rfl) rfl
set_option maxRecDepth 100000 in
theorem sortN_c {L : List WN} {n b c : Nat} {J : List Value} (hn : L.length = n) (hb : n ≤ 100000000) (w : World) (h : Arr w b 31 J wnC L) :
    Calls Tryd.prog 90 #[.slice (some ⟨b, 0, none⟩) n c, .func (.func 18) #[] #[]] w fun en w' => en = .returned (.tuple #[]) ∧ ∃ W, W.Perm L ∧ Sorted (ltc wnCmp) W ∧ Arr w' b 31 J wnC W ∧ But (· = b) w w' := by
  have hs := stable_c (cells := wnC) (cf := wnCmp) (fun _ => rfl) (fun _ => rfl) wnTO hn hb (b := b) (c := c) (J := J) 18 #[] enters_nord (fun x y w1 => Calls.cast rfl (order_c x.1 y.1 x.2 y.2 w1)) w h
  have HS := Lib.hid hs
  clear hs h
  go_enter Tryd.func90, Tryd.ntmps90
  go_wp2_with (go_at_call 101; refine HS.out.mono ?_; rintro en w1 ⟨rfl, W, p1, s1, hA, hB⟩)
  go_end0
  exact ⟨rfl, W, p1, s1, hA, hB⟩
theorem sort0N_c (a : Option Addr) (c : Nat) (w : World) : Calls Tryd.prog 90 #[.slice a 0 c, .func (.func 18) #[] #[]] w (Ret (.tuple #[]) w) := by
  have hI : ∀ w, Calls Tryd.prog 113 #[.slice a 0 c, .int .i64 0, .int .i64 0, .func (.func 18) #[] #[]] w (Ret (.tuple #[]) w) := fun w => by
    go_enter Tryd.func113, Tryd.ntmps113
    go_wp2
    refine wp_loop_rounds 1 ?_
    rw [rounds_succ]
    go_wp2
    go_end0
    exact ⟨rfl, Below.refl _ _⟩
  have hS : ∀ w, Calls Tryd.prog 101 #[.slice a 0 c, .int .i64 0, .func (.func 18) #[] #[]] w (Ret (.tuple #[]) w) := fun w => by
    go_enter Tryd.func101, Tryd.ntmps101
    go_wp2
    refine wp_loop_rounds 1 ?_
    rw [rounds_succ]
    go_wp2_with (go_at_call 113; refine (hI _).mono ?_; rintro en w1 ⟨rfl, hb⟩)
    refine wp_loop_rounds 1 ?_
    rw [rounds_succ]
    go_wp2
    go_end0
    exact ⟨rfl, hb⟩
  go_enter Tryd.func90, Tryd.ntmps90
  go_wp2_with (go_at_call 101; refine (hS _).mono ?_; rintro en w1 ⟨rfl, hb⟩)
  go_end0
  exact ⟨rfl, hb⟩
/-- The sort at a slice of one's own. -/
theorem sortAnyN_c {base : Nat} {a : Option Addr} {m c : Nat} {L : List WN} (w : World) (h : w.ownsRow base 31 4 (.slice a m c) m (L.flatMap wnC)) (hm : m ≤ 100000) :
    Calls Tryd.prog 90 #[.slice a m c, .func (.func 18) #[] #[]] w fun en w' => en = .returned (.tuple #[]) ∧ ∃ W : List WN, W.Perm L ∧ Sorted (ltc wnCmp) W ∧ w'.ownsRow base 31 4 (.slice a m c) m (W.flatMap wnC) ∧ But (fun k => (Value.slice a m c).ownBlock = some k) w w' := by
  have hlen : L.length = m := Sl.recs (cells := wnC) (sz := 4) (fun _ => rfl) (by decide) (Sl.of_own h)
  rcases h.2 with ⟨hv, h0⟩ | ⟨g, cap, cur, hv, hg, hrow, hnc, hcm, hcs, hct⟩
  · subst h0
    obtain rfl : L = [] := List.eq_nil_of_length_eq_zero hlen
    refine (sort0N_c a c w).mono ?_
    rintro en w1 ⟨rfl, hb⟩
    exact ⟨rfl, [], List.Perm.refl _, (by simp [Sorted]), own_but h (But.of_below (O := fun _ => False) hb) (fun _ _ e => e), But.of_below hb⟩
  · obtain ⟨J, hJ⟩ : ∃ J, cur.toList.drop (m * 4) = J := ⟨_, rfl⟩
    have hcur : cur = (L.flatMap wnC ++ J).toArray := by rw [← hct, ← hJ, List.take_append_drop]
    have hJl : m * 4 + J.length = cap * 4 := by rw [← hcs, ← hJ, List.length_drop, Array.length_toList, hcs]; omega
    subst hcur
    obtain ⟨rfl, rfl⟩ : a = some ⟨g, 0, none⟩ ∧ c = cap := by simpa using hv
    refine (sortN_c hlen (by omega) w (b := g) (c := c) (J := J) hrow).mono ?_
    rintro en w1 ⟨rfl, W, hp, hs, hA, hB⟩
    have hWl : W.length = m := hp.length_eq.trans hlen
    have hfl := arr_len (cells := wnC) (sz := 4) (fun _ => rfl) W
    rw [hWl] at hfl
    exact ⟨rfl, W, hp, hs, ⟨hfl, .inr ⟨g, c, _, rfl, hg, hA, hnc, hcm, by rw [List.size_toArray, List.length_append, hfl]; exact hJl, by
      show (W.flatMap wnC ++ J).take (m * 4) = _
      rw [List.take_append_of_le_length (by omega), List.take_of_length_le (by omega)]⟩⟩, hB.mono (fun k _ e => by rw [e]; rfl)⟩
set_option maxHeartbeats 1000000 in
set_option maxRecDepth 100000 in
theorem sortedStable_c {gf : Nat} {lb : Array Value} (eg : ∀ args w, (callFunc gf args).run Tryd.prog w = .ok (.enter gf args) w) {N : Nat} {F : List Nm → Prop} {S : Nat → Prop} (w : World) (hseq : SeqP Tryd.prog gf lb (NmR N) ([] : List Nm) F S w) (hS : ∀ k, S k → k < w.heap.size) (hN : N ≤ 100000) (hF : ∀ acc, F acc → ∀ x ∈ acc, x.wf) :
    Calls Tryd.prog 77 #[.func (.func gf) #[] lb, .func (.func 18) #[] #[]] w fun en w' => ∃ (v : Value) (acc : List Nm) (W : List WN), en = .returned v ∧ F acc ∧ acc.length ≤ N ∧ (W.map (·.1)).Perm acc ∧ Sorted (ltc wnCmp) W ∧ w'.ownsRow w.heap.size 31 4 v acc.length (W.flatMap wnC) ∧ Below w.heap.size w w' := by
  have HC := Lib.hid (collectN_c eg w hseq hS hN)
  have HF := Lib.hid hF
  clear hseq hF
  go_enter Tryd.func77, Tryd.ntmps77
  go_wp2_with (go_at_call 89; go_loud (refine HC.out.mono ?_; rintro en w1 ⟨v, acc, rfl, hp, hl, hown, hb⟩; rw [← wns_flat acc (HF.out acc hp)] at hown; obtain ⟨a, c, rfl⟩ := own_slice hown))
  go_wp2_with (go_at_call 90; go_loud (refine (sortAnyN_c _ hown (by omega)).mono ?_; rintro en w2 ⟨rfl, W, hpW, hsW, ho2, hB2⟩))
  go_ret
  have hperm := hpW.map (fun x : WN => x.1)
  rw [wns_val] at hperm
  exact ⟨_, acc, W, rfl, hp, hl, hperm, hsW, ho2, hb.trans (hB2.below (fun k hk => (own_of_some hown hk).1) hb.size)⟩
set_option maxHeartbeats 1000000 in
set_option maxRecDepth 100000 in
theorem nameSorted_c (L : List WN) (v : Value) (n : Nat) (w : World) (hv : Sl w 4 v n (L.flatMap wnC)) (hn : n ≤ 100000) :
    Calls Tryd.prog 36 #[v] w fun en w' => ∃ (X : Nat) (v' : Value) (W : List WN), en = .returned (.func (.func 79) #[] #[.pointer (some ⟨X, 0, none⟩)]) ∧ NoAt w' X v' n (W.map (·.1)) ∧ W.Perm L ∧ Sorted (ltc wnCmp) W ∧ Below w.heap.size w w' ∧ w.heap.size ≤ X ∧ (n = 0 ∨ ∀ k, v'.ownBlock = some k → w.heap.size ≤ k) := by
  have hmf : ∀ (fn : Fn) (first cap : Array Value) (w : World), (Instr.makeFunc fn first cap).run Tryd.prog w = .ok (.func fn first cap) w := fun _ _ _ _ => rfl
  have hlen : L.length = n := Sl.recs (cells := wnC) (sz := 4) (fun _ => rfl) (by decide) hv
  rw [wn_flat] at hv
  obtain ⟨a, c, rfl⟩ := hv.len
  have hb := below_alloc w (.cells #[.slice a n c] 71)
  have hno : NoAt (w.alloc (.cells #[.slice a n c] 71)) w.heap.size (.slice a n c) n (L.map (·.1)) := ⟨cell_new w _ _, hv.up hb⟩
  have hsq := valN1_x (L.map (·.1)) w.heap.size n (.slice a n c) (fun k => k < w.heap.size + 1) (w.alloc (.cells #[.slice a n c] 71)) hno ⟨by omega, by
    rcases hv.2 with ⟨_, _, _, h0⟩ | ⟨b, off, cap, h1, h2, h3, h4⟩
    · exact .inl h0
    · by_cases h0 : n = 0
      · exact .inl h0
      · refine .inr fun k hk => ?_
        obtain ⟨rfl, rfl⟩ : a = some ⟨b, off, none⟩ ∧ c = cap := by simpa using h1
        obtain rfl : b = k := by simpa [Value.ownBlock] using hk
        have h5 := hv.1
        obtain ⟨u, hu⟩ : ∃ u, ((L.map (·.1)).flatMap nmC)[0]? = some u := ⟨_, List.getElem?_eq_getElem (by rw [h5]; omega)⟩
        have := World.block_lt_of_cell? w _ (h4 0 u hu)
        simp at this; omega⟩
  have HSS := Lib.hid (sortedStable_c enters_valN1 _ hsq (fun k hk => by simpa using hk) hn (fun acc e x hx => by subst e; obtain ⟨y, _, rfl⟩ := List.mem_map.1 hx; exact y.2))
  have HL := Lib.hid hlen
  clear hsq hlen hno
  go_enter Tryd.func36, Tryd.ntmps36
  go_wp2_with (go_at_call 78; go_loud (refine (valuesN_c a n c _).mono ?_; rintro en w1 ⟨rfl, rfl⟩))
  go_wp2_with (go_at_call 77; go_loud (refine HSS.out.mono ?_; rintro en w2 ⟨v2, acc, W, rfl, hF, hl2, hp, hs, ho, hb2⟩; subst hF; rw [List.length_map, HL.out] at ho; obtain ⟨a2, c2, rfl⟩ := own_slice ho))
  go_ret
  have hbx := below_new hb2
  refine ⟨_, _, W, rfl, ⟨cell_new w2 _ _, ?_⟩, ?_, hs, hbx.alloc hbx.size _, hbx.size, .inr fun k hk => ?_⟩
  · rw [← wn_flat]; exact (Sl.of_own ho).up (below_alloc _ _)
  · exact wn_perm hp
  · have := (own_of_some ho hk).1; simp at this; omega
def nmArgs (L : List Nm) (k : Nat) : Array Value := #[nmV (L.getD k ⟨0, 0, 0, 0⟩)]
theorem enters_nso1 : Enters Tryd.prog 79 := enters_of Tryd.func79 (by kernel_rfl) rfl
set_option maxHeartbeats 2000000 in
set_option maxRecDepth 100000 in
theorem nmSorted1_x (L : List Nm) (C n : Nat) (v : Value) (S : Nat → Prop) (w : World) (h : NoAt w C v n L) (hSS : S C ∧ (n = 0 ∨ ∀ k, v.ownBlock = some k → S k)) :
    SeqX Tryd.prog 79 #[.pointer (some ⟨C, 0, none⟩)] (nmArgs L) n S w := by
  intro l' G J Jx W hW hS hG hJ hJx hY h0
  have hE := h.up hW
  have Hln := Lib.hid (Sl.recs (cells := nmC) (sz := 4) (fun _ => rfl) (by decide) hE.sl)
  have hn := hE.sl.n_max
  obtain ⟨a, c, rfl⟩ := hE.sl.len
  have hc0 := hE.var
  clear h hW
  refine (callsIn_wide (n := 3)).1 ?_
  refine callsIn_of_wp Tryd.func79 rfl trivial ?_ rfl
  simp only [Tryd.ntmps79, List.size_toArray, List.length_cons, List.length_nil, Nat.reduceAdd, Nat.reduceSub, Array.replicate_succ, Array.replicate_zero, List.push_toArray, List.append_toArray, List.nil_append, List.cons_append]
  gi_wp2
  refine wpIn_scope0 ?_
  gi_wp2
  gi_loopw [7] (fun i wr => ∃ (j : Nat) (G : Nat → Prop), j ≤ n ∧ i = .int .i64 j ∧ J j G wr ∧ NoAt wr C (.slice a n c) n L ∧ (∀ k, S k → ¬ G k) ∧ W.heap.size ≤ wr.heap.size) (fun i _ => n - (intOf i).toNat)
  case atStart => exact ⟨0, G, Nat.zero_le _, rfl, h0, hE, fun k hk => (hS k hk).2, Nat.le_refl _⟩
  case round =>
    obtain ⟨j, G1, hk, rfl, hj, hE1, hG1, hsz⟩ := hrel
    by_cases hlt : j < n
    · have hlt' : j < L.length := by rw [Hln.out]; exact hlt
      obtain ⟨b, off, rfl, hr⟩ := hE1.sl.rec_at (cells := nmC) (sz := 4) (fun _ => rfl) hlt hlt'
      have hjn : (j : Int) < (n : Int) := by omega
      have hpa : nmArgs L j = #[nmV L[j]] := by unfold nmArgs; rw [List.getD_eq_getElem?_getD, List.getElem?_eq_getElem hlt']; rfl
      generalize L[j] = e at *
      have hCl := World.block_lt_of_cell? wr _ hE1.var
      have E1 := RowAt.new wr (nmC e).toArray 31
      have hEa := hE1.but (But.alloc (O := fun _ => False) wr (.cells (nmC e).toArray 31)) (fun h => h) (.inr fun _ _ h => h)
      have hJa := (hJ _).alloc (.cells (nmC e).toArray 31) (((hJ _).up (Nat.le_refl _)) _ _ _ hj (But.refl _ _))
      obtain ⟨fn, tmps, assign, body, hy, hR⟩ := yieldAt_wide (m' := 2) (hY _ _ _ hlt hJa)
      rw [hpa] at hy
      clear hpa
      gi_wp2_with (first
        | (refine wpListIn_loadr rfl 31 (.tmp 9) rfl b (off + j * 4) rfl (nmC e) _ hr Tryd.underlying31 rfl (by kernel_rfl) ?_)
        | (refine wpListIn_loadr rfl 31 (.tmp 4) rfl wr.heap.size 0 rfl (nmC e) _ E1.range Tryd.underlying31 rfl (by kernel_rfl) ?_))
      refine hR.mono ?_
      rintro en W3 ⟨g, rfl, hw⟩
      have hE3 := hEa.but hw.but (hG1 C hSS.1) (hSS.2.elim .inl fun h => .inr fun k hk => hG1 k (h k hk))
      have hs3 := hw.but.size
      simp only [World.size_alloc] at hs3
      cases g with
      | true =>
        gi_wp2
        go_roundw
        case rel => exact ⟨j + 1, _, by omega, by go_num, hw.on rfl, hE3, fun k hk => newG_not (hG1 k hk) (by have := (hS k hk).1; simp; omega), by omega⟩
        case measure => simp [intOf]; omega
      | false =>
        gi_wp2
        rw [Exit.noGoto_normal]
        go_end0
        exact ⟨⟨_, rfl⟩, _, .inr ⟨_, hlt, hw.off rfl⟩⟩
    · obtain rfl : j = n := by omega
      gi_wp2
      rw [Exit.noGoto_normal]
      go_end0
      exact ⟨⟨_, rfl⟩, _, .inl hj⟩
end Go.Proofs.YtpfgepgjpnekdaaDoor
