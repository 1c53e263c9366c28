/-
  Contracts of All and From of a plan, and of their iterators.
-/
import Derived.Test.YtgbpdchdcbnoaaaConQ
namespace Go.Proofs.Ytgbpdchdcbnoaaa
open Go.RowKit Vol
set_option linter.unusedSimpArgs false
set_option linter.unusedVariables false
attribute [local go_sem] Oper.semAt_some

theorem mixes : Try.prog.follows .mixedOrders = true := by kernel_rfl
/-- What All hands out: the contacts' slice lies in block C. -/
structure AllAt (w : World) (C : Nat) (v : Value) (n : Nat) (L : List Ct) : Prop where
  var : w.cell? ⟨C, 0, none⟩ = some v
  sl : Sl w 5 v n (L.flatMap ctC)
theorem AllAt.but {w w' : World} {C : Nat} {v : Value} {n : Nat} {L : List Ct} (h : AllAt w C v n L) {O : Nat → Prop} (hb : But O w w') (hC : ¬ O C) (hv : n = 0 ∨ ∀ k, v.ownBlock = some k → ¬ O k) : AllAt w' C v n L :=
  ⟨hb.cell h.var hC, h.sl.but hb hv⟩

set_option maxRecDepth 100000 in
theorem pAll_c {B : Nat} {v : Value} {L : List Ct} (w : World) (h : PlanAt w B v L) :
    Calls Try.prog 23 #[.pointer (some ⟨B, 0, none⟩)] w fun en w' => en = .returned (.func (.func 55) #[] #[.pointer (some ⟨w.heap.size, 0, none⟩)]) ∧ w' = w.alloc (.cells #[v] 65) := by
  have hmf : ∀ (fn : Fn) (first cap : Array Value) (w : World), (Instr.makeFunc fn first cap).run Try.prog w = .ok (.func fn first cap) w := fun _ _ _ _ => rfl
  obtain ⟨a, c, rfl⟩ := h.sl.len
  go_enter Try.func23, Try.ntmps23
  go_wp2_with (go_at_call 41; refine (pOwn_c _ h).mono ?_; rintro en w1 ⟨rfl, rfl⟩)
  go_ret
  exact ⟨rfl, rfl⟩

def ctAt (L : List Ct) (k : Nat) : Ct := L.getD k zct0
theorem ctAt_get {L : List Ct} {k : Nat} (h : k < L.length) : ctAt L k = L[k] := by unfold ctAt; rw [List.getD_eq_getElem?_getD, List.getElem?_eq_getElem h]; rfl
def allArgs (L : List Ct) (k : Nat) : Array Value := #[.int .i64 k, ctV (ctAt L k)]
theorem enters_all1 : Enters Try.prog 55 := enters_of Try.func55 (by kernel_rfl) rfl
theorem enters_from1 : Enters Try.prog 72 := enters_of Try.func72 (by kernel_rfl) rfl

set_option maxHeartbeats 2000000 in
set_option maxRecDepth 100000 in
theorem all1_x (L : List Ct) (C n : Nat) (v : Value) (S : Nat → Prop) (w : World) (h : AllAt w C v n L) (hSS : S C ∧ (n = 0 ∨ ∀ k, v.ownBlock = some k → S k)) :
    SeqX Try.prog 55 #[.pointer (some ⟨C, 0, none⟩)] (allArgs L) n S w := by
  intro l' G J Jx W hW hS hG hJ hJx hY h0
  have hE := h.but (O := fun _ => False) (But.of_below hW) (fun h => h) (.inr fun _ _ h => h)
  have Hln := Lib.hid (Sl.recs (cells := ctC) (sz := 5) (fun _ => rfl) (by decide) hE.sl)
  have hn := hE.sl.n_max
  obtain ⟨a, c, rfl⟩ := hE.sl.len
  have hc0 := hE.var
  clear h hW
  refine (callsIn_wide (n := 3)).1 ?_
  refine callsIn_of_wp Try.func55 rfl trivial ?_ rfl
  simp only [Try.ntmps55, List.size_toArray, List.length_cons, List.length_nil, Nat.reduceAdd, Nat.reduceSub, Array.replicate_succ, Array.replicate_zero, List.push_toArray, List.append_toArray, List.nil_append, List.cons_append]
  gi_wp2
  refine wpIn_scope0 ?_
  gi_wp2
  gi_loopw [7] (fun i wr => ∃ (j : Nat) (G : Nat → Prop), j ≤ n ∧ i = .int .i64 j ∧ J j G wr ∧ AllAt wr C (.slice a n c) n L ∧ (∀ k, S k → ¬ G k) ∧ W.heap.size ≤ wr.heap.size) (fun i _ => n - (intOf i).toNat)
  case atStart => exact ⟨0, G, Nat.zero_le _, rfl, h0, hE, fun k hk => (hS k hk).2, Nat.le_refl _⟩
  case round =>
    obtain ⟨j, G1, hk, rfl, hj, hE1, hG1, hsz⟩ := hrel
    by_cases hlt : j < n
    · have hlt' : j < L.length := by rw [Hln.out]; exact hlt
      obtain ⟨b, off, rfl, hr⟩ := hE1.sl.rec_at (cells := ctC) (sz := 5) (fun _ => rfl) hlt hlt'
      have hjn : (j : Int) < (n : Int) := by omega
      have hpa : allArgs L j = #[.int .i64 j, ctV L[j]] := by unfold allArgs; rw [ctAt_get hlt']
      generalize L[j] = e at *
      have hCl := World.block_lt_of_cell? wr _ hE1.var
      have E1 := RowAt.new wr (ctC e).toArray 27
      have hEa := hE1.but (But.alloc (O := fun _ => False) wr (.cells (ctC e).toArray 27)) (fun h => h) (.inr fun _ _ h => h)
      have hJa := (hJ _).alloc (.cells (ctC e).toArray 27) (((hJ _).up (Nat.le_refl _)) _ _ _ hj (But.refl _ _))
      obtain ⟨fn, tmps, assign, body, hy, hR⟩ := yieldAt_wide (m' := 2) (hY _ _ _ hlt hJa)
      rw [hpa] at hy
      clear hpa
      gi_wp2_with (first
        | (refine wpListIn_loadr rfl 27 (.tmp 10) rfl b (off + j * 5) rfl (ctC e) _ hr Try.underlying27 rfl (by kernel_rfl) ?_)
        | (refine wpListIn_loadr rfl 27 (.tmp 4) rfl wr.heap.size 0 rfl (ctC e) _ E1.range Try.underlying27 rfl (by kernel_rfl) ?_))
      refine hR.mono ?_
      rintro en W3 ⟨g, rfl, hw⟩
      have hE3 := hEa.but hw.but (hG1 C hSS.1) (hSS.2.elim .inl fun h => .inr fun k hk => hG1 k (h k hk))
      have hs3 := hw.but.size
      simp only [World.size_alloc] at hs3
      cases g with
      | true =>
        gi_wp2
        go_roundw
        case rel => exact ⟨j + 1, _, by omega, by go_num, hw.on rfl, hE3, fun k hk => newG_not (hG1 k hk) (by have := (hS k hk).1; simp; omega), by omega⟩
        case measure => simp [intOf]; omega
      | false =>
        gi_wp2
        rw [Exit.noGoto_normal]
        go_end0
        exact ⟨⟨_, rfl⟩, _, .inr ⟨_, hlt, hw.off rfl⟩⟩
    · obtain rfl : j = n := by omega
      gi_wp2
      rw [Exit.noGoto_normal]
      go_end0
      exact ⟨⟨_, rfl⟩, _, .inl hj⟩

/-- What From hands out: All's lies in A, the node in block N. -/
structure FromAt (w : World) (A N C : Nat) (f : Int) (v : Value) (n : Nat) (L : List Ct) : Prop where
  all : w.cell? ⟨A, 0, none⟩ = some (.func (.func 55) #[] #[.pointer (some ⟨C, 0, none⟩)])
  node : w.cell? ⟨N, 0, none⟩ = some (.int .u32 f)
  at_ : AllAt w C v n L
theorem FromAt.but {w w' : World} {A N C : Nat} {f : Int} {v : Value} {n : Nat} {L : List Ct} (h : FromAt w A N C f v n L) {O : Nat → Prop} (hb : But O w w') (hA : ¬ O A) (hN : ¬ O N) (hC : ¬ O C) (hv : n = 0 ∨ ∀ k, v.ownBlock = some k → ¬ O k) : FromAt w' A N C f v n L :=
  ⟨hb.cell h.all hA, hb.cell h.node hN, h.at_.but hb hC hv⟩

set_option maxRecDepth 100000 in
theorem pFrom_c {B : Nat} {v : Value} {L : List Ct} (f : Int) (w : World) (h : PlanAt w B v L) :
    Calls Try.prog 52 #[.pointer (some ⟨B, 0, none⟩), .int .u32 f] w fun en w' => en = .returned (.func (.func 72) #[] #[.pointer (some ⟨w.heap.size + 2, 0, none⟩), .pointer (some ⟨w.heap.size, 0, none⟩)]) ∧
      FromAt w' (w.heap.size + 2) w.heap.size (w.heap.size + 1) f v L.length L ∧ Below w.heap.size w w' ∧ w'.heap.size = w.heap.size + 3 := by
  have hmf : ∀ (fn : Fn) (first cap : Array Value) (w : World), (Instr.makeFunc fn first cap).run Try.prog w = .ok (.func fn first cap) w := fun _ _ _ _ => rfl
  have h1 := h.below (below_alloc w (.cells #[.int .u32 f] 22))
  have h2 := h1.sl.up (below_alloc _ (.cells #[v] 65))
  have h3 := h2.up (below_alloc _ (.cells #[.func (.func 55) #[] #[.pointer (some ⟨w.heap.size + 1, 0, none⟩)]] 56))
  clear h2
  go_enter Try.func52, Try.ntmps52
  go_wp2_with (go_at_call 23; refine (pAll_c _ h1).mono ?_; rintro en w1 ⟨rfl, rfl⟩)
  go_ret
  refine ⟨by simp, ⟨?_, ?_, ?_, ?_⟩, ((below_alloc w _).alloc (by simp) _).alloc (by simp; omega) _, by simp⟩
  · have := cell_new ((w.alloc (.cells #[.int .u32 f] 22)).alloc (.cells #[v] 65)) (.func (.func 55) #[] #[.pointer (some ⟨w.heap.size + 1, 0, none⟩)]) 56
    simpa using this
  · exact cell_up ((below_alloc _ _).alloc (by simp) _) (cell_new w _ _)
  · have := cell_new (w.alloc (.cells #[.int .u32 f] 22)) v 65
    simp only [World.size_alloc] at this
    exact cell_up (below_alloc _ _) this
  · simpa using h3

namespace Vol
theorem fromF_succ {L : List Ct} {k : Nat} (hk : k < L.length) (f : Int) : (fromF (L.take (k + 1)) f).length = (fromF (L.take k) f).length + if (L[k].from_ == f) = true then 1 else 0 := by
  unfold fromF
  rw [flt_succ hk, List.length_append]
  cases h : L[k].from_ == f <;> simp [h]
theorem fromF_cut {L : List Ct} {k : Nat} (hk : k < L.length) {f : Int} (h : (L[k].from_ == f) = true) : fromF L f = fromF (L.take k) f ++ L[k] :: fromF (L.drop (k + 1)) f := by
  have h1 : L = L.take k ++ L[k] :: L.drop (k + 1) := by rw [← List.drop_eq_getElem_cons hk, List.take_append_drop]
  unfold fromF
  conv => lhs; rw [h1]
  rw [List.filter_append, List.filter_cons_of_pos (by simpa using h)]
end Vol
theorem fromF_lt {L : List Ct} {k : Nat} (hk : k < L.length) {f : Int} (h : (L[k].from_ == f) = true) : (fromF (L.take k) f).length < (fromF L f).length := by
  rw [fromF_cut hk h]; simp
theorem fromF_at {L : List Ct} {k : Nat} (hk : k < L.length) {f : Int} (h : (L[k].from_ == f) = true) : ctAt (fromF L f) (fromF (L.take k) f).length = L[k] := by
  rw [ctAt_get (fromF_lt hk h)]
  simp only [fromF_cut hk h]
  simp

theorem newG_mono {G' G : Nat → Prop} {A B : World} (h : ∀ j, G' j → G j) : ∀ j, newG G' A B j → newG G A B j := fun j e => by rcases e with e | e; exact .inl (h j e); exact .inr e
/-- What From's iterator has at hand in its rounds. -/
structure FrI (J : Nat → (Nat → Prop) → World → Prop) (S : Nat → Prop) (Y l' A N C : Nat) (f : Int) (v : Value) (n : Nat) (L : List Ct) (k : Nat) (G : Nat → Prop) (wr : World) : Prop where
  j : ∃ G', (∀ j, G' j → G j) ∧ J (fromF (L.take k) f).length G' wr
  gy : ¬ G Y
  gs : ∀ j, S j → ¬ G j
  y : Boxed wr Y 31 (.func (.yield l') #[] #[])
  f : FromAt wr A N C f v n L
theorem FrI.abide {J : Nat → (Nat → Prop) → World → Prop} {S : Nat → Prop} {Y l' A N C : Nat} {f : Int} {v : Value} {n : Nat} {L : List Ct} {k B : Nat} (hJ : Abide B (J (fromF (L.take k) f).length)) (hY : Y < B) (hS : ∀ j, S j → j < B) (hSS : S A ∧ S N ∧ S C ∧ (n = 0 ∨ ∀ k, v.ownBlock = some k → S k)) :
    Abide B (FrI J S Y l' A N C f v n L k) := fun G P Q h hb =>
  ⟨h.j.imp fun G' hg => ⟨hg.1, hJ G' P Q hg.2 (hb.mono fun j _ e => ⟨e.1, fun e' => e.2 (hg.1 j e')⟩)⟩, h.gy, h.gs, hb.boxed h.y (fun e => by omega), h.f.but hb (fun e => by have := hS _ hSS.1; omega) (fun e => by have := hS _ hSS.2.1; omega) (fun e => by have := hS _ hSS.2.2.1; omega) (hSS.2.2.2.imp id fun h q hq e => by have := hS _ (h q hq); omega)⟩
/-- .. behind a step that turns blocks of G alone. -/
theorem FrI.step {J : Nat → (Nat → Prop) → World → Prop} {S : Nat → Prop} {Y l' A N C : Nat} {f : Int} {v : Value} {n : Nat} {L : List Ct} {k k' : Nat} {G : Nat → Prop} {P Q : World} (h : FrI J S Y l' A N C f v n L k G P) (hb : But G P Q) (hS : ∀ j, S j → j < P.heap.size) (hSS : S A ∧ S N ∧ S C ∧ (n = 0 ∨ ∀ k, v.ownBlock = some k → S k))
    (hj : ∃ G', (∀ j, G' j → newG G P Q j) ∧ J (fromF (L.take k') f).length G' Q) : FrI J S Y l' A N C f v n L k' (newG G P Q) Q :=
  ⟨hj, newG_not h.gy h.y.lt, fun j hj => newG_not (h.gs j hj) (hS j hj), hb.boxed h.y h.gy, h.f.but hb (h.gs _ hSS.1) (h.gs _ hSS.2.1) (h.gs _ hSS.2.2.1) (hSS.2.2.2.imp id fun h' q hq => h.gs _ (h' q hq))⟩

set_option maxHeartbeats 4000000 in
set_option maxRecDepth 100000 in
theorem from1_x (L : List Ct) (f : Int) (A N C n : Nat) (v : Value) (S : Nat → Prop) (w : World) (h : FromAt w A N C f v n L) (hSS : S A ∧ S N ∧ S C ∧ (n = 0 ∨ ∀ k, v.ownBlock = some k → S k)) :
    SeqX Try.prog 72 #[.pointer (some ⟨A, 0, none⟩), .pointer (some ⟨N, 0, none⟩)] (fun k => #[ctV (ctAt (fromF L f) k)]) (fromF L f).length S w := by
  intro l' G J Jx W hW hS hG hJ hJx hY h0
  have hE := h.but (O := fun _ => False) (But.of_below hW) (fun h => h) (fun h => h) (fun h => h) (.inr fun _ _ h => h)
  have Hln := Lib.hid (Sl.recs (cells := ctC) (sz := 5) (fun _ => rfl) (by decide) hE.at_.sl)
  clear h hW
  refine (callsIn_wide (n := 3)).1 ?_
  refine callsIn_of_wp_marks Try.func72 rfl trivial ?_ rfl
  simp only [Try.ntmps72, List.size_toArray, List.length_cons, List.length_nil, Nat.reduceAdd, Nat.reduceSub, Array.replicate_succ, Array.replicate_zero, List.push_toArray, List.append_toArray, List.nil_append, List.cons_append]
  have hI0 : FrI J S W.heap.size l' A N C f v n L 0 G (W.alloc (.cells #[.func (.yield l') #[] #[]] 31)) :=
    ⟨⟨G, fun _ h => h, (hJ 0).alloc _ h0⟩, (fun h => by have := hG _ h; omega), fun j h => (hS j h).2, Boxed.new W _ _, hE.but (But.alloc (O := fun _ => False) W _) (fun h => h) (fun h => h) (fun h => h) (.inr fun _ _ h => h)⟩
  have hall := hI0.f.all
  have hsz : (W.alloc (.cells #[.func (.yield l') #[] #[]] 31)).heap.size = W.heap.size + 1 := by simp
  refine wpIn_wide.2 ?_
  go_wp2
  go_step3
  go_wp2
  go_step3
  go_wp2
  obtain ⟨W0, hW0⟩ : ∃ W0, W.alloc (.cells #[.func (.yield l') #[] #[]] 31) = W0 := ⟨_, rfl⟩
  rw [hW0] at hI0 hsz ⊢
  clear hW0 hall h0 hE
  refine wpIn_wide.1 (wp_range (n := 3) (S := S) (gf := 55) (lb := #[.pointer (some ⟨C, 0, none⟩)]) rfl enters_all1 (all1_x L C n v S W0 hI0.f.at_ ⟨hSS.2.2.1, hSS.2.2.2⟩) (Below.refl _ _) (fun _ => rfl)
    G (fun k h => by have := hG k h; omega) (fun k h => ⟨by have := (hS k h).1; omega, (hS k h).2⟩)
    (fun k G wr => FrI J S W.heap.size l' A N C f v n L k G wr)
    (fun k a' G wr => (∃ V, a' = { tmps := #[.func (.yield l') #[] #[], .pointer (some ⟨A, 0, none⟩), .pointer (some ⟨N, 0, none⟩), .pointer (some ⟨W.heap.size, 0, none⟩), undef, .pointer (some ⟨V, 0, none⟩), .func (.func 55) #[] #[.pointer (some ⟨C, 0, none⟩)], .int .i64 k, ctV (ctAt L k), undef, undef, undef, undef, undef, undef, undef, undef, undef, undef], defers := [] } ∧
      RowAt wr V (ctC (ctAt L k)).toArray 27 ∧ G V) ∧ FrI J S W.heap.size l' A N C f v n L k G wr)
    (fun c k G wr => c = .exit 0 ∧ ∃ G' m, (∀ j, G' j → G j) ∧ m < (fromF L f).length ∧ Jx (m + 1) G' wr)
    ?abI ?abM ?abX hI0 ?assign ?body ?done ?stop)
  case abI => exact fun k => FrI.abide ((hJ _).up (by omega)) (by omega) (fun j h => by have := (hS j h).1; omega) hSS
  case abM =>
    rintro k a' G A' B' ⟨⟨V, ha, hV, hGV⟩, h⟩ hb
    exact ⟨⟨V, ha, (hb.same V hV.lt (fun e => e.2 hGV)).trans hV, hGV⟩, FrI.abide ((hJ _).up (by omega)) (by omega) (fun j h => by have := (hS j h).1; omega) hSS G A' B' h hb⟩
  case abX =>
    rintro c k G A' B' ⟨hc, G', m, hsub, hm, hx⟩ hb
    exact ⟨hc, G', m, hsub, hm, ((hJx _).up (by omega)) G' A' B' hx (hb.mono fun j _ e => ⟨e.1, fun e' => e.2 (hsub j e')⟩)⟩
  case assign =>
    intro l2 k G wr K hk hi hK
    simp only [allArgs]
    gi_wp2
    have hS' : ∀ j, S j → j < wr.heap.size := fun j h => by have := (hS j h).1; have := hi.y.lt; omega
    refine hK _ _ (But.alloc _ _) ⟨⟨_, rfl, RowAt.new _ _ _, .inr ⟨Nat.le_refl _, by simp⟩⟩, hi.step (But.alloc _ _) hS' hSS ?_⟩
    obtain ⟨G', hsub, hj⟩ := hi.j
    exact ⟨G', fun j h => newG_old (hsub j h), (hJ _).alloc _ hj⟩
  case body =>
    rintro l2 k a' G wr hk hl2 _ hGl ⟨⟨V, rfl, hV, hGV⟩, hF⟩
    have hk' : k < L.length := by rw [Hln.out]; exact hk
    have Hs := Lib.hid (fromF_succ hk' f)
    have Hlt := Lib.hid (fun h => fromF_lt (f := f) hk' h)
    have Hat := Lib.hid (fun h => fromF_at (f := f) hk' h)
    have hS' : ∀ j, S j → j < wr.heap.size := fun j h => by have := (hS j h).1; have := hF.y.lt; omega
    simp only [ctAt_get hk'] at hV ⊢
    generalize L[k] = e at *
    obtain ⟨G', hsub, hj⟩ := hF.j
    have v0 := hV.cell (i := 0) (v := .int .u32 e.from_) rfl
    have n0 := hF.f.node
    have y0 := hF.y.cell
    cases hb1 : (e.from_ == f) with
    | false =>
      have Hs2 := Lib.hid (Hs.out.trans (by rw [hb1]; rfl) : (fromF (L.take (k + 1)) f).length = (fromF (L.take k) f).length)
      clear Hs
      gi_wp2
      refine ⟨(fun _ h => by cases h), ?_⟩
      gi_wp2
      refine ⟨But.refl _ _, hF.step (But.refl _ _) hS' hSS ⟨G', fun j h => newG_old (hsub j h), ?_⟩⟩
      rw [Hs2.out]
      exact hj
    | true =>
      have Hs2 := Lib.hid (Hs.out.trans (by rw [hb1]; rfl) : (fromF (L.take (k + 1)) f).length = (fromF (L.take k) f).length + 1)
      have hlt := Hlt.out hb1
      obtain ⟨fn, tmps, assign, body, hy, hR⟩ := yieldAt_round l2 (m' := 2) (hY _ G' wr hlt hj)
      rw [Hat.out hb1] at hy
      clear Hs Hat
      gi_wp2_with (refine wpListIn_loadr rfl 27 (.tmp 5) rfl V 0 rfl (ctC e) _ hV.range Try.underlying27 rfl (by kernel_rfl) ?_)
      refine hR.mono ?_
      rintro en W3 ⟨g, rfl, hw⟩
      have hb : But G wr W3 := hw.but.mono fun j _ e => hsub j e
      cases g with
      | true =>
        gi_wp2
        exact ⟨hb, hF.step hb hS' hSS ⟨_, newG_mono hsub, by rw [Hs2.out]; exact hw.on rfl⟩⟩
      | false =>
        gi_wp2
        exact ⟨hb, rfl, _, _, newG_mono hsub, hlt, hw.off rfl⟩
  case done =>
    rintro D G wr hD hGD hF hK
    obtain ⟨G', hsub, hj⟩ := hF.j
    rw [List.take_of_length_le (by rw [Hln.out]; exact Nat.le_refl _)] at hj
    go_wp2
    rw [Exit.noGoto_normal]
    refine ⟨by simp, .inl ⟨_, _, rfl, run_takeDeferred hK, ?_⟩⟩
    exact ⟨_, results_none rfl _ _ _, ⟨_, rfl⟩, G', .inl ((hJ _).putObj _ hj (by omega) (fun h => hGD (hsub _ h)))⟩
  case stop =>
    rintro D c' k G wr hD hGD hk ⟨rfl, G', m, hsub, hm, hx⟩ hK
    refine wpIn_wide.2 ?_
    go_wp2
    rw [Exit.noGoto_normal]
    refine ⟨by simp, .inl ⟨_, _, rfl, run_takeDeferred hK, ?_⟩⟩
    exact ⟨_, results_none rfl _ _ _, ⟨_, rfl⟩, G', .inr ⟨m, hm, (hJx _).putObj _ hx (by omega) (fun h => hGD (hsub _ h))⟩⟩
end Go.Proofs.Ytgbpdchdcbnoaaa
