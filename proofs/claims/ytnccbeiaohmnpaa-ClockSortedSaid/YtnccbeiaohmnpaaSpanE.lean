/-
  The contract of clock.Sorted's iterator.
-/
import Derived.Test.YtnccbeiaohmnpaaSpanD
namespace Go.Proofs.Ytnccbeiaohmnpaa
open Go.RowKit Srt
set_option linter.unusedSimpArgs false
set_option linter.unusedVariables false
attribute [local go_sem] Oper.semAt_some

theorem newG_mono {G' G : Nat → Prop} {A B : World} (h : ∀ j, G' j → G j) : ∀ j, newG G' A B j → newG G A B j := fun j e => by rcases e with e | e; exact .inl (h j e); exact .inr e
/-- What the iterator has at hand in its rounds. -/
structure SoI (J : Nat → (Nat → Prop) → World → Prop) (S : Nat → Prop) (Y l' C : Nat) (v : Value) (n : Nat) (L : List (Int × Int)) (k : Nat) (G : Nat → Prop) (wr : World) : Prop where
  j : ∃ G', (∀ j, G' j → G j) ∧ J k G' wr
  gy : ¬ G Y
  gc : ¬ G C
  gs : ∀ j, S j → ¬ G j
  y : Boxed wr Y 28 (.func (.yield l') #[] #[])
  f : SoAt wr C v n L
theorem SoI.abide {J : Nat → (Nat → Prop) → World → Prop} {S : Nat → Prop} {Y l' C : Nat} {v : Value} {n : Nat} {L : List (Int × Int)} {k B : Nat} (hJ : Abide B (J k)) (hY : Y < B) (hC : C < B) (hS : ∀ j, S j → j < B) (hSS : n = 0 ∨ ∀ k, v.ownBlock = some k → S k) :
    Abide B (SoI J S Y l' C v n L k) := fun G P Q h hb =>
  ⟨h.j.imp fun G' hg => ⟨hg.1, hJ G' P Q hg.2 (hb.mono fun j _ e => ⟨e.1, fun e' => e.2 (hg.1 j e')⟩)⟩, h.gy, h.gc, h.gs, hb.boxed h.y (fun e => by omega), h.f.but hb (fun e => by omega) (hSS.imp id fun h q hq e => by have := hS _ (h q hq); omega)⟩
/-- .. behind a step that turns blocks of G alone. -/
theorem SoI.step {J : Nat → (Nat → Prop) → World → Prop} {S : Nat → Prop} {Y l' C : Nat} {v : Value} {n : Nat} {L : List (Int × Int)} {k k' : Nat} {G : Nat → Prop} {P Q : World} (h : SoI J S Y l' C v n L k G P) (hb : But G P Q) (hS : ∀ j, S j → j < P.heap.size) (hC : C < P.heap.size) (hSS : n = 0 ∨ ∀ k, v.ownBlock = some k → S k)
    (hj : ∃ G', (∀ j, G' j → newG G P Q j) ∧ J k' G' Q) : SoI J S Y l' C v n L k' (newG G P Q) Q :=
  ⟨hj, newG_not h.gy h.y.lt, newG_not h.gc hC, fun j hj => newG_not (h.gs j hj) (hS j hj), hb.boxed h.y h.gy, h.f.but hb h.gc (hSS.imp id fun h' q hq => h.gs _ (h' q hq))⟩

set_option maxHeartbeats 4000000 in
set_option maxRecDepth 100000 in
theorem sorted3_x (L : List (Int × Int)) (X n : Nat) (v : Value) (S : Nat → Prop) (w : World) (h : SoAt w X v n L) (hSS : S X ∧ (n = 0 ∨ ∀ k, v.ownBlock = some k → S k)) :
    SeqX Try.prog 43 #[.pointer (some ⟨X, 0, none⟩)] (spArgs L) n S w := by
  intro l' G J Jx W hW hS hG hJ hJx hY h0
  have hE := h.up hW
  have Hln := Lib.hid (Sl.recs (cells := spC) (sz := 2) (fun _ => rfl) (by decide) hE.sl)
  obtain ⟨a, c, rfl⟩ := hE.sl.len
  clear h hW
  refine (callsIn_wide (n := 3)).1 ?_
  refine callsIn_of_wp_marks Try.func43 rfl trivial ?_ rfl
  simp only [Try.ntmps43, List.size_toArray, List.length_cons, List.length_nil, Nat.reduceAdd, Nat.reduceSub, Array.replicate_succ, Array.replicate_zero, List.push_toArray, List.append_toArray, List.nil_append, List.cons_append]
  have hB1 := Boxed.new W 28 (.func (.yield l') #[] #[])
  have hE1 := hE.up (below_alloc W (.cells #[.func (.yield l') #[] #[]] 28))
  have hvar := hE1.var
  have hE2 : SoAt ((W.alloc (.cells #[.func (.yield l') #[] #[]] 28)).alloc (.cells #[.slice a n c] 41)) (W.heap.size + 1) (.slice a n c) n L := by
    refine ⟨?_, hE1.sl.up (below_alloc _ _)⟩
    simp [go_sem]
  have hB2 : Boxed ((W.alloc (.cells #[.func (.yield l') #[] #[]] 28)).alloc (.cells #[.slice a n c] 41)) W.heap.size 28 (.func (.yield l') #[] #[]) := (But.alloc (O := fun _ => False) _ _).boxed hB1 (fun e => e)
  have hI0 : SoI J S W.heap.size l' (W.heap.size + 1) (.slice a n c) n L 0 G ((W.alloc (.cells #[.func (.yield l') #[] #[]] 28)).alloc (.cells #[.slice a n c] 41)) :=
    ⟨⟨G, fun _ h => h, (hJ 0).alloc _ ((hJ 0).alloc _ h0)⟩, (fun h => by have := hG _ h; omega), (fun h => by have := hG _ h; omega), fun j h => (hS j h).2, hB2, hE2⟩
  have hsz : ((W.alloc (.cells #[.func (.yield l') #[] #[]] 28)).alloc (.cells #[.slice a n c] 41)).heap.size = W.heap.size + 2 := by simp
  refine wpIn_wide.2 ?_
  go_wp2
  go_step3
  go_wp2
  go_step3
  go_wp2_with (go_at_call 44; refine (values_c a n c _).mono ?_; rintro en w1 ⟨rfl, rfl⟩)
  obtain ⟨W0, hW0⟩ : ∃ W0, (W.alloc (.cells #[.func (.yield l') #[] #[]] 28)).alloc (.cells #[.slice a n c] 41) = W0 := ⟨_, rfl⟩
  rw [hW0] at hI0 hsz ⊢
  clear hW0 h0 hE hE1 hE2 hB1 hB2 hvar
  have HX : ∀ j, (S j ∨ j = W.heap.size + 1) → j < W0.heap.size := fun j h => by rcases h with h | rfl; have := (hS j h).1; omega; omega
  refine wpIn_wide.1 (wp_range (n := 3) (S := fun j => S j ∨ j = W.heap.size + 1) (gf := 53) (lb := #[.pointer (some ⟨W.heap.size + 1, 0, none⟩)]) (by first | rfl | (simp; done)) enters_val1 (val1_x L (W.heap.size + 1) n (.slice a n c) (fun j => S j ∨ j = W.heap.size + 1) W0 hI0.f ⟨.inr rfl, hSS.2.imp id fun h k hk => .inl (h k hk)⟩) (Below.refl _ _) (fun _ => rfl)
    G (fun k h => by have := hG k h; omega) (fun k h => ⟨HX k h, fun e => by rcases h with h | rfl; exact (hS k h).2 e; have := hG _ e; omega⟩)
    (fun k G wr => SoI J S W.heap.size l' (W.heap.size + 1) (.slice a n c) n L k G wr)
    (fun k a' G wr => (∃ V, a' = { tmps := #[.func (.yield l') #[] #[], .pointer (some ⟨X, 0, none⟩), .pointer (some ⟨W.heap.size, 0, none⟩), .pointer (some ⟨V, 0, none⟩), .slice a n c, .func (.func 53) #[] #[.pointer (some ⟨W.heap.size + 1, 0, none⟩)], spV (spAt L k), undef, undef, undef, undef], defers := [] } ∧
      RowAt wr V (spC (spAt L k)).toArray 24 ∧ G V) ∧ SoI J S W.heap.size l' (W.heap.size + 1) (.slice a n c) n L k G wr)
    (fun c k G wr => c = .exit 0 ∧ ∃ G' m, (∀ j, G' j → G j) ∧ m < n ∧ Jx (m + 1) G' wr)
    ?abI ?abM ?abX hI0 ?assign ?body ?done ?stop)
  case abI => exact fun k => SoI.abide ((hJ _).up (by omega)) (by omega) (by omega) (fun j h => by have := (hS j h).1; omega) hSS.2
  case abM =>
    rintro k a' G A' B' ⟨⟨V, ha, hV, hGV⟩, h⟩ hb
    exact ⟨⟨V, ha, (hb.same V hV.lt (fun e => e.2 hGV)).trans hV, hGV⟩, SoI.abide ((hJ _).up (by omega)) (by omega) (by omega) (fun j h => by have := (hS j h).1; omega) hSS.2 G A' B' h hb⟩
  case abX =>
    rintro c k G A' B' ⟨hc, G', m, hsub, hm, hx⟩ hb
    exact ⟨hc, G', m, hsub, hm, ((hJx _).up (by omega)) G' A' B' hx (hb.mono fun j _ e => ⟨e.1, fun e' => e.2 (hsub j e')⟩)⟩
  case assign =>
    intro l2 k G wr K hk hi hK
    simp only [spArgs]
    gi_wp2
    have hC' := World.block_lt_of_cell? wr _ hi.f.var
    have hS' : ∀ j, S j → j < wr.heap.size := fun j h => by have := (hS j h).1; have := hi.y.lt; omega
    refine hK _ _ (But.alloc _ _) ⟨⟨_, rfl, RowAt.new _ _ _, .inr ⟨Nat.le_refl _, by simp⟩⟩, hi.step (But.alloc _ _) hS' hC' hSS.2 ?_⟩
    obtain ⟨G', hsub, hj⟩ := hi.j
    exact ⟨G', fun j h => newG_old (hsub j h), (hJ _).alloc _ hj⟩
  case body =>
    rintro l2 k a' G wr hk hl2 _ hGl ⟨⟨V, rfl, hV, hGV⟩, hF⟩
    have hk' : k < L.length := by rw [Hln.out]; exact hk
    have hC' := World.block_lt_of_cell? wr _ hF.f.var
    have hS' : ∀ j, S j → j < wr.heap.size := fun j h => by have := (hS j h).1; have := hF.y.lt; omega
    have hpa : spArgs L k = #[spV (spAt L k)] := rfl
    generalize spAt L k = e at *
    obtain ⟨G', hsub, hj⟩ := hF.j
    have v0 := hV.cell (i := 0) (v := .int .u64 e.1) rfl
    have y0 := hF.y.cell
    obtain ⟨fn, tmps, assign, body, hy, hR⟩ := yieldAt_round l2 (m' := 2) (hY _ G' wr hk hj)
    rw [hpa] at hy
    clear hpa
    gi_wp2_with (refine wpListIn_loadr rfl 24 (.tmp 3) rfl V 0 rfl (spC e) _ hV.range Try.underlying24 rfl (by kernel_rfl) ?_)
    refine hR.mono ?_
    rintro en W3 ⟨g, rfl, hw⟩
    have hb : But G wr W3 := hw.but.mono fun j _ e => hsub j e
    cases g with
    | true =>
      gi_wp2
      exact ⟨hb, hF.step hb hS' hC' hSS.2 ⟨_, newG_mono hsub, hw.on rfl⟩⟩
    | false =>
      gi_wp2
      exact ⟨hb, rfl, _, _, newG_mono hsub, hk, hw.off rfl⟩
  case done =>
    rintro D G wr hD hGD hF hK
    obtain ⟨G', hsub, hj⟩ := hF.j
    go_wp2
    rw [Exit.noGoto_normal]
    refine ⟨by simp, .inl ⟨_, _, rfl, run_takeDeferred hK, ?_⟩⟩
    exact ⟨_, results_none rfl _ _ _, ⟨_, rfl⟩, G', .inl ((hJ _).putObj _ hj (by omega) (fun h => hGD (hsub _ h)))⟩
  case stop =>
    rintro D c' k G wr hD hGD hk ⟨rfl, G', m, hsub, hm, hx⟩ hK
    refine wpIn_wide.2 ?_
    go_wp2
    rw [Exit.noGoto_normal]
    refine ⟨by simp, .inl ⟨_, _, rfl, run_takeDeferred hK, ?_⟩⟩
    exact ⟨_, results_none rfl _ _ _, ⟨_, rfl⟩, G', .inr ⟨m, hm, (hJx _).putObj _ hx (by omega) (fun h => hGD (hsub _ h))⟩⟩
end Go.Proofs.Ytnccbeiaohmnpaa
