/-
  A range over a function: the iterator's contract, by the number of rounds; the caller's law, outermost and within a round.
-/
import Derived.Test.YtfoncaamhleckaaSlice
import Derived.RangeFuncNested
import Derived.RangeFuncBound
import Derived.RangeFuncLeaves
import Derived.Shelf.RegionOpen
import Derived.OwnWalkIn
import Derived.TacticsInMore
import Derived.LoopNIn
import Derived.LoopIn
import Derived.StillTailTactics
namespace Go.Proofs.Ytfoncaamhleckaa
open Go.RowKit

/-- Only blocks that O names have turned. -/
structure But (O : Nat → Prop) (W W' : World) : Prop where
  os : W'.os = W.os
  tape : W'.tape = W.tape
  output : W'.output = W.output
  size : W.heap.size ≤ W'.heap.size
  same : ∀ k, k < W.heap.size → ¬ O k → W'.heap[k]? = W.heap[k]?

theorem But.refl (O : Nat → Prop) (W : World) : But O W W := ⟨rfl, rfl, rfl, Nat.le_refl _, fun _ _ _ => rfl⟩
theorem But.trans {O : Nat → Prop} {A B C : World} (h : But O A B) (k : But O B C) : But O A C :=
  ⟨k.os.trans h.os, k.tape.trans h.tape, k.output.trans h.output, Nat.le_trans h.size k.size, fun i hi hO => (k.same i (Nat.lt_of_lt_of_le hi h.size) hO).trans (h.same i hi hO)⟩
theorem But.of_below {O : Nat → Prop} {W W' : World} (h : Below W.heap.size W W') : But O W W' := ⟨h.os, h.tape, h.output, h.size, fun k hk _ => h.block k hk⟩
theorem But.alloc {O : Nat → Prop} (W : World) (o : Obj) : But O W (W.alloc o) := But.of_below (below_alloc W o)
theorem But.drew {O : Nat → Prop} (W : World) : But O W W.drew := But.of_below (Below.refl _ W).drew
theorem But.setCell {O : Nat → Prop} (W : World) (a : Addr) (v : Value) (h : O a.block ∨ W.heap.size ≤ a.block) : But O W (W.setCell a v) :=
  ⟨rfl, rfl, rfl, (KeepsWalks.setCell W a v).size, fun k hk hO => Below.heap_setCell W a v k (fun e => by subst e; rcases h with h | h; exact hO h; omega)⟩
theorem But.grown {O : Nat → Prop} {W W' : World} {row : Option Nat} (h : W.grownBy W' row) (hr : ∀ r, row = some r → O r ∨ W.heap.size ≤ r) : But O W W' :=
  ⟨h.os, h.tape, h.output, h.size, fun k hk hO => h.block k hk (fun e => by rcases hr k e.symm with h | h; exact hO h; omega)⟩
theorem But.putObj {O : Nat → Prop} (W : World) (l : Nat) (o : Obj) (h : O l ∨ W.heap.size ≤ l) : But O W (W.putObj l o) := But.grown (grownBy_putObj' W l o) (fun r e => by cases e; exact h)
theorem But.mono {O O' : Nat → Prop} {W W' : World} (h : But O W W') (hO : ∀ k, k < W.heap.size → O k → O' k) : But O' W W' := ⟨h.os, h.tape, h.output, h.size, fun k hk hn => h.same k hk (fun e => hn (hO k hk e))⟩
/-- A second step may turn what the first has laid. -/
theorem But.then {O O' : Nat → Prop} {A B C : World} (h : But O A B) (k : But O' B C) (hO : ∀ j, j < A.heap.size → O' j → O j) : But O A C :=
  ⟨k.os.trans h.os, k.tape.trans h.tape, k.output.trans h.output, Nat.le_trans h.size k.size, fun i hi hi' => (k.same i (Nat.lt_of_lt_of_le hi h.size) (fun e => hi' (hO i hi e))).trans (h.same i hi hi')⟩
theorem But.obj {O : Nat → Prop} {W W' : World} {k : Nat} {o : Obj} (h : But O W W') (hk : W.heap[k]? = some o) (hO : ¬ O k) : W'.heap[k]? = some o :=
  (h.same k (Array.getElem?_eq_some_iff.1 hk).1 hO).trans hk
theorem But.cell {O : Nat → Prop} {W W' : World} {b o : Nat} {v : Value} (h : But O W W') (hc : W.cell? ⟨b, o, none⟩ = some v) (hO : ¬ O b) : W'.cell? ⟨b, o, none⟩ = some v := by
  rw [World.cell?_of_block (h.same b (World.block_lt_of_cell? W ⟨b, o, none⟩ hc) hO), hc]
theorem But.frozen {O : Nat → Prop} {W W' : World} {b o : Nat} {v : Value} (h : But O W W') (hc : W.cell? ⟨b, o, none⟩ = some v) (hO : ¬ O b) : W'.frozen? ⟨b, o, none⟩ = W.frozen? ⟨b, o, none⟩ :=
  World.frozen?_of_block (h.same b (World.block_lt_of_cell? W ⟨b, o, none⟩ hc) hO)
theorem But.boxed {O : Nat → Prop} {W W' : World} {B : Nat} {t : TypeId} {v : Value} (h : But O W W') (hc : Boxed W B t v) (hO : ¬ O B) : Boxed W' B t v := h.obj hc hO
theorem But.below {O : Nat → Prop} {B : Nat} {W W' : World} (h : But O W W') (hO : ∀ k, O k → B ≤ k) (hB : B ≤ W.heap.size) : Below B W W' :=
  ⟨h.os, h.tape, h.output, h.size, fun k hk => h.same k (by omega) (fun e => by have := hO k e; omega)⟩
theorem Sl.but {O : Nat → Prop} {w w' : World} {sz : Nat} {v : Value} {n : Nat} {cs : List Value} (h : Sl w sz v n cs) (hb : But O w w') (hO : n = 0 ∨ ∀ k, v.ownBlock = some k → ¬ O k) : Sl w' sz v n cs := by
  obtain ⟨hl, h | ⟨b, off, cap, rfl, hn, hm, hc⟩⟩ := h
  · exact ⟨hl, .inl h⟩
  · refine ⟨hl, .inr ⟨b, off, cap, rfl, hn, hm, fun j u hj => ?_⟩⟩
    rcases hO with h0 | hO
    · subst h0
      have : cs = [] := List.eq_nil_of_length_eq_zero (by omega)
      subst this; simp at hj
    · exact hb.cell (hc j u hj) (hO b rfl)
theorem own_but {O : Nat → Prop} {w w' : World} {base : Nat} {e : TypeId} {sz : Nat} {v : Value} {n : Nat} {xs : List Value} (h : w.ownsRow base e sz v n xs) (hb : But O w w') (hO : ∀ k, v.ownBlock = some k → ¬ O k) : w'.ownsRow base e sz v n xs := by
  refine ⟨h.1, ?_⟩
  rcases h.2 with h | ⟨g, cap, cur, rfl, h2, h3, h4⟩
  · exact .inl h
  · exact .inr ⟨g, cap, cur, rfl, h2, hb.obj h3 (hO g rfl), h4⟩

/-- What is owned behind a step: what was, and what the step has laid. -/
def newG (G : Nat → Prop) (W W' : World) : Nat → Prop := fun j => G j ∨ (W.heap.size ≤ j ∧ j < W'.heap.size)
theorem newG_old {G : Nat → Prop} {W W' : World} {j : Nat} (h : G j) : newG G W W' j := .inl h
theorem newG_not {G : Nat → Prop} {W W' : World} {j : Nat} (h : ¬ G j) (hj : j < W.heap.size) : ¬ newG G W W' j := fun e => by rcases e with e | e; exact h e; omega
theorem newG_trans {G : Nat → Prop} {A B B' C C' : World} (h1 : A.heap.size ≤ B.heap.size) (h2 : B'.heap.size = B.heap.size) (h3 : C'.heap.size = C.heap.size) (h4 : B'.heap.size ≤ C.heap.size) : newG (newG G A B) B' C = newG G A C' := by
  funext j
  refine propext ⟨fun h => ?_, fun h => ?_⟩
  · rcases h with (h | h) | h
    · exact .inl h
    · exact .inr (by omega)
    · exact .inr (by omega)
  · rcases h with h | h
    · exact .inl (.inl h)
    · by_cases hj : j < B.heap.size
      · exact .inl (.inr (by omega))
      · exact .inr (by omega)
theorem newG_same {G : Nat → Prop} {A B : World} (h : B.heap.size = A.heap.size) : newG G A B = G := by
  funext j
  exact propext ⟨fun e => by rcases e with e | e; exact e; omega, .inl⟩

/-- What is said abides whatever turns no block below B and none that is owned. -/
def Abide (B : Nat) (I : (Nat → Prop) → World → Prop) : Prop := ∀ G W W', I G W → But (fun j => B ≤ j ∧ ¬ G j) W W' → I G W'
theorem Abide.up {B B' : Nat} {I : (Nat → Prop) → World → Prop} (h : Abide B I) (hB : B ≤ B') : Abide B' I := fun G W W' hi hb => h G W W' hi (hb.mono fun _ _ e => ⟨Nat.le_trans hB e.1, e.2⟩)
theorem Abide.drew {B : Nat} {I : (Nat → Prop) → World → Prop} (h : Abide B I) {G : Nat → Prop} {w : World} (hi : I G w) : I G w.drew := h G w _ hi (But.drew w)
theorem Abide.alloc {B : Nat} {I : (Nat → Prop) → World → Prop} (h : Abide B I) {G : Nat → Prop} {w : World} (o : Obj) (hi : I G w) : I G (w.alloc o) := h G w _ hi (But.alloc w o)
theorem Abide.putObj {B : Nat} {I : (Nat → Prop) → World → Prop} (h : Abide B I) {G : Nat → Prop} {w : World} {l : Nat} (o : Obj) (hi : I G w) (hl : B ≤ l) (hG : ¬ G l) : I G (w.putObj l o) := h G w _ hi (But.putObj w l o (.inl ⟨hl, hG⟩))

/-- A round's contract at the wide fence asks for no depth. -/
theorem yieldAt_wide {m m' : Nat} {P : Program} {l : Nat} {args : Array Value} {W : World} {R : Ending → World → Prop} (h : YieldAt Fence.wide m P l args W R) : YieldAt Fence.wide m' P l args W R := by
  obtain ⟨fn, tmps, assign, body, hy, hR⟩ := h
  exact ⟨fn, tmps, assign, body, hy, hR.1, fun c cs _ => hR.2 c cs (room_wide _)⟩
theorem yieldAt_round (l2 : Nat) {m m' : Nat} {P : Program} {l : Nat} {args : Array Value} {W : World} {R : Ending → World → Prop} (h : YieldAt Fence.wide m P l args W R) : YieldAt (Fence.wide.inRound l2) m' P l args W R := yieldAt_wide h

/-- What a round leaves, by what yield hands back. -/
structure Went (J Jx : Nat → (Nat → Prop) → World → Prop) (k : Nat) (G : Nat → Prop) (W : World) (g : Bool) (W' : World) : Prop where
  but : But G W W'
  on : g = true → J (k + 1) (newG G W W') W'
  off : g = false → Jx (k + 1) (newG G W W') W'
def wentPost (J Jx : Nat → (Nat → Prop) → World → Prop) (k : Nat) (G : Nat → Prop) (W : World) (e : Ending) (W' : World) : Prop := ∃ g, e = .returned (.bool g) ∧ Went J Jx k G W g W'

/-- THE ITERATOR's CONTRACT: round k is handed 'args k', N rounds in all; G names what the caller owns and its rounds may turn: no block of S. -/
def SeqX (P : Program) (gf : Nat) (lb : Array Value) (args : Nat → Array Value) (N : Nat) (S : Nat → Prop) (w : World) : Prop :=
  ∀ (l : Nat) (G : Nat → Prop) (J Jx : Nat → (Nat → Prop) → World → Prop) (W : World), Below w.heap.size w W → (∀ k, S k → k < W.heap.size ∧ ¬ G k) → (∀ k, G k → k < W.heap.size) → (∀ k, Abide W.heap.size (J k)) → (∀ k, Abide W.heap.size (Jx k)) →
    (∀ k G W1, k < N → J k G W1 → YieldAt Fence.wide 0 P l (args k) W1 (wentPost J Jx k G W1)) →
    J 0 G W → Calls P gf (#[.func (.yield l) #[] #[]] ++ lb) W fun e W' => (∃ v, e = .returned v) ∧ ∃ G, (J N G W' ∨ ∃ k, k < N ∧ Jx (k + 1) G W')

/-- HOW A ROUND's BODY MAY BE LEFT. -/
def endX (I : Nat → (Nat → Prop) → World → Prop) (Ix : Code → Nat → (Nat → Prop) → World → Prop) (k : Nat) (G : Nat → Prop) (W : World) : Exit → Act → World → Prop
  | .normal, _, W' => But G W W' ∧ I k (newG G W W') W'
  | .ret, _, W' => But G W W' ∧ Ix .ret k (newG G W W') W'
  | .exit id, _, W' => But G W W' ∧ Ix (.exit id) k (newG G W W') W'
  | .goto t, _, W' => But G W W' ∧ Ix (.goto t) k (newG G W W') W'
  | .panic _, _, _ => False
  | .outgrown, _, _ => False

variable {P : Program}

/-- One round: the loop's record lies at l, which nobody owns. -/
theorem round_law1 {fn : FuncId} {n : Nat} {a : Act} {ps : Array Tmp} {assign body : Code} {l D B : Nat} {rec : LoopState → Option Code → Loop} {args : Array Value} {k : Nat}
    {I : Nat → (Nat → Prop) → World → Prop} {Ix : Code → Nat → (Nat → Prop) → World → Prop} {Im : Act → (Nat → Prop) → World → Prop} (hrec : rec = fun st pe => { state := st, pending := pe, fn, tmps := a.tmps, params := ps, assign, body, defers := D })
    (hps : args.size = ps.size) (hBl : B ≤ l) (hI : ∀ k, Abide B (I k)) (hIx : ∀ c k, Abide B (Ix c k)) (hIm : ∀ a', Abide B (Im a'))
    (hassign : ∀ (G : Nat → Prop) (W : World) (K : Act → World → Prop), I k G W → (∀ a' W', But G W W' → Im a' (newG G W W') W' → K a' W') →
      assign.wpIn (Fence.wide.inRound l) n P (Exit.then K (fun _ _ _ => False)) { tmps := (ps.zip args).foldl (fun t (p, v) => t.setIfInBounds p v) a.tmps, defers := [] } W)
    (hbody : ∀ (a' : Act) (G : Nat → Prop) (W : World), (∃ r, W.heap[l]? = some (.loop r)) → ¬ G l → Im a' G W → body.wpIn (Fence.wide.inRound l) n P (endX I Ix (k + 1) G W) a' W)
    (G : Nat → Prop) (W : World) (hi : I k G W) (hl : W.heap[l]? = some (.loop (rec .ready none))) (hG : ¬ G l) :
    YieldAt Fence.wide 0 P l args W fun e W' => ∃ g, e = .returned (.bool g) ∧ But (fun j => G j ∨ j = l) W W' ∧
      ((g = true ∧ I (k + 1) (newG G W W') W' ∧ W'.heap[l]? = some (.loop (rec .ready none))) ∨ (g = false ∧ ∃ c, Ix c (k + 1) (newG G W W') W' ∧ W'.heap[l]? = some (.loop (rec .done (some c))))) := by
  have hy := run_yield (P := P) (args := args) hl (by rw [hrec]; exact hps)
  rw [hrec] at hy
  refine yieldAt_wide (m := n) ⟨fn, _, assign, body, hy, roundIn_of_wpIn trivial (hassign G W _ hi ?_)⟩
  clear hy
  intro a' Wa hba hma
  have hla := hba.obj hl hG
  have hlW : l < W.heap.size := (Array.getElem?_eq_some_iff.1 hl).1
  have hlt : l < Wa.heap.size := (Array.getElem?_eq_some_iff.1 hla).1
  refine ⟨_, run_beginRound hla (by rw [hrec]), ?_⟩
  obtain ⟨Wb, hWb⟩ : ∃ Wb, Wa.putObj l (.loop { rec .ready none with state := .busy }) = Wb := ⟨_, rfl⟩
  have hsb : Wb.heap.size = Wa.heap.size := by rw [← hWb]; simp
  have hlb : Wb.heap[l]? = some (.loop { rec .ready none with state := .busy }) := by rw [← hWb]; exact World.putObj_heap_same hlt
  have hGa : ¬ newG G W Wa l := newG_not hG hlW
  have hbb : But (fun j => G j ∨ j = l) Wa Wb := by rw [← hWb]; exact But.putObj _ _ _ (.inl (.inr rfl))
  have hmb : Im a' (newG G W Wa) Wb := by rw [← hWb]; exact (hIm a').putObj _ hma hBl hGa
  rw [hWb]
  refine wpIn_mono (hbody a' _ Wb ⟨_, hlb⟩ hGa hmb) ?_
  have fin : ∀ (jump : Option Code) (W3 : World), But (newG G W Wa) Wb W3 →
      (Instr.endRound l jump).run P W3 = .ok (.bool jump.isNone) (W3.putObj l (.loop (rec (if jump.isNone then .ready else .done) jump))) ∧
      (W3.putObj l (.loop (rec (if jump.isNone then .ready else .done) jump))).heap[l]? = some (.loop (rec (if jump.isNone then .ready else .done) jump)) ∧
      But (fun j => G j ∨ j = l) W (W3.putObj l (.loop (rec (if jump.isNone then .ready else .done) jump))) ∧
      newG (newG G W Wa) Wb W3 = newG G W (W3.putObj l (.loop (rec (if jump.isNone then .ready else .done) jump))) ∧ ¬ newG (newG G W Wa) Wb W3 l := fun jump W3 hb3 => by
    have hl3 := hb3.obj hlb hGa
    have := run_endRound (P := P) jump hl3
    rw [hrec] at this ⊢
    refine ⟨this, World.putObj_heap_same (Array.getElem?_eq_some_iff.1 hl3).1, ?_, newG_trans hba.size hsb (by simp) hb3.size, newG_not hGa (by omega)⟩
    refine ((hba.mono fun _ _ h => .inl h).trans hbb).then ((hb3.mono (O' := fun j => newG G W Wa j ∨ j = l) (fun _ _ h => .inl h)).trans (But.putObj _ _ _ (.inl (.inr rfl)))) ?_
    rintro j hj ((h | h) | h)
    · exact .inl h
    · omega
    · exact .inr h
  rintro e a3 W3 hp
  cases e with
  | normal =>
    obtain ⟨hb3, hi3⟩ := hp
    obtain ⟨hr, hl4, hb4, hn4, hg4⟩ := fin none W3 hb3
    rw [hn4] at hi3 hg4
    exact ⟨_, _, hr, true, rfl, hb4, .inl ⟨rfl, (hI _).putObj _ hi3 hBl hg4, hl4⟩⟩
  | ret =>
    obtain ⟨hb3, hi3⟩ := hp
    obtain ⟨hr, hl4, hb4, hn4, hg4⟩ := fin (some .ret) W3 hb3
    rw [hn4] at hi3 hg4
    exact ⟨_, _, hr, false, rfl, hb4, .inr ⟨rfl, .ret, (hIx _ _).putObj _ hi3 hBl hg4, hl4⟩⟩
  | exit id =>
    obtain ⟨hb3, hi3⟩ := hp
    obtain ⟨hr, hl4, hb4, hn4, hg4⟩ := fin (some (.exit id)) W3 hb3
    rw [hn4] at hi3 hg4
    exact ⟨_, _, hr, false, rfl, hb4, .inr ⟨rfl, .exit id, (hIx _ _).putObj _ hi3 hBl hg4, hl4⟩⟩
  | goto t =>
    obtain ⟨hb3, hi3⟩ := hp
    obtain ⟨hr, hl4, hb4, hn4, hg4⟩ := fin (some (.goto t)) W3 hb3
    rw [hn4] at hi3 hg4
    exact ⟨_, _, hr, false, rfl, hb4, .inr ⟨rfl, .goto t, (hIx _ _).putObj _ hi3 hBl hg4, hl4⟩⟩
  | panic ch => exact hp.elim
  | outgrown => exact hp.elim

/-- What the law carries through the rounds beside the caller's own words: the record at l (and what lies at D): nobody's. -/
theorem abide_rec {B l : Nat} {I : (Nat → Prop) → World → Prop} (hI : Abide B I) {B' : Nat} (hB : B ≤ B') (hl : l < B') (o : Obj) : Abide B' (fun G W => I G W ∧ ¬ G l ∧ W.heap[l]? = some o) :=
  fun G W W' h hb => ⟨(hI.up hB) G W W' h.1 hb, h.2.1, hb.obj h.2.2 (fun e => by have := e.1; omega)⟩

/-- 'for x := range seq { .. }', outermost: G names the blocks that the body owns, all ahead of the loop. -/
theorem wp_range {n : Nat} {g : Operand} {ps : Array Tmp} {assign body : Code} {Q : Exit → Act → World → Prop} {a : Act} {w : World}
    {gf : Nat} {lb : Array Value} (hg : a.eval g = .func (.func gf) #[] lb) (eg : ∀ args w, (callFunc gf args).run P w = .ok (.enter gf args) w)
    {args : Nat → Array Value} {N : Nat} {S : Nat → Prop} {w0 : World} (hseq : SeqX P gf lb args N S w0) (hb0 : Below w0.heap.size w0 w) (hps : ∀ k, (args k).size = ps.size)
    (G0 : Nat → Prop) (hG0 : ∀ k, G0 k → k < w.heap.size) (hS : ∀ k, S k → k < w.heap.size ∧ ¬ G0 k)
    (I : Nat → (Nat → Prop) → World → Prop) (Im : Nat → Act → (Nat → Prop) → World → Prop) (Ix : Code → Nat → (Nat → Prop) → World → Prop) (hI : ∀ k, Abide w.heap.size (I k)) (hIm : ∀ k a', Abide w.heap.size (Im k a')) (hIx : ∀ c k, Abide w.heap.size (Ix c k)) (h0 : I 0 G0 w)
    (hassign : ∀ (l k : Nat) (G : Nat → Prop) (W : World) (K : Act → World → Prop), k < N → I k G W → (∀ a' W', But G W W' → Im k a' (newG G W W') W' → K a' W') →
      assign.wpIn (Fence.wide.inRound l) n P (Exit.then K (fun _ _ _ => False)) { tmps := (ps.zip (args k)).foldl (fun t (p, v) => t.setIfInBounds p v) a.tmps, defers := [] } W)
    (hbody : ∀ (l k : Nat) (a' : Act) (G : Nat → Prop) (W : World), k < N → w.heap.size ≤ l → (∃ r, W.heap[l]? = some (.loop r)) → ¬ G l → Im k a' G W → body.wpIn (Fence.wide.inRound l) n P (endX I Ix (k + 1) G W) a' W)
    (hdone : ∀ (D : Nat) (G : Nat → Prop) (W : World), w.heap.size ≤ D → ¬ G D → I N G W → W.heap[D]? = some (.deferred (some [])) → Q .normal { a with defers := { target := .collected D, args := #[] } :: a.defers } W)
    (hstop : ∀ (D : Nat) (c : Code) (k : Nat) (G : Nat → Prop) (W : World), w.heap.size ≤ D → ¬ G D → k < N → Ix c (k + 1) G W → W.heap[D]? = some (.deferred (some [])) → c.wpIn Fence.wide n P Q { a with defers := { target := .collected D, args := #[] } :: a.defers } W) :
    (Code.rangeFunc g ps assign body).wpIn Fence.wide n P Q a w := by
  refine wpIn_rangeFunc ?_
  intro fn _
  rw [show Fence.wide.round = none from rfl]
  obtain ⟨rec, hrec⟩ : ∃ rec : LoopState → Option Code → Loop, rec = fun st pe => { state := st, pending := pe, fn, tmps := a.tmps, params := ps, assign, body, defers := w.heap.size } := ⟨_, rfl⟩
  obtain ⟨W1, hW1⟩ : ∃ W1, (w.alloc (.deferred (some []))).alloc (.loop (rec .ready none)) = W1 := ⟨_, rfl⟩
  have hsz : W1.heap.size = w.heap.size + 2 := by rw [← hW1]; simp
  have hL1 : W1.heap[w.heap.size + 1]? = some (.loop (rec .ready none)) := by
    rw [← hW1]; have := World.alloc_heap_new (w.alloc (.deferred (some []))) (.loop (rec .ready none)); rwa [World.size_alloc] at this
  have hK1 : W1.heap[w.heap.size]? = some (.deferred (some [])) := by
    rw [← hW1]; exact (Below.heap_alloc _ _ _ (by simp)).trans (World.alloc_heap_new w _)
  have hI1 : I 0 G0 W1 := by rw [← hW1]; exact (hI 0).alloc _ ((hI 0).alloc _ h0)
  have hb1 : Below w0.heap.size w0 W1 := by
    rw [← hW1]; exact hb0.trans ((((Below.refl _ w).alloc (Nat.le_refl _) _).alloc (by simp) _).mono hb0.size)
  refine ⟨w.heap.size + 1, [{ target := .collected w.heap.size, args := #[] }], W1, { target := .fn (.func gf) lb, args := #[.func (.yield (w.heap.size + 1)) #[] #[]] }, W1, gf,
    #[.func (.yield (w.heap.size + 1)) #[] #[]] ++ lb, W1, ?_, ?_, ?_, ?_, (fun h => by cases h), ?_⟩
  · rw [← hW1, hrec]; exact run_enterLoop_outer _ _ _ _ _
  · simp only [resolve, hg]
    simp [go_sem]
  · intro f' _; trivial
  · simp [invoke, go_sem, eg]
  · have hD : ∀ {I : (Nat → Prop) → World → Prop}, Abide w.heap.size I → Abide (w.heap.size + 1) (fun G W => I G W ∧ ¬ G w.heap.size ∧ W.heap[w.heap.size]? = some (.deferred (some []))) := fun h => abide_rec h (Nat.le_succ _) (Nat.lt_succ_self _) _
    refine callsIn_wide.2 ((hseq (w.heap.size + 1) (fun j => G0 j ∨ j = w.heap.size + 1)
      (fun k G W => ∃ G', (∀ j, G' j → G j) ∧ ¬ G' (w.heap.size + 1) ∧ G (w.heap.size + 1) ∧ (I k G' W ∧ ¬ G' w.heap.size ∧ W.heap[w.heap.size]? = some (.deferred (some []))) ∧ W.heap[w.heap.size + 1]? = some (.loop (rec .ready none)))
      (fun k G W => ∃ G' c, (∀ j, G' j → G j) ∧ ¬ G' (w.heap.size + 1) ∧ (Ix c k G' W ∧ ¬ G' w.heap.size ∧ W.heap[w.heap.size]? = some (.deferred (some []))) ∧ W.heap[w.heap.size + 1]? = some (.loop (rec .done (some c))))
      W1 hb1 ?_ ?_ ?_ ?_ ?_ ⟨G0, fun _ h => .inl h, (fun h => by have := hG0 _ h; omega), .inr rfl, ⟨hI1, (fun h => by have := hG0 _ h; omega), hK1⟩, hL1⟩).mono ?_)
    · exact fun k h => ⟨by have := (hS k h).1; omega, fun e => by rcases e with e | e; exact (hS k h).2 e; have := (hS k h).1; omega⟩
    · rintro k (h | rfl)
      · have := hG0 k h; omega
      · omega
    · rintro k G A B ⟨G', h1, h2, h3, h4, h5⟩ hb
      exact ⟨G', h1, h2, h3, (hD (hI k)) G' A B h4 (hb.mono fun j _ e => ⟨by omega, fun e' => e.2 (h1 j e')⟩), hb.obj h5 (fun e => by omega)⟩
    · rintro k G A B ⟨G', c, h1, h2, h4, h5⟩ hb
      exact ⟨G', c, h1, h2, (hD (hIx c k)) G' A B h4 (hb.mono fun j _ e => ⟨by omega, fun e' => e.2 (h1 j e')⟩), hb.obj h5 (fun e => by omega)⟩
    · rintro k G W hk ⟨G', h1, h2, h3, h4, h5⟩
      have hlW : w.heap.size + 1 < W.heap.size := (Array.getElem?_eq_some_iff.1 h5).1
      have hY := round_law1 (P := P) (B := w.heap.size + 1) (D := w.heap.size) (I := fun k G W => I k G W ∧ ¬ G w.heap.size ∧ W.heap[w.heap.size]? = some (.deferred (some []))) (Ix := fun c k G W => Ix c k G W ∧ ¬ G w.heap.size ∧ W.heap[w.heap.size]? = some (.deferred (some []))) (Im := fun a' G W => Im k a' G W ∧ ¬ G w.heap.size ∧ W.heap[w.heap.size]? = some (.deferred (some []))) (n := n) (k := k) hrec (hps k) (l := w.heap.size + 1) (Nat.le_refl _)
        (fun k => hD (hI k)) (fun c k => hD (hIx c k)) (fun a' => hD (hIm k a'))
        (fun G W K hi hK => hassign _ k G W K hk hi.1 (fun a' W' hb hm => hK a' W' hb ⟨hm, newG_not hi.2.1 (Array.getElem?_eq_some_iff.1 hi.2.2).1, hb.obj hi.2.2 hi.2.1⟩))
        (fun a' G W hr hl hm => wpIn_mono (hbody _ k a' G W hk (by omega) hr hl hm.1) (fun e a3 W3 hp => by
          have hg : ¬ newG G W W3 w.heap.size := newG_not hm.2.1 (Array.getElem?_eq_some_iff.1 hm.2.2).1
          cases e with
          | normal => exact ⟨hp.1, hp.2, hg, hp.1.obj hm.2.2 hm.2.1⟩
          | ret => exact ⟨hp.1, hp.2, hg, hp.1.obj hm.2.2 hm.2.1⟩
          | exit id => exact ⟨hp.1, hp.2, hg, hp.1.obj hm.2.2 hm.2.1⟩
          | goto t => exact ⟨hp.1, hp.2, hg, hp.1.obj hm.2.2 hm.2.1⟩
          | panic ch => exact hp
          | outgrown => exact hp)) G' W h4 h5 h2
      refine hY.mono ?_
      rintro e W' ⟨g, rfl, hb, h⟩
      have hb' : But G W W' := hb.mono fun j _ e => by rcases e with e | rfl; exact h1 j e; exact h3
      have hsub : ∀ j, newG G' W W' j → newG G W W' j := fun j e => by rcases e with e | e; exact .inl (h1 j e); exact .inr e
      refine ⟨g, rfl, hb', ?_, ?_⟩
      · rintro rfl
        obtain ⟨_, hi, hl⟩ | ⟨h, _⟩ := h
        · exact ⟨_, hsub, newG_not h2 hlW, .inl h3, hi, hl⟩
        · cases h
      · rintro rfl
        obtain ⟨h, _⟩ | ⟨_, c, hi, hl⟩ := h
        · cases h
        · exact ⟨_, c, hsub, newG_not h2 hlW, hi, hl⟩
    · rintro e W2 ⟨⟨v, rfl⟩, G, (⟨G', h1, h2, h3, ⟨hi, hd, hk⟩, hl⟩ | ⟨k, hkN, G', c, h1, h2, ⟨hi, hd, hk⟩, hl⟩)⟩
      · exact ⟨none, _, by have := run_endLoop (P := P) hl (by rw [hrec]; simp); rw [hrec] at this; exact this, hdone _ G' _ (Nat.le_refl _) hd ((hI N).putObj _ hi (by omega) h2) ((World.putObj_heap_other (by omega)).trans hk)⟩
      · exact ⟨some c, _, by have := run_endLoop (P := P) hl (by rw [hrec]; simp); rw [hrec] at this; exact this, hstop _ c k G' _ (Nat.le_refl _) hd hkN ((hIx c _).putObj _ hi (by omega) h2) ((World.putObj_heap_other (by omega)).trans hk)⟩

/-- .. within a round of loop l₀. -/
theorem wp_rangeN {n : Nat} {g : Operand} {ps : Array Tmp} {assign body : Code} {Q : Exit → Act → World → Prop} {a : Act} {w : World}
    {l₀ : Nat} {r₀ : Loop} (hl₀ : w.heap[l₀]? = some (.loop r₀))
    {gf : Nat} {lb : Array Value} (hg : a.eval g = .func (.func gf) #[] lb) (eg : ∀ args w, (callFunc gf args).run P w = .ok (.enter gf args) w)
    {args : Nat → Array Value} {N : Nat} {S : Nat → Prop} {w0 : World} (hseq : SeqX P gf lb args N S w0) (hb0 : Below w0.heap.size w0 w) (hps : ∀ k, (args k).size = ps.size)
    (G0 : Nat → Prop) (hG0 : ∀ k, G0 k → k < w.heap.size) (hS : ∀ k, S k → k < w.heap.size ∧ ¬ G0 k)
    (I : Nat → (Nat → Prop) → World → Prop) (Im : Nat → Act → (Nat → Prop) → World → Prop) (Ix : Code → Nat → (Nat → Prop) → World → Prop) (hI : ∀ k, Abide w.heap.size (I k)) (hIm : ∀ k a', Abide w.heap.size (Im k a')) (hIx : ∀ c k, Abide w.heap.size (Ix c k)) (h0 : I 0 G0 w)
    (hassign : ∀ (l k : Nat) (G : Nat → Prop) (W : World) (K : Act → World → Prop), k < N → I k G W → (∀ a' W', But G W W' → Im k a' (newG G W W') W' → K a' W') →
      assign.wpIn (Fence.wide.inRound l) n P (Exit.then K (fun _ _ _ => False)) { tmps := (ps.zip (args k)).foldl (fun t (p, v) => t.setIfInBounds p v) a.tmps, defers := [] } W)
    (hbody : ∀ (l k : Nat) (a' : Act) (G : Nat → Prop) (W : World), k < N → w.heap.size ≤ l → (∃ r, W.heap[l]? = some (.loop r)) → ¬ G l → Im k a' G W → body.wpIn (Fence.wide.inRound l) n P (endX I Ix (k + 1) G W) a' W)
    (hdone : ∀ (G : Nat → Prop) (W : World), I N G W → Q .normal a W)
    (hstop : ∀ (c : Code) (k : Nat) (G : Nat → Prop) (W : World), k < N → Ix c (k + 1) G W → c.wpIn (Fence.wide.inRound l₀) n P Q a W) :
    (Code.rangeFunc g ps assign body).wpIn (Fence.wide.inRound l₀) n P Q a w := by
  refine wpIn_rangeFunc ?_
  intro fn _
  rw [show (Fence.wide.inRound l₀).round = some l₀ from rfl]
  obtain ⟨rec, hrec⟩ : ∃ rec : LoopState → Option Code → Loop, rec = fun st pe => { state := st, pending := pe, fn, tmps := a.tmps, params := ps, assign, body, defers := r₀.defers } := ⟨_, rfl⟩
  obtain ⟨W1, hW1⟩ : ∃ W1, w.alloc (.loop (rec .ready none)) = W1 := ⟨_, rfl⟩
  have hsz : W1.heap.size = w.heap.size + 1 := by rw [← hW1]; simp
  have hL1 : W1.heap[w.heap.size]? = some (.loop (rec .ready none)) := by rw [← hW1]; exact World.alloc_heap_new w _
  have hI1 : I 0 G0 W1 := by rw [← hW1]; exact (hI 0).alloc _ h0
  have hb1 : Below w0.heap.size w0 W1 := by
    rw [← hW1]; exact hb0.trans (((Below.refl _ w).alloc (Nat.le_refl _) _).mono hb0.size)
  refine ⟨w.heap.size, [], W1, { target := .fn (.func gf) lb, args := #[.func (.yield w.heap.size) #[] #[]] }, W1, gf,
    #[.func (.yield w.heap.size) #[] #[]] ++ lb, W1, ?_, ?_, ?_, ?_, (fun h => by cases h), ?_⟩
  · rw [← hW1, hrec]; exact run_enterLoop_inner hl₀ _ _ _ _ _
  · simp only [resolve, hg]
    simp [go_sem]
  · intro f' _; trivial
  · simp [invoke, go_sem, eg]
  · refine (CallsIn.inRound l₀ (callsIn_wide.2 ((hseq w.heap.size (fun j => G0 j ∨ j = w.heap.size)
      (fun k G W => ∃ G', (∀ j, G' j → G j) ∧ ¬ G' w.heap.size ∧ G w.heap.size ∧ I k G' W ∧ W.heap[w.heap.size]? = some (.loop (rec .ready none)))
      (fun k G W => ∃ G' c, (∀ j, G' j → G j) ∧ ¬ G' w.heap.size ∧ Ix c k G' W ∧ W.heap[w.heap.size]? = some (.loop (rec .done (some c))))
      W1 hb1 ?_ ?_ ?_ ?_ ?_ ⟨G0, fun _ h => .inl h, (fun h => by have := hG0 _ h; omega), .inr rfl, hI1, hL1⟩)))).mono ?_
    · exact fun k h => ⟨by have := (hS k h).1; omega, fun e => by rcases e with e | e; exact (hS k h).2 e; have := (hS k h).1; omega⟩
    · rintro k (h | rfl)
      · have := hG0 k h; omega
      · omega
    · rintro k G A B ⟨G', h1, h2, h3, h4, h5⟩ hb
      exact ⟨G', h1, h2, h3, (hI k) G' A B h4 (hb.mono fun j _ e => ⟨by omega, fun e' => e.2 (h1 j e')⟩), hb.obj h5 (fun e => by omega)⟩
    · rintro k G A B ⟨G', c, h1, h2, h4, h5⟩ hb
      exact ⟨G', c, h1, h2, (hIx c k) G' A B h4 (hb.mono fun j _ e => ⟨by omega, fun e' => e.2 (h1 j e')⟩), hb.obj h5 (fun e => by omega)⟩
    · rintro k G W hk ⟨G', h1, h2, h3, h4, h5⟩
      have hlW : w.heap.size < W.heap.size := (Array.getElem?_eq_some_iff.1 h5).1
      have hY := round_law1 (P := P) (B := w.heap.size) (D := r₀.defers) (I := I) (Ix := Ix) (Im := Im k) (n := n) (k := k) hrec (hps k) (l := w.heap.size) (Nat.le_refl _) hI hIx (hIm k)
        (fun G W K hi hK => hassign _ k G W K hk hi hK) (fun a' G W hr hl hm => hbody _ k a' G W hk (Nat.le_refl _) hr hl hm) G' W h4 h5 h2
      refine hY.mono ?_
      rintro e W' ⟨g, rfl, hb, h⟩
      have hb' : But G W W' := hb.mono fun j _ e => by rcases e with e | rfl; exact h1 j e; exact h3
      have hsub : ∀ j, newG G' W W' j → newG G W W' j := fun j e => by rcases e with e | e; exact .inl (h1 j e); exact .inr e
      refine ⟨g, rfl, hb', ?_, ?_⟩
      · rintro rfl
        obtain ⟨_, hi, hl⟩ | ⟨h, _⟩ := h
        · exact ⟨_, hsub, newG_not h2 hlW, .inl h3, hi, hl⟩
        · cases h
      · rintro rfl
        obtain ⟨h, _⟩ | ⟨_, c, hi, hl⟩ := h
        · cases h
        · exact ⟨_, c, hsub, newG_not h2 hlW, hi, hl⟩
    · rintro e W2 ⟨⟨v, rfl⟩, G, (⟨G', h1, h2, h3, hi, hl⟩ | ⟨k, hkN, G', c, h1, h2, hi, hl⟩)⟩
      · exact ⟨none, _, by have := run_endLoop (P := P) hl (by rw [hrec]; simp); rw [hrec] at this; exact this, hdone G' _ ((hI N).putObj _ hi (Nat.le_refl _) h2)⟩
      · exact ⟨some c, _, by have := run_endLoop (P := P) hl (by rw [hrec]; simp); rw [hrec] at this; exact this, hstop c k G' _ hkN ((hIx c _).putObj _ hi (Nat.le_refl _) h2)⟩

theorem run_app_at {t e : TypeId} {sz bytes : Nat} (T : SlT P t e sz bytes) (ty : TypeId) (w : World) (base : Nat) (v : Value) (n : Nat) (xs : List Value)
    (hown : w.ownsRow base e sz v n xs) (x : Value) (m : Nat) (news : List Value) (hx : Sl w sz x m news) (h1 : ∀ u ∈ news, u.oneCell' = true)
    (h63 : n + m ≤ maxLen) (hbytes : (n + m) * bytes ≤ 140737488355328) (hbase : base ≤ w.heap.size) :
    ∃ v' w', (Builtin.append_ #[t, t] ty #[v, x]).run P w = .ok v' w' ∧ w'.ownsRow base e sz v' (n + m) (xs ++ news) ∧ w.grownBy w' v.ownBlock ∧ (v' = .slice none 0 0 ↔ v = .slice none 0 0 ∧ m = 0) ∧ (v'.ownBlock = v.ownBlock ∨ v'.ownBlock = some w.heap.size) := by
  obtain ⟨i, z, hi, hz, hsize, hby, hzs, hsz⟩ := T.inf
  obtain ⟨hl, ⟨a, c, rfl, rfl⟩ | ⟨b, off, cap, rfl, hn, hm, hc⟩⟩ := hx
  · have hnil : news = [] := List.eq_nil_of_length_eq_zero (by simpa using hl)
    subst hnil
    cases a with
    | none =>
      refine ⟨v, w, ?_, by simpa using hown, ⟨rfl, rfl, rfl, Nat.le_refl _, fun _ _ _ => rfl⟩, by simp, .inl rfl⟩
      rcases hown.2 with ⟨rfl, rfl⟩ | ⟨g, cap, cur, rfl, _, _, hnc, _⟩
      · simp [Builtin.append_, run_underlying T.und, sizeOf, typeInfo, hi, Builtin.lenOf, Builtin.firstCells]
      · simp [Builtin.append_, run_underlying T.und, sizeOf, typeInfo, hi, Builtin.lenOf, Builtin.firstCells, hnc, storeCells]
    | some a => exact run_append_own_at w base t ty e i z sz bytes T.und hi hz hsize hby hzs hsz v n xs hown a 0 c [] (by simp) (by simp) (by simp) h63 hbytes hbase
  · exact run_append_own_at w base t ty e i z sz bytes T.und hi hz hsize hby hzs hsz v n xs hown ⟨b, off, none⟩ m cap news hl (fun j u hj => by rw [Addr.add_lit]; exact hc j u hj) h1 h63 hbytes hbase

/-- Append in a walk, and where the new slice lies. -/
theorem wpList_app_at {w : World} {ops : Array Oper} {rest : List Oper} {o : Oper} {a : Act} {Q : Exit → Act → World → Prop} (hgd : o.guard = none) (s x : Operand) (t : TypeId)
    (ho : o.op = .call { callee := .builtin .append, args := #[s, x], argTypes := #[t, t] })
    {e : TypeId} {sz bytes : Nat} (T : SlT P t e sz bytes) (base : Nat) {v : Value} {n : Nat} {xs : List Value} (hs : a.eval s = v) (hown : w.ownsRow base e sz v n xs)
    {xv : Value} {m : Nat} {news : List Value} (hx : a.eval x = xv) (hsl : Sl w sz xv m news) (h1 : ∀ u ∈ news, u.oneCell' = true)
    (h63 : n + m ≤ maxLen) (hbytes : (n + m) * bytes ≤ 140737488355328) (hbase : base ≤ w.heap.size)
    (h : ∀ v' w', w'.ownsRow base e sz v' (n + m) (xs ++ news) → w.grownBy w' v.ownBlock → (v' = .slice none 0 0 ↔ v = .slice none 0 0 ∧ m = 0) → (v'.ownBlock = v.ownBlock ∨ v'.ownBlock = some w.heap.size) → wpList P ops Q rest (a.put o.dst v') w') : wpList P ops Q (o :: rest) a w :=
  wpList_plain hgd fun _ hK => by
    obtain ⟨v', w', hr, h2, h3, h4, h5⟩ := run_app_at T o.type w base v n xs hown xv m news hsl h1 h63 hbytes hbase
    unfold Oper.wp execOp
    simp only [ho, resolve, invoke, builtin, Sem.run_bind, Sem.run_pure, Result.andThen_ok, List.map_toArray, List.map_cons, List.map_nil, hs, hx, hr]
    exact hK _ _ (h v' w' h2 h3 h4 h5)
theorem wpListIn_app {F : Fence} {n0 : Nat} {w : World} {ops : Array Oper} {rest : List Oper} {o : Oper} {a : Act} {Q : Exit → Act → World → Prop} (hgd : o.guard = none) (s x : Operand) (t : TypeId)
    (ho : o.op = .call { callee := .builtin .append, args := #[s, x], argTypes := #[t, t] })
    {e : TypeId} {sz bytes : Nat} (T : SlT P t e sz bytes) (base : Nat) {v : Value} {n : Nat} {xs : List Value} (hs : a.eval s = v) (hown : w.ownsRow base e sz v n xs)
    {xv : Value} {m : Nat} {news : List Value} (hx : a.eval x = xv) (hsl : Sl w sz xv m news) (h1 : ∀ u ∈ news, u.oneCell' = true)
    (h63 : n + m ≤ maxLen) (hbytes : (n + m) * bytes ≤ 140737488355328) (hbase : base ≤ w.heap.size)
    (h : ∀ v' w', w'.ownsRow base e sz v' (n + m) (xs ++ news) → w.grownBy w' v.ownBlock → (v' = .slice none 0 0 ↔ v = .slice none 0 0 ∧ m = 0) → (v'.ownBlock = v.ownBlock ∨ v'.ownBlock = some w.heap.size) → wpListIn F n0 P ops Q rest (a.put o.dst v') w') : wpListIn F n0 P ops Q (o :: rest) a w :=
  wpListIn_plain hgd fun _ hK => by
    obtain ⟨v', w', hr, h2, h3, h4, h5⟩ := run_app_at T o.type w base v n xs hown xv m news hsl h1 h63 hbytes hbase
    unfold Oper.wpIn
    refine ⟨by simp [Oper.about, ho, resolve, Target.leads, Sem.run_pure], ?_⟩
    rw [Oper.semAt_plain F _ _ (by rw [ho]; intro c hc'; cases hc')]
    simp only [execOp, ho, resolve, invoke, builtin, Sem.run_bind, Sem.run_pure, Result.andThen_ok, List.map_toArray, List.map_cons, List.map_nil, hs, hx, hr]
    exact hK _ _ (h v' w' h2 h3 h4 h5)
theorem Sl.blk {w : World} {sz n : Nat} {v : Value} {cs : List Value} (h : Sl w sz v n cs) (hsz : 0 < sz) : n = 0 ∨ ∀ k, v.ownBlock = some k → k < w.heap.size := by
  obtain ⟨hl, ⟨a, c, rfl, h⟩ | ⟨b, off, cap, rfl, hn, hm, hc⟩⟩ := h
  · exact .inl h
  · by_cases h0 : n = 0
    · exact .inl h0
    · refine .inr fun k hk => ?_
      have hpos : 0 < n * sz := Nat.mul_pos (by omega) hsz
      have := hc 0 cs[0] (by rw [List.getElem?_eq_getElem (by omega)])
      have hb : b < w.heap.size := World.block_lt_of_cell? w ⟨b, off + 0, none⟩ this
      simp only [Value.ownBlock, Option.some.injEq] at hk
      omega
theorem own_of_some {w : World} {base : Nat} {e : TypeId} {sz : Nat} {v : Value} {n : Nat} {xs : List Value} (h : w.ownsRow base e sz v n xs) {k : Nat} (hk : v.ownBlock = some k) : base ≤ k ∧ k < w.heap.size := by
  rcases h.2 with ⟨rfl, _⟩ | ⟨g, cap, cur, rfl, h2, h3, _⟩
  · cases hk
  · simp only [Value.ownBlock, Option.some.injEq] at hk
    subst hk
    exact ⟨h2, lt_of_block h3⟩

theorem own_down {w : World} {base base' : Nat} {e : TypeId} {sz : Nat} {v : Value} {n : Nat} {xs : List Value} (h : w.ownsRow base e sz v n xs) (hb : base' ≤ base) : w.ownsRow base' e sz v n xs := by
  refine ⟨h.1, ?_⟩
  rcases h.2 with h | ⟨g, cap, cur, h1, h2, h3⟩
  · exact .inl h
  · exact .inr ⟨g, cap, cur, h1, Nat.le_trans hb h2, h3⟩
theorem own_slice {w : World} {base : Nat} {e : TypeId} {sz : Nat} {v : Value} {n : Nat} {xs : List Value} (h : w.ownsRow base e sz v n xs) : ∃ a c, v = .slice a n c := by
  rcases h.2 with ⟨rfl, rfl⟩ | ⟨g, cap, cur, rfl, _⟩
  · exact ⟨_, _, rfl⟩
  · exact ⟨_, _, rfl⟩

/-- A label at the head of a scope to which nobody jumps. -/
theorem wpIn_scope0 {n l : Nat} {c : Code} {Q : Exit → Act → World → Prop} {a : Act} {w : World} (h : c.wpIn Fence.wide n P (Exit.noGoto Q) a w) : (Code.scope ((Code.label l).seq c)).wpIn Fence.wide n P Q a w :=
  wpIn_wide.2 (wp_scope_straight ((wpIn_wide (n := n)).1 (wpIn_seq (wpIn_label h))))

/-! ### A region that draws its order, in a round: reads, then one operation on which all others wait, then the rest in sequence -/
section
variable {ops : Array Oper} {md : Region.Mode} {w : World} {l₀ n : Nat}

def noDefer (ops : List Oper) : Bool := ops.all fun o => match o.op with | .defer _ => false | _ => true
theorem noDefer_spec {ops : List Oper} (h : noDefer ops = true) {i : Nat} {o : Oper} (ho : ops[i]? = some o) : ∀ c, o.op ≠ .defer c := by
  intro c hc
  have := List.all_eq_true.1 h o (List.mem_of_getElem? ho)
  simp [hc] at this

theorem wpIn_of_still {o : Oper} {a : Act} {K : Act → Prop} {K' : Act → World → Prop} {Q' : Exit → Act → World → Prop} (hd : ∀ c, o.op ≠ .defer c) (h : ∀ a, K a → K' a w) (hh : o.still P a w K) :
    o.wpIn (Fence.wide.inRound l₀) n P a w K' Q' := by
  refine ⟨fun _ _ => trivial, ?_⟩
  rw [Oper.semAt_eq _ _ _ hd]
  unfold Oper.still at hh
  generalize (execOp a.eval o).run P w = r at *
  cases r with
  | ok x w' =>
    cases x <;> simp only [Oper.stillUpon] at hh <;> simp only [Oper.uponIn]
    case enter f args =>
      obtain ⟨rfl, v, hc, hn⟩ := hh
      refine ⟨(fun h => by cases h), CallsIn.inRound l₀ (callsIn_wide.2 (hc.mono ?_))⟩
      rintro e w'' ⟨rfl, rfl⟩
      exact h _ hn
    all_goals (obtain ⟨rfl, h2⟩ := hh; exact h _ h2)
  | halt x w' => simp only [Oper.stillUpon] at hh

theorem wpOpIn_of_stOp {i : Nat} {a : Act} {K : Act → Prop} {K' : Act → World → Prop} {Q' : Exit → Act → World → Prop} (hnd : noDefer ops.toList = true) (h : ∀ a, K a → K' a w) (hh : stOp P ops w i K a) :
    wpOpIn (Fence.wide.inRound l₀) n P ops Q' i K' a w := by
  unfold stOp at hh
  unfold wpOpIn
  split
  · rename_i ho; simp only [ho] at hh; exact h _ hh
  · rename_i o ho
    simp only [ho] at hh
    split
    · rename_i hw; simp only [hw, if_true] at hh; exact wpIn_of_still (noDefer_spec hnd (by simpa using ho)) h hh
    · rename_i hw; simp only [hw] at hh; exact ⟨fun _ _ => trivial, h _ hh⟩

theorem wpAnyIn_of_head {m g : Nat} {L : Array Bool → Act → Prop} {Q' : Exit → Act → World → Prop} (hnd : noDefer ops.toList = true) (hL : ∀ listed a, L listed a → wpAnyIn (Fence.wide.inRound l₀) n P md ops Q' g listed a w) :
    ∀ (f : Nat) (listed : Array Bool) (a : Act), wpAnyL P md ops w m L f listed a → wpAnyIn (Fence.wide.inRound l₀) n P md ops Q' (f + g) listed a w
  | 0, listed, a, h => by rw [Nat.zero_add]; exact hL _ _ h
  | f + 1, listed, a, h => by
    rw [show f + 1 + g = (f + g) + 1 by omega]
    exact ⟨fun h0 => absurd h0 h.1, fun i hi => wpOpIn_of_stOp hnd (fun a' h' => wpAnyIn_of_head hnd hL f _ a' h') (h.2 i hi).2⟩

theorem wpAnyIn_of_seq {Q' : Exit → Act → World → Prop} : ∀ (l : List Oper) (k : Nat) (listed : Array Bool) (a : Act) (w : World), (∀ j, l[j]? = ops[k + j]?) →
    Region.seqB md ops l.length k listed = true → wpListIn (Fence.wide.inRound l₀) n P ops Q' l a w → wpAnyIn (Fence.wide.inRound l₀) n P md ops Q' l.length listed a w
  | [], _, _, _, _, _, hB, h => ⟨by simpa [Region.seqB] using hB, h⟩
  | o :: l, k, listed, a, w, hl, hB, h => by
    have h0 : ops[k]? = some o := by simpa using (hl 0).symm
    simp only [List.length_cons, Region.seqB, Bool.and_eq_true, decide_eq_true_eq] at hB
    refine ⟨fun h1 => (by rw [hB.1] at h1; cases h1), fun i hi => ?_⟩
    rw [hB.1] at hi
    have hik : i = k := by simpa using hi
    subst hik
    have hw : wpOpIn (Fence.wide.inRound l₀) n P ops Q' i (wpListIn (Fence.wide.inRound l₀) n P ops Q' l) a w := by
      unfold wpOpIn; simp only [h0]; exact h
    exact wpOpIn_mono (fun a' w' h' => wpAnyIn_of_seq l (i + 1) _ a' w' (fun j => by have := hl (j + 1); simpa [Nat.add_assoc, Nat.add_comm 1 j] using this) hB.2 h') hw

/-- .. in a plain frame. -/
theorem wp_still_tail {id : Nat} {Q : Exit → Act → World → Prop} {a : Act} {w : World} {l : List Oper} (m : Nat) (hm : P.follows .mixedOrders = true) (hB : Region.lexTailB .any l.toArray m = true)
    (h : wpStill P l.toArray w.drew (fun a' => wpList P l.toArray Q (l.drop m) a' w.drew) (l.take m) a) : (Code.region id l.toArray true).wp P Q a w := wp_region_still_tail m hm hB h
theorem wpIn_round_tail {id : Nat} {Q : Exit → Act → World → Prop} {a : Act} {w : World} {l : List Oper} (m : Nat) (hm : P.follows .mixedOrders = true) (hnd : noDefer l = true) (hB : Region.lexTailB .any l.toArray m = true)
    (h : wpStill P l.toArray w.drew (fun a' => wpListIn (Fence.wide.inRound l₀) n P l.toArray Q (l.drop m) a' w.drew) (l.take m) a) : (Code.region id l.toArray true).wpIn (Fence.wide.inRound l₀) n P Q a w := by
  simp only [Region.lexTailB, Bool.and_eq_true, decide_eq_true_eq] at hB
  obtain ⟨⟨⟨⟨hsel, hn⟩, hs⟩, hc⟩, hlex⟩ := hB
  have hn' : m < l.length := by simpa using hn
  have htl : (l.take m).length = m := by simp; omega
  have hdl : (l.drop m).length = l.toArray.size - m := by simp
  have inv0 : HeadInv .any l.toArray m (Array.replicate l.toArray.size false) :=
    ⟨by simp, fun j oj _ hl => (by rw [getD_replicate_false] at hl; cases hl), fun t _ ht => getD_in (by simpa using ht) (getD_replicate_false _ _)⟩
  have H := wpAnyL_lex (md := .any) (g := l.toArray.size - m) hsel hs hc hn (l.take m) 0 _ a (fun j hj => by
    have hj' : j < m := by rw [htl] at hj; exact hj
    simp [hj']) (by simpa using htl) inv0 (by rw [htl]; exact hlex) h
  refine wpIn_region_any hm ?_
  have := wpAnyIn_of_head (l₀ := l₀) (n := n) (Q' := Q) (g := l.toArray.size - m) (by simpa using hnd) (fun listed a' hL => by
    have := wpAnyIn_of_seq (l₀ := l₀) (n := n) (md := .any) (Q' := Q) (l.drop m) m listed a' w.drew (fun j => by simp [List.getElem?_drop]) (by rw [hdl]; exact hL.1) hL.2
    rwa [hdl] at this) _ _ _ H
  rw [htl, show m + (l.toArray.size - m) = l.toArray.size by omega] at this
  exact this
end
end Go.Proofs.Ytfoncaamhleckaa
