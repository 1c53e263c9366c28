/-
  CbFd, CbSt, CbIs: several texts in one (bundle.py).
-/
import Derived.Test.YtjenohodgpmchaaDoorCbK35
import Derived.Test.YtjenohodgpmchaaDoorCbK05
import Derived.Test.YtjenohodgpmchaaDoorCbK03
import Derived.Test.YtjenohodgpmchaaDoorCbK27
import Derived.Test.YtjenohodgpmchaaDoorCbK29
import Derived.Test.YtjenohodgpmchaaDoorCbK22
namespace Go.Proofs.YtjenohodgpmchaaDoor
open Go.RowKit Cb
set_option linter.unusedSimpArgs false
set_option linter.unusedVariables false
theorem enters_first1 : Enters Tryd.prog 30 := enters_of Tryd.func30 (by kernel_rfl) rfl
set_option maxRecDepth 100000 in
theorem first1_c (X N : Nat) (hne : X ≠ N) (k0 n0 s0 : Value) (b0 l0 : Value) (m : Value) (w : World) (hX : RowAt w X #[k0, n0, b0, s0, l0] 28) (hN : RowAt w N #[m] 3) :
    Calls Tryd.prog 30 #[.pointer (some ⟨X, 0, none⟩), .pointer (some ⟨N, 0, none⟩)] w fun en w' => en = .returned (.tuple #[]) ∧ But (fun k => k = X ∨ k = N) w w' ∧ RowAt w' X #[.int .i64 0, .int .u64 0, .slice none 0 0, .string ⟨#[]⟩, .slice none 0 0] 28 ∧ RowAt w' N #[.int .i64 0] 3 := by
  have a0 := hX.cell (i := 0) (v := k0) rfl
  have a1 := hX.cell (i := 1) (v := n0) rfl
  have a2 := hX.cell (i := 2) (v := b0) rfl
  have a3 := hX.cell (i := 3) (v := s0) rfl
  have a4 := hX.cell (i := 4) (v := l0) rfl
  have f0 := hX.fz 0
  have f1 := hX.fz 1
  have f2 := hX.fz 2
  have f3 := hX.fz 3
  have f4 := hX.fz 4
  have g0 := hN.cell (i := 0) (v := m) rfl
  have h0 := hN.fz 0
  go_enter Tryd.func30, Tryd.ntmps30
  go_wp2
  have hX5 := ((((hX.set 0 (.int .i64 0)).set 1 (.int .u64 0)).set 2 (.slice none 0 0)).set 3 (.string ⟨#[]⟩)).set 4 (.slice none 0 0)
  have s1 : But (fun k => k = X) w (w.setCell ⟨X, 0, none⟩ (.int .i64 0)) := But.setCell _ _ _ (.inl rfl)
  have s2 : But (fun k => k = X) _ ((w.setCell ⟨X, 0, none⟩ (.int .i64 0)).setCell ⟨X, 1, none⟩ (.int .u64 0)) := But.setCell _ _ _ (.inl rfl)
  have s3 : But (fun k => k = X) _ (((w.setCell ⟨X, 0, none⟩ (.int .i64 0)).setCell ⟨X, 1, none⟩ (.int .u64 0)).setCell ⟨X, 2, none⟩ (.slice none 0 0)) := But.setCell _ _ _ (.inl rfl)
  have s4 : But (fun k => k = X) _ ((((w.setCell ⟨X, 0, none⟩ (.int .i64 0)).setCell ⟨X, 1, none⟩ (.int .u64 0)).setCell ⟨X, 2, none⟩ (.slice none 0 0)).setCell ⟨X, 3, none⟩ (.string ⟨#[]⟩)) := But.setCell _ _ _ (.inl rfl)
  have s5 : But (fun k => k = X) _ (((((w.setCell ⟨X, 0, none⟩ (.int .i64 0)).setCell ⟨X, 1, none⟩ (.int .u64 0)).setCell ⟨X, 2, none⟩ (.slice none 0 0)).setCell ⟨X, 3, none⟩ (.string ⟨#[]⟩)).setCell ⟨X, 4, none⟩ (.slice none 0 0)) := But.setCell _ _ _ (.inl rfl)
  have s15 := (((s1.trans s2).trans s3).trans s4).trans s5
  have hN5 := (s15.same _ hN.lt (fun e => hne e.symm)).trans hN
  obtain ⟨W5, hW5⟩ : ∃ W5, (((((w.setCell ⟨X, 0, none⟩ (.int .i64 0)).setCell ⟨X, 1, none⟩ (.int .u64 0)).setCell ⟨X, 2, none⟩ (.slice none 0 0)).setCell ⟨X, 3, none⟩ (.string ⟨#[]⟩)).setCell ⟨X, 4, none⟩ (.slice none 0 0)) = W5 := ⟨_, rfl⟩
  rw [hW5] at hX5 s15 hN5 ⊢
  have s6 : But (fun k => k = N) W5 (W5.setCell ⟨N, 0, none⟩ (.int .i64 0)) := But.setCell _ _ _ (.inl rfl)
  have hX6 := (s6.same _ (RowAt.lt hX5) hne).trans hX5
  have hN6 := RowAt.set hN5 0 (.int .i64 0)
  go_end0
  exact ⟨rfl, (s15.mono fun _ _ e => .inl e).trans (s6.mono fun _ _ e => .inr e), hX6, hN6⟩
abbrev zeroIt : Value := rwV ⟨0, 0, .slice none 0 0, ⟨#[]⟩, .slice none 0 0⟩
set_option maxHeartbeats 1000000 in
set_option maxRecDepth 100000 in
/-- The door, where something was given up. -/
theorem fst_door {R : Ending → World → Prop} (X N E : Nat) (e : Int) (k0 n0 b0 s0 l0 m : Value) (W : World) (hX : RowAt W X #[k0, n0, b0, s0, l0] 28) (hN : RowAt W N #[m] 3) (hE : RowAt W E #[.int .i64 0] 29) (hXN : X ≠ N) (hXE : X ≠ E) (hNE : N ≠ E) (u0 u1 u5 u6 u7 u8 u9 u10 u11 u12 u13 u14 u15 u16 u17 u18 u19 u20 u21 u22 u23 u24 : Value)
    (hR : ∀ W', But (fun k => k = X ∨ k = N ∨ k = E) W W' → R (.returned (.tuple #[zeroIt, .int .i64 0, .int .i64 e])) W') :
    Leaves Tryd.prog Tryd.f10 #[u0, u1, .pointer (some ⟨X, 0, none⟩), .pointer (some ⟨N, 0, none⟩), .pointer (some ⟨E, 0, none⟩), u5, u6, u7, u8, u9, u10, u11, u12, u13, u14, u15, u16, u17, u18, u19, u20, u21, u22, u23, u24] R [{ target := .fn (.func 29) #[], args := #[.pointer (some ⟨E, 0, none⟩), .func (.func 30) #[] #[.pointer (some ⟨X, 0, none⟩), .pointer (some ⟨N, 0, none⟩)]] }] (.panicking (gup e)) W := by
  have c0 := hE.cell (i := 0) rfl
  have f0 := hE.fz 0
  have b1 : But (fun k => k = E) W (W.setCell ⟨E, 0, none⟩ (.int .i64 e)) := But.setCell _ _ _ (.inl rfl)
  have hX1 := (b1.same _ hX.lt hXE).trans hX
  have hN1 := (b1.same _ hN.lt hNE).trans hN
  have hE1 := hE.set 0 (.int .i64 e)
  have hfc := first1_c X N hXN k0 n0 s0 b0 l0 m _ hX1 hN1
  refine leaves_cons (f := 29) (args := #[.pointer (some ⟨E, 0, none⟩), .func (.func 30) #[] #[.pointer (some ⟨X, 0, none⟩), .pointer (some ⟨N, 0, none⟩)]]) (by simp) (by have := enters_caught; unfold Enters at this; simp [go_sem, invoke, this]) ?_
  refine (caught_gup E e 0 30 #[.pointer (some ⟨X, 0, none⟩), .pointer (some ⟨N, 0, none⟩)] enters_first1 W c0 f0 hfc).mono ?_
  rintro en u' w'' ⟨rfl, rfl, b2, hX2, hN2⟩
  have hE2 := (b2.same _ hE1.lt (fun h => by rcases h with h | h; exact hXE h.symm; exact hNE h.symm)).trans hE1
  have hfin := hR _ ((b1.mono fun _ _ h => .inr (.inr h)).trans (b2.mono fun _ _ h => by rcases h with h | h; exact .inl h; exact .inr (.inl h)))
  have r0 := hX2.cell (i := 0) (v := .int .i64 0) rfl
  have r1 := hX2.cell (i := 1) (v := .int .u64 0) rfl
  have r2 := hX2.cell (i := 2) (v := .slice none 0 0) rfl
  have r3 := hX2.cell (i := 3) (v := .string ⟨#[]⟩) rfl
  have r4 := hX2.cell (i := 4) (v := .slice none 0 0) rfl
  have q1 := hN2.cell (i := 0) (v := .int .i64 0) rfl
  have q2 : w''.cell? ⟨E, 0, none⟩ = some (.int .i64 e) := RowAt.cell hE2 (i := 0) rfl
  simpa [Leaves, settle, results, Tryd.results10, go_sem, r0, r1, r2, r3, r4, q1, q2] using hfin
end Go.Proofs.YtjenohodgpmchaaDoor

namespace Go.Proofs.YtjenohodgpmchaaDoor
open Go.RowKit Cb
theorem set5 {X : Nat} {T : TypeId} {k0 n0 b0 s0 l0 : Value} {w : World} (hX : RowAt w X #[k0, n0, b0, s0, l0] T) (v0 v1 v2 v3 v4 : Value) :
    RowAt (((((w.setCell ⟨X, 0, none⟩ v0).setCell ⟨X, 1, none⟩ v1).setCell ⟨X, 2, none⟩ v2).setCell ⟨X, 3, none⟩ v3).setCell ⟨X, 4, none⟩ v4) X #[v0, v1, v2, v3, v4] T ∧
    But (fun k => k = X) w (((((w.setCell ⟨X, 0, none⟩ v0).setCell ⟨X, 1, none⟩ v1).setCell ⟨X, 2, none⟩ v2).setCell ⟨X, 3, none⟩ v3).setCell ⟨X, 4, none⟩ v4) := by
  refine ⟨((((hX.set 0 v0).set 1 v1).set 2 v2).set 3 v3).set 4 v4, ?_⟩
  have s1 : But (fun k => k = X) w (w.setCell ⟨X, 0, none⟩ v0) := But.setCell _ _ _ (.inl rfl)
  have s2 : But (fun k => k = X) _ ((w.setCell ⟨X, 0, none⟩ v0).setCell ⟨X, 1, none⟩ v1) := But.setCell _ _ _ (.inl rfl)
  have s3 : But (fun k => k = X) _ (((w.setCell ⟨X, 0, none⟩ v0).setCell ⟨X, 1, none⟩ v1).setCell ⟨X, 2, none⟩ v2) := But.setCell _ _ _ (.inl rfl)
  have s4 : But (fun k => k = X) _ ((((w.setCell ⟨X, 0, none⟩ v0).setCell ⟨X, 1, none⟩ v1).setCell ⟨X, 2, none⟩ v2).setCell ⟨X, 3, none⟩ v3) := But.setCell _ _ _ (.inl rfl)
  have s5 : But (fun k => k = X) _ (((((w.setCell ⟨X, 0, none⟩ v0).setCell ⟨X, 1, none⟩ v1).setCell ⟨X, 2, none⟩ v2).setCell ⟨X, 3, none⟩ v3).setCell ⟨X, 4, none⟩ v4) := But.setCell _ _ _ (.inl rfl)
  exact (((s1.trans s2).trans s3).trans s4).trans s5
end Go.Proofs.YtjenohodgpmchaaDoor

namespace Go.Proofs.YtjenohodgpmchaaDoor
open Go.RowKit Cb
set_option linter.unusedSimpArgs false
set_option linter.unusedVariables false
abbrev TI : TypeId := 28
theorem RdAt.but {w w' : World} {D : Nat} {v : Value} {b : List UInt8} {O : Nat → Prop} (h : RdAt w D v b) (hb : But O w w') (hO : ∀ k, k ≤ D → ¬ O k) : RdAt w' D v b :=
  ⟨(hb.same _ h.box.lt (hO D (Nat.le_refl _))).trans h.box, h.sl.but hb (h.far.imp id fun f k hk => hO k (Nat.le_of_lt (f k hk))), h.far⟩
theorem Tabs.one {w w' : World} {D : Nat} {v : Value} {T : TypeId} (h : Tabs w) (hD : RowAt w D #[v] T) (hb : But (fun k => k = D) w w') : Tabs w' := by
  have n0 : 0 ≠ D := fun e => by
    have := h.1 1 (by decide)
    subst e
    exact absurd this (by simp [World.cell?, show w.heap[_]? = _ from hD])
  have n1 : 1 ≠ D := fun e => by
    have := (h.2 1 (by decide)).1
    subst e
    exact absurd this (by simp [World.cell?, show w.heap[_]? = _ from hD])
  exact ⟨fun c hc => hb.cell (h.1 c hc) n0, fun i hi => ⟨hb.cell (h.2 i hi).1 n1, hb.cell (h.2 i hi).2 n1⟩⟩
theorem itR_flat {S : Nat → Prop} {W : World} {k n : Int} {b : List UInt8} {s : ByteArray} {vb : Value} (h0 : 0 ≤ n) (h1 : n ≤ 18446744073709551615) (hb : SlS S W 1 vb b.length (by8 b)) : ItR S W (.mk k n b s []) ⟨k, n, vb, s, .slice none 0 0⟩ := by
  unfold ItR
  exact ⟨rfl, rfl, rfl, ⟨h0, h1⟩, hb, [], ⟨Sl.nil _ _, .inl rfl⟩, by unfold ItsR; rfl⟩
theorem slS_nil {S : Nat → Prop} {W : World} : SlS S W 1 (.slice none 0 0) ([] : List UInt8).length (by8 []) := ⟨Sl.nil _ _, .inl rfl⟩
/-- What reading an item tells. -/
def ItE (d : Nat) (b : List UInt8) (w : World) (D : Nat) (en : Ending) (w' : World) : Prop :=
  But (fun k => k = D) w w' ∧ match itemP d b with
    | .error e => en = .panicked (gup e)
    | .ok (x, k) => ∃ r v', en = .returned (rwV r) ∧ ItR (fun j => w.heap.size ≤ j ∧ j < w'.heap.size) w' x r ∧ RdAt w' D v' (b.drop k)
theorem itE_ok {d : Nat} {b : List UInt8} {w w' : World} {D : Nat} {x : It} {k : Nat} {r : Rw} {v' : Value} (hp : itemP d b = .ok (x, k)) (hb : But (fun k => k = D) w w') (hr : ItR (fun j => w.heap.size ≤ j ∧ j < w'.heap.size) w' x r) (hR : RdAt w' D v' (b.drop k)) : ItE d b w D (.returned (rwV r)) w' :=
  ⟨hb, by rw [hp]; exact ⟨r, v', rfl, hr, hR⟩⟩
theorem itE_err {d : Nat} {b : List UInt8} {w w' : World} {D : Nat} {e : Int} (hp : itemP d b = .error e) (hb : But (fun k => k = D) w w') : ItE d b w D (.panicked (gup e)) w' := ⟨hb, by rw [hp]⟩
theorem itemP_simple {d : Nat} {b : List UInt8} (k : Nat) (hk : k < 3) (h : Oct.beginsB b [UInt8.ofNat (244 + k)] = true) : itemP (d + 1) b = .ok (if k = 0 then .mk 5 0 [] noS [] else if k = 1 then .mk 5 1 [] noS [] else .mk 6 0 [] noS [], 1) := by
  simp only [itemP, simpleP_at b k hk h]
theorem itemP_head {d : Nat} {b : List UInt8} (h : ∀ j : Nat, j < 3 → Oct.beginsB b [UInt8.ofNat (244 + j)] = false) : itemP (d + 1) b = match headP b with | none => .error 121 | some (m, n, k) => bodyP (itemP d) m n k (b.drop k) := by
  simp only [itemP, simpleP_none h]
  cases headP b <;> rfl
/-- So many items are read. -/
structure LsAt (w0 : World) (d : Nat) (r : List UInt8) (D X : Nat) (j c : Nat) (l : List It) (rows : List Rw) (lv v' : Value) (W : World) : Prop where
  but : But (fun k => k = D) w0 W
  lst : listP (itemP d) j r = .ok (l, c)
  rd : RdAt W D v' (r.drop c)
  box : RowAt W X #[.int .i64 4, .int .u64 0, .slice none 0 0, .string ⟨#[]⟩, lv] TI
  own : W.ownsRow (X + 1) TI 5 lv j (rows.flatMap rwC)
  its : ItsR (fun k => X < k ∧ k < W.heap.size ∧ lv.ownBlock ≠ some k) W l rows
  bx : RowAt W w0.heap.size #[.int .i64 0, .int .u64 0, .slice none 0 0, .string ⟨#[]⟩, .slice none 0 0] TI
theorem rwC_len (r : Rw) : (rwC r).length = 5 := rfl
theorem LsAt.step {w0 : World} {d : Nat} {r : List UInt8} {D X : Nat} {j c : Nat} {l : List It} {rows : List Rw} {lv v' : Value} {W : World} (h : LsAt w0 d r D X j c l rows lv v' W) (hDw : D < w0.heap.size) (hwX : w0.heap.size < X)
    {x : It} {k : Nat} {rr : Rw} {u : Value} {W1 W2 W3 : World} (hx : itemP d (r.drop c) = .ok (x, k)) (h1 : But (fun k => k = D) W W1) (hr : ItR (fun j => W.heap.size ≤ j ∧ j < W1.heap.size) W1 x rr) (hR : RdAt W1 D u ((r.drop c).drop k))
    (h2 : Below W1.heap.size W1 W2) {v3 : Value} (ho : W3.ownsRow (X + 1) TI 5 v3 (j + 1) (rows.flatMap rwC ++ rwC rr)) (h3 : But (fun k => lv.ownBlock = some k) W2 W3) (hb3 : v3.ownBlock = lv.ownBlock ∨ v3.ownBlock = some W2.heap.size) :
    LsAt w0 d r D X (j + 1) (c + k) (l ++ [x]) (rows ++ [rr]) v3 u (W3.setCell ⟨X, 4, none⟩ v3) := by
  have hXW := h.box.lt
  have hs1 := h1.size
  have hs2 := h2.size
  have hs3 := h3.size
  have hlv : ∀ k, lv.ownBlock = some k → X < k ∧ k < W.heap.size := fun k hk => by have := own_of_some h.own hk; omega
  have s4 : But (fun k => k = X) W3 (W3.setCell ⟨X, 4, none⟩ v3) := But.setCell _ _ _ (.inl rfl)
  have hs4 : (W3.setCell ⟨X, 4, none⟩ v3).heap.size = W3.heap.size := by simp [World.setCell]
  have hb13 : But (fun k => lv.ownBlock = some k ∨ k = D) W W3 := (h1.mono fun _ _ e => .inr e).trans (((But.of_below h2).trans (h3.mono fun _ _ e => .inl e)))
  have hb23 : But (fun k => lv.ownBlock = some k) W1 W3 := (But.of_below h2).trans h3
  have hall : But (fun k => k = D) w0 (W3.setCell ⟨X, 4, none⟩ v3) := ((h.but.then hb13 (fun q hq e => by rcases e with e | e; have := hlv q e; omega; exact e))).then s4 (fun q hq e => by omega)
  have hX3 : RowAt W3 X _ TI := (hb13.same _ hXW (fun e => by rcases e with e | e; have := hlv X e; omega; omega)).trans h.box
  have hv3 : ∀ k, v3.ownBlock = some k → X < k := fun k hk => by have := own_of_some ho hk; omega
  refine ⟨hall, listP_snoc _ _ _ _ _ _ h.lst hx, ?_, ?_, ?_, ?_, ?_⟩
  · rw [List.drop_drop] at hR
    exact (hR.but hb23 (fun q hq e => by have := hlv q e; omega)).but s4 (fun q hq e => by omega)
  · exact hX3.set 4 v3
  · rw [List.flatMap_append, List.flatMap_singleton]
    exact own_but ho s4 (fun q hq e => by have := hv3 q hq; omega)
  · refine ItsR.snoc (h.its.turn fun sz v n cs hsl => ?_) (ItR.turn (fun sz v n cs hsl => ?_) _ _ hr)
    · have := ((hsl.but hb13 (fun q hq e => by rcases e with e | e; exact hq.2.2 e; omega)).but s4 (fun q hq e => by omega))
      refine this.mono fun q hq => ⟨hq.1, by rw [hs4]; omega, fun e => ?_⟩
      rcases hb3 with e3 | e3
      · exact hq.2.2 (e3.symm.trans e)
      · have := e3.symm.trans e; have := Option.some.inj this; omega
    · have := ((hsl.but hb23 (fun q hq e => by have := hlv q e; omega)).but s4 (fun q hq e => by omega))
      refine this.mono fun q hq => ⟨by omega, by rw [hs4]; omega, fun e => ?_⟩
      rcases hb3 with e3 | e3
      · have := hlv q (e3.symm.trans e); omega
      · have := e3.symm.trans e; have := Option.some.inj this; omega
  · have e1 := (hb13.same _ h.bx.lt (fun e => by rcases e with e | e; have := hlv _ e; omega; omega)).trans h.bx
    exact (s4.same _ (RowAt.lt e1) (fun e => by omega)).trans e1
theorem LsAt.mk_up {w0 : World} {d : Nat} {r : List UInt8} {D X : Nat} {j c : Nat} {l : List It} {rows : List Rw} {lv v' : Value} {W W' : World} (h : LsAt w0 d r D X j c l rows lv v' W) (hb : Below W.heap.size W W') : LsAt w0 d r D X j c l rows lv v' W' :=
  ⟨h.but.trans (But.of_below hb), h.lst, h.rd.up hb, h.box.below hb, own_up h.own hb, h.its.turn (fun sz v n cs hs => (hs.up hb).mono fun q hq => ⟨hq.1, Nat.lt_of_lt_of_le hq.2.1 hb.size, hq.2.2⟩), h.bx.below hb⟩
end Go.Proofs.YtjenohodgpmchaaDoor
