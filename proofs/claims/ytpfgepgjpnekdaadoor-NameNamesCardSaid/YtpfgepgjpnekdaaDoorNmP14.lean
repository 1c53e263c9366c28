/-
  NmRq, NmZe: several texts in one (bundle.py).
-/
import Derived.Test.YtpfgepgjpnekdaaDoorNmP13
import Derived.Test.YtpfgepgjpnekdaaDoorNmP12
import Derived.Lib.AppendZerosOnto
namespace Go.Proofs.YtpfgepgjpnekdaaDoor
open Go.RowKit Cb
set_option linter.unusedSimpArgs false
set_option linter.unusedVariables false
/-- The numbers of a list. -/
def usT (x : It) : List Int := if x.k = 4 then (x.l.filter (·.k == 1)).map It.n else []
def usK (y : It) : List Int := usT y ++ y.l.flatMap usT
/-- What read collects. -/
def readU (x : It) : List Int := usT x ++ x.l.flatMap usK
theorem usR_it {S : Nat → Prop} {w : World} : ∀ {l : List It} {rows : List Rw}, ItsR S w l rows → usR rows = (l.filter (·.k == 1)).map It.n
  | [], rows, h => by simp only [ItsR] at h; subst h; rfl
  | x :: l, rows, h => by
    simp only [ItsR] at h
    obtain ⟨r, rs, rfl, h1, h2⟩ := h
    obtain ⟨rows, p⟩ := h1.parts
    have ih := usR_it h2
    unfold usR at ih ⊢
    by_cases hk : x.k = 1
    · simp [hk, p.k, p.n, ih]
    · simp [hk, p.k, ih]
theorem usI_it {S : Nat → Prop} {w : World} {x : It} {r : Rw} {rows : List Rw} (p : Parts S w x r rows) : usI r rows = usT x := by
  unfold usI usT
  rw [p.k, usR_it p.each]
theorem usT_len (x : It) : (usT x).length ≤ x.l.length := by
  unfold usT
  split
  · rw [List.length_map]; exact List.length_filter_le _ _
  · simp
theorem cnt_l (x : It) : x.l.length + 1 ≤ cnt x ∧ cntL x.l + 1 ≤ cnt x := by
  cases x with
  | mk k n b s l => have := cntL_len l; simp only [cnt, It.l]; omega
theorem usTs_len : ∀ l : List It, (l.flatMap usT).length + l.length ≤ cntL l
  | [] => by simp [cntL]
  | x :: l => by
    have := usTs_len l; have := usT_len x; have := (cnt_l x).1
    simp only [List.flatMap_cons, List.length_append, List.length_cons, cntL]; omega
theorem usK_len (y : It) : (usK y).length + 1 ≤ cnt y := by
  have := usTs_len y.l; have := usT_len y; have := (cnt_l y).2
  unfold usK
  rw [List.length_append]; omega
theorem usKs_len : ∀ l : List It, (l.flatMap usK).length + l.length ≤ cntL l
  | [] => by simp [cntL]
  | x :: l => by
    have := usKs_len l; have := usK_len x
    simp only [List.flatMap_cons, List.length_append, List.length_cons, cntL]; omega
theorem readU_len (x : It) : (readU x).length ≤ cnt x := by
  have := usKs_len x.l; have := usT_len x; have := (cnt_l x).2
  unfold readU
  rw [List.length_append]; omega
theorem flat_take {α : Type} (f : α → List Int) (l : List α) (j : Nat) : ((l.take j).flatMap f).length ≤ (l.flatMap f).length := by
  conv => rhs; rw [← List.take_append_drop j l]
  rw [List.flatMap_append, List.length_append]; omega
theorem flat_one {α : Type} (f : α → List Int) (l : List α) {j : Nat} (hj : j < l.length) : (l.take (j + 1)).flatMap f = (l.take j).flatMap f ++ f l[j] := by
  rw [List.take_succ_eq_append_getElem hj, List.flatMap_append]; simp
theorem usT_nn {S : Nat → Prop} {w : World} {x : It} {r : Rw} (h : ItR S w x r) : ∀ u ∈ usT x, 0 ≤ u := by
  intro u hu
  obtain ⟨rows, p⟩ := h.parts
  unfold usT at hu
  split at hu
  · obtain ⟨y, hy, rfl⟩ := List.mem_map.1 hu
    obtain ⟨i, hi, rfl⟩ := List.getElem_of_mem (List.mem_filter.1 hy).1
    obtain ⟨rows2, q⟩ := (p.each.get hi (by rw [p.each.len]; exact hi)).parts
    exact q.lo
  · simp at hu
theorem kid {S : Nat → Prop} {w : World} {x y : It} {r : Rw} (h : ItR S w x r) (hy : y ∈ x.l) : ∃ t, ItR S w y t := by
  obtain ⟨rows, p⟩ := h.parts
  obtain ⟨i, hi, rfl⟩ := List.getElem_of_mem hy
  exact ⟨_, p.each.get hi (by rw [p.each.len]; exact hi)⟩
theorem readU_nn {S : Nat → Prop} {w : World} {x : It} {r : Rw} (h : ItR S w x r) : ∀ u ∈ readU x, 0 ≤ u := by
  intro u hu
  unfold readU at hu
  rcases List.mem_append.1 hu with hu | hu
  · exact usT_nn h u hu
  · obtain ⟨y, hy, hu⟩ := List.mem_flatMap.1 hu
    obtain ⟨t, ht⟩ := kid h hy
    unfold usK at hu
    rcases List.mem_append.1 hu with hu | hu
    · exact usT_nn ht u hu
    · obtain ⟨z, hz, hu⟩ := List.mem_flatMap.1 hu
      obtain ⟨s, hs⟩ := kid ht hz
      exact usT_nn hs u hu
/-- The number at a place, or zero. -/
def g5 (U : List Int) (j : Nat) : Nat := (U.getD j 0).toNat
theorem five_of (U : List Int) (h : ∀ u ∈ U, 0 ≤ u) : ∃ R, U ++ [0, 0, 0, 0, 0] = (g5 U 0 : Int) :: (g5 U 1 : Int) :: (g5 U 2 : Int) :: (g5 U 3 : Int) :: (g5 U 4 : Int) :: R := by
  have e : ∀ a : Int, 0 ≤ a → ((a.toNat : Nat) : Int) = a := fun a h => Int.toNat_of_nonneg h
  match U, h with
  | [], h => exact ⟨[], rfl⟩
  | [a], h => have ha := e a (h a (by simp)); exact ⟨[0], by simp [g5, ha]⟩
  | [a, b], h => have ha := e a (h a (by simp)); have hb := e b (h b (by simp)); exact ⟨[0, 0], by simp [g5, ha, hb]⟩
  | [a, b, c], h => have ha := e a (h a (by simp)); have hb := e b (h b (by simp)); have hc := e c (h c (by simp)); exact ⟨[0, 0, 0], by simp [g5, ha, hb, hc]⟩
  | [a, b, c, d], h => have ha := e a (h a (by simp)); have hb := e b (h b (by simp)); have hc := e c (h c (by simp)); have hd := e d (h d (by simp)); exact ⟨[0, 0, 0, 0], by simp [g5, ha, hb, hc, hd]⟩
  | a :: b :: c :: d :: f :: R, h => have ha := e a (h a (by simp)); have hb := e b (h b (by simp)); have hc := e c (h c (by simp)); have hd := e d (h d (by simp)); have hf := e f (h f (by simp)); exact ⟨R ++ [0, 0, 0, 0, 0], by simp [g5, ha, hb, hc, hd, hf]⟩
theorem Parts.but {S : Nat → Prop} {w w' : World} {x : It} {r : Rw} {rows : List Rw} (p : Parts S w x r rows) {O : Nat → Prop} (hb : But O w w') (hO : ∀ k, S k → ¬ O k) : Parts S w' x r rows :=
  ⟨p.k, p.n, p.s, p.lo, p.hi, p.b.but hb hO, p.l.but hb hO, p.each.turn fun _ _ _ _ h => h.but hb hO⟩
/-- On the way through read: what is collected. -/
structure RdI (W0 : World) (base C : Nat) (U : List Int) (W : World) : Prop where
  acc : ∃ v, Acc base C v U W ∧ ∀ k, v.ownBlock = some k → W0.heap.size ≤ k
  but : But (fun k => k = C) W0 W
theorem RdI.up {W0 W W1 : World} {base C : Nat} {U : List Int} (h : RdI W0 base C U W) (hb : Below W.heap.size W W1) : RdI W0 base C U W1 := by
  obtain ⟨v, h1, h2⟩ := h.acc
  exact ⟨⟨v, h1.up hb, h2⟩, h.but.then (But.of_below (O := fun _ => False) hb) (fun _ _ e => e.elim)⟩
/-- What a call of add leaves. -/
def RdE (W0 : World) (base C B : Nat) (U : List Int) (W1 : World) (en : Ending) (W' : World) : Prop := en = .returned (.tuple #[]) ∧ RdI W0 base C U W' ∧ W1.heap.size ≤ W'.heap.size ∧ ∀ k cs T, B ≤ k → RowAt W1 k cs T → RowAt W' k cs T
theorem RdI.add {W0 W W1 : World} {base C : Nat} {U U' : List Int} (h : RdI W0 base C U W) (hb : Below W.heap.size W W1) (hCW : C < W0.heap.size) {v : Value} (hv : Acc base C v U W) (hv2 : ∀ k, v.ownBlock = some k → W0.heap.size ≤ k) {en : Ending} {W' : World} (he : AddE base C v U' W1 en W') : RdE W0 base C W.heap.size U' W1 en W' := by
  obtain ⟨h1, h2, v', h3, h4⟩ := he
  have hs := h.but.size
  have hs2 := hb.size
  have hb1 : But (fun k => k = C) W0 W1 := h.but.then (But.of_below (O := fun _ => False) hb) (fun _ _ e => e.elim)
  refine ⟨h1, ⟨⟨v', h3, fun k hk => ?_⟩, hb1.then h2 fun j hj e => ?_⟩, h2.size, fun k cs T hk hR => h2.obj hR ?_⟩
  · rcases h4 with h4 | h4
    · exact hv2 k (h4 ▸ hk)
    · have := h4 k hk; omega
  · rcases e with e | e
    · exact e
    · have := hv2 j e; omega
  · rintro (e | e)
    · omega
    · have := (own_of_some hv.row e).2; omega
theorem rdE_c (W0 W W1 : World) (base C : Nat) (U : List Int) (y : It) (r : Rw) (rows : List Rw) (h : RdI W0 base C U W) (hb : Below W.heap.size W W1) (hCW : C < W0.heap.size) (hbC : base ≤ C) (p : Parts (fun k => k < base) W0 y r rows) (hlen : U.length + (usT y).length ≤ 1000000) (hs : Shp r) :
    Calls Tryd.prog 88 #[rwV r, .pointer (some ⟨C, 0, none⟩)] W1 (RdE W0 base C W.heap.size (U ++ usT y) W1) := by
  have h1 := h.up hb
  obtain ⟨v, hv, hv2⟩ := h.acc
  have q := p.but h1.but (fun k hk e => by omega)
  have hu := usI_it q
  have hsz := h1.but.size
  rw [← hu] at hlen ⊢
  exact (addE_c r rows _ base C v U W1 (hv.up hb) (by omega) q.l.1 q.each.shp hs q.l.2 hlen).mono fun en W' he => h.add hb hCW hv hv2 he
theorem rdN_c (W0 W W1 : World) (base C : Nat) (U : List Int) (y : It) (r : Rw) (rows : List Rw) (h : RdI W0 base C U W) (hb : Below W.heap.size W W1) (hCW : C < W0.heap.size) (hbC : base ≤ C) (p : Parts (fun k => k < base) W0 y r rows) (hlen : U.length + (usT y).length ≤ 1000000) (hs : Shp r) :
    Calls Tryd.prog 85 #[rwV r, .pointer (some ⟨C, 0, none⟩)] W1 (RdE W0 base C W.heap.size (U ++ usT y) W1) := by
  have h1 := h.up hb
  obtain ⟨v, hv, hv2⟩ := h.acc
  have q := p.but h1.but (fun k hk e => by omega)
  have hu := usI_it q
  have hsz := h1.but.size
  rw [← hu] at hlen ⊢
  exact (addN_c r rows _ base C v U W1 (hv.up hb) (by omega) q.l.1 q.each.shp hs q.l.2 hlen).mono fun en W' he => h.add hb hCW hv hv2 he
end Go.Proofs.YtpfgepgjpnekdaaDoor

namespace Go.Proofs.YtpfgepgjpnekdaaDoor
open Go.RowKit Cb
set_option linter.unusedSimpArgs false
set_option linter.unusedVariables false
abbrev zer5 : List Value := [.int .u64 0, .int .u64 0, .int .u64 0, .int .u64 0, .int .u64 0]
set_option maxRecDepth 100000 in
theorem run_app_zeros {P : Program} {t e tn : TypeId} {kq kn : IntKind} (ht : P.underlying t = some (.slice e)) (htn : P.underlying tn = some (.int kn)) (i : TypeInfo) (hi : P.info? e = some i) (hz : i.zero = some (.int .u64 0)) (hs : i.size = 1) (hb8 : i.bytes = 8) (ty : TypeId) (w : World) (base : Nat) (v : Value) (n : Nat) (xs : List Value)
    (hown : w.ownsRow base e 1 v n xs) (hn : n ≤ 1000000) (hbase : base ≤ w.heap.size) :
    ∃ v' w', (Builtin.append_ #[t, tn] ty #[v, .int kq 5]).run P w = .ok v' w' ∧ w'.ownsRow base e 1 v' (n + 5) (xs ++ zer5) ∧ w.grownBy w' v.ownBlock ∧ (v'.ownBlock = v.ownBlock ∨ v'.ownBlock = some w.heap.size) := by
  have h63 : n + 5 ≤ maxLen := by simp [maxLen]; omega
  have hlen : (xs ++ zer5).length = (n + 5) * 1 := by rw [List.length_append, hown.1]; simp
  have hz5 : Builtin.zeroCells (Value.int .u64 0).cells 5 = zer5.toArray := by kernel_rfl
  have grown : ∀ (old : Nat), old < n + 5 → ∀ (row : Option Nat),
      (w.drew.alloc (.cells (xs.toArray ++ zer5.toArray ++ Builtin.zeroCells (Value.int .u64 0).cells (grownCap w (n + 5) old e - (n + 5))) e)).ownsRow base e 1
        (.slice (some ⟨w.heap.size, 0, none⟩) (n + 5) (grownCap w (n + 5) old e)) (n + 5) (xs ++ zer5) ∧
      w.grownBy (w.drew.alloc (.cells (xs.toArray ++ zer5.toArray ++ Builtin.zeroCells (Value.int .u64 0).cells (grownCap w (n + 5) old e - (n + 5))) e)) row := by
    intro old ho row
    have hge := grownCap_ge w (n + 5) old e
    have hcm : grownCap w (n + 5) old e ≤ maxLen := grownCap_le_maxLen w (n + 5) old e h63
    refine ⟨⟨hlen, .inr ⟨w.heap.size, _, _, rfl, hbase, heap_alloc_new w.drew _, hge, hcm, ?_, ?_⟩⟩, ⟨rfl, rfl, rfl, by simp, fun k hk _ => heap_alloc_old w.drew _ hk⟩⟩
    · simp only [Array.size_append, List.size_toArray, size_zeroCells, hown.1]
      simp [Value.cells]
      omega
    · simp only [Array.toList_append, List.append_assoc]
      rw [← List.append_assoc, ← hlen]
      exact List.take_left
  rcases hown.2 with ⟨rfl, rfl⟩ | ⟨g, cap, cur, rfl, hbg, hg, hnc, hcm, hcs, htake⟩
  · have hx : xs = [] := List.eq_nil_of_length_eq_zero (by simpa using hown.1)
    subst hx
    have hr := Lib.run_append_grow_zeros (P := P) w t tn ty e i (.int .u64 0) kq kn ht htn hi hz none 0 0 [] (by simp [Builtin.firstCells]) 5 (by decide) (by omega) (by decide) (by decide) (by rw [hb8]; decide) (by rw [hb8]; decide)
    have hgr := grown 0 (by omega) (Value.ownBlock (.slice none 0 0))
    rw [hz5] at hr
    exact ⟨_, _, hr, hgr.1, hgr.2, .inr rfl⟩
  · by_cases hroom : n + 5 ≤ cap
    · have hst := run_storeCells_at P g n e zer5 0 cur w hg (by simp; omega) (by simp [Value.oneCell'])
      simp only [Nat.add_zero] at hst
      have hr : (Builtin.append_ #[t, tn] ty #[.slice (some ⟨g, 0, none⟩) n cap, .int kq 5]).run P w = .ok (.slice (some ⟨g, 0, none⟩) (n + 5) cap) (w.setRow g (cur.toList.take n ++ zer5 ++ cur.toList.drop (n + zer5.length)).toArray) := by
        have h1 : (Builtin.zeroCells (Value.int .u64 0).cells 5).toList = zer5 := by rw [hz5]
        have hw5 : IntKind.i64.wrap 5 = 5 := by decide
        simp [Builtin.append_, run_underlying ht, run_underlying htn, sizeOf, typeInfo, zeroValue, hi, hz, hs, hb8, asInt, asIntOf, hw5, hroom, Addr.add_lit, h1, hst]
      refine ⟨_, _, hr, ⟨hlen, .inr ⟨g, cap, _, rfl, hbg, setRow_heap w g cur _ e _ hg, hroom, hcm, ?_, ?_⟩⟩, ⟨rfl, rfl, rfl, by simp, fun k _ hk => setRow_other w g k _ (fun e => hk (by simp [Value.ownBlock, e]))⟩, Or.inl rfl⟩
      · simp only [List.size_toArray, List.length_append, List.length_take, List.length_drop, Array.length_toList]
        simp
        omega
      · rw [Nat.mul_one] at htake
        rw [htake, ← hlen]
        exact List.take_left
    · have holds : ∀ j u, xs[j]? = some u → w.cell? ((⟨g, 0, none⟩ : Addr).add j) = some u := hown.cells (g := g) rfl
      have hf := run_firstCells_some (P := P) w.drew i.size n ⟨g, 0, none⟩ n cap xs (by rw [hs]; exact hown.1) holds
      have hr := Lib.run_append_grow_zeros (P := P) w t tn ty e i (.int .u64 0) kq kn ht htn hi hz (some ⟨g, 0, none⟩) n cap xs hf 5 (by decide) (by omega) (by omega) (by omega) (by rw [hb8]; decide) (growslice_fits (by omega) (by rw [hb8]; omega))
      have hgr := grown cap (by omega) (Value.ownBlock (.slice (some ⟨g, 0, none⟩) n cap))
      rw [hz5] at hr
      exact ⟨_, _, hr, hgr.1, hgr.2, .inr rfl⟩
/-- The operation in a walk. -/
theorem wpList_app_zeros {P : Program} {w : World} {ops : Array Oper} {rest : List Oper} {o : Oper} {a : Act} {Q : Exit → Act → World → Prop} (hgd : o.guard = none) (s x : Operand) (t tn : TypeId)
    (ho : o.op = .call { callee := .builtin .append, args := #[s, x], argTypes := #[t, tn] }) {e : TypeId} {kq kn : IntKind} (ht : P.underlying t = some (.slice e)) (htn : P.underlying tn = some (.int kn)) (i : TypeInfo) (hi : P.info? e = some i) (hz : i.zero = some (.int .u64 0)) (hs1 : i.size = 1) (hb8 : i.bytes = 8)
    (base : Nat) {v : Value} {n : Nat} {xs : List Value} (hs : a.eval s = v) (hown : w.ownsRow base e 1 v n xs) (hx : a.eval x = .int kq 5) (hn : n ≤ 1000000) (hbase : base ≤ w.heap.size)
    (h : ∀ v' w', w'.ownsRow base e 1 v' (n + 5) (xs ++ zer5) → w.grownBy w' v.ownBlock → (v'.ownBlock = v.ownBlock ∨ v'.ownBlock = some w.heap.size) → wpList P ops Q rest (a.put o.dst v') w') : wpList P ops Q (o :: rest) a w := by
  obtain ⟨v', w', hr, h2, h3, h4⟩ := run_app_zeros (kq := kq) ht htn i hi hz hs1 hb8 o.type w base v n xs hown hn hbase
  exact Lib.wpList_append_run w hgd s x t tn ho _ _ hs hx v' w' hr (h v' w' h2 h3 h4)
end Go.Proofs.YtpfgepgjpnekdaaDoor
