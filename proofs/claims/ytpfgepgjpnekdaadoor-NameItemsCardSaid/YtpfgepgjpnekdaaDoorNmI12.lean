/-
  NmRq, NmZe, NmLay: several texts in one (bundle.py).
-/
import Derived.Test.YtpfgepgjpnekdaaDoorNmI11
import Derived.Test.YtpfgepgjpnekdaaDoorNmI10
import Derived.Lib.AppendZerosOnto
import Derived.Shelf.Small.Wraps
import Derived.Shelf.Strconv.Itoa3
import Derived.Shelf.Pu.ParseUintPublic10
import Derived.Test.YtpfgepgjpnekdaaDoorNmI01
namespace Go.Proofs.YtpfgepgjpnekdaaDoor
open Go.RowKit Cb
set_option linter.unusedSimpArgs false
set_option linter.unusedVariables false
/-- The numbers of a list. -/
def usT (x : It) : List Int := if x.k = 4 then (x.l.filter (·.k == 1)).map It.n else []
def usK (y : It) : List Int := usT y ++ y.l.flatMap usT
/-- What read collects. -/
def readU (x : It) : List Int := usT x ++ x.l.flatMap usK
theorem usR_it {S : Nat → Prop} {w : World} : ∀ {l : List It} {rows : List Rw}, ItsR S w l rows → usR rows = (l.filter (·.k == 1)).map It.n
  | [], rows, h => by simp only [ItsR] at h; subst h; rfl
  | x :: l, rows, h => by
    simp only [ItsR] at h
    obtain ⟨r, rs, rfl, h1, h2⟩ := h
    obtain ⟨rows, p⟩ := h1.parts
    have ih := usR_it h2
    unfold usR at ih ⊢
    by_cases hk : x.k = 1
    · simp [hk, p.k, p.n, ih]
    · simp [hk, p.k, ih]
theorem usI_it {S : Nat → Prop} {w : World} {x : It} {r : Rw} {rows : List Rw} (p : Parts S w x r rows) : usI r rows = usT x := by
  unfold usI usT
  rw [p.k, usR_it p.each]
theorem usT_len (x : It) : (usT x).length ≤ x.l.length := by
  unfold usT
  split
  · rw [List.length_map]; exact List.length_filter_le _ _
  · simp
theorem cnt_l (x : It) : x.l.length + 1 ≤ cnt x ∧ cntL x.l + 1 ≤ cnt x := by
  cases x with
  | mk k n b s l => have := cntL_len l; simp only [cnt, It.l]; omega
theorem usTs_len : ∀ l : List It, (l.flatMap usT).length + l.length ≤ cntL l
  | [] => by simp [cntL]
  | x :: l => by
    have := usTs_len l; have := usT_len x; have := (cnt_l x).1
    simp only [List.flatMap_cons, List.length_append, List.length_cons, cntL]; omega
theorem usK_len (y : It) : (usK y).length + 1 ≤ cnt y := by
  have := usTs_len y.l; have := usT_len y; have := (cnt_l y).2
  unfold usK
  rw [List.length_append]; omega
theorem usKs_len : ∀ l : List It, (l.flatMap usK).length + l.length ≤ cntL l
  | [] => by simp [cntL]
  | x :: l => by
    have := usKs_len l; have := usK_len x
    simp only [List.flatMap_cons, List.length_append, List.length_cons, cntL]; omega
theorem readU_len (x : It) : (readU x).length ≤ cnt x := by
  have := usKs_len x.l; have := usT_len x; have := (cnt_l x).2
  unfold readU
  rw [List.length_append]; omega
theorem flat_take {α : Type} (f : α → List Int) (l : List α) (j : Nat) : ((l.take j).flatMap f).length ≤ (l.flatMap f).length := by
  conv => rhs; rw [← List.take_append_drop j l]
  rw [List.flatMap_append, List.length_append]; omega
theorem flat_one {α : Type} (f : α → List Int) (l : List α) {j : Nat} (hj : j < l.length) : (l.take (j + 1)).flatMap f = (l.take j).flatMap f ++ f l[j] := by
  rw [List.take_succ_eq_append_getElem hj, List.flatMap_append]; simp
theorem usT_nn {S : Nat → Prop} {w : World} {x : It} {r : Rw} (h : ItR S w x r) : ∀ u ∈ usT x, 0 ≤ u := by
  intro u hu
  obtain ⟨rows, p⟩ := h.parts
  unfold usT at hu
  split at hu
  · obtain ⟨y, hy, rfl⟩ := List.mem_map.1 hu
    obtain ⟨i, hi, rfl⟩ := List.getElem_of_mem (List.mem_filter.1 hy).1
    obtain ⟨rows2, q⟩ := (p.each.get hi (by rw [p.each.len]; exact hi)).parts
    exact q.lo
  · simp at hu
theorem kid {S : Nat → Prop} {w : World} {x y : It} {r : Rw} (h : ItR S w x r) (hy : y ∈ x.l) : ∃ t, ItR S w y t := by
  obtain ⟨rows, p⟩ := h.parts
  obtain ⟨i, hi, rfl⟩ := List.getElem_of_mem hy
  exact ⟨_, p.each.get hi (by rw [p.each.len]; exact hi)⟩
theorem readU_nn {S : Nat → Prop} {w : World} {x : It} {r : Rw} (h : ItR S w x r) : ∀ u ∈ readU x, 0 ≤ u := by
  intro u hu
  unfold readU at hu
  rcases List.mem_append.1 hu with hu | hu
  · exact usT_nn h u hu
  · obtain ⟨y, hy, hu⟩ := List.mem_flatMap.1 hu
    obtain ⟨t, ht⟩ := kid h hy
    unfold usK at hu
    rcases List.mem_append.1 hu with hu | hu
    · exact usT_nn ht u hu
    · obtain ⟨z, hz, hu⟩ := List.mem_flatMap.1 hu
      obtain ⟨s, hs⟩ := kid ht hz
      exact usT_nn hs u hu
/-- The number at a place, or zero. -/
def g5 (U : List Int) (j : Nat) : Nat := (U.getD j 0).toNat
theorem five_of (U : List Int) (h : ∀ u ∈ U, 0 ≤ u) : ∃ R, U ++ [0, 0, 0, 0, 0] = (g5 U 0 : Int) :: (g5 U 1 : Int) :: (g5 U 2 : Int) :: (g5 U 3 : Int) :: (g5 U 4 : Int) :: R := by
  have e : ∀ a : Int, 0 ≤ a → ((a.toNat : Nat) : Int) = a := fun a h => Int.toNat_of_nonneg h
  match U, h with
  | [], h => exact ⟨[], rfl⟩
  | [a], h => have ha := e a (h a (by simp)); exact ⟨[0], by simp [g5, ha]⟩
  | [a, b], h => have ha := e a (h a (by simp)); have hb := e b (h b (by simp)); exact ⟨[0, 0], by simp [g5, ha, hb]⟩
  | [a, b, c], h => have ha := e a (h a (by simp)); have hb := e b (h b (by simp)); have hc := e c (h c (by simp)); exact ⟨[0, 0, 0], by simp [g5, ha, hb, hc]⟩
  | [a, b, c, d], h => have ha := e a (h a (by simp)); have hb := e b (h b (by simp)); have hc := e c (h c (by simp)); have hd := e d (h d (by simp)); exact ⟨[0, 0, 0, 0], by simp [g5, ha, hb, hc, hd]⟩
  | a :: b :: c :: d :: f :: R, h => have ha := e a (h a (by simp)); have hb := e b (h b (by simp)); have hc := e c (h c (by simp)); have hd := e d (h d (by simp)); have hf := e f (h f (by simp)); exact ⟨R ++ [0, 0, 0, 0, 0], by simp [g5, ha, hb, hc, hd, hf]⟩
theorem Parts.but {S : Nat → Prop} {w w' : World} {x : It} {r : Rw} {rows : List Rw} (p : Parts S w x r rows) {O : Nat → Prop} (hb : But O w w') (hO : ∀ k, S k → ¬ O k) : Parts S w' x r rows :=
  ⟨p.k, p.n, p.s, p.lo, p.hi, p.b.but hb hO, p.l.but hb hO, p.each.turn fun _ _ _ _ h => h.but hb hO⟩
/-- On the way through read: what is collected. -/
structure RdI (W0 : World) (base C : Nat) (U : List Int) (W : World) : Prop where
  acc : ∃ v, Acc base C v U W ∧ ∀ k, v.ownBlock = some k → W0.heap.size ≤ k
  but : But (fun k => k = C) W0 W
theorem RdI.up {W0 W W1 : World} {base C : Nat} {U : List Int} (h : RdI W0 base C U W) (hb : Below W.heap.size W W1) : RdI W0 base C U W1 := by
  obtain ⟨v, h1, h2⟩ := h.acc
  exact ⟨⟨v, h1.up hb, h2⟩, h.but.then (But.of_below (O := fun _ => False) hb) (fun _ _ e => e.elim)⟩
/-- What a call of add leaves. -/
def RdE (W0 : World) (base C B : Nat) (U : List Int) (W1 : World) (en : Ending) (W' : World) : Prop := en = .returned (.tuple #[]) ∧ RdI W0 base C U W' ∧ W1.heap.size ≤ W'.heap.size ∧ ∀ k cs T, B ≤ k → RowAt W1 k cs T → RowAt W' k cs T
theorem RdI.add {W0 W W1 : World} {base C : Nat} {U U' : List Int} (h : RdI W0 base C U W) (hb : Below W.heap.size W W1) (hCW : C < W0.heap.size) {v : Value} (hv : Acc base C v U W) (hv2 : ∀ k, v.ownBlock = some k → W0.heap.size ≤ k) {en : Ending} {W' : World} (he : AddE base C v U' W1 en W') : RdE W0 base C W.heap.size U' W1 en W' := by
  obtain ⟨h1, h2, v', h3, h4⟩ := he
  have hs := h.but.size
  have hs2 := hb.size
  have hb1 : But (fun k => k = C) W0 W1 := h.but.then (But.of_below (O := fun _ => False) hb) (fun _ _ e => e.elim)
  refine ⟨h1, ⟨⟨v', h3, fun k hk => ?_⟩, hb1.then h2 fun j hj e => ?_⟩, h2.size, fun k cs T hk hR => h2.obj hR ?_⟩
  · rcases h4 with h4 | h4
    · exact hv2 k (h4 ▸ hk)
    · have := h4 k hk; omega
  · rcases e with e | e
    · exact e
    · have := hv2 j e; omega
  · rintro (e | e)
    · omega
    · have := (own_of_some hv.row e).2; omega
theorem rdE_c (W0 W W1 : World) (base C : Nat) (U : List Int) (y : It) (r : Rw) (rows : List Rw) (h : RdI W0 base C U W) (hb : Below W.heap.size W W1) (hCW : C < W0.heap.size) (hbC : base ≤ C) (p : Parts (fun k => k < base) W0 y r rows) (hlen : U.length + (usT y).length ≤ 1000000) (hs : Shp r) :
    Calls Tryd.prog 88 #[rwV r, .pointer (some ⟨C, 0, none⟩)] W1 (RdE W0 base C W.heap.size (U ++ usT y) W1) := by
  have h1 := h.up hb
  obtain ⟨v, hv, hv2⟩ := h.acc
  have q := p.but h1.but (fun k hk e => by omega)
  have hu := usI_it q
  have hsz := h1.but.size
  rw [← hu] at hlen ⊢
  exact (addE_c r rows _ base C v U W1 (hv.up hb) (by omega) q.l.1 q.each.shp hs q.l.2 hlen).mono fun en W' he => h.add hb hCW hv hv2 he
theorem rdN_c (W0 W W1 : World) (base C : Nat) (U : List Int) (y : It) (r : Rw) (rows : List Rw) (h : RdI W0 base C U W) (hb : Below W.heap.size W W1) (hCW : C < W0.heap.size) (hbC : base ≤ C) (p : Parts (fun k => k < base) W0 y r rows) (hlen : U.length + (usT y).length ≤ 1000000) (hs : Shp r) :
    Calls Tryd.prog 85 #[rwV r, .pointer (some ⟨C, 0, none⟩)] W1 (RdE W0 base C W.heap.size (U ++ usT y) W1) := by
  have h1 := h.up hb
  obtain ⟨v, hv, hv2⟩ := h.acc
  have q := p.but h1.but (fun k hk e => by omega)
  have hu := usI_it q
  have hsz := h1.but.size
  rw [← hu] at hlen ⊢
  exact (addN_c r rows _ base C v U W1 (hv.up hb) (by omega) q.l.1 q.each.shp hs q.l.2 hlen).mono fun en W' he => h.add hb hCW hv hv2 he
end Go.Proofs.YtpfgepgjpnekdaaDoor

namespace Go.Proofs.YtpfgepgjpnekdaaDoor
open Go.RowKit Cb
set_option linter.unusedSimpArgs false
set_option linter.unusedVariables false
abbrev zer5 : List Value := [.int .u64 0, .int .u64 0, .int .u64 0, .int .u64 0, .int .u64 0]
set_option maxRecDepth 100000 in
theorem run_app_zeros {P : Program} {t e tn : TypeId} {kq kn : IntKind} (ht : P.underlying t = some (.slice e)) (htn : P.underlying tn = some (.int kn)) (i : TypeInfo) (hi : P.info? e = some i) (hz : i.zero = some (.int .u64 0)) (hs : i.size = 1) (hb8 : i.bytes = 8) (ty : TypeId) (w : World) (base : Nat) (v : Value) (n : Nat) (xs : List Value)
    (hown : w.ownsRow base e 1 v n xs) (hn : n ≤ 1000000) (hbase : base ≤ w.heap.size) :
    ∃ v' w', (Builtin.append_ #[t, tn] ty #[v, .int kq 5]).run P w = .ok v' w' ∧ w'.ownsRow base e 1 v' (n + 5) (xs ++ zer5) ∧ w.grownBy w' v.ownBlock ∧ (v'.ownBlock = v.ownBlock ∨ v'.ownBlock = some w.heap.size) := by
  have h63 : n + 5 ≤ maxLen := by simp [maxLen]; omega
  have hlen : (xs ++ zer5).length = (n + 5) * 1 := by rw [List.length_append, hown.1]; simp
  have hz5 : Builtin.zeroCells (Value.int .u64 0).cells 5 = zer5.toArray := by kernel_rfl
  have grown : ∀ (old : Nat), old < n + 5 → ∀ (row : Option Nat),
      (w.drew.alloc (.cells (xs.toArray ++ zer5.toArray ++ Builtin.zeroCells (Value.int .u64 0).cells (grownCap w (n + 5) old e - (n + 5))) e)).ownsRow base e 1
        (.slice (some ⟨w.heap.size, 0, none⟩) (n + 5) (grownCap w (n + 5) old e)) (n + 5) (xs ++ zer5) ∧
      w.grownBy (w.drew.alloc (.cells (xs.toArray ++ zer5.toArray ++ Builtin.zeroCells (Value.int .u64 0).cells (grownCap w (n + 5) old e - (n + 5))) e)) row := by
    intro old ho row
    have hge := grownCap_ge w (n + 5) old e
    have hcm : grownCap w (n + 5) old e ≤ maxLen := grownCap_le_maxLen w (n + 5) old e h63
    refine ⟨⟨hlen, .inr ⟨w.heap.size, _, _, rfl, hbase, heap_alloc_new w.drew _, hge, hcm, ?_, ?_⟩⟩, ⟨rfl, rfl, rfl, by simp, fun k hk _ => heap_alloc_old w.drew _ hk⟩⟩
    · simp only [Array.size_append, List.size_toArray, size_zeroCells, hown.1]
      simp [Value.cells]
      omega
    · simp only [Array.toList_append, List.append_assoc]
      rw [← List.append_assoc, ← hlen]
      exact List.take_left
  rcases hown.2 with ⟨rfl, rfl⟩ | ⟨g, cap, cur, rfl, hbg, hg, hnc, hcm, hcs, htake⟩
  · have hx : xs = [] := List.eq_nil_of_length_eq_zero (by simpa using hown.1)
    subst hx
    have hr := Lib.run_append_grow_zeros (P := P) w t tn ty e i (.int .u64 0) kq kn ht htn hi hz none 0 0 [] (by simp [Builtin.firstCells]) 5 (by decide) (by omega) (by decide) (by decide) (by rw [hb8]; decide) (by rw [hb8]; decide)
    have hgr := grown 0 (by omega) (Value.ownBlock (.slice none 0 0))
    rw [hz5] at hr
    exact ⟨_, _, hr, hgr.1, hgr.2, .inr rfl⟩
  · by_cases hroom : n + 5 ≤ cap
    · have hst := run_storeCells_at P g n e zer5 0 cur w hg (by simp; omega) (by simp [Value.oneCell'])
      simp only [Nat.add_zero] at hst
      have hr : (Builtin.append_ #[t, tn] ty #[.slice (some ⟨g, 0, none⟩) n cap, .int kq 5]).run P w = .ok (.slice (some ⟨g, 0, none⟩) (n + 5) cap) (w.setRow g (cur.toList.take n ++ zer5 ++ cur.toList.drop (n + zer5.length)).toArray) := by
        have h1 : (Builtin.zeroCells (Value.int .u64 0).cells 5).toList = zer5 := by rw [hz5]
        have hw5 : IntKind.i64.wrap 5 = 5 := by decide
        simp [Builtin.append_, run_underlying ht, run_underlying htn, sizeOf, typeInfo, zeroValue, hi, hz, hs, hb8, asInt, asIntOf, hw5, hroom, Addr.add_lit, h1, hst]
      refine ⟨_, _, hr, ⟨hlen, .inr ⟨g, cap, _, rfl, hbg, setRow_heap w g cur _ e _ hg, hroom, hcm, ?_, ?_⟩⟩, ⟨rfl, rfl, rfl, by simp, fun k _ hk => setRow_other w g k _ (fun e => hk (by simp [Value.ownBlock, e]))⟩, Or.inl rfl⟩
      · simp only [List.size_toArray, List.length_append, List.length_take, List.length_drop, Array.length_toList]
        simp
        omega
      · rw [Nat.mul_one] at htake
        rw [htake, ← hlen]
        exact List.take_left
    · have holds : ∀ j u, xs[j]? = some u → w.cell? ((⟨g, 0, none⟩ : Addr).add j) = some u := hown.cells (g := g) rfl
      have hf := run_firstCells_some (P := P) w.drew i.size n ⟨g, 0, none⟩ n cap xs (by rw [hs]; exact hown.1) holds
      have hr := Lib.run_append_grow_zeros (P := P) w t tn ty e i (.int .u64 0) kq kn ht htn hi hz (some ⟨g, 0, none⟩) n cap xs hf 5 (by decide) (by omega) (by omega) (by omega) (by rw [hb8]; decide) (growslice_fits (by omega) (by rw [hb8]; omega))
      have hgr := grown cap (by omega) (Value.ownBlock (.slice (some ⟨g, 0, none⟩) n cap))
      rw [hz5] at hr
      exact ⟨_, _, hr, hgr.1, hgr.2, .inr rfl⟩
/-- The operation in a walk. -/
theorem wpList_app_zeros {P : Program} {w : World} {ops : Array Oper} {rest : List Oper} {o : Oper} {a : Act} {Q : Exit → Act → World → Prop} (hgd : o.guard = none) (s x : Operand) (t tn : TypeId)
    (ho : o.op = .call { callee := .builtin .append, args := #[s, x], argTypes := #[t, tn] }) {e : TypeId} {kq kn : IntKind} (ht : P.underlying t = some (.slice e)) (htn : P.underlying tn = some (.int kn)) (i : TypeInfo) (hi : P.info? e = some i) (hz : i.zero = some (.int .u64 0)) (hs1 : i.size = 1) (hb8 : i.bytes = 8)
    (base : Nat) {v : Value} {n : Nat} {xs : List Value} (hs : a.eval s = v) (hown : w.ownsRow base e 1 v n xs) (hx : a.eval x = .int kq 5) (hn : n ≤ 1000000) (hbase : base ≤ w.heap.size)
    (h : ∀ v' w', w'.ownsRow base e 1 v' (n + 5) (xs ++ zer5) → w.grownBy w' v.ownBlock → (v'.ownBlock = v.ownBlock ∨ v'.ownBlock = some w.heap.size) → wpList P ops Q rest (a.put o.dst v') w') : wpList P ops Q (o :: rest) a w := by
  obtain ⟨v', w', hr, h2, h3, h4⟩ := run_app_zeros (kq := kq) ht htn i hi hz hs1 hb8 o.type w base v n xs hown hn hbase
  exact Lib.wpList_append_run w hgd s x t tn ho _ _ hs hx v' w' hr (h v' w' h2 h3 h4)
end Go.Proofs.YtpfgepgjpnekdaaDoor

namespace Go.Proofs.YtpfgepgjpnekdaaDoor
open Go.Shelf
def lays103_ren : Go.Shelf.Ren := ⟨fun | 103 => 80 | 210 => 92 | 206 => 102 | n => n, fun | 9 => 9 | 4 => 4 | 24 => 117 | 3 => 3 | n => n, fun | n => n⟩
theorem lays103 : Go.Proofs.Lays.n103 Tryd.prog lays103_ren := {
  mixed := by kernel_rfl
  f103 := Tryd.func80.trans (congrArg some (by kernel_rfl))
  f206 := Tryd.func102.trans (congrArg some (by kernel_rfl))
  f210 := Tryd.func92.trans (congrArg some (by kernel_rfl))
  t3 := Tryd.underlying3
  a3 := Tryd.isAgg3
  z3 := Tryd.sizeOf3
  v3 := Tryd.zeroValue3
  t4 := Tryd.underlying4
  a4 := Tryd.isAgg4
  z4 := Tryd.sizeOf4
  v4 := Tryd.zeroValue4
  t9 := Tryd.underlying9
  a9 := Tryd.isAgg9
  z9 := Tryd.sizeOf9
  v9 := Tryd.zeroValue9
  t24 := Tryd.underlying117
  a24 := Tryd.isAgg117
  z24 := Tryd.sizeOf117
  v24 := Tryd.zeroValue117 }
def lays283_ren : Go.Shelf.Ren := ⟨fun | 283 => 109 | n => n, fun | 3 => 3 | 9 => 9 | 4 => 4 | n => n, fun | n => n⟩
theorem lays283 : Go.Proofs.Lays.n283 Tryd.prog lays283_ren := {
  mixed := by kernel_rfl
  f283 := Tryd.func109.trans (congrArg some (by kernel_rfl))
  t3 := Tryd.underlying3
  a3 := Tryd.isAgg3
  z3 := Tryd.sizeOf3
  v3 := Tryd.zeroValue3
  t4 := Tryd.underlying4
  a4 := Tryd.isAgg4
  z4 := Tryd.sizeOf4
  v4 := Tryd.zeroValue4
  t9 := Tryd.underlying9
  a9 := Tryd.isAgg9
  z9 := Tryd.sizeOf9
  v9 := Tryd.zeroValue9 }
def laysM284_ren : Go.Shelf.Ren := ⟨fun | 284 => 110 | 129 => 119 | 317 => 118 | 318 => 120 | n => n, fun | 53 => 29 | 3 => 3 | 212 => 160 | 0 => 0 | 4 => 4 | 46 => 142 | 5 => 5 | 9 => 9 | n => n, fun | 17 => 2 | n => n⟩
theorem laysM284 : Go.Proofs.LaysM.n284 Tryd.prog laysM284_ren := {
  mixed := by kernel_rfl
  f129 := Tryd.func119.trans (congrArg some (by kernel_rfl))
  f284 := Tryd.func110.trans (congrArg some (by kernel_rfl))
  f317 := Tryd.func118.trans (congrArg some (by kernel_rfl))
  f318 := Tryd.func120.trans (congrArg some (by kernel_rfl))
  t0 := Tryd.underlying0
  a0 := Tryd.isAgg0
  z0 := Tryd.sizeOf0
  v0 := Tryd.zeroValue0
  t3 := Tryd.underlying3
  a3 := Tryd.isAgg3
  z3 := Tryd.sizeOf3
  v3 := Tryd.zeroValue3
  t4 := Tryd.underlying4
  a4 := Tryd.isAgg4
  z4 := Tryd.sizeOf4
  v4 := Tryd.zeroValue4
  t5 := Tryd.underlying5
  a5 := Tryd.isAgg5
  z5 := Tryd.sizeOf5
  v5 := Tryd.zeroValue5
  t9 := Tryd.underlying9
  a9 := Tryd.isAgg9
  z9 := Tryd.sizeOf9
  v9 := Tryd.zeroValue9
  t46 := Tryd.underlying142
  a46 := Tryd.isAgg142
  z46 := Tryd.sizeOf142
  v46 := Tryd.zeroValue142
  t53 := Tryd.underlying29
  a53 := Tryd.isAgg29
  z53 := Tryd.sizeOf29
  v53 := Tryd.zeroValue29
  t212 := Tryd.underlying160
  a212 := Tryd.isAgg160
  z212 := Tryd.sizeOf160
  v212 := Tryd.zeroValue160
  g17 := by kernel_rfl
  i0 := by kernel_rfl
  i3 := by kernel_rfl
  i4 := by kernel_rfl
  i5 := by kernel_rfl
  i9 := by kernel_rfl
  i46 := by kernel_rfl
  i53 := by kernel_rfl
  i212 := by kernel_rfl
  m17 := by kernel_rfl }
def lays285_ren : Go.Shelf.Ren := ⟨fun | 285 => 111 | n => n, fun | 37 => 45 | 53 => 29 | 3 => 3 | 4 => 4 | 51 => 23 | 9 => 9 | 5 => 5 | 0 => 0 | n => n, fun | n => n⟩
theorem lays285 : Go.Proofs.Lays.n285 Tryd.prog lays285_ren := {
  mixed := by kernel_rfl
  f285 := Tryd.func111.trans (congrArg some (by kernel_rfl))
  t0 := Tryd.underlying0
  a0 := Tryd.isAgg0
  z0 := Tryd.sizeOf0
  v0 := Tryd.zeroValue0
  t3 := Tryd.underlying3
  a3 := Tryd.isAgg3
  z3 := Tryd.sizeOf3
  v3 := Tryd.zeroValue3
  t4 := Tryd.underlying4
  a4 := Tryd.isAgg4
  z4 := Tryd.sizeOf4
  v4 := Tryd.zeroValue4
  t5 := Tryd.underlying5
  a5 := Tryd.isAgg5
  z5 := Tryd.sizeOf5
  v5 := Tryd.zeroValue5
  t9 := Tryd.underlying9
  a9 := Tryd.isAgg9
  z9 := Tryd.sizeOf9
  v9 := Tryd.zeroValue9
  t37 := Tryd.underlying45
  a37 := Tryd.isAgg45
  z37 := Tryd.sizeOf45
  v37 := Tryd.zeroValue45
  t51 := Tryd.underlying23
  a51 := Tryd.isAgg23
  z51 := Tryd.sizeOf23
  v51 := Tryd.zeroValue23
  t53 := Tryd.underlying29
  a53 := Tryd.isAgg29
  z53 := Tryd.sizeOf29
  v53 := Tryd.zeroValue29 }
def laysPu14_ren : Go.Shelf.Ren := ⟨fun | 14 => 81 | 16 => 93 | 17 => 94 | 19 => 103 | 20 => 104 | 21 => 105 | 22 => 106 | 23 => 107 | 24 => 108 | 25 => 115 | 27 => 117 | 26 => 116 | 28 => 124 | 29 => 128 | 30 => 109 | 31 => 110 | 32 => 111 | 33 => 112 | 35 => 119 | 34 => 118 | 36 => 120 | 37 => 121 | 38 => 122 | 39 => 125 | 40 => 126 | n => n, fun | 9 => 9 | 3 => 3 | 22 => 29 | 24 => 121 | 25 => 122 | 4 => 4 | 34 => 140 | 5 => 5 | 36 => 142 | 37 => 45 | 0 => 0 | 39 => 143 | 21 => 21 | 44 => 156 | 47 => 164 | 50 => 167 | 48 => 165 | 2 => 2 | 52 => 147 | 55 => 150 | 59 => 160 | 60 => 23 | 20 => 20 | 61 => 161 | 65 => 170 | 66 => 171 | 67 => 87 | n => n, fun | 0 => 0 | 1 => 1 | 2 => 2 | 3 => 3 | 4 => 4 | n => n⟩
theorem laysPu14 : Go.Proofs.LaysPu.n14 Tryd.prog laysPu14_ren := {
  mixed := by kernel_rfl
  f14 := Tryd.func81.trans (congrArg some (by kernel_rfl))
  f16 := Tryd.func93.trans (congrArg some (by kernel_rfl))
  f17 := Tryd.func94.trans (congrArg some (by kernel_rfl))
  f19 := Tryd.func103.trans (congrArg some (by kernel_rfl))
  f20 := Tryd.func104.trans (congrArg some (by kernel_rfl))
  f21 := Tryd.func105.trans (congrArg some (by kernel_rfl))
  f22 := Tryd.func106.trans (congrArg some (by kernel_rfl))
  f23 := Tryd.func107.trans (congrArg some (by kernel_rfl))
  f24 := Tryd.func108.trans (congrArg some (by kernel_rfl))
  f25 := Tryd.func115.trans (congrArg some (by kernel_rfl))
  f26 := Tryd.func116.trans (congrArg some (by kernel_rfl))
  f27 := Tryd.func117.trans (congrArg some (by kernel_rfl))
  f28 := Tryd.func124.trans (congrArg some (by kernel_rfl))
  f29 := Tryd.func128.trans (congrArg some (by kernel_rfl))
  f30 := Tryd.func109.trans (congrArg some (by kernel_rfl))
  f31 := Tryd.func110.trans (congrArg some (by kernel_rfl))
  f32 := Tryd.func111.trans (congrArg some (by kernel_rfl))
  f33 := Tryd.func112.trans (congrArg some (by kernel_rfl))
  f34 := Tryd.func118.trans (congrArg some (by kernel_rfl))
  f35 := Tryd.func119.trans (congrArg some (by kernel_rfl))
  f36 := Tryd.func120.trans (congrArg some (by kernel_rfl))
  f37 := Tryd.func121.trans (congrArg some (by kernel_rfl))
  f38 := Tryd.func122.trans (congrArg some (by kernel_rfl))
  f39 := Tryd.func125.trans (congrArg some (by kernel_rfl))
  f40 := Tryd.func126.trans (congrArg some (by kernel_rfl))
  t0 := Tryd.underlying0
  a0 := Tryd.isAgg0
  z0 := Tryd.sizeOf0
  v0 := Tryd.zeroValue0
  i0 := by kernel_rfl
  t2 := Tryd.underlying2
  a2 := Tryd.isAgg2
  z2 := Tryd.sizeOf2
  v2 := Tryd.zeroValue2
  i2 := by kernel_rfl
  t3 := Tryd.underlying3
  a3 := Tryd.isAgg3
  z3 := Tryd.sizeOf3
  v3 := Tryd.zeroValue3
  i3 := by kernel_rfl
  t4 := Tryd.underlying4
  a4 := Tryd.isAgg4
  z4 := Tryd.sizeOf4
  v4 := Tryd.zeroValue4
  i4 := by kernel_rfl
  t5 := Tryd.underlying5
  a5 := Tryd.isAgg5
  z5 := Tryd.sizeOf5
  v5 := Tryd.zeroValue5
  i5 := by kernel_rfl
  t9 := Tryd.underlying9
  a9 := Tryd.isAgg9
  z9 := Tryd.sizeOf9
  v9 := Tryd.zeroValue9
  i9 := by kernel_rfl
  t20 := Tryd.underlying20
  a20 := Tryd.isAgg20
  z20 := Tryd.sizeOf20
  v20 := Tryd.zeroValue20
  i20 := by kernel_rfl
  t21 := Tryd.underlying21
  a21 := Tryd.isAgg21
  z21 := Tryd.sizeOf21
  v21 := Tryd.zeroValue21
  i21 := by kernel_rfl
  t22 := Tryd.underlying29
  a22 := Tryd.isAgg29
  z22 := Tryd.sizeOf29
  v22 := Tryd.zeroValue29
  i22 := by kernel_rfl
  t24 := Tryd.underlying121
  a24 := Tryd.isAgg121
  z24 := Tryd.sizeOf121
  v24 := Tryd.zeroValue121
  i24 := by kernel_rfl
  t25 := Tryd.underlying122
  a25 := Tryd.isAgg122
  z25 := Tryd.sizeOf122
  v25 := Tryd.zeroValue122
  i25 := by kernel_rfl
  t34 := Tryd.underlying140
  a34 := Tryd.isAgg140
  z34 := Tryd.sizeOf140
  v34 := Tryd.zeroValue140
  i34 := by kernel_rfl
  c34 := by kernel_rfl
  t36 := Tryd.underlying142
  a36 := Tryd.isAgg142
  z36 := Tryd.sizeOf142
  v36 := Tryd.zeroValue142
  i36 := by kernel_rfl
  t37 := Tryd.underlying45
  a37 := Tryd.isAgg45
  z37 := Tryd.sizeOf45
  v37 := Tryd.zeroValue45
  i37 := by kernel_rfl
  t39 := Tryd.underlying143
  a39 := Tryd.isAgg143
  z39 := Tryd.sizeOf143
  v39 := Tryd.zeroValue143
  i39 := by kernel_rfl
  t44 := Tryd.underlying156
  a44 := Tryd.isAgg156
  z44 := Tryd.sizeOf156
  v44 := Tryd.zeroValue156
  i44 := by kernel_rfl
  t47 := Tryd.underlying164
  a47 := Tryd.isAgg164
  z47 := Tryd.sizeOf164
  v47 := Tryd.zeroValue164
  i47 := by kernel_rfl
  t48 := Tryd.underlying165
  a48 := Tryd.isAgg165
  z48 := Tryd.sizeOf165
  v48 := Tryd.zeroValue165
  i48 := by kernel_rfl
  t50 := Tryd.underlying167
  a50 := Tryd.isAgg167
  z50 := Tryd.sizeOf167
  v50 := Tryd.zeroValue167
  i50 := by kernel_rfl
  t52 := Tryd.underlying147
  a52 := Tryd.isAgg147
  z52 := Tryd.sizeOf147
  v52 := Tryd.zeroValue147
  i52 := by kernel_rfl
  t55 := Tryd.underlying150
  a55 := Tryd.isAgg150
  z55 := Tryd.sizeOf150
  v55 := Tryd.zeroValue150
  i55 := by kernel_rfl
  t59 := Tryd.underlying160
  a59 := Tryd.isAgg160
  z59 := Tryd.sizeOf160
  v59 := Tryd.zeroValue160
  i59 := by kernel_rfl
  t60 := Tryd.underlying23
  a60 := Tryd.isAgg23
  z60 := Tryd.sizeOf23
  v60 := Tryd.zeroValue23
  i60 := by kernel_rfl
  t61 := Tryd.underlying161
  a61 := Tryd.isAgg161
  z61 := Tryd.sizeOf161
  t65 := Tryd.underlying170
  a65 := Tryd.isAgg170
  z65 := Tryd.sizeOf170
  v65 := Tryd.zeroValue170
  i65 := by kernel_rfl
  t66 := Tryd.underlying171
  a66 := Tryd.isAgg171
  z66 := Tryd.sizeOf171
  v66 := Tryd.zeroValue171
  i66 := by kernel_rfl
  t67 := Tryd.underlying87
  a67 := Tryd.isAgg87
  z67 := Tryd.sizeOf87
  v67 := Tryd.zeroValue87
  i67 := by kernel_rfl
  g0 := by kernel_rfl
  m0 := by kernel_rfl
  g1 := by kernel_rfl
  m1 := by kernel_rfl
  g2 := by kernel_rfl
  m2 := by kernel_rfl
  g3 := by kernel_rfl
  m3 := by kernel_rfl
  g4 := by kernel_rfl
  m4 := by kernel_rfl }
end Go.Proofs.YtpfgepgjpnekdaaDoor
