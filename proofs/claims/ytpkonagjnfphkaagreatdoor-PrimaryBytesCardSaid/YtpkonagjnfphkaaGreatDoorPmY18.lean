/-
  NmRq, NmZe, NmLay, NmDig, NmCut, NmFmt, NmA, NmBd, NmUp, Brk, NmEnd, TraceA, TraceB, TraceC, TraceD, TraceE, TraceG, TraceH, TraceF, NmTx: several texts in one (bundle.py).
-/
import Derived.Test.YtpkonagjnfphkaaGreatDoorPmY17
import Derived.Test.YtpkonagjnfphkaaGreatDoorPmY11
import Derived.Lib.AppendZerosOnto
import Derived.Shelf.Small.Wraps
import Derived.Shelf.Strconv.Itoa3
import Derived.Shelf.Pu.ParseUintPublic10
import Derived.Test.YtpkonagjnfphkaaGreatDoorPmY01
import Derived.Lib.ItoaNum
import Derived.Lib.AtoiAll
import Derived.Lib.DecodeN
import Derived.Test.YtpkonagjnfphkaaGreatDoorPmY02
import Derived.Lib.ItoaMem
import Derived.Lib.AppendIntMem
import Derived.BigCall
import Derived.BigGuard
import Derived.WalkLawsBesides
import Derived.Defers
import Derived.Recover
import Derived.Lib.Hide
import Derived.Test.YtpkonagjnfphkaaGreatDoorPmY05
import Derived.Lib.OthersKept
import Derived.Test.YtpkonagjnfphkaaGreatDoorPmY07
import Derived.Test.YtpkonagjnfphkaaGreatDoorPmY06
set_option linter.unusedSimpArgs false
set_option linter.unusedVariables false
set_option maxRecDepth 100000
namespace Go.Proofs.YtpkonagjnfphkaaGreatDoor
open Go.RowKit Cb
def usT (x : It) : List Int := if x.k = 4 then (x.l.filter (·.k == 1)).map It.n else []
def usK (y : It) : List Int := usT y ++ y.l.flatMap usT
def readU (x : It) : List Int := usT x ++ x.l.flatMap usK
theorem usR_it {S : Nat → Prop} {w : World} : ∀ {l : List It} {rows : List Rw}, ItsR S w l rows → usR rows = (l.filter (·.k == 1)).map It.n
  | [], rows, h => by simp only [ItsR] at h; subst h; rfl
  | x :: l, rows, h => by
    simp only [ItsR] at h; obtain ⟨r, rs, rfl, h1, h2⟩ := h; obtain ⟨rows, p⟩ := h1.parts; have ih := usR_it h2; unfold usR at ih ⊢; by_cases hk : x.k = 1
    · simp [hk, p.k, p.n, ih]
    · simp [hk, p.k, ih]
theorem usI_it {S : Nat → Prop} {w : World} {x : It} {r : Rw} {rows : List Rw} (p : Parts S w x r rows) : usI r rows = usT x := by
  unfold usI usT; rw [p.k, usR_it p.each]
theorem usT_len (x : It) : (usT x).length ≤ x.l.length := by
  unfold usT; split
  · rw [List.length_map]; exact List.length_filter_le _ _
  · simp
theorem cnt_l (x : It) : x.l.length + 1 ≤ cnt x ∧ cntL x.l + 1 ≤ cnt x := by
  cases x with
  | mk k n b s l => have := cntL_len l; simp only [cnt, It.l]; omega
theorem usTs_len : ∀ l : List It, (l.flatMap usT).length + l.length ≤ cntL l
  | [] => by simp [cntL]
  | x :: l => by
    have := usTs_len l; have := usT_len x; have := (cnt_l x).1; simp only [List.flatMap_cons, List.length_append, List.length_cons, cntL]; omega
theorem usK_len (y : It) : (usK y).length + 1 ≤ cnt y := by
  have := usTs_len y.l; have := usT_len y; have := (cnt_l y).2; unfold usK; rw [List.length_append]; omega
theorem usKs_len : ∀ l : List It, (l.flatMap usK).length + l.length ≤ cntL l
  | [] => by simp [cntL]
  | x :: l => by
    have := usKs_len l; have := usK_len x; simp only [List.flatMap_cons, List.length_append, List.length_cons, cntL]; omega
theorem readU_len (x : It) : (readU x).length ≤ cnt x := by
  have := usKs_len x.l; have := usT_len x; have := (cnt_l x).2; unfold readU; rw [List.length_append]; omega
theorem flat_take {α : Type} (f : α → List Int) (l : List α) (j : Nat) : ((l.take j).flatMap f).length ≤ (l.flatMap f).length := by
  conv => rhs; rw [← List.take_append_drop j l]
  rw [List.flatMap_append, List.length_append]; omega
theorem flat_one {α : Type} (f : α → List Int) (l : List α) {j : Nat} (hj : j < l.length) : (l.take (j + 1)).flatMap f = (l.take j).flatMap f ++ f l[j] := by
  rw [List.take_succ_eq_append_getElem hj, List.flatMap_append]; simp
theorem usT_nn {S : Nat → Prop} {w : World} {x : It} {r : Rw} (h : ItR S w x r) : ∀ u ∈ usT x, 0 ≤ u := by
  intro u hu; obtain ⟨rows, p⟩ := h.parts; unfold usT at hu; split at hu
  · obtain ⟨y, hy, rfl⟩ := List.mem_map.1 hu
    obtain ⟨i, hi, rfl⟩ := List.getElem_of_mem (List.mem_filter.1 hy).1; obtain ⟨rows2, q⟩ := (p.each.get hi (by rw [p.each.len]; exact hi)).parts; exact q.lo
  · simp at hu
theorem kid {S : Nat → Prop} {w : World} {x y : It} {r : Rw} (h : ItR S w x r) (hy : y ∈ x.l) : ∃ t, ItR S w y t := by
  obtain ⟨rows, p⟩ := h.parts; obtain ⟨i, hi, rfl⟩ := List.getElem_of_mem hy; exact ⟨_, p.each.get hi (by rw [p.each.len]; exact hi)⟩
theorem readU_nn {S : Nat → Prop} {w : World} {x : It} {r : Rw} (h : ItR S w x r) : ∀ u ∈ readU x, 0 ≤ u := by
  intro u hu; unfold readU at hu; rcases List.mem_append.1 hu with hu | hu
  · exact usT_nn h u hu
  · obtain ⟨y, hy, hu⟩ := List.mem_flatMap.1 hu
    obtain ⟨t, ht⟩ := kid h hy; unfold usK at hu; rcases List.mem_append.1 hu with hu | hu
    · exact usT_nn ht u hu
    · obtain ⟨z, hz, hu⟩ := List.mem_flatMap.1 hu
      obtain ⟨s, hs⟩ := kid ht hz; exact usT_nn hs u hu
def g5 (U : List Int) (j : Nat) : Nat := (U.getD j 0).toNat
theorem five_of (U : List Int) (h : ∀ u ∈ U, 0 ≤ u) : ∃ R, U ++ [0, 0, 0, 0, 0] = (g5 U 0 : Int) :: (g5 U 1 : Int) :: (g5 U 2 : Int) :: (g5 U 3 : Int) :: (g5 U 4 : Int) :: R := by
  have e : ∀ a : Int, 0 ≤ a → ((a.toNat : Nat) : Int) = a := fun a h => Int.toNat_of_nonneg h
  match U, h with
  | [], h => exact ⟨[], rfl⟩
  | [a], h => have ha := e a (h a (by simp)); exact ⟨[0], by simp [g5, ha]⟩
  | [a, b], h => have ha := e a (h a (by simp)); have hb := e b (h b (by simp)); exact ⟨[0, 0], by simp [g5, ha, hb]⟩
  | [a, b, c], h => have ha := e a (h a (by simp)); have hb := e b (h b (by simp)); have hc := e c (h c (by simp)); exact ⟨[0, 0, 0], by simp [g5, ha, hb, hc]⟩
  | [a, b, c, d], h => have ha := e a (h a (by simp)); have hb := e b (h b (by simp)); have hc := e c (h c (by simp)); have hd := e d (h d (by simp)); exact ⟨[0, 0, 0, 0], by simp [g5, ha, hb, hc, hd]⟩
  | a :: b :: c :: d :: f :: R, h => have ha := e a (h a (by simp)); have hb := e b (h b (by simp)); have hc := e c (h c (by simp)); have hd := e d (h d (by simp)); have hf := e f (h f (by simp)); exact ⟨R ++ [0, 0, 0, 0, 0], by simp [g5, ha, hb, hc, hd, hf]⟩
theorem Parts.but {S : Nat → Prop} {w w' : World} {x : It} {r : Rw} {rows : List Rw} (p : Parts S w x r rows) {O : Nat → Prop} (hb : But O w w') (hO : ∀ k, S k → ¬ O k) : Parts S w' x r rows :=
  ⟨p.k, p.n, p.s, p.lo, p.hi, p.b.but hb hO, p.l.but hb hO, p.each.turn fun _ _ _ _ h => h.but hb hO⟩
structure RdI (W0 : World) (base C : Nat) (U : List Int) (W : World) : Prop where
  acc : ∃ v, Acc base C v U W ∧ ∀ k, v.ownBlock = some k → W0.heap.size ≤ k
  but : But (fun k => k = C) W0 W
theorem RdI.up {W0 W W1 : World} {base C : Nat} {U : List Int} (h : RdI W0 base C U W) (hb : Below W.heap.size W W1) : RdI W0 base C U W1 := by
  obtain ⟨v, h1, h2⟩ := h.acc; exact ⟨⟨v, h1.up hb, h2⟩, h.but.then (But.of_below (O := fun _ => False) hb) (fun _ _ e => e.elim)⟩
def RdE (W0 : World) (base C B : Nat) (U : List Int) (W1 : World) (en : Ending) (W' : World) : Prop := en = .returned (.tuple #[]) ∧ RdI W0 base C U W' ∧ W1.heap.size ≤ W'.heap.size ∧ ∀ k cs T, B ≤ k → RowAt W1 k cs T → RowAt W' k cs T
theorem RdI.add {W0 W W1 : World} {base C : Nat} {U U' : List Int} (h : RdI W0 base C U W) (hb : Below W.heap.size W W1) (hCW : C < W0.heap.size) {v : Value} (hv : Acc base C v U W) (hv2 : ∀ k, v.ownBlock = some k → W0.heap.size ≤ k) {en : Ending} {W' : World} (he : AddE base C v U' W1 en W') : RdE W0 base C W.heap.size U' W1 en W' := by
  obtain ⟨h1, h2, v', h3, h4⟩ := he; have hs := h.but.size; have hs2 := hb.size
  have hb1 : But (fun k => k = C) W0 W1 := h.but.then (But.of_below (O := fun _ => False) hb) (fun _ _ e => e.elim)
  refine ⟨h1, ⟨⟨v', h3, fun k hk => ?_⟩, hb1.then h2 fun j hj e => ?_⟩, h2.size, fun k cs T hk hR => h2.obj hR ?_⟩
  · rcases h4 with h4 | h4
    · exact hv2 k (h4 ▸ hk)
    · have := h4 k hk; omega
  · rcases e with e | e
    · exact e
    · have := hv2 j e; omega
  · rintro (e | e)
    · omega
    · have := (own_of_some hv.row e).2; omega
theorem rdE_c (W0 W W1 : World) (base C : Nat) (U : List Int) (y : It) (r : Rw) (rows : List Rw) (h : RdI W0 base C U W) (hb : Below W.heap.size W W1) (hCW : C < W0.heap.size) (hbC : base ≤ C) (p : Parts (fun k => k < base) W0 y r rows) (hlen : U.length + (usT y).length ≤ 1000000) (hs : Shp r) :
    Calls Tryz.prog 166 #[rwV r, .pointer (some ⟨C, 0, none⟩)] W1 (RdE W0 base C W.heap.size (U ++ usT y) W1) := by
  have h1 := h.up hb; obtain ⟨v, hv, hv2⟩ := h.acc; have q := p.but h1.but (fun k hk e => by omega); have hu := usI_it q; have hsz := h1.but.size; rw [← hu] at hlen ⊢
  exact (addE_c r rows _ base C v U W1 (hv.up hb) (by omega) q.l.1 q.each.shp hs q.l.2 hlen).mono fun en W' he => h.add hb hCW hv hv2 he
abbrev zer5 : List Value := [.int .u64 0, .int .u64 0, .int .u64 0, .int .u64 0, .int .u64 0]
theorem run_app_zeros {P : Program} {t e tn : TypeId} {kq kn : IntKind} (ht : P.underlying t = some (.slice e)) (htn : P.underlying tn = some (.int kn)) (i : TypeInfo) (hi : P.info? e = some i) (hz : i.zero = some (.int .u64 0)) (hs : i.size = 1) (hb8 : i.bytes = 8) (ty : TypeId) (w : World) (base : Nat) (v : Value) (n : Nat) (xs : List Value)
    (hown : w.ownsRow base e 1 v n xs) (hn : n ≤ 1000000) (hbase : base ≤ w.heap.size) :
    ∃ v' w', (Builtin.append_ #[t, tn] ty #[v, .int kq 5]).run P w = .ok v' w' ∧ w'.ownsRow base e 1 v' (n + 5) (xs ++ zer5) ∧ w.grownBy w' v.ownBlock ∧ (v'.ownBlock = v.ownBlock ∨ v'.ownBlock = some w.heap.size) := by
  have h63 : n + 5 ≤ maxLen := by simp [maxLen]; omega
  have hlen : (xs ++ zer5).length = (n + 5) * 1 := by rw [List.length_append, hown.1]; simp
  have hz5 : Builtin.zeroCells (Value.int .u64 0).cells 5 = zer5.toArray := by kernel_rfl
  have grown : ∀ (old : Nat), old < n + 5 → ∀ (row : Option Nat),
      (w.drew.alloc (.cells (xs.toArray ++ zer5.toArray ++ Builtin.zeroCells (Value.int .u64 0).cells (grownCap w (n + 5) old e - (n + 5))) e)).ownsRow base e 1
        (.slice (some ⟨w.heap.size, 0, none⟩) (n + 5) (grownCap w (n + 5) old e)) (n + 5) (xs ++ zer5) ∧
      w.grownBy (w.drew.alloc (.cells (xs.toArray ++ zer5.toArray ++ Builtin.zeroCells (Value.int .u64 0).cells (grownCap w (n + 5) old e - (n + 5))) e)) row := by
    intro old ho row; have hge := grownCap_ge w (n + 5) old e; have hcm : grownCap w (n + 5) old e ≤ maxLen := grownCap_le_maxLen w (n + 5) old e h63; refine ⟨⟨hlen, .inr ⟨w.heap.size, _, _, rfl, hbase, heap_alloc_new w.drew _, hge, hcm, ?_, ?_⟩⟩, ⟨rfl, rfl, rfl, by simp, fun k hk _ => heap_alloc_old w.drew _ hk⟩⟩
    · simp only [Array.size_append, List.size_toArray, size_zeroCells, hown.1]
      simp [Value.cells]; omega
    · simp only [Array.toList_append, List.append_assoc]
      rw [← List.append_assoc, ← hlen]; exact List.take_left
  rcases hown.2 with ⟨rfl, rfl⟩ | ⟨g, cap, cur, rfl, hbg, hg, hnc, hcm, hcs, htake⟩
  · have hx : xs = [] := List.eq_nil_of_length_eq_zero (by simpa using hown.1)
    subst hx; have hr := Lib.run_append_grow_zeros (P := P) w t tn ty e i (.int .u64 0) kq kn ht htn hi hz none 0 0 [] (by simp [Builtin.firstCells]) 5 (by decide) (by omega) (by decide) (by decide) (by rw [hb8]; decide) (by rw [hb8]; decide); have hgr := grown 0 (by omega) (Value.ownBlock (.slice none 0 0)); rw [hz5] at hr; exact ⟨_, _, hr, hgr.1, hgr.2, .inr rfl⟩
  · by_cases hroom : n + 5 ≤ cap
    · have hst := run_storeCells_at P g n e zer5 0 cur w hg (by simp; omega) (by simp [Value.oneCell'])
      simp only [Nat.add_zero] at hst
      have hr : (Builtin.append_ #[t, tn] ty #[.slice (some ⟨g, 0, none⟩) n cap, .int kq 5]).run P w = .ok (.slice (some ⟨g, 0, none⟩) (n + 5) cap) (w.setRow g (cur.toList.take n ++ zer5 ++ cur.toList.drop (n + zer5.length)).toArray) := by
        have h1 : (Builtin.zeroCells (Value.int .u64 0).cells 5).toList = zer5 := by rw [hz5]
        have hw5 : IntKind.i64.wrap 5 = 5 := by decide
        simp [Builtin.append_, run_underlying ht, run_underlying htn, sizeOf, typeInfo, zeroValue, hi, hz, hs, hb8, asInt, asIntOf, hw5, hroom, Addr.add_lit, h1, hst]
      refine ⟨_, _, hr, ⟨hlen, .inr ⟨g, cap, _, rfl, hbg, setRow_heap w g cur _ e _ hg, hroom, hcm, ?_, ?_⟩⟩, ⟨rfl, rfl, rfl, by simp, fun k _ hk => setRow_other w g k _ (fun e => hk (by simp [Value.ownBlock, e]))⟩, Or.inl rfl⟩
      · simp only [List.size_toArray, List.length_append, List.length_take, List.length_drop, Array.length_toList]
        simp; omega
      · rw [Nat.mul_one] at htake
        rw [htake, ← hlen]; exact List.take_left
    · have holds : ∀ j u, xs[j]? = some u → w.cell? ((⟨g, 0, none⟩ : Addr).add j) = some u := hown.cells (g := g) rfl
      have hf := run_firstCells_some (P := P) w.drew i.size n ⟨g, 0, none⟩ n cap xs (by rw [hs]; exact hown.1) holds; have hr := Lib.run_append_grow_zeros (P := P) w t tn ty e i (.int .u64 0) kq kn ht htn hi hz (some ⟨g, 0, none⟩) n cap xs hf 5 (by decide) (by omega) (by omega) (by omega) (by rw [hb8]; decide) (growslice_fits (by omega) (by rw [hb8]; omega)); have hgr := grown cap (by omega) (Value.ownBlock (.slice (some ⟨g, 0, none⟩) n cap)); rw [hz5] at hr; exact ⟨_, _, hr, hgr.1, hgr.2, .inr rfl⟩
theorem wpList_app_zeros {P : Program} {w : World} {ops : Array Oper} {rest : List Oper} {o : Oper} {a : Act} {Q : Exit → Act → World → Prop} (hgd : o.guard = none) (s x : Operand) (t tn : TypeId)
    (ho : o.op = .call { callee := .builtin .append, args := #[s, x], argTypes := #[t, tn] }) {e : TypeId} {kq kn : IntKind} (ht : P.underlying t = some (.slice e)) (htn : P.underlying tn = some (.int kn)) (i : TypeInfo) (hi : P.info? e = some i) (hz : i.zero = some (.int .u64 0)) (hs1 : i.size = 1) (hb8 : i.bytes = 8)
    (base : Nat) {v : Value} {n : Nat} {xs : List Value} (hs : a.eval s = v) (hown : w.ownsRow base e 1 v n xs) (hx : a.eval x = .int kq 5) (hn : n ≤ 1000000) (hbase : base ≤ w.heap.size)
    (h : ∀ v' w', w'.ownsRow base e 1 v' (n + 5) (xs ++ zer5) → w.grownBy w' v.ownBlock → (v'.ownBlock = v.ownBlock ∨ v'.ownBlock = some w.heap.size) → wpList P ops Q rest (a.put o.dst v') w') : wpList P ops Q (o :: rest) a w := by
  obtain ⟨v', w', hr, h2, h3, h4⟩ := run_app_zeros (kq := kq) ht htn i hi hz hs1 hb8 o.type w base v n xs hown hn hbase; exact Lib.wpList_append_run w hgd s x t tn ho _ _ hs hx v' w' hr (h v' w' h2 h3 h4)
end Go.Proofs.YtpkonagjnfphkaaGreatDoor
namespace Go.Proofs.YtpkonagjnfphkaaGreatDoor
open Go.Shelf
end Go.Proofs.YtpkonagjnfphkaaGreatDoor
namespace Go.Proofs.YtpkonagjnfphkaaGreatDoor
namespace Dig
theorem snoc_ind {α : Type} {p : List α → Prop} (h0 : p []) (h1 : ∀ l c, p l → p (l ++ [c])) (l : List α) : p l := by
  have H : ∀ r : List α, p r.reverse := by
    intro r
    induction r with
    | nil => exact h0
    | cons c r ih => rw [List.reverse_cons]; exact h1 _ _ ih
  have := H l.reverse
  rwa [List.reverse_reverse] at this
def val (l : List UInt8) : Nat := l.foldl (fun n c => 10 * n + (c.toNat - 48)) 0
def isD (c : UInt8) : Bool := decide (48 ≤ c.toNat ∧ c.toNat ≤ 57)
theorem val_snoc (l : List UInt8) (c : UInt8) : val (l ++ [c]) = 10 * val l + (c.toNat - 48) := by simp [val]
theorem toNat_dig {k : Nat} (h : k < 10) : (UInt8.ofNat (48 + k)).toNat = 48 + k := by
  rw [UInt8.toNat_ofNat']; omega
theorem dig_ofNat {c : UInt8} (h : isD c = true) : UInt8.ofNat (48 + (c.toNat - 48)) = c := by
  simp only [isD, decide_eq_true_eq] at h; rw [show 48 + (c.toNat - 48) = c.toNat by omega]; simp
theorem val_dec (u : Nat) : val (Lib.decDigits u) = u := by
  induction u using Nat.strongRecOn with
  | ind u ih =>
    rw [Lib.decDigits]; split
    · rename_i h
      simp only [val, List.foldl_cons, List.foldl_nil, toNat_dig h]; omega
    · rw [val_snoc, ih (u / 10) (by omega), toNat_dig (by omega)]; omega
theorem all_dec (u : Nat) : (Lib.decDigits u).all isD = true := by
  induction u using Nat.strongRecOn with
  | ind u ih =>
    rw [Lib.decDigits]; split
    · rename_i h
      simp only [List.all_cons, List.all_nil, isD, toNat_dig h, Bool.and_true, decide_eq_true_eq]; omega
    · rw [List.all_append, ih (u / 10) (by omega)]
      simp only [List.all_cons, List.all_nil, isD, toNat_dig (Nat.mod_lt u (by decide : 0 < 10)), Bool.and_true, Bool.true_and, decide_eq_true_eq]; omega
theorem ne_dec (u : Nat) : Lib.decDigits u ≠ [] := by
  rw [Lib.decDigits]
  split <;> simp
def lean (l : List UInt8) : Prop := l ≠ [] ∧ (1 < l.length → l.head? ≠ some 48)
theorem val_pos : ∀ (l : List UInt8), l ≠ [] → l.all isD = true → l.head? ≠ some 48 → 0 < val l := by
  intro l
  induction l using snoc_ind with
  | h0 => intro h; exact absurd rfl h
  | h1 l c ih =>
    intro _ ha hh; rw [val_snoc]
    cases l with
    | nil =>
      have hc : isD c = true := by simpa using ha
      have hne : c ≠ 48 := fun e => hh (by rw [e]; rfl)
      simp only [isD, decide_eq_true_eq] at hc
      have : c.toNat ≠ 48 := fun e => hne (UInt8.toNat_inj.1 e)
      omega
    | cons d r =>
      have := ih (by simp) (by rw [List.all_append] at ha; exact (Bool.and_eq_true_iff.1 ha).1) (by simpa using hh); omega
theorem dec_val : ∀ (l : List UInt8), l.all isD = true → lean l → Lib.decDigits (val l) = l := by
  intro l
  induction l using snoc_ind with
  | h0 => intro _ h; exact absurd rfl h.1
  | h1 l c ih =>
    intro ha hl; rw [List.all_append] at ha; obtain ⟨ha1, ha2⟩ := Bool.and_eq_true_iff.1 ha
    have hc : isD c = true := by simpa using ha2
    have hcr := hc; simp only [isD, decide_eq_true_eq] at hcr; rw [val_snoc, Lib.decDigits]
    cases l with
    | nil =>
      rw [dif_pos (by simp [val]; omega)]; simp only [val, List.foldl_nil, Nat.mul_zero, Nat.zero_add, dig_ofNat hc, List.nil_append]
    | cons d r =>
      have hh : (d :: r).head? ≠ some 48 := by have := hl.2 (by simp); simpa using this
      have hp := val_pos (d :: r) (by simp) ha1 hh; rw [dif_neg (by omega), show (10 * val (d :: r) + (c.toNat - 48)) / 10 = val (d :: r) by omega, show (10 * val (d :: r) + (c.toNat - 48)) % 10 = c.toNat - 48 by omega, dig_ofNat hc, ih ha1 ⟨by simp, fun _ => hh⟩]
theorem lean_dec (u : Nat) : lean (Lib.decDigits u) := by
  refine ⟨ne_dec u, ?_⟩
  induction u using Nat.strongRecOn with
  | ind u ih =>
    rw [Lib.decDigits]; split
    · intro h; simp at h
    · intro _
      rename_i h; by_cases h2 : u / 10 < 10
      · rw [Lib.decDigits, dif_pos h2]
        simp only [List.cons_append, List.nil_append, List.head?_cons, ne_eq, Option.some.injEq]; intro e; have := congrArg UInt8.toNat e; rw [toNat_dig h2] at this; have h48 : (48 : UInt8).toNat = 48 := rfl; omega
      · have hlen : 1 < (Lib.decDigits (u / 10)).length := by
          rw [Lib.decDigits, dif_neg h2, List.length_append]; have := List.length_pos_iff.2 (ne_dec (u / 10 / 10)); simp; omega
        have := ih (u / 10) (by omega) hlen; obtain ⟨x, r, hx⟩ := List.exists_cons_of_ne_nil (ne_dec (u / 10)); rw [hx] at this ⊢
        simpa using this
def valA (a : Nat) (l : List UInt8) : Nat := l.foldl (fun n c => 10 * n + (c.toNat - 48)) a
theorem valA_ge : ∀ (l : List UInt8) (a : Nat), a ≤ valA a l
  | [], a => Nat.le_refl _
  | c :: l, a => Nat.le_trans (by omega) (valA_ge l (10 * a + (c.toNat - 48)))
theorem parse_ok : ∀ (l : List UInt8) (a : Nat), l.all isD = true → valA a l < 18446744073709551616 → Lib.parseUint10 a l = .ok (valA a l)
  | [], a, _, _ => rfl
  | c :: l, a, h, hv => by
    simp only [List.all_cons, Bool.and_eq_true] at h; have hc := h.1; simp only [isD, decide_eq_true_eq] at hc; have hg := valA_ge l (10 * a + (c.toNat - 48)); have hv' : valA (10 * a + (c.toNat - 48)) l < 18446744073709551616 := hv; rw [Lib.parseUint10, if_pos hc, if_neg (by omega), if_neg (by omega), show a * 10 + (c.toNat - 48) = 10 * a + (c.toNat - 48) by omega]; exact parse_ok l _ h.2 hv'
theorem bounded_iff (l : List UInt8) (bound n : Nat) (hb : bound < 18446744073709551616) :
    (Lib.parseMag l = .ok n ∧ n ≤ bound ∧ Lib.decDigits n = l) ↔ (l.all isD = true ∧ lean l ∧ val l ≤ bound ∧ n = val l) := by
  constructor
  · rintro ⟨h1, h2, rfl⟩
    exact ⟨all_dec n, lean_dec n, by rw [val_dec]; exact h2, (val_dec n).symm⟩
  · rintro ⟨h1, h2, h3, rfl⟩
    refine ⟨?_, h3, dec_val l h1 h2⟩; unfold Lib.parseMag; rw [if_neg h2.1]; exact parse_ok l 0 h1 (Nat.lt_of_le_of_lt h3 hb)
theorem val_len : ∀ (l : List UInt8), l.all isD = true → lean l → 1 < l.length → 10 ^ (l.length - 1) ≤ val l := by
  intro l
  induction l using snoc_ind with
  | h0 => intro _ h; exact absurd rfl h.1
  | h1 l c ih =>
    intro ha hl hlen; rw [List.all_append] at ha; obtain ⟨ha1, ha2⟩ := Bool.and_eq_true_iff.1 ha
    cases l with
    | nil => simp at hlen
    | cons d r =>
      have hh : (d :: r).head? ≠ some 48 := by have := hl.2 hlen; simpa using this
      rw [val_snoc]; simp only [List.length_append, List.length_cons, List.length_nil, Nat.add_sub_cancel]; by_cases hr : 1 < (d :: r).length
      · have := ih ha1 ⟨by simp, fun _ => hh⟩ hr
        simp only [List.length_cons, Nat.add_sub_cancel] at this; rw [Nat.pow_succ]; omega
      · have hr0 : r.length = 0 := by simp only [List.length_cons] at hr; omega
        have := val_pos (d :: r) (by simp) ha1 hh; rw [hr0]; omega
def toNum (l : List UInt8) (bound : Nat) : Option Nat :=
  if l = [] ∨ 19 < l.length ∨ (1 < l.length ∧ l.head? = some 48) ∨ l.all isD = false then none else if bound < val l then none else some (val l)
theorem toNum_iff (l : List UInt8) (bound n : Nat) (hb : bound < 10000000000000000000) : toNum l bound = some n ↔ (l.all isD = true ∧ lean l ∧ val l ≤ bound ∧ n = val l) := by
  unfold toNum; constructor
  · intro h
    split at h
    · cases h
    · rename_i hc
      split at h
      · cases h
      · rename_i hv
        simp only [not_or, not_and, Bool.not_eq_false] at hc; exact ⟨hc.2.2.2, ⟨hc.1, hc.2.2.1⟩, by omega, (Option.some.inj h).symm⟩
  · rintro ⟨h1, h2, h3, rfl⟩
    have hlen : ¬ 19 < l.length := fun h => by
      have h4 := val_len l h1 h2 (by omega); have h5 : 10 ^ 19 ≤ 10 ^ (l.length - 1) := Nat.pow_le_pow_right (by decide) (by omega); omega
    rw [if_neg (by
      simp only [not_or, not_and, Bool.not_eq_false]
      exact ⟨h2.1, hlen, h2.2, h1⟩), if_neg (by omega)]
end Dig
end Go.Proofs.YtpkonagjnfphkaaGreatDoor
namespace Go.Proofs.YtpkonagjnfphkaaGreatDoor
open Go.Lib
namespace Dig
def cut (c : UInt8) : List UInt8 → Option (List UInt8 × List UInt8)
  | [] => none
  | d :: l => if d = c then some ([], l) else (cut c l).map fun p => (d :: p.1, p.2)
end Dig
end Go.Proofs.YtpkonagjnfphkaaGreatDoor
namespace Go.Proofs.YtpkonagjnfphkaaGreatDoor
open Go.RowKit Go.Sort Go.Lib
abbrev strV (l : List UInt8) : Value := .string ⟨l.toArray⟩
theorem tab_up {P : Program} {w w' : World} {name : String} {k : IntKind} {zs : List Int} (h : Lib.TabIs P w name k zs) (hb : Below w.heap.size w w') : Lib.TabIs P w' name k zs := by
  unfold Lib.TabIs World.var? at *
  cases hg : P.globalNamed name with
  | none => simp [hg] at h
  | some g =>
    simp only [hg, Option.bind_some] at h ⊢
    cases hw : w.heap[g]? with
    | none => rw [hw] at h; cases h
    | some o =>
      rw [hb.block _ (Array.getElem?_eq_some_iff.1 hw).1]; exact h
end Go.Proofs.YtpkonagjnfphkaaGreatDoor
namespace Go.Proofs.YtpkonagjnfphkaaGreatDoor
open Go.RowKit
namespace Dig
theorem toNum_none {l : List UInt8} {bound : Nat} (hb : bound < 10000000000000000000) (h : ∀ n, ¬ (Lib.parseMag l = .ok n ∧ n ≤ bound ∧ Lib.decDigits n = l)) : toNum l bound = none := by
  cases hn : toNum l bound with
  | none => rfl
  | some n => exact absurd ((bounded_iff l bound n (by omega)).2 ((toNum_iff l bound n hb).1 hn)) (h n)
end Dig
def Bdd (l : List UInt8) (bound : Nat) (w : World) (en : Ending) (w' : World) : Prop := Below w.heap.size w w' ∧ match Dig.toNum l bound with
  | some n => en = .returned (.int .u64 n)
  | none => en = .panicked (gup 130)
theorem Bdd.no {l : List UInt8} {bound : Nat} (hb : bound < 10000000000000000000) (h : ∀ n, ¬ (Lib.parseMag l = .ok n ∧ n ≤ bound ∧ Lib.decDigits n = l)) {w w' : World} (hw : Below w.heap.size w w') : Bdd l bound w (.panicked (gup 130)) w' :=
  ⟨hw, by rw [Dig.toNum_none hb h]⟩
def UpTo (c : UInt8) (l : List UInt8) (b : Nat) (T : TypeId) (w : World) (en : Ending) (w' : World) : Prop := match Dig.cut c l with
  | some p => en = .returned (strV p.1) ∧ But (· = b) w w' ∧ RowAt w' b #[strV p.2] T
  | none => en = .panicked (gup 130) ∧ Below w.heap.size w w'
namespace Dig
def nobodyL : List UInt8 := [100, 116, 110, 58, 110, 111, 110, 101]
def ipnL : List UInt8 := [105, 112, 110, 58]
def endP (l : List UInt8) : Option (Nat × Nat) :=
  if l = nobodyL then some (0, 0)
  else if l.take 4 = ipnL then
    match cut 46 (l.drop 4) with
    | none => none
    | some (a, b) => match toNum a 4294967295, toNum b 4294967295 with
      | some n, some m => if n = 0 then none else some (n, m)
      | _, _ => none
  else none
end Dig
theorem UpTo.no {c : UInt8} {l : List UInt8} {b : Nat} {T : TypeId} {w w' : World} {en : Ending} (h : UpTo c l b T w en w') (hc : Dig.cut c l = none) : en = .panicked (gup 130) ∧ Below w.heap.size w w' := by
  unfold UpTo at h; rw [hc] at h; exact h
theorem Bdd.gives {l : List UInt8} {bound : Nat} {w w' : World} {en : Ending} (h : Bdd l bound w en w') (hc : Dig.toNum l bound = none) : en = .panicked (gup 130) ∧ Below w.heap.size w w' := by
  have := h.2; rw [hc] at this; exact ⟨this, h.1⟩
def EndE (l : List UInt8) (w : World) (en : Ending) (w' : World) : Prop := Below w.heap.size w w' ∧ match Dig.endP l with
  | some p => en = .returned (.agg #[.int .u32 p.1, .int .u32 p.2])
  | none => en = .panicked (gup 130)
theorem EndE.no {l : List UInt8} {w w' : World} (h : Dig.endP l = none) (hw : Below w.heap.size w w') : EndE l w (.panicked (gup 130)) w' := ⟨hw, by rw [h]⟩
namespace Trc
@[ext] structure Nm where
  node : Int
  service : Int
  time : Int
  seq : Int
deriving DecidableEq
structure Ev where
  kind : Int
  at_ : Int
  node : Int
  to : Int
  n : Int
  name : Nm
  got : Int
  gname : Nm
  why : Int
  errno : Int
deriving DecidableEq
def saysB (e : Ev) : Bool := e.kind == 3 || e.kind == 15 || e.kind == 16
end Trc
open Trc
abbrev nmV (x : Nm) : Value := .agg #[.int .u32 x.node, .int .u32 x.service, .int .u64 x.time, .int .u32 x.seq]
end Go.Proofs.YtpkonagjnfphkaaGreatDoor
namespace Go.Proofs.YtpkonagjnfphkaaGreatDoor
open Go.RowKit Trc
namespace Trc
def sameB (e o : Ev) : Bool := saysB o && decide (o.name = e.name)
end Trc
namespace Trc
end Trc
namespace Trc
def cnt (l : List Ev) (i : Int) : Nat := l.countP fun e => e.got == i
end Trc
end Go.Proofs.YtpkonagjnfphkaaGreatDoor
namespace Go.Proofs.YtpkonagjnfphkaaGreatDoor
open Go.RowKit Go.Maps Trc
def Trc.Nm.wf (x : Nm) : Prop := (Lit.int .u32 x.node).wf = true ∧ (Lit.int .u32 x.service).wf = true ∧ (Lit.int .u64 x.time).wf = true ∧ (Lit.int .u32 x.seq).wf = true
end Go.Proofs.YtpkonagjnfphkaaGreatDoor
namespace Go.Proofs.YtpkonagjnfphkaaGreatDoor
open Go.RowKit Trc
namespace Trc
end Trc
namespace Dig
def chkP (n m : Nat) : Int := if n = 0 ∧ m ≠ 0 then 2 else 0
end Dig
abbrev epV (n m : Nat) : Value := .agg #[.int .u32 n, .int .u32 m]
abbrev nmW (n m t s : Nat) : Value := nmV ⟨n, m, t, s⟩
theorem check_cN (n m : Nat) (w : World) : Calls Tryz.prog 53 #[epV n m] w (Ret (.int .i64 (Dig.chkP n m)) w) := by
  by_cases h : n = 0
  · subst h
    by_cases hm : m = 0
    · subst hm
      go_enter Tryz.func53, Tryz.ntmps53; go_wp2; go_ret; exact ⟨rfl, below_alloc _ _⟩
    · have hd : (((m : Int)) != 0) = true := by simp; omega
      rw [show Dig.chkP 0 m = 2 from if_pos ⟨rfl, hm⟩]; go_enter Tryz.func53, Tryz.ntmps53; go_wp2; go_ret; exact ⟨rfl, below_alloc _ _⟩
  · have hd : (((n : Int)) == 0) = false := by simp; omega
    rw [show Dig.chkP n m = 0 from if_neg (fun e => h e.1)]; go_enter Tryz.func53, Tryz.ntmps53; go_wp2; go_ret; exact ⟨rfl, below_alloc _ _⟩
end Go.Proofs.YtpkonagjnfphkaaGreatDoor
