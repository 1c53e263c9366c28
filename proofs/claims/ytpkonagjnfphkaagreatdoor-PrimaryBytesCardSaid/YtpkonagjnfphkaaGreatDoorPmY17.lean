/-
  CbUi, Turn, NmRd: several texts in one (bundle.py).
-/
import Derived.Test.YtpkonagjnfphkaaGreatDoorPmY07
import Derived.Test.YtpkonagjnfphkaaGreatDoorPmY10
import Derived.Test.YtpkonagjnfphkaaGreatDoorPmY11
import Derived.Test.YtpkonagjnfphkaaGreatDoorPmY02
import Derived.Test.YtpkonagjnfphkaaGreatDoorPmY06
set_option linter.unusedSimpArgs false
set_option linter.unusedVariables false
set_option maxRecDepth 100000
set_option maxHeartbeats 2000000
namespace Go.Proofs.YtpkonagjnfphkaaGreatDoor
open Go.RowKit Cb
attribute [local go_sem] Oper.semAt_some
theorem wpIn_scopeS {P : Program} {n : Nat} {c : Code} {Q : Exit → Act → World → Prop} {a : Act} {w : World} (h : c.wpIn Fence.wide n P (Exit.noGoto Q) a w) : (Code.scope c).wpIn Fence.wide n P Q a w := wpIn_wide.2 (wp_scope_straight ((wpIn_wide (n := n)).1 h))
def usR (L : List Rw) : List Int := (L.filter fun r => r.k == 1).map (·.n)
theorem usR_split (L : List Rw) (j : Nat) : usR L = usR (L.take j) ++ usR (L.drop j) := by
  unfold usR; rw [← List.map_append, ← List.filter_append, List.take_append_drop]
theorem usR_le (L : List Rw) (j : Nat) : (usR (L.take j)).length ≤ (usR L).length := by
  rw [usR_split L j, List.length_append]; omega
theorem usR_one (L : List Rw) {j : Nat} (hj : j < L.length) : usR (L.take (j + 1)) = usR (L.take j) ++ if L[j].k = 1 then [L[j].n] else [] := by
  rw [List.take_succ_eq_append_getElem hj]; unfold usR; rw [List.filter_append, List.map_append]
  congr 1
  by_cases h : L[j].k = 1
  · simp [h]
  · simp [h]
def usAt (U : List Int) (k : Nat) : Int := U.getD k 0
theorem usR_yes (L : List Rw) {j : Nat} (hj : j < L.length) (h : L[j].k = 1) : (usR (L.take (j + 1))).length = (usR (L.take j)).length + 1 ∧ (usR (L.take j)).length < (usR L).length ∧ usAt (usR L) (usR (L.take j)).length = L[j].n := by
  have h1 := usR_one L hj; rw [if_pos h] at h1
  have h2 : (usR (L.take (j + 1))).length = (usR (L.take j)).length + 1 := by rw [h1]; simp
  have h3 := usR_le L (j + 1); refine ⟨h2, by omega, ?_⟩; unfold usAt; rw [usR_split L (j + 1), h1]; simp
theorem usR_no (L : List Rw) {j : Nat} (hj : j < L.length) (h : L[j].k ≠ 1) : (usR (L.take (j + 1))).length = (usR (L.take j)).length := by
  rw [usR_one L hj, if_neg h]; simp
def usI (r : Rw) (L : List Rw) : List Int := if r.k = 4 then usR L else []
def usArgs (U : List Int) (k : Nat) : Array Value := #[.int .u64 (usAt U k)]
theorem uints_c (r : Rw) (hsh : Shp r) (w : World) : Calls Tryz.prog 167 #[rwV r] w fun en w' => en = .returned (.func (.func 181) #[] #[.pointer (some ⟨w.heap.size, 0, none⟩)]) ∧ w' = w.alloc (.cells (rwC r).toArray 62) := by
  have hmf : ∀ (fn : Fn) (first cap : Array Value) (w : World), (Instr.makeFunc fn first cap).run Tryz.prog w = .ok (.func fn first cap) w := fun _ _ _ _ => rfl
  obtain ⟨k, n, ba, bn, bc, s, la, ln, lc, rfl⟩ := hsh; go_enter Tryz.func167, Tryz.ntmps167; go_wp2; go_ret; exact ⟨rfl, rfl⟩
theorem enters_ui1 : Enters Tryz.prog 181 := enters_of Tryz.func181 (by kernel_rfl) rfl
theorem ui1_x (r : Rw) (L : List Rw) (C n : Nat) (S : Nat → Prop) (w : World) (hr : RowAt w C (rwC r).toArray 62) (hl : Sl w 5 r.l n (L.flatMap rwC)) (hsh : ∀ r ∈ L, Shp r) (hs : Shp r) (hSS : S C ∧ (n = 0 ∨ ∀ k, r.l.ownBlock = some k → S k)) :
    SeqX Tryz.prog 181 #[.pointer (some ⟨C, 0, none⟩)] (usArgs (usI r L)) (usI r L).length S w := by
  intro l' G J Jx W hW hS hG hJ hJx hY h0; have hE := hl.up hW; have hR := hr.below hW; have Hln := Lib.hid (Sl.recs (cells := rwC) (sz := 5) (fun _ => rfl) (by decide) hE); have hn := hE.n_max; obtain ⟨k0, n0, ba, bn, bc, s, la, ln, lc, rfl⟩ := hs
  obtain rfl : n = ln := by obtain ⟨a, c, h⟩ := hE.len; simp at h; exact h.2.1.symm
  simp only at hE hSS; have c0 : W.cell? ⟨C, 0, none⟩ = some (.int .i64 k0) := hR.cell (i := 0) rfl; have c4 : W.cell? ⟨C, 4, none⟩ = some (.slice la n lc) := hR.cell (i := 4) rfl; clear hl hr hR; refine (callsIn_wide (n := 3)).1 ?_; refine callsIn_of_wp Tryz.func181 rfl trivial ?_ rfl; simp only [Tryz.ntmps181, List.size_toArray, List.length_cons, List.length_nil, Nat.reduceAdd, Nat.reduceSub, Array.replicate_succ, Array.replicate_zero, List.push_toArray, List.append_toArray, List.nil_append, List.cons_append]; by_cases h4 : k0 = 4
  · subst h4
    have hU : usI ⟨4, n0, .slice ba bn bc, s, .slice la n lc⟩ L = usR L := rfl; rw [hU] at hY ⊢; clear hU
    gi_wp2
    refine wpIn_scopeS ?_
    gi_wp2
    refine wpIn_label ?_
    gi_wp2
    gi_loopw [11] (fun i wr => ∃ (j : Nat) (G : Nat → Prop), j ≤ n ∧ i = .int .i64 j ∧ J (usR (L.take j)).length G wr ∧ Sl wr 5 (.slice la n lc) n (L.flatMap rwC) ∧ (∀ k, S k → ¬ G k) ∧ W.heap.size ≤ wr.heap.size) (fun i _ => n - (intOf i).toNat)
    case atStart => exact ⟨0, G, Nat.zero_le _, rfl, h0, hE, fun k hk => (hS k hk).2, Nat.le_refl _⟩
    case round =>
      obtain ⟨j, G1, hk, rfl, hj, hE1, hG1, hsz⟩ := hrel; by_cases hlt : j < n
      · have hlt' : j < L.length := by rw [Hln.out]; exact hlt
        obtain ⟨b, off, rfl, hr⟩ := hE1.rec_at (cells := rwC) (sz := 5) (fun _ => rfl) hlt hlt'
        have hjn : (j : Int) < (n : Int) := by omega
        have hes := hsh L[j] (List.getElem_mem hlt'); have HY := Lib.hid (usR_yes L hlt'); have HNo := Lib.hid (usR_no L hlt'); generalize L[j] = e at *; obtain ⟨k1, n1, ba1, bn1, bc1, s1, la1, ln1, lc1, rfl⟩ := hes; have hJa := (hJ _).alloc (.cells (rwC ⟨k1, n1, .slice ba1 bn1 bc1, s1, .slice la1 ln1 lc1⟩).toArray 62) (((hJ _).up (Nat.le_refl _)) _ _ _ hj (But.refl _ _)); have E1 := RowAt.new wr (rwC ⟨k1, n1, .slice ba1 bn1 bc1, s1, .slice la1 ln1 lc1⟩).toArray 62; have hEa := hE1.but (But.alloc (O := fun _ => False) wr (.cells (rwC ⟨k1, n1, .slice ba1 bn1 bc1, s1, .slice la1 ln1 lc1⟩).toArray 62)) (.inr fun _ _ h => h); by_cases h1 : k1 = 1
        · subst h1
          obtain ⟨hy1, hy2, hy3⟩ := HY.out rfl
          have hpa : usArgs (usR L) (usR (L.take j)).length = #[.int .u64 n1] := by unfold usArgs; rw [hy3]
          obtain ⟨fn, tmps, assign, body, hy, hR⟩ := yieldAt_wide (m' := 2) (hY _ _ _ hy2 hJa); rw [hpa] at hy; clear hpa; have HY1 := Lib.hid hy1; have HY2 := Lib.hid hy2; clear hy1 hy2 hy3
          gi_wp2_with (first
            | (refine wpListIn_loadr rfl 62 (.tmp 13) rfl b (off + j * 5) rfl (rwC ⟨1, n1, .slice ba1 bn1 bc1, s1, .slice la1 ln1 lc1⟩) _ hr Tryz.underlying62 rfl (by kernel_rfl) ?_))
          refine hR.mono ?_; rintro en W3 ⟨g, rfl, hw⟩; have hE3 := hEa.but hw.but (hSS.2.elim .inl fun h => .inr fun k hk => hG1 k (h k hk)); have hs3 := hw.but.size; simp only [World.size_alloc] at hs3
          cases g with
          | true =>
            gi_wp2
            go_roundw
            case rel => exact ⟨j + 1, _, by omega, by go_num, by rw [HY1.out]; exact hw.on rfl, hE3, fun k hk => newG_not (hG1 k hk) (by have := (hS k hk).1; simp; omega), by omega⟩
            case measure => simp [intOf]; omega
          | false =>
            gi_wp2
            rw [Exit.noGoto_normal]
            go_end0
            exact ⟨⟨_, rfl⟩, _, .inr ⟨_, HY2.out, hw.off rfl⟩⟩
        · have hno := HNo.out h1
          have Hno := Lib.hid hno; clear hno
          have hkb : (k1 == 1) = false := by simpa using h1
          gi_wp2_with (first
            | (refine wpListIn_loadr rfl 62 (.tmp 13) rfl b (off + j * 5) rfl (rwC ⟨k1, n1, .slice ba1 bn1 bc1, s1, .slice la1 ln1 lc1⟩) _ hr Tryz.underlying62 rfl (by kernel_rfl) ?_))
          repeat (refine ⟨fun f hf => (by cases hf), ?_⟩; gi_wp2)
          go_roundw
          case rel => exact ⟨j + 1, G1, by omega, by go_num, by rw [Hno.out]; exact hJa, hEa, hG1, by simp; omega⟩
          case measure => simp [intOf]; omega
      · obtain rfl : j = n := by omega
        have Hall := Lib.hid (show L.take j = L from List.take_of_length_le (by rw [Hln.out]; exact Nat.le_refl _))
        gi_wp2
        rw [Exit.noGoto_normal]
        go_end0
        exact ⟨⟨_, rfl⟩, _, .inl (by rw [Hall.out] at hj; exact hj)⟩
  · have hU : usI ⟨k0, n0, .slice ba bn bc, s, .slice la n lc⟩ L = [] := if_neg h4
    rw [hU]
    gi_wp2
    refine wpIn_scopeS ?_
    gi_wp2
    rw [Exit.noGoto_ret]; refine bodyPost_ret (results_none rfl _ _ _) rfl ?_; exact ⟨⟨_, rfl⟩, _, .inl h0⟩
end Go.Proofs.YtpkonagjnfphkaaGreatDoor
namespace Go.Proofs.YtpkonagjnfphkaaGreatDoor
open Go.RowKit
structure CtR (wr : World) (k : Nat) (G : Nat → Prop) (W : World) : Prop where
  below : Below wr.heap.size wr W
  cnt : RowAt W wr.heap.size #[.int .i64 k] 3
  g0 : G wr.heap.size
  glow : ∀ j, G j → wr.heap.size ≤ j
theorem CtR.start (wr : World) : CtR wr 0 (· = wr.heap.size) (wr.alloc (.cells #[.int .i64 0] 3)) := ⟨below_alloc _ _, RowAt.new _ _ _, rfl, fun j h => by omega⟩
theorem CtR.abide {wr : World} {k B : Nat} (hB : wr.heap.size ≤ B) : Abide B (CtR wr k) := fun G A C h hb =>
  ⟨h.below.trans (hb.below (fun j e => by have := e.1; omega) h.below.size), (hb.same _ h.cnt.lt (fun e => e.2 h.g0)).trans h.cnt, h.g0, h.glow⟩
theorem CtR.up {wr : World} {k : Nat} {G : Nat → Prop} {W W' : World} (h : CtR wr k G W) (hb : Below W.heap.size W W') : CtR wr k G W' := ⟨below_up h.below hb, h.cnt.below hb, h.g0, h.glow⟩
theorem CtR.alloc {wr : World} {k : Nat} {G : Nat → Prop} {W : World} (h : CtR wr k G W) (o : Obj) : CtR wr k (newG G W (W.alloc o)) (W.alloc o) :=
  ⟨below_up h.below (below_alloc _ _), h.cnt.alloc o, newG_old h.g0, (by
    rintro q (e | e)
    · exact h.glow q e
    · have := h.below.size; omega)⟩
theorem CtR.step {wr : World} {k : Nat} {G : Nat → Prop} {W : World} (h : CtR wr k G W) :
    But G W (W.drew.setCell ⟨wr.heap.size, 0, none⟩ (.int .i64 ((k : Int) + 1))) ∧ CtR wr (k + 1) (newG G W (W.drew.setCell ⟨wr.heap.size, 0, none⟩ (.int .i64 ((k : Int) + 1)))) (W.drew.setCell ⟨wr.heap.size, 0, none⟩ (.int .i64 ((k : Int) + 1))) := by
  have hb : But G W (W.drew.setCell ⟨wr.heap.size, 0, none⟩ (.int .i64 ((k : Int) + 1))) := (But.drew W).trans (But.setCell _ _ _ (.inl h.g0)); refine ⟨hb, h.below.trans (hb.below h.glow h.below.size), h.cnt.drew.set 0 (.int .i64 ((k : Int) + 1)), newG_old h.g0, ?_⟩; rintro q (e | e)
  · exact h.glow q e
  · have := h.below.size; omega
structure TuI (wr : World) (T : Nat) (tn : Int) (Ds : List Nat) (W : World) : Prop where
  below : Below wr.heap.size wr W
  turn : RowAt W T #[.int .i64 tn] 3
  low : wr.heap.size ≤ T
  marks : ∀ D ∈ Ds, W.heap[D]? = some (.deferred (some [])) ∧ wr.heap.size ≤ D
  nodup : Ds.Nodup
theorem TuI.start (wr : World) : TuI wr wr.heap.size 0 [] (wr.alloc (.cells #[.int .i64 0] 3)) := ⟨below_alloc _ _, RowAt.new _ _ _, Nat.le_refl _, (fun D hD => by cases hD), List.nodup_nil⟩
theorem TuI.up {wr : World} {T : Nat} {tn : Int} {Ds : List Nat} {W W' : World} (h : TuI wr T tn Ds W) (hb : Below W.heap.size W W') : TuI wr T tn Ds W' :=
  ⟨below_up h.below hb, h.turn.below hb, h.low, fun D hd => ⟨(hb.block D (Array.getElem?_eq_some_iff.1 (h.marks D hd).1).1).trans (h.marks D hd).1, (h.marks D hd).2⟩, h.nodup⟩
theorem TuI.lt {wr : World} {T : Nat} {tn : Int} {Ds : List Nat} {W : World} (h : TuI wr T tn Ds W) : ∀ D ∈ Ds, D < W.heap.size := fun D hd => (Array.getElem?_eq_some_iff.1 (h.marks D hd).1).1
end Go.Proofs.YtpkonagjnfphkaaGreatDoor
namespace Go.Proofs.YtpkonagjnfphkaaGreatDoor
open Go.RowKit Cb
attribute [local go_sem] Oper.semAt_some
theorem slU : SlT Tryz.prog 112 26 1 8 := SlT.mk' Tryz.underlying112 (z := .int .u64 0) (by kernel_rfl) rfl (by decide)
theorem slU1 (w : World) (k : Nat) (hk : k = w.heap.size) (m : Int) : Sl (w.alloc (.cells #[.int .u64 m] 26)) 1 (.slice (some ⟨k, 0, none⟩) 1 1) 1 [.int .u64 m] := by
  subst hk; exact Sl.of_own (World.ownsRow_lit w #[.int .u64 m] 1 (size := 1) (e := 26) (Nat.le_refl _) (by decide) rfl)
abbrev uC (U : List Int) : List Value := U.map (Value.int .u64)
structure Acc (base C : Nat) (v : Value) (U : List Int) (W : World) : Prop where
  box : Boxed W C 112 v
  row : W.ownsRow base 26 1 v U.length (uC U)
  le : base ≤ C
theorem Acc.but {base C : Nat} {v : Value} {U : List Int} {W W' : World} (h : Acc base C v U W) {O : Nat → Prop} (hb : But O W W') (h1 : ¬ O C) (h2 : ∀ k, v.ownBlock = some k → ¬ O k) : Acc base C v U W' :=
  ⟨hb.boxed h.box h1, own_but h.row hb h2, h.le⟩
theorem Acc.up {base C : Nat} {v : Value} {U : List Int} {W W' : World} (h : Acc base C v U W) (hb : Below W.heap.size W W') : Acc base C v U W' := h.but (O := fun _ => False) (But.of_below hb) (fun e => e) (fun _ _ e => e)
structure AccI (W0 : World) (base C : Nat) (v0 : Value) (U : List Int) (G : Nat → Prop) (W : World) : Prop where
  acc : ∃ v, Acc base C v U W ∧ (∀ j, v.ownBlock = some j → G j) ∧ (v.ownBlock = v0.ownBlock ∨ ∀ j, v.ownBlock = some j → W0.heap.size ≤ j)
  own : G C
  low : ∀ j, G j → j = C ∨ v0.ownBlock = some j ∨ W0.heap.size ≤ j
  but : But (fun k => k = C ∨ v0.ownBlock = some k) W0 W
theorem AccI.abide {W0 : World} {base C : Nat} {v0 : Value} {U : List Int} {B : Nat} (hB : W0.heap.size ≤ B) : Abide B (AccI W0 base C v0 U) := by
  intro G W W' h hb; obtain ⟨v, h1, h2, h3⟩ := h.acc; exact ⟨⟨v, h1.but hb (fun e => e.2 h.own) (fun j hj e => e.2 (h2 j hj)), h2, h3⟩, h.own, h.low, h.but.then hb (fun j hj e => by have := e.1; omega)⟩
theorem AccI.start {W0 : World} {base C : Nat} {v0 : Value} {U : List Int} (h : Acc base C v0 U W0) : AccI W0 base C v0 U (fun j => j = C ∨ v0.ownBlock = some j) W0 :=
  ⟨⟨v0, h, fun j hj => .inr hj, .inl rfl⟩, .inl rfl, fun j h => by rcases h with h | h; exact .inl h; exact .inr (.inl h), But.refl _ _⟩
theorem AccI.step {W0 : World} {base C : Nat} {v0 : Value} {U : List Int} {m : Int} {G : Nat → Prop} {W w1 : World} (hi : AccI W0 base C v0 U G W) {v v' : Value} (ha : Acc base C v U W) (hvG : ∀ j, v.ownBlock = some j → G j) (hv0 : v.ownBlock = v0.ownBlock ∨ ∀ j, v.ownBlock = some j → W0.heap.size ≤ j) {tmp : Obj} (hbase : base ≤ W.heap.size)
    (hown : w1.ownsRow base 26 1 v' (U.length + 1) (uC U ++ [.int .u64 m])) (hgrow : (W.alloc tmp).grownBy w1 v.ownBlock) (hat : v'.ownBlock = v.ownBlock ∨ v'.ownBlock = some (W.alloc tmp).heap.size) :
    Boxed w1 C 112 v ∧ But G W (w1.setCell ⟨C, 0, none⟩ v') ∧ AccI W0 base C v0 (U ++ [m]) (newG G W (w1.setCell ⟨C, 0, none⟩ v')) (w1.setCell ⟨C, 0, none⟩ v') := by
  obtain ⟨h1, h2, h3, _, _⟩ := ha.box.appended (by decide) ha.row hbase ha.le hown hgrow
  have hb1 : But G W w1 := (But.alloc W _).then (But.grown (O := G) hgrow (fun r e => .inl (hvG r e))) (fun _ _ h => h)
  have hb : But G W (w1.setCell ⟨C, 0, none⟩ v') := hb1.trans (But.setCell _ _ _ (.inl hi.own)); refine ⟨h1, hb, ⟨v', ⟨h2, by rw [List.length_append]; simpa using h3, ha.le⟩, fun j hj => ?_, ?_⟩, newG_old hi.own, fun j hj => ?_, hi.but.then hb (fun j hj e => ?_)⟩
  · rcases hat with h | h
    · exact newG_old (hvG j (h ▸ hj))
    · have hlt := (own_of_some hown hj).2
      rw [h] at hj; simp only [World.size_alloc, Option.some.injEq] at hj; exact .inr ⟨by omega, by simpa using hlt⟩
  · have hs := hi.but.size
    rcases hat with h | h
    · rw [h]; exact hv0
    · refine .inr fun j hj => ?_
      rw [h] at hj; simp only [World.size_alloc, Option.some.injEq] at hj; omega
  · rcases hj with h | h
    · exact hi.low j h
    · have := hi.but.size; exact .inr (.inr (by omega))
  · rcases hi.low j e with h | h | h
    · exact .inl h
    · exact .inr h
    · omega
theorem us_take (us : List Int) (k : Nat) (hk : k < us.length) : us.take (k + 1) = us.take k ++ [usAt us k] := by
  rw [List.take_succ_eq_append_getElem hk]; unfold usAt; rw [List.getD_eq_getElem?_getD, List.getElem?_eq_getElem hk]; rfl
def AddE (base C : Nat) (v : Value) (U : List Int) (w : World) (en : Ending) (w' : World) : Prop := en = .returned (.tuple #[]) ∧ But (fun k => k = C ∨ v.ownBlock = some k) w w' ∧ ∃ v', Acc base C v' U w' ∧ (v'.ownBlock = v.ownBlock ∨ ∀ j, v'.ownBlock = some j → w.heap.size ≤ j)
theorem addE_c (r : Rw) (L : List Rw) (n base C : Nat) (v0 : Value) (U : List Int) (w : World) (ha : Acc base C v0 U w) (hbase : base ≤ w.heap.size) (hl : Sl w 5 r.l n (L.flatMap rwC)) (hsh : ∀ r ∈ L, Shp r) (hs : Shp r) (hlow : n = 0 ∨ ∀ k, r.l.ownBlock = some k → k < base) (hlen : U.length + (usI r L).length ≤ 1000000) :
    Calls Tryz.prog 166 #[rwV r, .pointer (some ⟨C, 0, none⟩)] w (AddE base C v0 (U ++ usI r L) w) := by
  have hCl := (Array.getElem?_eq_some_iff.1 ha.box).1; have hsh0 := hs
  have HU : ∀ N, usI r L = N → RowKit.Hid (usI r L = N) := fun _ h => Lib.hid h
  obtain ⟨k0, n0, ba, bn, bc, s0, la, ln, lc, rfl⟩ := hs; have hq1 := below_alloc w (.cells (rwC ⟨k0, n0, .slice ba bn bc, s0, .slice la ln lc⟩).toArray 62); have B0 := RowAt.new w (rwC ⟨k0, n0, .slice ba bn bc, s0, .slice la ln lc⟩).toArray 62
  have huc := fun W => uints_c ⟨k0, n0, .slice ba bn bc, s0, .slice la ln lc⟩ hsh0 W
  obtain ⟨us, hus⟩ : ∃ us, usI ⟨k0, n0, .slice ba bn bc, s0, .slice la ln lc⟩ L = us := ⟨_, rfl⟩
  have hseq := fun W (hW : Below w.heap.size w W) X (hX : RowAt W X (rwC ⟨k0, n0, .slice ba bn bc, s0, .slice la ln lc⟩).toArray 62) => ui1_x ⟨k0, n0, .slice ba bn bc, s0, .slice la ln lc⟩ L X n (fun k => k = X ∨ k < base) W hX (hl.up hW) hsh hsh0 ⟨.inl rfl, hlow.imp id fun h k hk => .inr (h k hk)⟩
  rw [hus] at hlen hseq ⊢; have HSQ := Lib.hid hseq; have HUC := Lib.hid huc; have HLEN := Lib.hid hlen; clear hus HU hseq huc hl hsh hlow hlen hsh0; refine (callsIn_wide (n := 3)).1 ?_; refine callsIn_of_wp_marks Tryz.func166 rfl trivial ?_ rfl; simp only [Tryz.ntmps166, List.size_toArray, List.length_cons, List.length_nil, Nat.reduceAdd, Nat.reduceSub, Array.replicate_succ, Array.replicate_zero, List.push_toArray, List.append_toArray, List.nil_append, List.cons_append]; refine wpIn_wide.2 ?_; have b0 := B0.cell (i := 0) rfl; have b1 := B0.cell (i := 1) rfl; have b2 := B0.cell (i := 2) rfl; have b3 := B0.cell (i := 3) rfl; have b4 := B0.cell (i := 4) rfl
  go_wp2_with fail
  refine (HUC.out _).mono ?_; rintro en w2 ⟨rfl, hw2⟩; have HWW := Lib.hid hw2; clear hw2 b0 b1 b2 b3 b4
  go_wp2_with fail
  have hw2 := HWW.out; clear HWW
  have hW2 : w2.heap.size = w.heap.size + 2 := by rw [hw2]; simp
  have hb2 : Below w.heap.size w w2 := by rw [hw2]; exact hq1.alloc (by simp) _
  have X2 : RowAt w2 (w.heap.size + 1) (rwC ⟨k0, n0, .slice ba bn bc, s0, .slice la ln lc⟩).toArray 62 := by
    rw [hw2]; have := RowAt.new (w.alloc (.cells (rwC ⟨k0, n0, .slice ba bn bc, s0, .slice la ln lc⟩).toArray 62)) (rwC ⟨k0, n0, .slice ba bn bc, s0, .slice la ln lc⟩).toArray 62
    rwa [World.size_alloc] at this
  have hsq := HSQ.out w2 hb2 _ X2
  have h0 : AccI w base C v0 (U ++ us.take 0) (fun j => j = C ∨ v0.ownBlock = some j) w2 := by
    have := AccI.start (ha.up hb2); rw [List.take_zero, List.append_nil]; exact ⟨⟨v0, ha.up hb2, fun j hj => .inr hj, .inl rfl⟩, .inl rfl, fun j h => by rcases h with h | h; exact .inl h; exact .inr (.inl h), But.of_below hb2⟩
  have HW2 := Lib.hid hW2
  have hown := fun k hk => own_of_some ha.row (k := k) hk
  have hCb := ha.le; clear hw2 hq1 B0 X2
  refine wpIn_wide.1 (wp_range (n := 3) (S := fun k => k = w.heap.size + 1 ∨ k < base) (gf := 181) (lb := #[.pointer (some ⟨w.heap.size + 1, 0, none⟩)]) rfl enters_ui1
    hsq (Below.refl _ _) (fun _ => rfl) (fun j => j = C ∨ v0.ownBlock = some j) (fun k h => by rcases h with h | h; rw [HW2.out]; omega; have := (hown k h).2; rw [HW2.out]; omega)
    (fun k h => by
      rw [HW2.out]; refine ⟨by rcases h with h | h <;> omega, fun e => ?_⟩; rcases e with e | e
      · rcases h with h | h <;> omega
      · have h1 := (hown k e).1; have h2 := (hown k e).2; rcases h with h | h <;> omega)
    (fun k G W => AccI w base C v0 (U ++ us.take k) G W)
    (fun k a' G W => a' = { tmps := #[rwV ⟨k0, n0, .slice ba bn bc, s0, .slice la ln lc⟩, .pointer (some ⟨C, 0, none⟩), .pointer (some ⟨w.heap.size, 0, none⟩), .int .u64 (usAt us k), rwV ⟨k0, n0, .slice ba bn bc, s0, .slice la ln lc⟩, .func (.func 181) #[] #[.pointer (some ⟨w.heap.size + 1, 0, none⟩)], .int .u64 (usAt us k), undef, undef, undef, undef], defers := [] } ∧ AccI w base C v0 (U ++ us.take k) G W)
    (fun _ _ _ _ => False)
    (fun k => AccI.abide (by rw [HW2.out]; omega)) (fun k a' G A B h hb => ⟨h.1, AccI.abide (B := w2.heap.size) (by rw [HW2.out]; omega) G A B h.2 hb⟩) (fun c k G A B h _ => h.elim) h0 ?assign ?body ?done ?stop)
  case assign =>
    intro l2 k G W K hk hi hK; simp only [usArgs]
    gi_wp2
    exact hK _ _ (But.refl _ _) ⟨rfl, by
      obtain ⟨v, h1, h2, h3⟩ := hi.acc
      exact ⟨⟨v, h1, fun j hj => newG_old (h2 j hj), h3⟩, newG_old hi.own, fun j hj => by rcases hj with h | h; exact hi.low j h; (have := hi.but.size; exact .inr (.inr (by omega))), hi.but⟩⟩
  case body =>
    rintro l2 k a' G W hk hl2 hl3 hGl ⟨rfl, hi⟩; obtain ⟨v, h1, h2, h3⟩ := hi.acc; have hsW := hi.but.size
    have hbW : base ≤ W.heap.size := by omega
    have hlE : (U ++ us.take k).length + 1 ≤ 1000000 := by have := HLEN.out; rw [List.length_append, List.length_take]; omega
    have HTK := Lib.hid (us_take us k hk); have cl := h1.box.cell; have fl := h1.box.frozen; have hro := h1.row; obtain ⟨m, hm⟩ : ∃ m, usAt us k = m := ⟨_, rfl⟩; rw [hm] at HTK ⊢; obtain ⟨A, hA⟩ : ∃ A, U ++ us.take k = A := ⟨_, rfl⟩; rw [hA] at h1 hi hro hlE; have HA := Lib.hid hA; obtain ⟨av, cv, rfl⟩ := own_slice hro; clear hm hA
    gi_wp2_with (first
      | (gi_at_builtin; refine wpListIn_app rfl _ _ 112 rfl slU base rfl (hro.alloc _) rfl (slU1 _ _ rfl _) (by simp [Value.oneCell']) (by simp [maxLen]; omega) (by omega) (by simp; omega) ?_; intro v' w1 hown' hgrow _ hat; obtain ⟨g', cap', rfl⟩ := ownsRow_succ hown'; obtain ⟨hv1, hbut, hstep⟩ := hi.step h1 h2 h3 hbW hown' hgrow hat; have HS := Lib.hid hstep; have HB := Lib.hid hbut; clear hstep hbut; have hc1 := hv1.cell; have hf1 := hv1.frozen))
    exact ⟨HB.out, by show AccI w base C v0 (U ++ us.take (k + 1)) _ _; rw [HTK.out, ← List.append_assoc, HA.out]; exact HS.out⟩
  case done =>
    rintro D G W hD hGD hi hK; have HK := Lib.hid hK; rw [List.take_length] at hi; obtain ⟨v, h1, h2, h3⟩ := hi.acc; have HI := Lib.hid hi; have H1 := Lib.hid h1; go_wp2; refine ⟨by simp, .inl ⟨_, _, rfl, run_takeDeferred HK.out, ?_⟩⟩; have hp : But (· = D) W (W.putObj D (.deferred none)) := But.putObj _ _ _ (.inl rfl)
    have hDC : ¬ C = D := fun e => hGD (e ▸ HI.out.own)
    refine ⟨.tuple #[], by simp [results, Tryz.results166, go_sem], rfl, HI.out.but.then hp (fun j hj e => by rw [HW2.out] at hD; omega), v, H1.out.but hp hDC (fun j hj e => hGD (by rw [← e]; exact h2 j hj)), h3⟩
  case stop =>
    intro D c k G W _ _ _ hi _; exact hi.elim
end Go.Proofs.YtpkonagjnfphkaaGreatDoor
