/-
  CbV, CbUi, PrI, PrL, CbSt, Pz: several texts in one (bundle.py).
-/
import Derived.Test.YtpkonagjnfphkaaGreatDoorPmT16
import Derived.Test.YtpkonagjnfphkaaGreatDoorPmT04
import Derived.Test.YtpkonagjnfphkaaGreatDoorPmT15
import Derived.Test.YtpkonagjnfphkaaGreatDoorPmT14
import Derived.Test.YtpkonagjnfphkaaGreatDoorPmT02
import Derived.StillTail
import Derived.ArgAppend
import Derived.Laws.Tables
import Derived.Great.BuildSlice
namespace Go.Proofs.YtpkonagjnfphkaaGreatDoor
open Go.RowKit Cb
set_option linter.unusedSimpArgs false
set_option linter.unusedVariables false
attribute [local go_sem] Oper.semAt_some
/-- A variable that holds a slice of records. -/
structure RoAt (w : World) (C : Nat) (v : Value) (n : Nat) (L : List Rw) : Prop where
  var : w.cell? ⟨C, 0, none⟩ = some v
  sl : Sl w 5 v n (L.flatMap rwC)
theorem RoAt.but {w w' : World} {C : Nat} {v : Value} {n : Nat} {L : List Rw} {O : Nat → Prop} (h : RoAt w C v n L) (hb : But O w w') (hC : ¬ O C) (hv : n = 0 ∨ ∀ k, v.ownBlock = some k → ¬ O k) : RoAt w' C v n L :=
  ⟨hb.cell h.var hC, h.sl.but hb hv⟩
theorem RoAt.up {w w' : World} {C : Nat} {v : Value} {n : Nat} {L : List Rw} (h : RoAt w C v n L) (hb : Below w.heap.size w w') : RoAt w' C v n L := h.but (O := fun _ => False) (But.of_below hb) (fun e => e) (.inr fun _ _ e => e)
def Shp (r : Rw) : Prop := ∃ k n ba bn bc s la ln lc, r = ⟨k, n, .slice ba bn bc, s, .slice la ln lc⟩
theorem ItsR.shp {S : Nat → Prop} {w : World} {l : List It} {rows : List Rw} (h : ItsR S w l rows) : ∀ r ∈ rows, Shp r := by
  intro r hr
  obtain ⟨i, hi, rfl⟩ := List.getElem_of_mem hr
  have := h.len
  exact (h.get (i := i) (by omega) hi).shape
def itArgs (L : List Rw) (k : Nat) : Array Value := #[rwV (L.getD k ⟨0, 0, .slice none 0 0, ⟨#[]⟩, .slice none 0 0⟩)]
set_option maxRecDepth 100000 in
theorem valuesI_c (a : Option Addr) (n c : Nat) (w : World) : Calls Tryz.prog 157 #[.slice a n c] w fun en w' => en = .returned (.func (.func 178) #[] #[.pointer (some ⟨w.heap.size, 0, none⟩)]) ∧ w' = w.alloc (.cells #[.slice a n c] 59) := by
  have hmf : ∀ (fn : Fn) (first cap : Array Value) (w : World), (Instr.makeFunc fn first cap).run Tryz.prog w = .ok (.func fn first cap) w := fun _ _ _ _ => rfl
  go_enter Tryz.func157, Tryz.ntmps157
  go_wp2
  go_ret
  exact ⟨rfl, rfl⟩
theorem enters_valI1 : Enters Tryz.prog 178 := enters_of Tryz.func178 (by kernel_rfl) rfl
set_option maxHeartbeats 2000000 in
set_option maxRecDepth 100000 in
theorem valI1_z (L : List Rw) (C n : Nat) (v : Value) (S : Nat → Prop) (w : World) (h : RoAt w C v n L) (hsh : ∀ r ∈ L, Shp r) (hSS : S C ∧ (n = 0 ∨ ∀ k, v.ownBlock = some k → S k)) :
    SeqZ Tryz.prog 178 #[.pointer (some ⟨C, 0, none⟩)] (itArgs L) n S w := by
  intro l' G J Jx Jp W hW hS hG hJ hJx hY h0
  have hE := h.up hW
  have Hln := Lib.hid (Sl.recs (cells := rwC) (sz := 5) (fun _ => rfl) (by decide) hE.sl)
  have hn := hE.sl.n_max
  obtain ⟨a, c, rfl⟩ := hE.sl.len
  have hc0 := hE.var
  clear h hW
  refine (callsIn_wide (n := 3)).1 ?_
  refine callsIn_of_wp Tryz.func178 rfl trivial ?_ rfl
  simp only [Tryz.ntmps178, List.size_toArray, List.length_cons, List.length_nil, Nat.reduceAdd, Nat.reduceSub, Array.replicate_succ, Array.replicate_zero, List.push_toArray, List.append_toArray, List.nil_append, List.cons_append]
  gi_wp2
  gi_loopw [7] (fun i wr => ∃ (j : Nat) (G : Nat → Prop), j ≤ n ∧ i = .int .i64 j ∧ J j G wr ∧ RoAt wr C (.slice a n c) n L ∧ (∀ k, S k → ¬ G k) ∧ W.heap.size ≤ wr.heap.size) (fun i _ => n - (intOf i).toNat)
  case atStart => exact ⟨0, G, Nat.zero_le _, rfl, h0, hE, fun k hk => (hS k hk).2, Nat.le_refl _⟩
  case round =>
    obtain ⟨j, G1, hk, rfl, hj, hE1, hG1, hsz⟩ := hrel
    by_cases hlt : j < n
    · have hlt' : j < L.length := by rw [Hln.out]; exact hlt
      obtain ⟨b, off, rfl, hr⟩ := hE1.sl.rec_at (cells := rwC) (sz := 5) (fun _ => rfl) hlt hlt'
      have hjn : (j : Int) < (n : Int) := by omega
      have hat : itArgs L j = #[rwV L[j]] := by unfold itArgs; rw [List.getD_eq_getElem?_getD, List.getElem?_eq_getElem hlt']; rfl
      have hes := hsh L[j] (List.getElem_mem hlt')
      generalize L[j] = e at *
      obtain ⟨k1, n1, ba1, bn1, bc1, s1, la1, ln1, lc1, rfl⟩ := hes
      have hCl := World.block_lt_of_cell? wr _ hE1.var
      have E1 := RowAt.new wr (rwC ⟨k1, n1, .slice ba1 bn1 bc1, s1, .slice la1 ln1 lc1⟩).toArray 62
      have hEa := hE1.but (But.alloc (O := fun _ => False) wr (.cells (rwC ⟨k1, n1, .slice ba1 bn1 bc1, s1, .slice la1 ln1 lc1⟩).toArray 62)) (fun h => h) (.inr fun _ _ h => h)
      have hJa := (hJ _).alloc (.cells (rwC ⟨k1, n1, .slice ba1 bn1 bc1, s1, .slice la1 ln1 lc1⟩).toArray 62) (((hJ _).up (Nat.le_refl _)) _ _ _ hj (But.refl _ _))
      obtain ⟨fn, tmps, assign, body, hy, hR⟩ := yieldAt_wide (m' := 2) (hY _ _ _ hlt hJa)
      rw [hat] at hy
      clear hat
      gi_wp2_with (first
        | (refine wpListIn_loadr rfl 62 (.tmp 9) rfl b (off + j * 5) rfl (rwC ⟨k1, n1, .slice ba1 bn1 bc1, s1, .slice la1 ln1 lc1⟩) _ hr Tryz.underlying62 rfl (by kernel_rfl) ?_)
        | (refine wpListIn_loadr rfl 62 (.tmp 4) rfl wr.heap.size 0 rfl (rwC ⟨k1, n1, .slice ba1 bn1 bc1, s1, .slice la1 ln1 lc1⟩) _ E1.range Tryz.underlying62 rfl (by kernel_rfl) ?_))
      refine hR.mono ?_
      rintro en W3 (⟨g, rfl, hw⟩ | ⟨ch, rfl, hp⟩)
      rotate_left
      · exact ⟨rfl, .inr ⟨ch, rfl, hp⟩⟩
      have hE3 := hEa.but hw.but (hG1 C hSS.1) (hSS.2.elim .inl fun h => .inr fun k hk => hG1 k (h k hk))
      have hs3 := hw.but.size
      simp only [World.size_alloc] at hs3
      cases g with
      | true =>
        gi_wp2
        go_roundw
        case rel => exact ⟨j + 1, _, by omega, by go_num, hw.on rfl, hE3, fun k hk => newG_not (hG1 k hk) (by have := (hS k hk).1; simp; omega), by omega⟩
        case measure => simp [intOf]; omega
      | false =>
        gi_wp2
        refine bodyPost_ret (results_none rfl _ _ _) rfl ?_
        exact .inl ⟨⟨_, rfl⟩, _, .inr ⟨_, hlt, hw.off rfl⟩⟩
    · obtain rfl : j = n := by omega
      gi_wp2
      go_end0
      exact .inl ⟨⟨_, rfl⟩, _, .inl hj⟩
end Go.Proofs.YtpkonagjnfphkaaGreatDoor

namespace Go.Proofs.YtpkonagjnfphkaaGreatDoor
open Go.RowKit Cb
set_option linter.unusedSimpArgs false
set_option linter.unusedVariables false
attribute [local go_sem] Oper.semAt_some
theorem wpIn_scopeS {P : Program} {n : Nat} {c : Code} {Q : Exit → Act → World → Prop} {a : Act} {w : World} (h : c.wpIn Fence.wide n P (Exit.noGoto Q) a w) : (Code.scope c).wpIn Fence.wide n P Q a w := wpIn_wide.2 (wp_scope_straight ((wpIn_wide (n := n)).1 h))
/-- The numbers among the records. -/
def usR (L : List Rw) : List Int := (L.filter fun r => r.k == 1).map (·.n)
theorem usR_split (L : List Rw) (j : Nat) : usR L = usR (L.take j) ++ usR (L.drop j) := by
  unfold usR
  rw [← List.map_append, ← List.filter_append, List.take_append_drop]
theorem usR_le (L : List Rw) (j : Nat) : (usR (L.take j)).length ≤ (usR L).length := by
  rw [usR_split L j, List.length_append]; omega
theorem usR_len (L : List Rw) : (usR L).length ≤ L.length := by
  unfold usR
  rw [List.length_map]
  exact List.length_filter_le _ _
theorem usR_one (L : List Rw) {j : Nat} (hj : j < L.length) : usR (L.take (j + 1)) = usR (L.take j) ++ if L[j].k = 1 then [L[j].n] else [] := by
  rw [List.take_succ_eq_append_getElem hj]
  unfold usR
  rw [List.filter_append, List.map_append]
  congr 1
  by_cases h : L[j].k = 1
  · simp [h]
  · simp [h]
def usAt (U : List Int) (k : Nat) : Int := U.getD k 0
theorem usR_yes (L : List Rw) {j : Nat} (hj : j < L.length) (h : L[j].k = 1) : (usR (L.take (j + 1))).length = (usR (L.take j)).length + 1 ∧ (usR (L.take j)).length < (usR L).length ∧ usAt (usR L) (usR (L.take j)).length = L[j].n := by
  have h1 := usR_one L hj
  rw [if_pos h] at h1
  have h2 : (usR (L.take (j + 1))).length = (usR (L.take j)).length + 1 := by rw [h1]; simp
  have h3 := usR_le L (j + 1)
  refine ⟨h2, by omega, ?_⟩
  unfold usAt
  rw [usR_split L (j + 1), h1]
  simp
theorem usR_no (L : List Rw) {j : Nat} (hj : j < L.length) (h : L[j].k ≠ 1) : (usR (L.take (j + 1))).length = (usR (L.take j)).length := by
  rw [usR_one L hj, if_neg h]; simp
def usI (r : Rw) (L : List Rw) : List Int := if r.k = 4 then usR L else []
def usArgs (U : List Int) (k : Nat) : Array Value := #[.int .u64 (usAt U k)]
set_option maxRecDepth 100000 in
theorem uints_c (r : Rw) (hsh : Shp r) (w : World) : Calls Tryz.prog 167 #[rwV r] w fun en w' => en = .returned (.func (.func 181) #[] #[.pointer (some ⟨w.heap.size, 0, none⟩)]) ∧ w' = w.alloc (.cells (rwC r).toArray 62) := by
  have hmf : ∀ (fn : Fn) (first cap : Array Value) (w : World), (Instr.makeFunc fn first cap).run Tryz.prog w = .ok (.func fn first cap) w := fun _ _ _ _ => rfl
  obtain ⟨k, n, ba, bn, bc, s, la, ln, lc, rfl⟩ := hsh
  go_enter Tryz.func167, Tryz.ntmps167
  go_wp2
  go_ret
  exact ⟨rfl, rfl⟩
theorem enters_ui1 : Enters Tryz.prog 181 := enters_of Tryz.func181 (by kernel_rfl) rfl
set_option maxHeartbeats 2000000 in
set_option maxRecDepth 100000 in
theorem ui1_x (r : Rw) (L : List Rw) (C n : Nat) (S : Nat → Prop) (w : World) (hr : RowAt w C (rwC r).toArray 62) (hl : Sl w 5 r.l n (L.flatMap rwC)) (hsh : ∀ r ∈ L, Shp r) (hs : Shp r) (hSS : S C ∧ (n = 0 ∨ ∀ k, r.l.ownBlock = some k → S k)) :
    SeqX Tryz.prog 181 #[.pointer (some ⟨C, 0, none⟩)] (usArgs (usI r L)) (usI r L).length S w := by
  intro l' G J Jx W hW hS hG hJ hJx hY h0
  have hE := hl.up hW
  have hR := hr.below hW
  have Hln := Lib.hid (Sl.recs (cells := rwC) (sz := 5) (fun _ => rfl) (by decide) hE)
  have hn := hE.n_max
  obtain ⟨k0, n0, ba, bn, bc, s, la, ln, lc, rfl⟩ := hs
  obtain rfl : n = ln := by obtain ⟨a, c, h⟩ := hE.len; simp at h; exact h.2.1.symm
  simp only at hE hSS
  have c0 : W.cell? ⟨C, 0, none⟩ = some (.int .i64 k0) := hR.cell (i := 0) rfl
  have c4 : W.cell? ⟨C, 4, none⟩ = some (.slice la n lc) := hR.cell (i := 4) rfl
  clear hl hr hR
  refine (callsIn_wide (n := 3)).1 ?_
  refine callsIn_of_wp Tryz.func181 rfl trivial ?_ rfl
  simp only [Tryz.ntmps181, List.size_toArray, List.length_cons, List.length_nil, Nat.reduceAdd, Nat.reduceSub, Array.replicate_succ, Array.replicate_zero, List.push_toArray, List.append_toArray, List.nil_append, List.cons_append]
  by_cases h4 : k0 = 4
  · subst h4
    have hU : usI ⟨4, n0, .slice ba bn bc, s, .slice la n lc⟩ L = usR L := rfl
    rw [hU] at hY ⊢
    clear hU
    gi_wp2
    refine wpIn_scopeS ?_
    gi_wp2
    refine wpIn_label ?_
    gi_wp2
    gi_loopw [11] (fun i wr => ∃ (j : Nat) (G : Nat → Prop), j ≤ n ∧ i = .int .i64 j ∧ J (usR (L.take j)).length G wr ∧ Sl wr 5 (.slice la n lc) n (L.flatMap rwC) ∧ (∀ k, S k → ¬ G k) ∧ W.heap.size ≤ wr.heap.size) (fun i _ => n - (intOf i).toNat)
    case atStart => exact ⟨0, G, Nat.zero_le _, rfl, h0, hE, fun k hk => (hS k hk).2, Nat.le_refl _⟩
    case round =>
      obtain ⟨j, G1, hk, rfl, hj, hE1, hG1, hsz⟩ := hrel
      by_cases hlt : j < n
      · have hlt' : j < L.length := by rw [Hln.out]; exact hlt
        obtain ⟨b, off, rfl, hr⟩ := hE1.rec_at (cells := rwC) (sz := 5) (fun _ => rfl) hlt hlt'
        have hjn : (j : Int) < (n : Int) := by omega
        have hes := hsh L[j] (List.getElem_mem hlt')
        have HY := Lib.hid (usR_yes L hlt')
        have HNo := Lib.hid (usR_no L hlt')
        generalize L[j] = e at *
        obtain ⟨k1, n1, ba1, bn1, bc1, s1, la1, ln1, lc1, rfl⟩ := hes
        have hJa := (hJ _).alloc (.cells (rwC ⟨k1, n1, .slice ba1 bn1 bc1, s1, .slice la1 ln1 lc1⟩).toArray 62) (((hJ _).up (Nat.le_refl _)) _ _ _ hj (But.refl _ _))
        have E1 := RowAt.new wr (rwC ⟨k1, n1, .slice ba1 bn1 bc1, s1, .slice la1 ln1 lc1⟩).toArray 62
        have hEa := hE1.but (But.alloc (O := fun _ => False) wr (.cells (rwC ⟨k1, n1, .slice ba1 bn1 bc1, s1, .slice la1 ln1 lc1⟩).toArray 62)) (.inr fun _ _ h => h)
        by_cases h1 : k1 = 1
        · subst h1
          obtain ⟨hy1, hy2, hy3⟩ := HY.out rfl
          have hpa : usArgs (usR L) (usR (L.take j)).length = #[.int .u64 n1] := by unfold usArgs; rw [hy3]
          obtain ⟨fn, tmps, assign, body, hy, hR⟩ := yieldAt_wide (m' := 2) (hY _ _ _ hy2 hJa)
          rw [hpa] at hy
          clear hpa
          have HY1 := Lib.hid hy1
          have HY2 := Lib.hid hy2
          clear hy1 hy2 hy3
          gi_wp2_with (first
            | (refine wpListIn_loadr rfl 62 (.tmp 13) rfl b (off + j * 5) rfl (rwC ⟨1, n1, .slice ba1 bn1 bc1, s1, .slice la1 ln1 lc1⟩) _ hr Tryz.underlying62 rfl (by kernel_rfl) ?_))
          refine hR.mono ?_
          rintro en W3 ⟨g, rfl, hw⟩
          have hE3 := hEa.but hw.but (hSS.2.elim .inl fun h => .inr fun k hk => hG1 k (h k hk))
          have hs3 := hw.but.size
          simp only [World.size_alloc] at hs3
          cases g with
          | true =>
            gi_wp2
            go_roundw
            case rel => exact ⟨j + 1, _, by omega, by go_num, by rw [HY1.out]; exact hw.on rfl, hE3, fun k hk => newG_not (hG1 k hk) (by have := (hS k hk).1; simp; omega), by omega⟩
            case measure => simp [intOf]; omega
          | false =>
            gi_wp2
            rw [Exit.noGoto_normal]
            go_end0
            exact ⟨⟨_, rfl⟩, _, .inr ⟨_, HY2.out, hw.off rfl⟩⟩
        · have hno := HNo.out h1
          have Hno := Lib.hid hno
          clear hno
          have hkb : (k1 == 1) = false := by simpa using h1
          gi_wp2_with (first
            | (refine wpListIn_loadr rfl 62 (.tmp 13) rfl b (off + j * 5) rfl (rwC ⟨k1, n1, .slice ba1 bn1 bc1, s1, .slice la1 ln1 lc1⟩) _ hr Tryz.underlying62 rfl (by kernel_rfl) ?_))
          repeat (refine ⟨fun f hf => (by cases hf), ?_⟩; gi_wp2)
          go_roundw
          case rel => exact ⟨j + 1, G1, by omega, by go_num, by rw [Hno.out]; exact hJa, hEa, hG1, by simp; omega⟩
          case measure => simp [intOf]; omega
      · obtain rfl : j = n := by omega
        have Hall := Lib.hid (show L.take j = L from List.take_of_length_le (by rw [Hln.out]; exact Nat.le_refl _))
        gi_wp2
        rw [Exit.noGoto_normal]
        go_end0
        exact ⟨⟨_, rfl⟩, _, .inl (by rw [Hall.out] at hj; exact hj)⟩
  · have hU : usI ⟨k0, n0, .slice ba bn bc, s, .slice la n lc⟩ L = [] := if_neg h4
    rw [hU]
    gi_wp2
    refine wpIn_scopeS ?_
    gi_wp2
    rw [Exit.noGoto_ret]
    refine bodyPost_ret (results_none rfl _ _ _) rfl ?_
    exact ⟨⟨_, rfl⟩, _, .inl h0⟩
end Go.Proofs.YtpkonagjnfphkaaGreatDoor

namespace Go.Proofs.YtpkonagjnfphkaaGreatDoor
open Go.RowKit Trc Cb
set_option linter.unusedSimpArgs false
set_option linter.unusedVariables false
attribute [local go_sem] Oper.semAt_some
set_option maxRecDepth 100000 in
theorem prWants_c (p : Prm.Pr) (w : World) : Calls Tryz.prog 15 #[prV p] w fun en w' => en = .returned (.func (.func 35) #[] #[.pointer (some ⟨w.heap.size, 0, none⟩)]) ∧ w' = w.alloc (.cells (prC p).toArray 28) := by
  have hmf : ∀ (fn : Fn) (first cap : Array Value) (w : World), (Instr.makeFunc fn first cap).run Tryz.prog w = .ok (.func fn first cap) w := fun _ _ _ _ => rfl
  go_enter Tryz.func15, Tryz.ntmps15
  go_wp2
  go_ret
  exact ⟨rfl, rfl⟩
theorem enters_prWn1 : Enters Tryz.prog 35 := enters_of Tryz.func35 (by kernel_rfl) rfl
def pwAt (f : Nat) (k : Nat) : Nat := (Prm.wantsL f).getD k 0
def pwArgs (f : Nat) (k : Nat) : Array Value := #[.int .u32 (pwAt f k : Nat)]
/-- How many flags a primary has among the first few. -/
def pwC (f j : Nat) : Nat := (if Prm.hasB f 2 = true ∧ 1 ≤ j then 1 else 0) + (if Prm.hasB f 32 = true ∧ 2 ≤ j then 1 else 0)
theorem pw_two {f : Nat} (h : Prm.hasB f 2 = true) : 0 < (Prm.wantsL f).length ∧ pwAt f 0 = 2 := by
  unfold pwAt Prm.wantsL
  cases h2 : Prm.hasB f 32 <;> simp [h, h2]
theorem pw_three {f : Nat} (h : Prm.hasB f 32 = true) : pwC f 1 < (Prm.wantsL f).length ∧ pwAt f (pwC f 1) = 32 := by
  unfold pwAt Prm.wantsL pwC
  cases h2 : Prm.hasB f 2 <;> simp [h, h2]
theorem pw_len (f : Nat) : pwC f 2 = (Prm.wantsL f).length := by
  unfold Prm.wantsL pwC
  cases h2 : Prm.hasB f 2 <;> cases h3 : Prm.hasB f 32 <;> simp [h2, h3]
set_option maxHeartbeats 2000000 in
set_option maxRecDepth 100000 in
theorem pwn1_x (p : Prm.Pr) (hp : p.flags < 4294967296) (C : Nat) (S : Nat → Prop) (w : World) (hr : RowAt w C (prC p).toArray 28) (hSS : S C) :
    SeqX Tryz.prog 35 #[.pointer (some ⟨C, 0, none⟩)] (pwArgs p.flags) (Prm.wantsL p.flags).length S w := by
  intro l' G J Jx W hW hS hG hJ hJx hY h0
  have hR := hr.below hW
  have Hr := Lib.hid hR
  have hCl := hR.lt
  have hix0 : ∀ w : World, (Instr.index 74 (.agg #[.int .u32 2, .int .u32 32]) (.int .i64 0)).run Tryz.prog w = .ok (.int .u32 2) w := fun _ => by kernel_rfl
  have hix1 : ∀ w : World, (Instr.index 74 (.agg #[.int .u32 2, .int .u32 32]) (.int .i64 1)).run Tryz.prog w = .ok (.int .u32 32) w := fun _ => by kernel_rfl
  clear hr hR
  refine (callsIn_wide (n := 3)).1 ?_
  refine callsIn_of_wp Tryz.func35 rfl trivial ?_ rfl
  simp only [Tryz.ntmps35, List.size_toArray, List.length_cons, List.length_nil, Nat.reduceAdd, Nat.reduceSub, Array.replicate_succ, Array.replicate_zero, List.push_toArray, List.append_toArray, List.nil_append, List.cons_append]
  refine wpIn_scopeS ?_
  gi_wp2
  refine wpIn_label ?_
  gi_wp2
  gi_loopw [6] (fun i wr => ∃ (j : Nat) (G : Nat → Prop), j ≤ 2 ∧ i = .int .i64 j ∧ J (pwC p.flags j) G wr ∧ RowAt wr C (prC p).toArray 28 ∧ (∀ k, S k → ¬ G k) ∧ W.heap.size ≤ wr.heap.size) (fun i _ => 2 - (intOf i).toNat)
  case atStart => exact ⟨0, G, Nat.zero_le _, rfl, by simpa [pwC] using h0, Hr.out, fun k hk => (hS k hk).2, Nat.le_refl _⟩
  case round =>
    obtain ⟨j, G1, hk, rfl, hj, hE1, hG1, hsz⟩ := hrel
    have x0 := hE1.cell (i := 0) rfl
    have x1 := hE1.cell (i := 1) rfl
    have x2 := hE1.cell (i := 2) rfl
    have x3 := hE1.cell (i := 3) rfl
    have x4 := hE1.cell (i := 4) rfl
    have x5 := hE1.cell (i := 5) rfl
    have x6 := hE1.cell (i := 6) rfl
    have x7 := hE1.cell (i := 7) rfl
    have x8 := hE1.cell (i := 8) rfl
    have x9 := hE1.cell (i := 9) rfl
    have x10 := hE1.cell (i := 10) rfl
    rcases (show j = 0 ∨ j = 1 ∨ j = 2 by omega) with rfl | rfl | rfl
    · have hc := prHas_c p hp 2 (by decide) wr
      cases hh : Prm.hasB p.flags 2 with
      | true =>
        rw [hh] at hc
        have hln := pw_two hh
        have HC := Lib.hid (show pwC p.flags 1 = pwC p.flags 0 + 1 by simp [pwC, hh])
        have h00 : pwC p.flags 0 = 0 := by simp [pwC]
        rw [h00] at hj HC
        have hpa : pwArgs p.flags 0 = #[.int .u32 2] := by unfold pwArgs; rw [hln.2]; rfl
        have HLT := Lib.hid hln.1
        have HPA := Lib.hid hpa
        clear hln hh hpa
        gi_wp2_with (first | ((try refine ⟨trivial, ?_⟩); gi_at_call 13; refine (callsIn_wide.2 hc).mono ?_; rintro en w1 ⟨rfl, hb1⟩))
        have hJa := hJ _ _ _ _ hj (But.of_below hb1)
        have hE2 := hE1.below hb1
        obtain ⟨fn, tmps, assign, body, hy, hRR⟩ := yieldAt_wide (m' := 2) (hY _ _ _ HLT.out hJa)
        rw [HPA.out] at hy
        gi_wp2
        rw [hy]
        refine ⟨fun _ => by decide, hRR.mono ?_⟩
        rintro en W3 ⟨g, rfl, hw⟩
        have hE3 : RowAt W3 C (prC p).toArray 28 := (hw.but.same _ hE2.lt (hG1 C hSS)).trans hE2
        have hs3 := hw.but.size
        have hs1 := hb1.size
        cases g with
        | true =>
          gi_wp2
          go_roundw
          case rel => exact ⟨1, _, by omega, by go_num, by rw [HC.out]; exact hw.on rfl, hE3, fun k hk => newG_not (hG1 k hk) (by have := (hS k hk).1; omega), by omega⟩
          case measure => simp [intOf]
        | false =>
          gi_wp2
          rw [Exit.noGoto_normal]
          go_end0
          exact ⟨⟨_, rfl⟩, _, .inr ⟨_, HLT.out, hw.off rfl⟩⟩
      | false =>
        rw [hh] at hc
        have HC := Lib.hid (show pwC p.flags 1 = pwC p.flags 0 by simp [pwC, hh])
        clear hh
        gi_wp2_with (first | ((try refine ⟨trivial, ?_⟩); gi_at_call 13; refine (callsIn_wide.2 hc).mono ?_; rintro en w1 ⟨rfl, hb1⟩))
        have hJa := hJ _ _ _ _ hj (But.of_below hb1)
        have hE2 := hE1.below hb1
        have hs1 := hb1.size
        repeat (refine ⟨fun f hf => (by cases hf), ?_⟩; gi_wp2)
        go_roundw
        case rel => exact ⟨1, G1, by omega, by go_num, by rw [HC.out]; exact hJa, hE2, hG1, by omega⟩
        case measure => simp [intOf]
    · have hc := prHas_c p hp 32 (by decide) wr
      cases hh : Prm.hasB p.flags 32 with
      | true =>
        rw [hh] at hc
        have hln := pw_three hh
        have HC := Lib.hid (show pwC p.flags 2 = pwC p.flags 1 + 1 by simp [pwC, hh])
        have hpa : pwArgs p.flags (pwC p.flags 1) = #[.int .u32 32] := by unfold pwArgs; rw [hln.2]; rfl
        have HLT := Lib.hid hln.1
        have HPA := Lib.hid hpa
        clear hln hh hpa
        gi_wp2_with (first | ((try refine ⟨trivial, ?_⟩); gi_at_call 13; refine (callsIn_wide.2 hc).mono ?_; rintro en w1 ⟨rfl, hb1⟩))
        have hJa := hJ _ _ _ _ hj (But.of_below hb1)
        have hE2 := hE1.below hb1
        obtain ⟨fn, tmps, assign, body, hy, hRR⟩ := yieldAt_wide (m' := 2) (hY _ _ _ HLT.out hJa)
        rw [HPA.out] at hy
        gi_wp2
        rw [hy]
        refine ⟨fun _ => by decide, hRR.mono ?_⟩
        rintro en W3 ⟨g, rfl, hw⟩
        have hE3 : RowAt W3 C (prC p).toArray 28 := (hw.but.same _ hE2.lt (hG1 C hSS)).trans hE2
        have hs3 := hw.but.size
        have hs1 := hb1.size
        cases g with
        | true =>
          gi_wp2
          go_roundw
          case rel => exact ⟨2, _, by omega, by go_num, by rw [HC.out]; exact hw.on rfl, hE3, fun k hk => newG_not (hG1 k hk) (by have := (hS k hk).1; omega), by omega⟩
          case measure => simp [intOf]
        | false =>
          gi_wp2
          rw [Exit.noGoto_normal]
          go_end0
          exact ⟨⟨_, rfl⟩, _, .inr ⟨_, HLT.out, hw.off rfl⟩⟩
      | false =>
        rw [hh] at hc
        have HC := Lib.hid (show pwC p.flags 2 = pwC p.flags 1 by simp [pwC, hh])
        clear hh
        gi_wp2_with (first | ((try refine ⟨trivial, ?_⟩); gi_at_call 13; refine (callsIn_wide.2 hc).mono ?_; rintro en w1 ⟨rfl, hb1⟩))
        have hJa := hJ _ _ _ _ hj (But.of_below hb1)
        have hE2 := hE1.below hb1
        have hs1 := hb1.size
        repeat (refine ⟨fun f hf => (by cases hf), ?_⟩; gi_wp2)
        go_roundw
        case rel => exact ⟨2, G1, by omega, by go_num, by rw [HC.out]; exact hJa, hE2, hG1, by omega⟩
        case measure => simp [intOf]
    · have hln := pw_len p.flags
      rw [hln] at hj
      clear hln
      gi_wp2
      rw [Exit.noGoto_normal]
      go_end0
      exact ⟨⟨_, rfl⟩, G1, .inl hj⟩
theorem prNum_c (e : Int) (w : World) : Calls Tryz.prog 12 #[.int .i64 e] w (fun en w' => en = .returned (.int .i64 e) ∧ w = w') := by
  go_enter Tryz.func12, Tryz.ntmps12
  go_wp2
  go_ret
  exact ⟨rfl, rfl⟩
/-- The chapter's first primary. -/
def Prm.p1 : Prm.Pr := ⟨0, 0, 2, 0, 1, 0, 0, 0, 5, 6, 7⟩
set_option maxHeartbeats 1000000 in
set_option maxRecDepth 100000 in
theorem prFirst_c (w : World) : Calls Tryz.prog 33 #[] w (Ret (prV Prm.p1) w) := by
  have hZ := RowAt.new w (prC Prm.p1).toArray 28
  go_enter Tryz.func33, Tryz.ntmps33
  go_wp2
  have g0 := RowAt.cell hZ (i := 0) (v := .int .u32 0) rfl
  have g1 := RowAt.cell hZ (i := 1) (v := .int .i64 0) rfl
  have g2 := RowAt.cell hZ (i := 2) (v := .int .u32 2) rfl
  have g3 := RowAt.cell hZ (i := 3) (v := .int .u32 0) rfl
  have g4 := RowAt.cell hZ (i := 4) (v := .int .u32 1) rfl
  have g5 := RowAt.cell hZ (i := 5) (v := .int .u32 0) rfl
  have g6 := RowAt.cell hZ (i := 6) (v := .int .u32 0) rfl
  have g7 := RowAt.cell hZ (i := 7) (v := .int .u32 0) rfl
  have g8 := RowAt.cell hZ (i := 8) (v := .int .u64 5) rfl
  have g9 := RowAt.cell hZ (i := 9) (v := .int .u32 6) rfl
  have g10 := RowAt.cell hZ (i := 10) (v := .int .u64 7) rfl
  refine bodyPost_ret (v := prV Prm.p1) ?_ rfl ?_
  · simp [results, Tryz.results33, go_sem, Prm.p1, g0, g1, g2, g3, g4, g5, g6, g7, g8, g9, g10]
  exact ⟨rfl, below_alloc _ _⟩
end Go.Proofs.YtpkonagjnfphkaaGreatDoor

namespace Go.Proofs.YtpkonagjnfphkaaGreatDoor
open Go.RowKit Trc
set_option linter.unusedSimpArgs false
set_option linter.unusedVariables false
theorem row11 {w : World} {B : Nat} {T : TypeId} {a0 a1 a2 a3 a4 a5 a6 a7 a8 a9 a10 : Value} (h : RowAt w B #[a0, a1, a2, a3, a4, a5, a6, a7, a8, a9, a10] T) (v0 v1 v2 v3 v4 v5 v6 v7 v8 v9 v10 : Value) : RowAt (((((((((((w.setCell ⟨B, 0, none⟩ (v0)).setCell ⟨B, 1, none⟩ (v1)).setCell ⟨B, 2, none⟩ (v2)).setCell ⟨B, 3, none⟩ (v3)).setCell ⟨B, 4, none⟩ (v4)).setCell ⟨B, 5, none⟩ (v5)).setCell ⟨B, 6, none⟩ (v6)).setCell ⟨B, 7, none⟩ (v7)).setCell ⟨B, 8, none⟩ (v8)).setCell ⟨B, 9, none⟩ (v9)).setCell ⟨B, 10, none⟩ (v10)) B #[v0, v1, v2, v3, v4, v5, v6, v7, v8, v9, v10] T ∧ But (fun k => k = B) w (((((((((((w.setCell ⟨B, 0, none⟩ (v0)).setCell ⟨B, 1, none⟩ (v1)).setCell ⟨B, 2, none⟩ (v2)).setCell ⟨B, 3, none⟩ (v3)).setCell ⟨B, 4, none⟩ (v4)).setCell ⟨B, 5, none⟩ (v5)).setCell ⟨B, 6, none⟩ (v6)).setCell ⟨B, 7, none⟩ (v7)).setCell ⟨B, 8, none⟩ (v8)).setCell ⟨B, 9, none⟩ (v9)).setCell ⟨B, 10, none⟩ (v10)) := by
  have h1 : RowAt (w.setCell ⟨B, 0, none⟩ (v0)) B #[v0, a1, a2, a3, a4, a5, a6, a7, a8, a9, a10] T := h.set 0 v0
  have h2 : RowAt ((w.setCell ⟨B, 0, none⟩ (v0)).setCell ⟨B, 1, none⟩ (v1)) B #[v0, v1, a2, a3, a4, a5, a6, a7, a8, a9, a10] T := h1.set 1 v1
  have h3 : RowAt (((w.setCell ⟨B, 0, none⟩ (v0)).setCell ⟨B, 1, none⟩ (v1)).setCell ⟨B, 2, none⟩ (v2)) B #[v0, v1, v2, a3, a4, a5, a6, a7, a8, a9, a10] T := h2.set 2 v2
  have h4 : RowAt ((((w.setCell ⟨B, 0, none⟩ (v0)).setCell ⟨B, 1, none⟩ (v1)).setCell ⟨B, 2, none⟩ (v2)).setCell ⟨B, 3, none⟩ (v3)) B #[v0, v1, v2, v3, a4, a5, a6, a7, a8, a9, a10] T := h3.set 3 v3
  have h5 : RowAt (((((w.setCell ⟨B, 0, none⟩ (v0)).setCell ⟨B, 1, none⟩ (v1)).setCell ⟨B, 2, none⟩ (v2)).setCell ⟨B, 3, none⟩ (v3)).setCell ⟨B, 4, none⟩ (v4)) B #[v0, v1, v2, v3, v4, a5, a6, a7, a8, a9, a10] T := h4.set 4 v4
  have h6 : RowAt ((((((w.setCell ⟨B, 0, none⟩ (v0)).setCell ⟨B, 1, none⟩ (v1)).setCell ⟨B, 2, none⟩ (v2)).setCell ⟨B, 3, none⟩ (v3)).setCell ⟨B, 4, none⟩ (v4)).setCell ⟨B, 5, none⟩ (v5)) B #[v0, v1, v2, v3, v4, v5, a6, a7, a8, a9, a10] T := h5.set 5 v5
  have h7 : RowAt (((((((w.setCell ⟨B, 0, none⟩ (v0)).setCell ⟨B, 1, none⟩ (v1)).setCell ⟨B, 2, none⟩ (v2)).setCell ⟨B, 3, none⟩ (v3)).setCell ⟨B, 4, none⟩ (v4)).setCell ⟨B, 5, none⟩ (v5)).setCell ⟨B, 6, none⟩ (v6)) B #[v0, v1, v2, v3, v4, v5, v6, a7, a8, a9, a10] T := h6.set 6 v6
  have h8 : RowAt ((((((((w.setCell ⟨B, 0, none⟩ (v0)).setCell ⟨B, 1, none⟩ (v1)).setCell ⟨B, 2, none⟩ (v2)).setCell ⟨B, 3, none⟩ (v3)).setCell ⟨B, 4, none⟩ (v4)).setCell ⟨B, 5, none⟩ (v5)).setCell ⟨B, 6, none⟩ (v6)).setCell ⟨B, 7, none⟩ (v7)) B #[v0, v1, v2, v3, v4, v5, v6, v7, a8, a9, a10] T := h7.set 7 v7
  have h9 : RowAt (((((((((w.setCell ⟨B, 0, none⟩ (v0)).setCell ⟨B, 1, none⟩ (v1)).setCell ⟨B, 2, none⟩ (v2)).setCell ⟨B, 3, none⟩ (v3)).setCell ⟨B, 4, none⟩ (v4)).setCell ⟨B, 5, none⟩ (v5)).setCell ⟨B, 6, none⟩ (v6)).setCell ⟨B, 7, none⟩ (v7)).setCell ⟨B, 8, none⟩ (v8)) B #[v0, v1, v2, v3, v4, v5, v6, v7, v8, a9, a10] T := h8.set 8 v8
  have h10 : RowAt ((((((((((w.setCell ⟨B, 0, none⟩ (v0)).setCell ⟨B, 1, none⟩ (v1)).setCell ⟨B, 2, none⟩ (v2)).setCell ⟨B, 3, none⟩ (v3)).setCell ⟨B, 4, none⟩ (v4)).setCell ⟨B, 5, none⟩ (v5)).setCell ⟨B, 6, none⟩ (v6)).setCell ⟨B, 7, none⟩ (v7)).setCell ⟨B, 8, none⟩ (v8)).setCell ⟨B, 9, none⟩ (v9)) B #[v0, v1, v2, v3, v4, v5, v6, v7, v8, v9, a10] T := h9.set 9 v9
  have h11 : RowAt (((((((((((w.setCell ⟨B, 0, none⟩ (v0)).setCell ⟨B, 1, none⟩ (v1)).setCell ⟨B, 2, none⟩ (v2)).setCell ⟨B, 3, none⟩ (v3)).setCell ⟨B, 4, none⟩ (v4)).setCell ⟨B, 5, none⟩ (v5)).setCell ⟨B, 6, none⟩ (v6)).setCell ⟨B, 7, none⟩ (v7)).setCell ⟨B, 8, none⟩ (v8)).setCell ⟨B, 9, none⟩ (v9)).setCell ⟨B, 10, none⟩ (v10)) B #[v0, v1, v2, v3, v4, v5, v6, v7, v8, v9, v10] T := h10.set 10 v10
  have b1 : But (fun k => k = B) w (w.setCell ⟨B, 0, none⟩ (v0)) := But.setCell _ _ _ (.inl rfl)
  have b2 : But (fun k => k = B) w ((w.setCell ⟨B, 0, none⟩ (v0)).setCell ⟨B, 1, none⟩ (v1)) := b1.trans (But.setCell _ _ _ (.inl rfl))
  have b3 : But (fun k => k = B) w (((w.setCell ⟨B, 0, none⟩ (v0)).setCell ⟨B, 1, none⟩ (v1)).setCell ⟨B, 2, none⟩ (v2)) := b2.trans (But.setCell _ _ _ (.inl rfl))
  have b4 : But (fun k => k = B) w ((((w.setCell ⟨B, 0, none⟩ (v0)).setCell ⟨B, 1, none⟩ (v1)).setCell ⟨B, 2, none⟩ (v2)).setCell ⟨B, 3, none⟩ (v3)) := b3.trans (But.setCell _ _ _ (.inl rfl))
  have b5 : But (fun k => k = B) w (((((w.setCell ⟨B, 0, none⟩ (v0)).setCell ⟨B, 1, none⟩ (v1)).setCell ⟨B, 2, none⟩ (v2)).setCell ⟨B, 3, none⟩ (v3)).setCell ⟨B, 4, none⟩ (v4)) := b4.trans (But.setCell _ _ _ (.inl rfl))
  have b6 : But (fun k => k = B) w ((((((w.setCell ⟨B, 0, none⟩ (v0)).setCell ⟨B, 1, none⟩ (v1)).setCell ⟨B, 2, none⟩ (v2)).setCell ⟨B, 3, none⟩ (v3)).setCell ⟨B, 4, none⟩ (v4)).setCell ⟨B, 5, none⟩ (v5)) := b5.trans (But.setCell _ _ _ (.inl rfl))
  have b7 : But (fun k => k = B) w (((((((w.setCell ⟨B, 0, none⟩ (v0)).setCell ⟨B, 1, none⟩ (v1)).setCell ⟨B, 2, none⟩ (v2)).setCell ⟨B, 3, none⟩ (v3)).setCell ⟨B, 4, none⟩ (v4)).setCell ⟨B, 5, none⟩ (v5)).setCell ⟨B, 6, none⟩ (v6)) := b6.trans (But.setCell _ _ _ (.inl rfl))
  have b8 : But (fun k => k = B) w ((((((((w.setCell ⟨B, 0, none⟩ (v0)).setCell ⟨B, 1, none⟩ (v1)).setCell ⟨B, 2, none⟩ (v2)).setCell ⟨B, 3, none⟩ (v3)).setCell ⟨B, 4, none⟩ (v4)).setCell ⟨B, 5, none⟩ (v5)).setCell ⟨B, 6, none⟩ (v6)).setCell ⟨B, 7, none⟩ (v7)) := b7.trans (But.setCell _ _ _ (.inl rfl))
  have b9 : But (fun k => k = B) w (((((((((w.setCell ⟨B, 0, none⟩ (v0)).setCell ⟨B, 1, none⟩ (v1)).setCell ⟨B, 2, none⟩ (v2)).setCell ⟨B, 3, none⟩ (v3)).setCell ⟨B, 4, none⟩ (v4)).setCell ⟨B, 5, none⟩ (v5)).setCell ⟨B, 6, none⟩ (v6)).setCell ⟨B, 7, none⟩ (v7)).setCell ⟨B, 8, none⟩ (v8)) := b8.trans (But.setCell _ _ _ (.inl rfl))
  have b10 : But (fun k => k = B) w ((((((((((w.setCell ⟨B, 0, none⟩ (v0)).setCell ⟨B, 1, none⟩ (v1)).setCell ⟨B, 2, none⟩ (v2)).setCell ⟨B, 3, none⟩ (v3)).setCell ⟨B, 4, none⟩ (v4)).setCell ⟨B, 5, none⟩ (v5)).setCell ⟨B, 6, none⟩ (v6)).setCell ⟨B, 7, none⟩ (v7)).setCell ⟨B, 8, none⟩ (v8)).setCell ⟨B, 9, none⟩ (v9)) := b9.trans (But.setCell _ _ _ (.inl rfl))
  have b11 : But (fun k => k = B) w (((((((((((w.setCell ⟨B, 0, none⟩ (v0)).setCell ⟨B, 1, none⟩ (v1)).setCell ⟨B, 2, none⟩ (v2)).setCell ⟨B, 3, none⟩ (v3)).setCell ⟨B, 4, none⟩ (v4)).setCell ⟨B, 5, none⟩ (v5)).setCell ⟨B, 6, none⟩ (v6)).setCell ⟨B, 7, none⟩ (v7)).setCell ⟨B, 8, none⟩ (v8)).setCell ⟨B, 9, none⟩ (v9)).setCell ⟨B, 10, none⟩ (v10)) := b10.trans (But.setCell _ _ _ (.inl rfl))
  exact ⟨h11, b11⟩
theorem row11_same {w : World} {B : Nat} {T : TypeId} {a0 a1 a2 a3 a4 a5 a6 a7 a8 a9 a10 : Value} (h : RowAt w B #[a0, a1, a2, a3, a4, a5, a6, a7, a8, a9, a10] T) : (((((((((((w.setCell ⟨B, 0, none⟩ (a0)).setCell ⟨B, 1, none⟩ (a1)).setCell ⟨B, 2, none⟩ (a2)).setCell ⟨B, 3, none⟩ (a3)).setCell ⟨B, 4, none⟩ (a4)).setCell ⟨B, 5, none⟩ (a5)).setCell ⟨B, 6, none⟩ (a6)).setCell ⟨B, 7, none⟩ (a7)).setCell ⟨B, 8, none⟩ (a8)).setCell ⟨B, 9, none⟩ (a9)).setCell ⟨B, 10, none⟩ (a10)) = w := by
  rw [h.same (i := 0) (v := a0) rfl, h.same (i := 1) (v := a1) rfl, h.same (i := 2) (v := a2) rfl, h.same (i := 3) (v := a3) rfl, h.same (i := 4) (v := a4) rfl, h.same (i := 5) (v := a5) rfl, h.same (i := 6) (v := a6) rfl, h.same (i := 7) (v := a7) rfl, h.same (i := 8) (v := a8) rfl, h.same (i := 9) (v := a9) rfl, h.same (i := 10) (v := a10) rfl]
end Go.Proofs.YtpkonagjnfphkaaGreatDoor

namespace Go.Proofs.YtpkonagjnfphkaaGreatDoor
open Go.RowKit Cb
theorem set5 {X : Nat} {T : TypeId} {k0 n0 b0 s0 l0 : Value} {w : World} (hX : RowAt w X #[k0, n0, b0, s0, l0] T) (v0 v1 v2 v3 v4 : Value) :
    RowAt (((((w.setCell ⟨X, 0, none⟩ v0).setCell ⟨X, 1, none⟩ v1).setCell ⟨X, 2, none⟩ v2).setCell ⟨X, 3, none⟩ v3).setCell ⟨X, 4, none⟩ v4) X #[v0, v1, v2, v3, v4] T ∧
    But (fun k => k = X) w (((((w.setCell ⟨X, 0, none⟩ v0).setCell ⟨X, 1, none⟩ v1).setCell ⟨X, 2, none⟩ v2).setCell ⟨X, 3, none⟩ v3).setCell ⟨X, 4, none⟩ v4) := by
  refine ⟨((((hX.set 0 v0).set 1 v1).set 2 v2).set 3 v3).set 4 v4, ?_⟩
  have s1 : But (fun k => k = X) w (w.setCell ⟨X, 0, none⟩ v0) := But.setCell _ _ _ (.inl rfl)
  have s2 : But (fun k => k = X) _ ((w.setCell ⟨X, 0, none⟩ v0).setCell ⟨X, 1, none⟩ v1) := But.setCell _ _ _ (.inl rfl)
  have s3 : But (fun k => k = X) _ (((w.setCell ⟨X, 0, none⟩ v0).setCell ⟨X, 1, none⟩ v1).setCell ⟨X, 2, none⟩ v2) := But.setCell _ _ _ (.inl rfl)
  have s4 : But (fun k => k = X) _ ((((w.setCell ⟨X, 0, none⟩ v0).setCell ⟨X, 1, none⟩ v1).setCell ⟨X, 2, none⟩ v2).setCell ⟨X, 3, none⟩ v3) := But.setCell _ _ _ (.inl rfl)
  have s5 : But (fun k => k = X) _ (((((w.setCell ⟨X, 0, none⟩ v0).setCell ⟨X, 1, none⟩ v1).setCell ⟨X, 2, none⟩ v2).setCell ⟨X, 3, none⟩ v3).setCell ⟨X, 4, none⟩ v4) := But.setCell _ _ _ (.inl rfl)
  exact (((s1.trans s2).trans s3).trans s4).trans s5
end Go.Proofs.YtpkonagjnfphkaaGreatDoor

namespace Go.Proofs.YtpkonagjnfphkaaGreatDoor
open Go.RowKit
set_option linter.unusedSimpArgs false
set_option linter.unusedVariables false

section
variable {P : Program} {ops : Array Oper} {Q : Exit → Act → World → Prop} {md : Region.Mode} {S : World → Prop} {O : Nat → Prop} {n : Nat}

/-- Whatever order is picked, and S holds behind every operation but n. -/
def wpAnyN (P : Program) (md : Region.Mode) (ops : Array Oper) (Q : Exit → Act → World → Prop) (S : World → Prop) (n : Nat) : Nat → Array Bool → Act → World → Prop
  | 0, listed, a, w => Region.ready md ops listed = [] ∧ Q .normal a w
  | fuel + 1, listed, a, w =>
    (Region.ready md ops listed = [] → Q .normal a w) ∧
    ∀ i ∈ Region.ready md ops listed, wpOp P ops Q i (fun a' w' => (i = n ∨ S w') ∧ wpAnyN P md ops Q S n fuel (listed.setIfInBounds i true) a' w') a w
theorem wpAny_of_N : ∀ (fuel : Nat) (listed : Array Bool) (a : Act) (w : World), wpAnyN P md ops Q S n fuel listed a w → wpAny P md ops Q fuel listed a w
  | 0, _, _, _, h => h
  | fuel + 1, _, _, _, h => ⟨h.1, fun i hi => wpOp_mono (fun a' w' h' => wpAny_of_N fuel _ a' w' h'.2) (h.2 i hi)⟩
theorem N_sub {S S' : World → Prop} (hs : ∀ w, S w → S' w) : ∀ (fuel : Nat) (listed : Array Bool) (a : Act) (w : World), wpAnyN P md ops Q S n fuel listed a w → wpAnyN P md ops Q S' n fuel listed a w
  | 0, _, _, _, h => h
  | fuel + 1, _, _, _, h => ⟨h.1, fun i hi => wpOp_mono (fun a' w' h' => ⟨h'.1.imp id (hs w'), N_sub hs fuel _ a' w' h'.2⟩) (h.2 i hi)⟩

theorem wpAnyN_first {i : Nat} {oi : Oper} {v : Value} (hi : ops[i]? = some oi) (hwt : Region.waitsFor md ops n i = true) (hsel : ∀ (j : Nat) (o : Oper) cs b, ops[j]? = some o → o.op ≠ .select cs b)
    (hQ : ∀ c a w, Q (.panic c) (a.put oi.dst v) w → Q (.panic c) a w) :
    ∀ (fuel : Nat) (listed : Array Bool) (a : Act) (w : World),
      (∀ j oj, ops[j]? = some oj → j ≠ i → listed.getD j true = false → (∀ e ∈ oj.after, Region.binds md e = true → e.on ≠ i) → oi.apart ops oj = true) →
      i ∈ Region.ready md ops listed → YieldsIf P ops S oi v a → S w →
      wpAnyN P md ops Q S n fuel (listed.setIfInBounds i true) (a.put oi.dst v) w → wpAnyN P md ops Q S n (fuel + 1) listed a w := by
  intro fuel
  induction fuel with
  | zero =>
    intro listed a w _ hr hy hS H
    refine ⟨fun h => (by rw [h] at hr; cases hr), fun j hj => ?_⟩
    by_cases hji : j = i
    · subst hji; exact hy.wpOp hi hS ⟨.inr hS, H⟩
    · have := ready_mono hj hji
      rw [H.1] at this
      cases this
  | succ fuel ih =>
    intro listed a w hfree hr hy hS H
    refine ⟨fun h => (by rw [h] at hr; cases hr), fun j hj => ?_⟩
    by_cases hji : j = i
    · subst hji; exact hy.wpOp hi hS ⟨.inr hS, H⟩
    · have h1 := H.2 j (ready_mono hj hji)
      obtain ⟨hjun, oj, hoj, hall⟩ := mem_ready.1 hj
      have hnot : ∀ e ∈ oj.after, Region.binds md e = true → e.on ≠ i := fun e he hb heq => by
        have h1 := hall e he hb
        have h0 := (mem_ready.1 hr).1
        rw [heq] at h1
        rcases Nat.lt_or_ge i listed.size with h' | h'
        · simp [h'] at h0 h1; rw [h0] at h1; cases h1
        · simp [Array.getElem?_eq_none h'] at h1
      have hjn : j ≠ n := fun e => by
        subst e
        obtain ⟨oj', hj', e, he, hb, hon⟩ := Region.waitsFor_spec hwt
        have : oj' = oj := Option.some.inj (hj'.symm.trans hoj)
        subst this
        exact hnot e he hb hon
      have h2 := wpOp_putIf hoj (hfree j oj hoj hji hjun hnot) (fun cs b => hsel i oi cs b hi) (fun cs b => hsel j oj cs b hoj) hQ hy h1
      have hfree' : ∀ k ok, ops[k]? = some ok → k ≠ i → (listed.setIfInBounds j true).getD k true = false →
          (∀ e ∈ ok.after, Region.binds md e = true → e.on ≠ i) → oi.apart ops ok = true := fun k ok hk hki hun hno => by
        refine hfree k ok hk hki ?_ hno
        by_cases hjk : j = k
        · subst hjk; exact hjun
        · rw [getD_set_ne true hjk] at hun; exact hun
      refine wpOp_mono (fun a' w' h3 => ?_) h2
      have hSw : S w' := h3.2.1.elim (fun e => absurd e hjn) id
      refine ⟨.inr hSw, ih (listed.setIfInBounds j true) a' w' hfree' (ready_mono hr (Ne.symm hji)) h3.1 hSw ?_⟩
      rw [Array.setIfInBounds_comm _ _ hji]
      exact h3.2.2

/-- What the tree leaves: operation n, then all is done. -/
def lastQ (P : Program) (ops : Array Oper) (Q : Exit → Act → World → Prop) (n : Nat) : Exit → Act → World → Prop
  | .normal, a, w => ∃ o, ops[n]? = some o ∧ Region.wanted o (yielded ops a.tmps) = true ∧ o.wp P a w (Q .normal) Q
  | e, a, w => Q e a w
def pzB (md : Region.Mode) (ops : Array Oper) (n : Nat) : Pt → Array Bool → Bool
  | .done, listed => decide (Region.ready md ops listed = [n]) && (Region.ready md ops (listed.setIfInBounds n true)).isEmpty
  | .q i t, listed => (Region.ready md ops listed).contains i && Region.free md ops listed i && Region.waitsFor md ops n i && pzB md ops n t (listed.setIfInBounds i true)
  | .c i t, listed => decide (Region.ready md ops listed = [i]) && pzB md ops n t (listed.setIfInBounds i true)
  | .f i t j u, listed => decide (Region.ready md ops listed = [i, j]) && (pzB md ops n t (listed.setIfInBounds i true) && pzB md ops n u (listed.setIfInBounds j true))
  | .g i t j u k v, listed => decide (Region.ready md ops listed = [i, j, k]) && (pzB md ops n t (listed.setIfInBounds i true) && (pzB md ops n u (listed.setIfInBounds j true) && pzB md ops n v (listed.setIfInBounds k true)))

theorem lastQ_wp {o : Oper} {a : Act} {w : World} {K : Act → World → Prop} (h : o.wp P a w K (lastQ P ops Q n)) : o.wp P a w K Q := by
  unfold Oper.wp at *
  generalize (execOp a.eval o).run P w = r at *
  cases r with
  | ok k w' =>
    cases k <;> simp only [Oper.upon] at h ⊢
    case value u => exact h
    case skip => exact h
    case defer d => exact h
    case enter f args =>
      refine Calls.mono h fun e w'' he => ?_
      cases e <;> exact he
    case row row args => exact h
  | halt x w' => cases x <;> exact h
theorem pz_wpOp {fuel : Nat} {i : Nat} {t : Pt} {listed : Array Bool} {a : Act} {w : World} (h : ptStep P O ops (lastQ P ops Q n) i (wpPt P O ops (lastQ P ops Q n) t) a w)
    (ih : ∀ a' w', wpPt P O ops (lastQ P ops Q n) t a' w' → wpAnyN P md ops Q (But O w') n fuel (listed.setIfInBounds i true) a' w') :
    wpOp P ops Q i (fun a' w' => (i = n ∨ But O w w') ∧ wpAnyN P md ops Q (But O w) n fuel (listed.setIfInBounds i true) a' w') a w := by
  obtain ⟨o, hi, hw, h⟩ := h
  unfold wpOp
  simp only [hi, hw, if_true]
  exact .inl (Oper.wp_mono (fun a' w' h' => ⟨.inr h'.1, N_sub (fun _ hx => h'.1.trans hx) _ _ _ _ (ih a' w' h'.2)⟩) (lastQ_wp h))

theorem wpAnyN_done {listed : Array Bool} {a : Act} {w : World} (hr : Region.ready md ops listed = []) (h : Q .normal a w) : ∀ fuel, wpAnyN P md ops Q S n fuel listed a w
  | 0 => ⟨hr, h⟩
  | _ + 1 => ⟨fun _ => h, by rw [hr]; simp⟩
theorem held_of_pz (hs : Region.noSelect ops = true) (hQ : ∀ c (a : Act) d v w, Q (.panic c) (a.put d v) w → Q (.panic c) a w) : ∀ (t : Pt) (fuel : Nat) (listed : Array Bool) (a : Act) (w : World),
    t.len + 1 ≤ fuel → pzB md ops n t listed = true → wpPt P O ops (lastQ P ops Q n) t a w → wpAnyN P md ops Q (But O w) n fuel listed a w
  | .done, 0, _, _, _, hl, _, _ => by simp [Pt.len] at hl
  | .done, fuel + 1, listed, a, w, hl, hB, h => by
    simp only [pzB, Bool.and_eq_true, decide_eq_true_eq, List.isEmpty_iff] at hB
    refine ⟨fun h0 => (by rw [hB.1] at h0; cases h0), fun j hj => ?_⟩
    rw [hB.1] at hj
    obtain rfl : j = n := by simpa using hj
    obtain ⟨o, hi, hw, h⟩ := h
    unfold wpOp
    simp only [hi, hw, if_true]
    exact .inl (Oper.wp_mono (fun a' w' h' => ⟨.inl True.intro, wpAnyN_done hB.2 h' _⟩) h)
  | .q i t, 0, _, _, _, hl, _, _ => by simp [Pt.len] at hl
  | .q i t, fuel + 1, listed, a, w, hl, hB, h => by
    obtain ⟨o, v, hi, hy, h⟩ := h
    simp only [pzB, Bool.and_eq_true] at hB
    exact wpAnyN_first hi hB.1.2 (Region.noSelect_spec hs) (fun c a w hq => hQ c a o.dst v w hq) fuel listed a w (Region.free_spec hi hB.1.1.2) (by simpa using hB.1.1.1) hy (But.refl _ _) (held_of_pz hs hQ t fuel _ _ _ (by simp [Pt.len] at hl; omega) hB.2 h)
  | .c i t, 0, _, _, _, hl, _, _ => by simp [Pt.len] at hl
  | .c i t, fuel + 1, listed, a, w, hl, hB, h => by
    simp only [pzB, Bool.and_eq_true, decide_eq_true_eq] at hB
    refine ⟨fun h0 => (by rw [hB.1] at h0; cases h0), fun j hj => ?_⟩
    rw [hB.1] at hj
    obtain rfl : j = i := by simpa using hj
    exact pz_wpOp h (fun a' w' h' => held_of_pz hs hQ t fuel _ _ _ (by simp [Pt.len] at hl; omega) hB.2 h')
  | .f i t j u, 0, _, _, _, hl, _, _ => by simp [Pt.len] at hl
  | .f i t j u, fuel + 1, listed, a, w, hl, hB, h => by
    simp only [pzB, Bool.and_eq_true, decide_eq_true_eq] at hB
    simp only [Pt.len] at hl
    refine ⟨fun h0 => (by rw [hB.1] at h0; cases h0), fun m hm => ?_⟩
    rw [hB.1] at hm
    rcases (show m = i ∨ m = j by simpa using hm) with rfl | rfl
    · exact pz_wpOp h.1 (fun a' w' h' => held_of_pz hs hQ t fuel _ _ _ (by omega) hB.2.1 h')
    · exact pz_wpOp h.2 (fun a' w' h' => held_of_pz hs hQ u fuel _ _ _ (by omega) hB.2.2 h')
  | .g i t j u k v, 0, _, _, _, hl, _, _ => by simp [Pt.len] at hl
  | .g i t j u k v, fuel + 1, listed, a, w, hl, hB, h => by
    simp only [pzB, Bool.and_eq_true, decide_eq_true_eq] at hB
    simp only [Pt.len] at hl
    refine ⟨fun h0 => (by rw [hB.1] at h0; cases h0), fun m hm => ?_⟩
    rw [hB.1] at hm
    rcases (show m = i ∨ m = j ∨ m = k by simpa using hm) with rfl | rfl | rfl
    · exact pz_wpOp h.1 (fun a' w' h' => held_of_pz hs hQ t fuel _ _ _ (by omega) hB.2.1 h')
    · exact pz_wpOp h.2.1 (fun a' w' h' => held_of_pz hs hQ u fuel _ _ _ (by omega) hB.2.2.1 h')
    · exact pz_wpOp h.2.2 (fun a' w' h' => held_of_pz hs hQ v fuel _ _ _ (by omega) hB.2.2.2 h')

/-- The tree serves all operations but n, which waits for all that are quiet; n itself may turn what was read. -/
theorem wp_region_pz {id : Nat} {a : Act} {w : World} (O : Nat → Prop) (n : Nat) (t : Pt) (hm : P.follows .mixedOrders = true) (hs : Region.noSelect ops = true) (hB : pzB .any ops n t (Array.replicate ops.size false) = true) (hl : t.len + 1 ≤ ops.size)
    (hQ : ∀ c (a : Act) d v w, Q (.panic c) (a.put d v) w → Q (.panic c) a w) (h : ∀ Wd, Below w.heap.size w Wd → wpPt P O ops (lastQ P ops Q n) t a Wd) : (Code.region id ops true).wp P Q a w :=
  wp_region_any hm (wpAny_of_N (S := But O w.drew) (n := n) _ _ _ _ (held_of_pz (md := .any) hs hQ t _ _ _ _ hl hB (h w.drew (Below.refl _ _).drew)))
theorem pz_last {o : Oper} {a : Act} {w : World} (hi : ops[n]? = some o) (hw : Region.wanted o (yielded ops a.tmps) = true) (h : ∀ K : Act → World → Prop, Shut (∀ a' w', Q .normal a' w' → K a' w') → o.wp P a w K Q) : wpPt P O ops (lastQ P ops Q n) .done a w := ⟨o, hi, hw, h _ (fun _ _ h => h)⟩
theorem pz_put_row {o : Oper} {a : Act} {w : World} (hi : ops[n]? = some o) (hw : Region.wanted o (yielded ops a.tmps) = true) (ty : TypeId) (x y : Operand) (ho : o.op = .store ty x y)
    (H : Nat) (vs : List Value) {cs : Array Value} {T : TypeId} (hx : a.eval x = .pointer (some ⟨H, 0, none⟩)) (hy : a.eval y = .agg vs.toArray) (hr : RowAt w H cs T) (hl : vs.length = cs.size)
    (hi2 : (P.info? ty).map (·.size) = some vs.length) (h1 : vs.all (·.oneCell') = true)
    (h : ∀ w', RowAt w' H vs.toArray T → But (· = H) w w' → Q .normal (a.put o.dst undef) w') : wpPt P O ops (lastQ P ops Q n) .done a w :=
  ⟨o, hi, hw, wp_store_mid ty x y ho H 0 vs.toArray hx hy (hr.there (by simp; omega)) (by simpa using hi2) (by simpa using h1) (h _ (hr.setAll vs hl) (But.setCells _ _ _ rfl))⟩

/-- A composite built of parts. -/
theorem exec_build {o : Oper} {a : Act} {w : World} (t : TypeId) (parts : Array (Nat × Operand)) (ho : o.op = .build t parts) (ps : List (Nat × Value)) (cells : Array Value) (hp : (parts.toList.map fun p => (p.1, a.eval p.2)) = ps)
    (h : P.built t ps = some cells) : (execOp a.eval o).run P w = .ok (.value (.agg cells)) w := by
  rw [← hp, ← Array.toList_map] at h
  unfold execOp
  simp only [ho, Sem.run_bind, run_build w t _ cells h, Result.andThen_ok]
  rfl
theorem pt_buildSlice {i : Nat} {o : Oper} {R : Act → World → Prop} {a : Act} {w : World} (hi : ops[i]? = some o) (hw : Region.wanted o (yielded ops a.tmps) = true) (t e : TypeId) (len : Nat) (parts : Array (Nat × Operand)) (ho : o.op = .buildSlice t len parts)
    (cells : Array Value) (ie : TypeInfo) (z : Value)
    (hu : P.underlying t = some (.slice e)) (hie : P.info? e = some ie) (hz : ie.zero = some z) (hsmall : ¬ len * ie.size > 2 ^ 24) (hpos : ¬ len * ie.size = 0)
    (ps : List (Nat × Value)) (hp : (parts.toList.map fun p => (p.1, a.eval p.2)) = ps)
    (hf : Instr.fill (fun i => some (i * ie.size, ie.size)) ((Array.range (len * ie.size)).map (z.cells[· % z.cells.size]!)) ps = some cells)
    (h : R (a.put o.dst (.slice (some ⟨w.heap.size, 0, none⟩) len len)) (w.alloc (.cells cells e))) : ptStep P O ops Q i R a w :=
  ⟨o, hi, hw, wp_buildSlice t e len parts ho cells ie z hu hie hz hsmall hpos (by rw [← hp, ← Array.toList_map] at hf; exact hf) ⟨But.alloc _ _, h⟩⟩
theorem fold_set (off : Nat) : ∀ (l : List Value) (k : Nat) (cs : Array Value), ((l.zipIdx k).foldl (fun cs x => cs.setIfInBounds (off + x.2) x.1) cs) = setAllA cs (off + k) l
  | [], _, _ => rfl
  | v :: r, k, cs => by
    rw [List.zipIdx_cons, List.foldl_cons, fold_set off r (k + 1), setAllA]; rfl
/-- A part laid. -/
theorem fill_part {place : Nat → Option (Nat × Nat)} {cells : Array Value} {i off size : Nat} {v : Value} {rest : List (Nat × Value)} (hp : place i = some (off, size)) (hs : v.cells.size = size) (hl : off + size ≤ cells.size) :
    Instr.fill place cells ((i, v) :: rest) = Instr.fill place (setAllA cells off v.cells.toList) rest := by
  subst hs
  rw [Instr.fill, hp]
  simp only [ne_eq, not_true_eq_false, decide_false, Bool.false_or, decide_eq_true_eq]
  rw [if_neg (by omega)]
  congr 1
  have := fold_set off v.cells.toList 0 cells
  rw [Nat.add_zero] at this
  rw [← this, ← Array.foldl_toList, Array.toList_zipIdx]

/-- An append to a slice without room: the new row is one's own. -/
theorem run_app_grows {t e : TypeId} {sz bytes : Nat} (T : SlT P t e sz bytes) (ty : TypeId) (w : World) (v : Value) (m : Nat) (xs : List Value) (hv : Sl w sz v m xs) (hcap : ∃ a, v = .slice a m m)
    (x : Value) (k : Nat) (news : List Value) (hx : Sl w sz x k news) (h1c : ∀ u ∈ news, u.oneCell' = true) (hk : 0 < k) (h63 : m + k ≤ maxLen) (hbytes : (m + k) * bytes ≤ 140737488355328) :
    ∃ v' w', (Builtin.append_ #[t, t] ty #[v, x]).run P w = .ok v' w' ∧ w'.ownsRow w.heap.size e sz v' (m + k) (xs ++ news) ∧ w.grownBy w' none := by
  obtain ⟨i, z, hi, hz, hsize, hby, hzs, hsz⟩ := T.inf
  obtain ⟨a0, rfl⟩ := hcap
  obtain ⟨hlx, ⟨a, c, _, h0⟩ | ⟨bx, ox, cx, rfl, hnx, hmx, hcx⟩⟩ := hx
  · omega
  obtain ⟨hl, hv⟩ := hv
  by_cases hm0 : m = 0
  · subst hm0
    have hxs : xs = [] := List.eq_nil_of_length_eq_zero (by omega)
    subst hxs
    cases a0 with
    | none =>
      obtain ⟨v', w', h1, h2, h3, _⟩ := run_append_own w w.heap.size t ty e i z sz bytes T.und hi hz hsize hby hzs hsz (.slice none 0 0) 0 [] ⟨by simp, .inl ⟨rfl, rfl⟩⟩ ⟨bx, ox, none⟩ k cx news hlx (fun j u hj => by rw [Addr.add_lit]; exact hcx j u hj) h1c h63 hbytes (Nat.le_refl _)
      exact ⟨v', w', h1, h2, h3⟩
    | some b => exact run_append_arg_grows w t ty e i z sz bytes T.und hi hz hsize hby hzs hsz b 0 0 [] (by simp) (by simp) ⟨bx, ox, none⟩ k cx news hlx (fun j u hj => by rw [Addr.add_lit]; exact hcx j u hj) (by omega) h63 hbytes
  · rcases hv with ⟨_, _, _, h⟩ | ⟨b, off, cap, h1, hn, hmm, hc⟩
    · omega
    · simp only [Value.slice.injEq] at h1
      rw [h1.1]
      exact run_append_arg_grows w t ty e i z sz bytes T.und hi hz hsize hby hzs hsz ⟨b, off, none⟩ m m xs hl (fun j u hj => by rw [Addr.add_lit]; exact hc j u hj) ⟨bx, ox, none⟩ k cx news hlx (fun j u hj => by rw [Addr.add_lit]; exact hcx j u hj) (by omega) h63 hbytes
theorem pt_app_grows {i : Nat} {o : Oper} {R : Act → World → Prop} {a : Act} {w : World} (hi : ops[i]? = some o) (hw : Region.wanted o (yielded ops a.tmps) = true) (s x : Operand) (t : TypeId)
    (ho : o.op = .call { callee := .builtin .append, args := #[s, x], argTypes := #[t, t] })
    {e : TypeId} {sz bytes : Nat} (T : SlT P t e sz bytes) {v : Value} {m : Nat} {xs : List Value} (hs : a.eval s = v) (hv : Sl w sz v m xs) (hcap : ∃ a, v = .slice a m m)
    {xv : Value} {k : Nat} {news : List Value} (hx : a.eval x = xv) (hsl : Sl w sz xv k news) (h1c : ∀ u ∈ news, u.oneCell' = true) (hk : 0 < k)
    (h63 : m + k ≤ maxLen) (hbytes : (m + k) * bytes ≤ 140737488355328)
    (h : ∀ v' w', w'.ownsRow w.heap.size e sz v' (m + k) (xs ++ news) → Below w.heap.size w w' → R (a.put o.dst v') w') : ptStep P O ops Q i R a w :=
  ⟨o, hi, hw, by
    obtain ⟨v', w', hr, h2, h3⟩ := run_app_grows T o.type w v m xs hv hcap xv k news hsl h1c hk h63 hbytes
    have hb : Below w.heap.size w w' := ⟨h3.os, h3.tape, h3.output, h3.size, fun j hj => h3.block j hj (by simp)⟩
    unfold Oper.wp execOp
    simp only [ho, resolve, invoke, builtin, Sem.run_bind, Sem.run_pure, Result.andThen_ok, List.map_toArray, List.map_cons, List.map_nil, hs, hx, hr]
    exact ⟨But.of_below hb, h v' w' h2 hb⟩⟩
end
end Go.Proofs.YtpkonagjnfphkaaGreatDoor
