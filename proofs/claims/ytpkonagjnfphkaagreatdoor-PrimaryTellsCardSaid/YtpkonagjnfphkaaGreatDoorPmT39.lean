/-
  PrF, PrG, OpenB, CbOp, PrY, PrH: several texts in one (bundle.py).
-/
import Derived.Test.YtpkonagjnfphkaaGreatDoorPmT19
import Derived.Test.YtpkonagjnfphkaaGreatDoorPmT38
import Derived.Test.YtpkonagjnfphkaaGreatDoorPmT26
import Derived.Test.YtpkonagjnfphkaaGreatDoorPmT27
import Derived.Test.YtpkonagjnfphkaaGreatDoorPmT10
import Derived.Test.YtpkonagjnfphkaaGreatDoorPmT02
import Derived.Test.YtpkonagjnfphkaaGreatDoorPmT01
import Derived.Test.YtpkonagjnfphkaaGreatDoorPmT12
import Derived.SizedLaws
import Derived.Test.YtpkonagjnfphkaaGreatDoorPmT21
import Derived.Test.YtpkonagjnfphkaaGreatDoorPmT16
import Derived.Test.YtpkonagjnfphkaaGreatDoorPmT03
import Derived.Laws.Bits64
import Derived.StillTailTactics
import Derived.Sort.LoopGhostIn
import Derived.Laws.EntriesVeiled
namespace Go.Proofs.YtpkonagjnfphkaaGreatDoor
open Go.RowKit Trc Cb
set_option linter.unusedSimpArgs false
set_option linter.unusedVariables false
set_option maxHeartbeats 1000000 in
set_option maxRecDepth 100000 in
theorem prWritten_c (S : Nat → Prop) (x : It) (r : Rw) (w : World) (hr : ItR S w x r) (hcx : cnt x ≤ 1000000) (hkw : kwB x) (hT : Tabs w) (hSk : ∀ k, S k → k < w.heap.size) (hc : chk x = 0) : Calls Tryz.prog 89 #[rwV r] w (Byt x w) := by
  obtain ⟨k1, n1, ba1, bn1, bc1, s1, la1, ln1, lc1, rfl⟩ := hr.shape
  have hB0 := below_alloc w (.cells (rwC ⟨k1, n1, .slice ba1 bn1 bc1, s1, .slice la1 ln1 lc1⟩).toArray 62)
  have X0 := RowAt.new w (rwC ⟨k1, n1, .slice ba1 bn1 bc1, s1, .slice la1 ln1 lc1⟩).toArray 62
  have hcl := encode_c S x ⟨k1, n1, .slice ba1 bn1 bc1, s1, .slice la1 ln1 lc1⟩ _ (hr.up hB0) hcx hkw (hT.up hB0) (fun k hk => by have := hSk k hk; simp; omega)
  unfold EncE at hcl
  rw [hc] at hcl
  have HCL := Lib.hid hcl
  have x0 := X0.cell (i := 0) rfl
  have x1 := X0.cell (i := 1) rfl
  have x2 := X0.cell (i := 2) rfl
  have x3 := X0.cell (i := 3) rfl
  have x4 := X0.cell (i := 4) rfl
  clear hcl hr hcx hkw hT hSk X0 hc
  go_enter Tryz.func89, Tryz.ntmps89
  go_wp2_with (first
    | (go_at_call 114; refine HCL.out.mono ?_; rintro en w1 ⟨hb1, v1, rfl, ho1, _⟩; have HO := Lib.hid (ho1 rfl); clear ho1)
    | (go_at_call 42; with_reducible refine (prMust_yes _ _).mono ?_; rintro en wn ⟨rfl, rfl⟩))
  go_ret
  exact ⟨_, rfl, own_down HO.out (by simp), below_up hB0 hb1⟩
theorem one_shp {rows : List Rw} (h : ∀ r ∈ rows, Shp r) : ∀ u ∈ rows.flatMap rwC, u.oneCell' = true := by
  intro u hu
  obtain ⟨r, hr, hu⟩ := List.mem_flatMap.1 hu
  obtain ⟨k1, n1, ba1, bn1, bc1, s1, la1, ln1, lc1, rfl⟩ := h r hr
  exact one_rwS _ _ _ _ _ _ _ _ _ u hu
set_option maxHeartbeats 1000000 in
/-- slices.Clone of items. -/
theorem prClone_c (rows : List Rw) (hsh : ∀ r ∈ rows, Shp r) (v : Value) (n : Nat) (w : World) (hv : Sl w 5 v n (rows.flatMap rwC)) (hn : n ≤ 1000000) :
    Calls Tryz.prog 91 #[v] w fun e w' => ∃ v', e = .returned v' ∧ w'.ownsRow w.heap.size 62 5 v' n (rows.flatMap rwC) ∧ Below w.heap.size w w' := by
  obtain ⟨a, c, rfl⟩ := hv.len
  have he := fun (w : World) (a : Option Addr) (n c : Nat) => Lib.run_eql_slice_nil (P := Tryz.prog) w 59 62 a n c 0 0 Tryz.underlying59
  have h1 := one_shp hsh
  cases a with
  | none =>
    have h0 : n = 0 ∧ rows.flatMap rwC = [] := by
      obtain ⟨hl, ⟨a, c, h1, rfl⟩ | ⟨b, off, cap, h1, _⟩⟩ := hv
      · exact ⟨rfl, List.eq_nil_of_length_eq_zero (by omega)⟩
      · simp at h1
    obtain ⟨rfl, h0⟩ := h0
    rw [h0]
    clear h1 hv h0 hsh
    go_enter Tryz.func91, Tryz.ntmps91
    go_wp2
    go_ret
    exact ⟨_, rfl, World.ownsRow_nil _ _ _ _, Below.refl _ _⟩
  | some a =>
    generalize rows.flatMap rwC = cs at *
    clear hsh
    go_enter Tryz.func91, Tryz.ntmps91
    go_wp2_with (at_builtin; refine wpList_app rfl _ _ 59 rfl slT_items w.heap.size rfl (World.ownsRow_lit w #[] 0 (Nat.le_refl _) (by decide) rfl) rfl (hv.up (below_alloc _ _)) h1 (by simp [maxLen]; omega) (by omega) (by simp) ?_; intro v' w1 hown hgrow _)
    go_ret
    exact ⟨v', rfl, by simpa using hown, grown_below (below_alloc _ _) hgrow (fun k hk => by have : w.heap.size = k := Option.some.inj hk; omega)⟩
theorem ItsR.monoP {S S' : Nat → Prop} {w : World} {l : List It} {rows : List Rw} (h : ItsR S w l rows) (hS : ∀ k, S k → S' k) : ItsR S' w l rows := h.turn fun _ _ _ _ h => h.mono hS
/-- A list's items, and one of bytes behind them, as a slice of one's own. -/
theorem its_with {S : Nat → Prop} {w : World} {L : List It} {rows : List Rw} {v bv : Value} {bl : List UInt8} {base : Nat} (hI : ItsR S w L rows) (hb : SlS S w 1 bv bl.length (by8 bl))
    (ho : w.ownsRow base 62 5 v (L.length + 1) (rows.flatMap rwC ++ rwC ⟨2, 0, bv, ⟨#[]⟩, .slice none 0 0⟩)) (hS : ∀ k, base ≤ k → k < w.heap.size → S k) : ItR S w (lI (L ++ [Prm.bI bl])) (rL v) := by
  have hbi : ItR S w (Prm.bI bl) ⟨2, 0, bv, ⟨#[]⟩, .slice none 0 0⟩ := by
    unfold ItR
    exact ⟨rfl, rfl, rfl, ⟨by omega, by omega⟩, hb, [], ⟨Sl.nil _ _, .inl rfl⟩, by unfold ItsR; rfl⟩
  have h2 := hI.snoc hbi
  unfold ItR
  refine ⟨rfl, rfl, rfl, ⟨by omega, by omega⟩, ⟨Sl.nil _ _, .inl rfl⟩, rows ++ [⟨2, 0, bv, ⟨#[]⟩, .slice none 0 0⟩], ⟨?_, ?_⟩, h2⟩
  · have := Sl.of_own ho
    simpa using this
  · exact .inr fun k hk => hS k (own_of_some ho hk).1 (own_of_some ho hk).2
set_option maxHeartbeats 2000000 in
set_option maxRecDepth 100000 in
/-- The bytes of a list with bytes behind. -/
theorem prWith_c (L : List It) (rows : List Rw) (B : Nat) (la : Option Addr) (lc : Nat) (ba : Option Addr) (bc : Nat) (bl : List UInt8) (w : World) (hB : w.cell? ⟨B, 0, none⟩ = some (.slice la L.length lc))
    (hl : Sl w 5 (.slice la L.length lc) L.length (rows.flatMap rwC)) (hI : ItsR (fun k => k < w.heap.size) w L rows) (hb : SlS (fun k => k < w.heap.size) w 1 (.slice ba bl.length bc) bl.length (by8 bl))
    (hc : chk (lI (L ++ [Prm.bI bl])) = 0) (hx : cnt (lI (L ++ [Prm.bI bl])) ≤ 1000000) (hk : kwB (lI (L ++ [Prm.bI bl]))) (hL : L.length ≤ 100000) (hT : Tabs w) :
    Calls Tryz.prog 90 #[.slice ba bl.length bc, .pointer (some ⟨B, 0, none⟩)] w (Byt (lI (L ++ [Prm.bI bl])) w) := by
  have HCL := Lib.hid (prClone_c rows hI.shp _ _ w hl (by omega))
  have HI := Lib.hid hI
  have HB := Lib.hid hb
  have HC := Lib.hid hc
  have HX := Lib.hid hx
  have HK := Lib.hid hk
  have HT := Lib.hid hT
  clear hl hI hb hc hx hk hT
  have hn1 : IntKind.i64.wrap ((bl.length : Int)) = bl.length ∨ True := .inr trivial
  go_enter Tryz.func90, Tryz.ntmps90
  go_wp2_with (first
    | (go_at_call 91; refine HCL.out.mono ?_; rintro en w1 ⟨v1, rfl, ho1, hb1⟩; obtain ⟨p1, c1, rfl⟩ := own_slice ho1)
    | (at_builtin; refine wpList_app (m := 1) rfl _ _ 59 rfl slT_items w.heap.size rfl (own_up ho1 (below_alloc w1 (.cells (rwC ⟨2, 0, .slice ba bl.length bc, ⟨#[]⟩, .slice none 0 0⟩).toArray 62))) rfl (sl_new5 w1 ⟨2, 0, .slice ba bl.length bc, ⟨#[]⟩, .slice none 0 0⟩) (one_rwS _ _ _ _ _ _ _ _ _) (by simp only [maxLen]; omega) (by omega) (by have := hb1.size; simp; omega) ?_; intro v2 w2 hown hgrow _; obtain ⟨p2, c2, rfl⟩ := own_slice hown; have D2 : Below w.heap.size w w2 := grown_below (below_up hb1 (below_alloc w1 _)) hgrow (fun k hk => (own_of_some ho1 hk).1); have HIT := Lib.hid (its_with (S := fun k => k < w2.heap.size) ((HI.out.up D2).monoP (fun k e => Nat.lt_of_lt_of_le e D2.size)) ((HB.out.up D2).mono (fun k e => Nat.lt_of_lt_of_le e D2.size)) hown (fun k _ e => e)))
    | (go_at_call 86; refine (prList_c _ _ _ _).mono ?_; rintro en w3 ⟨rfl, hb3⟩)
    | (go_at_call 89; refine (prWritten_c (fun k => k < w3.heap.size) _ _ w3 ((HIT.out.up hb3).mono (fun k e => Nat.lt_of_lt_of_le e hb3.size)) HX.out HK.out (HT.out.up (below_up D2 hb3)) (fun k hk => hk) HC.out).mono ?_; rintro en w4 ⟨v4, rfl, ho4, hb4⟩))
  go_ret
  exact ⟨_, rfl, own_down ho4 (below_up D2 hb3).size, below_up (below_up D2 hb3) hb4⟩
end Go.Proofs.YtpkonagjnfphkaaGreatDoor

namespace Go.Proofs.YtpkonagjnfphkaaGreatDoor
open Go.RowKit Trc Cb
set_option linter.unusedSimpArgs false
set_option linter.unusedVariables false
set_option maxHeartbeats 1000000 in
set_option maxRecDepth 100000 in
theorem prEnc2_c (p : Prm.Pr) (g : FuncId) (hg : Enters Tryz.prog g) (x : It) (hq : ∀ w1, Calls Tryz.prog g #[prV p] w1 (MadeE x w1)) (P : Nat) (w : World) (hP : RowAt w P (prC p).toArray 28) :
    Calls Tryz.prog 46 #[.func (.func g) #[] #[], .pointer (some ⟨P, 0, none⟩)] w (MadeE x w) := by
  have HW1 := Lib.hid (below_alloc w (.cells #[.int .i64 0, .int .u64 0, .slice none 0 0, .string ⟨#[]⟩, .slice none 0 0] 62))
  have HZ0 := Lib.hid (RowAt.new w #[.int .i64 0, .int .u64 0, .slice none 0 0, .string ⟨#[]⟩, .slice none 0 0] 62)
  have X0 := hP.below (below_alloc w (.cells #[.int .i64 0, .int .u64 0, .slice none 0 0, .string ⟨#[]⟩, .slice none 0 0] 62))
  have x0 := X0.cell (i := 0) rfl
  have x1 := X0.cell (i := 1) rfl
  have x2 := X0.cell (i := 2) rfl
  have x3 := X0.cell (i := 3) rfl
  have x4 := X0.cell (i := 4) rfl
  have x5 := X0.cell (i := 5) rfl
  have x6 := X0.cell (i := 6) rfl
  have x7 := X0.cell (i := 7) rfl
  have x8 := X0.cell (i := 8) rfl
  have x9 := X0.cell (i := 9) rfl
  have x10 := X0.cell (i := 10) rfl
  have hcl := hq (w.alloc (.cells #[.int .i64 0, .int .u64 0, .slice none 0 0, .string ⟨#[]⟩, .slice none 0 0] 62))
  have HCL := Lib.hid hcl
  clear hcl hq hP X0
  unfold Enters at hg
  go_enter Tryz.func46, Tryz.ntmps46
  go_wp2_with fail
  refine HCL.out.mono ?_
  rintro en w1 ⟨hb1, r8, rfl, hi8⟩
  obtain ⟨k8, n8, ba8, bn8, bc8, s8, la8, ln8, lc8, rfl⟩ := hi8.shape
  have D3 := below_up HW1.out hb1
  have Z3 := HZ0.out.below hb1
  have hs1 : w.heap.size + 1 ≤ w1.heap.size := by have := hb1.size; simpa using this
  replace hi8 := hi8.mono (S' := fun j => w.heap.size < j ∧ j < w1.heap.size) (fun j e => ⟨by have := e.1; simp at this; omega, e.2⟩)
  have z0 := Z3.cell (i := 0) rfl
  have z1 := Z3.cell (i := 1) rfl
  have z2 := Z3.cell (i := 2) rfl
  have z3 := Z3.cell (i := 3) rfl
  have z4 := Z3.cell (i := 4) rfl
  have f0 := Z3.fz 0
  have f1 := Z3.fz 1
  have f2 := Z3.fz 2
  have f3 := Z3.fz 3
  have f4 := Z3.fz 4
  go_wp2
  obtain ⟨h5, hm⟩ := made_end (w := w) Z3 rfl (by omega) D3 hi8
  have g0 := RowAt.cell h5 (i := 0) rfl
  have g1 := RowAt.cell h5 (i := 1) rfl
  have g2 := RowAt.cell h5 (i := 2) rfl
  have g3 := RowAt.cell h5 (i := 3) rfl
  have g4 := RowAt.cell h5 (i := 4) rfl
  exact bodyPost_ret (v := rwV ⟨k8, n8, .slice ba8 bn8 bc8, s8, .slice la8 ln8 lc8⟩) (by simp [results, Tryz.results46, go_sem, g0, g1, g2, g3, g4]) rfl hm
abbrev prFn (g : FuncId) : List Value := [.func (.func g) #[] #[]]
theorem enters_prEnc2 : Enters Tryz.prog 46 := enters_of Tryz.func46 (by kernel_rfl) rfl
/-- Where the items of a list under way may hold their parts. -/
def MdS (w : World) (o : Value) (W : World) (j : Nat) : Prop := w.heap.size ≤ j ∧ j < W.heap.size ∧ o.ownBlock ≠ some j
set_option maxHeartbeats 4000000 in
set_option maxRecDepth 100000 in
theorem prMade_c (p : Prm.Pr) (its : List It) (gs : List FuncId) (P : Nat) (v : Value) (n : Nat) (w : World) (hv : Sl w 1 v n (gs.flatMap prFn)) (hlen : gs.length = its.length) (hn : n ≤ 1000) (hP : RowAt w P (prC p).toArray 28)
    (hg : ∀ g ∈ gs, Enters Tryz.prog g) (hq : ∀ (i : Nat) (hi : i < gs.length) (hi' : i < its.length) (w1 : World), Calls Tryz.prog gs[i] #[prV p] w1 (MadeE its[i] w1)) :
    Calls Tryz.prog 45 #[v, .func (.func 46) #[] #[.pointer (some ⟨P, 0, none⟩)]] w (fun en w' => ∃ v' rows, en = .returned v' ∧ w'.ownsRow w.heap.size 62 5 v' its.length (rows.flatMap rwC) ∧ ItsR (fun k => w.heap.size ≤ k ∧ k < w'.heap.size) w' its rows ∧ Below w.heap.size w w') := by
  have Hln := Lib.hid (Sl.recs (cells := prFn) (sz := 1) (fun _ => rfl) (by decide) hv)
  have HL := Lib.hid hlen
  have HP := Lib.hid hP
  have HG := Lib.hid hg
  have HQ := Lib.hid hq
  have hent := enters_prEnc2
  obtain ⟨a, c, rfl⟩ := hv.len
  clear hlen hP hg hq
  unfold Enters at hent
  go_enter Tryz.func45, Tryz.ntmps45
  go_wp2
  go_loopw [4, 9] (fun o i wr => ∃ (k : Nat) (rows : List Rw), k ≤ n ∧ i = .int .i64 k ∧ wr.ownsRow w.heap.size 62 5 o k (rows.flatMap rwC) ∧ ItsR (MdS w o wr) wr (its.take k) rows ∧ Below w.heap.size w wr) (fun _ i _ => n - (intOf i).toNat)
  case atStart => exact ⟨0, [], Nat.zero_le _, rfl, World.ownsRow_nil _ _ _ _, by simp only [List.take_zero]; unfold ItsR; rfl, Below.refl _ _⟩
  case round =>
    obtain ⟨k, rows, hk, rfl, hown, hits, hB⟩ := hrel
    have HB := Lib.hid hB
    have HIT := Lib.hid hits
    obtain ⟨po, co, rfl⟩ := own_slice hown
    by_cases hlt : k < n
    · have hlg : k < gs.length := by rw [Hln.out]; exact hlt
      have hli : k < its.length := by rw [← HL.out]; exact hlg
      obtain ⟨b, off, rfl, hr⟩ := (hv.up hB).rec_at (cells := prFn) (sz := 1) (fun _ => rfl) hlt hlg
      have c0 := hr 0 _ rfl
      simp only [Nat.mul_one, Nat.add_zero] at c0
      have hcl := prEnc2_c p gs[k] (HG.out _ (List.getElem_mem hlg)) its[k] (HQ.out k hlg hli) P wr (HP.out.below hB)
      have HCL := Lib.hid hcl
      have HTK := Lib.hid (show its.take (k + 1) = its.take k ++ [its[k]] from List.take_succ_eq_append_getElem hli)
      clear hcl hB hits hr
      generalize gs[k] = g at *
      generalize its[k] = x at *
      have HOW := Lib.hid hown
      clear hown
      go_wp2_with (first
        | (refine HCL.out.mono ?_; rintro en w1 ⟨hb1, r8, rfl, hi8⟩; obtain ⟨k8, n8, ba8, bn8, bc8, s8, la8, ln8, lc8, rfl⟩ := hi8.shape)
        | (at_builtin; refine wpList_app_at (m := 1) rfl _ _ 59 rfl slT_items w.heap.size rfl (own_up (own_up HOW.out hb1) (below_alloc w1 (.cells (rwC ⟨k8, n8, .slice ba8 bn8 bc8, s8, .slice la8 ln8 lc8⟩).toArray 62))) rfl (sl_new5 w1 ⟨k8, n8, .slice ba8 bn8 bc8, s8, .slice la8 ln8 lc8⟩) (one_rwS _ _ _ _ _ _ _ _ _) (by simp only [maxLen]; omega) (by omega) (by have := HB.out.size; have := hb1.size; simp; omega) ?_; intro v2 w2 hown2 hgrow _ hob; obtain ⟨p2, c2, rfl⟩ := own_slice hown2))
      have hs1 := hb1.size
      have hsB := HB.out.size
      have Ha := below_alloc w1 (.cells (rwC ⟨k8, n8, .slice ba8 bn8 bc8, s8, .slice la8 ln8 lc8⟩).toArray 62)
      have hw1 : (w1.alloc (.cells (rwC ⟨k8, n8, .slice ba8 bn8 bc8, s8, .slice la8 ln8 lc8⟩).toArray 62)).heap.size = w1.heap.size + 1 := by simp
      have hBut : But (fun j => (Value.slice po k co).ownBlock = some j) (w1.alloc (.cells (rwC ⟨k8, n8, .slice ba8 bn8 bc8, s8, .slice la8 ln8 lc8⟩).toArray 62)) w2 := But.grown hgrow (fun r e => .inl e)
      have hs2 := hBut.size
      have hold : ∀ j, (Value.slice po k co).ownBlock = some j → w.heap.size ≤ j ∧ j < wr.heap.size := fun j e => own_of_some HOW.out e
      have D2 : Below w.heap.size w w2 := ((below_up HB.out hb1).trans (Ha.mono (below_up HB.out hb1).size)).trans (hBut.below (fun j e => (hold j e).1) (by omega))
      have hnew : ∀ j, j < w1.heap.size → (Value.slice po k co).ownBlock ≠ some j → (Value.slice p2 (k + 1) c2).ownBlock ≠ some j := by
        intro j hj hne e
        rcases hob with h | h
        · rw [h] at e; exact hne e
        · rw [h, hw1] at e; have := Option.some.inj e; omega
      have hI2 : ItsR (MdS w (.slice p2 (k + 1) c2) w2) w2 (its.take k) rows := by
        have h1 := (HIT.out.up hb1).up Ha
        have h2 := ItsR.turn (S' := MdS w (.slice p2 (k + 1) c2) w2) (w' := w2) (fun sz v n cs h => (h.but hBut (fun j e => e.2.2)).mono (fun j e => ⟨e.1, by have := e.2.1; omega, hnew j (by have := e.2.1; omega) e.2.2⟩)) h1
        exact h2
      have hX2 : ItR (MdS w (.slice p2 (k + 1) c2) w2) w2 x ⟨k8, n8, .slice ba8 bn8 bc8, s8, .slice la8 ln8 lc8⟩ := by
        have h1 := hi8.up Ha
        have h2 := h1.but hBut (fun j e h => by have := (hold j h).2; omega)
        exact h2.mono (fun j e => ⟨by omega, by omega, hnew j (by omega) (fun h => by have := (hold j h).2; omega)⟩)
      go_roundw
      case rel => exact ⟨k + 1, rows ++ [⟨k8, n8, .slice ba8 bn8 bc8, s8, .slice la8 ln8 lc8⟩], by omega, by go_num, by rw [List.flatMap_append]; simpa using hown2, by rw [HTK.out]; exact hI2.snoc hX2, D2⟩
      case measure => simp [intOf]; omega
    · obtain rfl : k = n := by omega
      have htk : its.take k = its := List.take_of_length_le (by rw [← HL.out, Hln.out]; exact Nat.le_refl _)
      have HL2 := Lib.hid (show its.length = k by rw [← HL.out]; exact Hln.out)
      rw [htk] at HIT
      clear htk
      have HOW := Lib.hid hown
      clear hown hits
      go_wp2
      go_ret
      exact ⟨_, rows, rfl, by rw [HL2.out]; exact HOW.out, ItsR.turn (fun sz v n cs h => h.mono fun j e => ⟨e.1, e.2.1⟩) HIT.out, HB.out⟩
end Go.Proofs.YtpkonagjnfphkaaGreatDoor

namespace Go.Proofs.YtpkonagjnfphkaaGreatDoor
open Go.RowKit Go.ChangeAt
set_option linter.unusedSimpArgs false
set_option linter.unusedVariables false

theorem bytes_of {H : Type} {enc : TypeId × Value → H} {w : World} {base : Nat} {spare : Nat → Bool} {held : Bool} {T : TypeId} (ht : Tryz.prog.underlying T = some (.int .u8)) {v : Value} {n : Nat} {vs : List Value} (hsl : Sl w 1 v n vs)
    (hl : ∀ i, i < n → ∀ (j : Nat) (U : TypeId), [T][j]? = some U → ∃ c, vs[i * 1 + j]? = some c ∧ Leaf enc Tryz.prog w base spare held U c) : ∃ l, vs = by8 l := by
  have hlen : vs.length = n := by have := hsl.1; omega
  have : ∀ (vs : List Value), (∀ i, i < vs.length → ∃ x : UInt8, vs[i]? = some (.int .u8 (x.toNat : Int))) → ∃ l, vs = by8 l := by
    intro vs
    induction vs with
    | nil => intro _; exact ⟨[], rfl⟩
    | cons u vs ih =>
      intro h
      obtain ⟨x, hx⟩ := h 0 (by simp)
      obtain ⟨l, hl⟩ := ih (fun i hi => by have := h (i + 1) (by simpa using hi); simpa using this)
      simp at hx
      exact ⟨x :: l, by rw [hx, hl]; rfl⟩
  refine this vs (fun i hi => ?_)
  obtain ⟨c, hc, hL⟩ := hl i (by omega) 0 T rfl
  obtain ⟨m, rfl, hm⟩ := hL.int ht
  simp [Lit.wf, IntKind.min, IntKind.max, IntKind.signed, IntKind.bits] at hm
  refine ⟨UInt8.ofNat m.toNat, ?_⟩
  have e : ((UInt8.ofNat m.toNat).toNat : Int) = m := by simp only [UInt8.toNat_ofNat']; omega
  rw [e]
  simpa using hc

theorem weightsAll_mem {H : Type} {P : Program} {e : TypeId} {ds : List (DataW H)} {d : DataW H} (hd : d ∈ ds) {n : Nat} (hn : n ∈ d.weights P e) : n ∈ DataW.weightsAll P e ds := by
  induction ds with
  | nil => cases hd
  | cons d0 ds ih =>
    simp only [DataW.weightsAll, List.mem_append]
    rcases List.mem_cons.1 hd with rfl | h
    · exact .inl hn
    · exact .inr (ih h)

/-- A LIST OF LISTS OF BYTES, OPENED. -/
theorem open_lists {H : Type} {enc : TypeId × Value → H} {w : World} {base : Nat} {spare : Nat → Bool} {held : Bool} {t e b : TypeId} {fuel : Nat} {cs : List Value} {x : DataW H × List MemPlace}
    (ht : Tryz.prog.underlying t = some (.slice e)) (he : Tryz.prog.underlying e = some (.slice b)) (hb : Tryz.prog.underlying b = some (.int .u8)) (hls : leaves Tryz.prog 12 b = some [b])
    (c1 : Tryz.prog.cellsOf e = 1) (c2 : Tryz.prog.cellsOf b = 1) (hbb : Tryz.prog.bytesOf b = 1)
    (h : DataW.trod enc Tryz.prog w base spare held fuel t cs = some x) (hw : ∀ n ∈ x.1.weights Tryz.prog t, n ≤ reachBytes) :
    ∃ a len cap vs ls, cs = [.slice a len cap] ∧ SlB w (.slice a len cap) len vs ls ∧ ∀ l ∈ ls, l.length ≤ 140737488351232 := by
  rcases Go.Deep.open_slice1 ht c1 h with ⟨rfl, rfl⟩ | ⟨a, len, cap, m, n, V, D, Pl, rfl, hba, hl, hm, hmm, rfl, hall⟩
  · exact ⟨none, 0, 0, [], [], rfl, ⟨Sl.nil _ _, rfl, fun i u l h => by simp at h⟩, fun l h => by cases h⟩
  · have hlm : len ≤ m := by rw [hmm]; split <;> omega
    have hin : ∀ i, i < len → ∃ l : List UInt8, Sl w 1 (V i) l.length (by8 l) ∧ l.length ≤ 140737488351232 := fun i hi => by
      obtain ⟨_, htr⟩ := hall i (by omega)
      obtain ⟨a', len', cap', us, hcs, hsl, hlf, hnl⟩ := open_flat (ls := [b]) (sz := 1) he hls rfl c2 (by decide) htr
      simp only [List.cons.injEq, and_true] at hcs
      obtain ⟨l, rfl⟩ := bytes_of hb hsl hlf
      have hln := hsl.n_len
      refine ⟨l, by rw [hcs, hln]; exact hsl, ?_⟩
      rcases hnl with ⟨_, h0⟩ | ⟨es, sp, h1, h2⟩
      · omega
      · have hmem : (es.length + sp.length) * Tryz.prog.bytesOf b ∈ (DataW.slice ((List.range len).map D) ((List.range (m - len)).map fun j => D (len + j))).weights Tryz.prog t := by
          simp only [DataW.weights, ht, List.mem_cons, List.mem_append]
          refine .inr (.inl (weightsAll_mem (d := D i) (List.mem_map.2 ⟨i, List.mem_range.2 hi, rfl⟩) ?_))
          rw [show D i = DataW.slice es sp from h1]
          simp [DataW.weights, he]
        have := hw _ hmem
        rw [hbb] at this
        simp only [reachBytes] at this
        omega
    obtain ⟨F, hF⟩ := Go.Deep.choose_lt (n := len) (p := fun i (l : List UInt8) => Sl w 1 (V i) l.length (by8 l) ∧ l.length ≤ 140737488351232) hin
    refine ⟨some a, len, cap, (List.range len).map V, (List.range len).map F, rfl, ⟨⟨by simp, ?_⟩, by simp, fun i u l h1 h2 => ?_⟩, fun l hl => ?_⟩
    · by_cases hz : len = 0
      · exact .inl ⟨_, _, by rw [hz], hz⟩
      · right
        have hspot : a.spot = none := by
          have h1 := (hall 0 (by omega)).1
          have := World.cell?_spot h1
          simpa [Addr.add] using this
        obtain ⟨bb, off, spot⟩ := a
        simp only at hspot
        subst hspot
        refine ⟨bb, off, cap, rfl, hl, hm, fun j u hj => ?_⟩
        obtain ⟨hjl, hj⟩ := List.getElem?_eq_some_iff.1 hj
        simp only [List.length_map, List.length_range] at hjl
        simp only [List.getElem_map, List.getElem_range] at hj
        have h1 := (hall j (by omega)).1
        rw [hj, Addr.add_lit] at h1
        exact h1
    · obtain ⟨hil, rfl⟩ := List.getElem?_eq_some_iff.1 h1
      obtain ⟨hil', rfl⟩ := List.getElem?_eq_some_iff.1 h2
      simp only [List.length_map, List.length_range] at hil
      simp only [List.getElem_map, List.getElem_range]
      exact (hF i hil).1
    · obtain ⟨i, hi, rfl⟩ := List.mem_map.1 hl
      exact (hF i (List.mem_range.1 hi)).2
end Go.Proofs.YtpkonagjnfphkaaGreatDoor

namespace Go.Proofs.YtpkonagjnfphkaaGreatDoor
open Go.RowKit Go.ChangeAt Cb
set_option linter.unusedSimpArgs false
set_option linter.unusedVariables false
theorem DataW.trod_slice' {H : Type} {enc : TypeId × Value → H} {P : Program} {w : World} {base : Nat} {spare : Nat → Bool} {held : Bool} {t e : TypeId} {fuel : Nat} {cs : List Value} {x : DataW H × List MemPlace} (ht : P.underlying t = some (.slice e)) (h : DataW.trod enc P w base spare held fuel t cs = some x) :
    (cs = [.slice none 0 0] ∧ x.1 = .nil) ∨ ∃ (a : Addr) (len cap n : Nat) (elems rest : List (DataW H × List MemPlace)), fuel = n + 1 ∧ cs = [.slice (some a) len cap] ∧ len ≤ cap ∧ cap ≤ maxLen ∧ x.1 = .slice (elems.map (·.1)) (rest.map (·.1)) ∧ elems.length = len ∧
      ∀ i, i < len → (w.cells? base (a.add (i * P.cellsOf e)) (P.cellsOf e)).bind (DataW.trod enc P w base spare held n e) = elems[i]? := by
  rcases DataW.trod_slice ht h with ⟨h0, h1⟩ | ⟨a, len, cap, elems, rest, n, hn, h1, h2, hb, hl, hm, hlen, hel, _⟩
  · exact .inl ⟨h0, by rw [h1]⟩
  · exact .inr ⟨a, len, cap, n, elems, rest, hn, h1, hl, hm, by rw [h2], hlen, hel⟩
instance : Inhabited (It × Rw) := ⟨(.mk 0 0 [] ⟨#[]⟩ [], ⟨0, 0, .slice none 0 0, ⟨#[]⟩, .slice none 0 0⟩)⟩
theorem slS_of {S : Nat → Prop} {w : World} {sz n : Nat} {v : Value} {cs : List Value} (h : Sl w sz v n cs) (h0 : 0 < sz) (hS : ∀ k, k < w.heap.size → S k) : SlS S w sz v n cs := ⟨h, (h.blk h0).imp id fun f k hk => hS k (f k hk)⟩
set_option maxHeartbeats 2000000 in
set_option maxRecDepth 100000 in
theorem open_item {H : Type} {enc : TypeId × Value → H} {w : World} {base : Nat} {spare : Nat → Bool} {held : Bool} : ∀ (fuel : Nat) (cs : List Value) (x : DataW H × List MemPlace), DataW.trod enc Tryz.prog w base spare held fuel 62 cs = some x → (∀ n ∈ x.1.weights Tryz.prog 62, n ≤ reachBytes) →
    ∃ (it : It) (r : Rw), cs = rwC r ∧ ItR (fun k => k < w.heap.size) w it r ∧ szOk it ∧ kwB it := by
  intro fuel
  induction fuel using Nat.strongRecOn with
  | ind fuel ih =>
    intro cs x h hw
    obtain ⟨xs, n, rfl, rfl, hcl, hxl, hf⟩ := DataW.trod_struct Tryz.underlying62 h
    have hcl : cs.length = 5 := hcl.trans (by kernel_rfl)
    have hxl : xs.length = 5 := hxl
    match cs, hcl with
    | [c0, c1, c2, c3, c4], _ =>
    match xs, hxl with
    | [y0, y1, y2, y3, y4], _ =>
    have f0 := hf 0 { name := "Kind", type := 60, offset := 0, embedded := false, tag := "", pkgPath := "", byteOffset := 0 } rfl
    have f1 := hf 1 { name := "N", type := 26, offset := 1, embedded := false, tag := "", pkgPath := "", byteOffset := 8 } rfl
    have f2 := hf 2 { name := "B", type := 48, offset := 2, embedded := false, tag := "", pkgPath := "", byteOffset := 16 } rfl
    have f3 := hf 3 { name := "S", type := 9, offset := 3, embedded := false, tag := "", pkgPath := "", byteOffset := 40 } rfl
    have f4 := hf 4 { name := "L", type := 59, offset := 4, embedded := false, tag := "", pkgPath := "", byteOffset := 56 } rfl
    simp only [show Tryz.prog.cellsOf 60 = 1 by kernel_rfl, show Tryz.prog.cellsOf 26 = 1 by kernel_rfl, show Tryz.prog.cellsOf 48 = 1 by kernel_rfl, show Tryz.prog.cellsOf 9 = 1 by kernel_rfl, show Tryz.prog.cellsOf 59 = 1 by kernel_rfl, List.drop_zero, List.drop_succ_cons, List.take_succ_cons, List.take_zero, List.getElem?_cons_zero, List.getElem?_cons_succ] at f0 f1 f2 f3 f4
    have hmem : ∀ (j : Nat) (t : TypeId) (d : DataW H), ([60, 26, 48, 9, 59] : List TypeId)[j]? = some t → ([y0.1, y1.1, y2.1, y3.1, y4.1] : List (DataW H))[j]? = some d → ∀ m ∈ d.weights Tryz.prog t, m ≤ reachBytes := fun j t d h1 h2 m hm => hw m (by
      simp only [DataW.weights, Tryz.underlying62, List.map_cons, List.map_nil]
      exact DataW.weights_mem_each (ts := [60, 26, 48, 9, 59]) (ds := [y0.1, y1.1, y2.1, y3.1, y4.1]) h1 h2 m hm)
    obtain ⟨k, e0, _, wk⟩ := DataW.trod_int Tryz.underlying60 f0
    obtain ⟨m, e1, _, wm⟩ := DataW.trod_int Tryz.underlying26 f1
    obtain ⟨s, e3, e3x, ws⟩ := DataW.trod_string Tryz.underlying9 f3
    obtain ⟨a2, len2, cap2, vs2, e2, sl2, lf2, nl2⟩ := open_flat (ls := [5]) (sz := 1) Tryz.underlying48 (by kernel_rfl) rfl (by kernel_rfl) (by decide) f2
    obtain ⟨b, rfl⟩ := bytes_of Tryz.underlying5 sl2 lf2
    have hbn := sl2.n_len
    subst hbn
    have e0 := (List.cons.inj e0).1
    have e1 := (List.cons.inj e1).1
    have e2 := (List.cons.inj e2).1
    have e3 := (List.cons.inj e3).1
    subst e0; subst e1; subst e2; subst e3
    simp [Lit.wf, IntKind.min, IntKind.max, IntKind.signed, IntKind.bits] at wk wm
    have hbl : b.length ≤ 140737488355328 := by
      rcases nl2 with ⟨_, h0⟩ | ⟨es, sp, h1, h2⟩
      · omega
      · have := hmem 2 _ _ rfl rfl ((es.length + sp.length) * Tryz.prog.bytesOf 5) (by rw [h1]; simp [DataW.weights, Tryz.underlying48])
        rw [show Tryz.prog.bytesOf 5 = 1 by kernel_rfl] at this
        simp only [reachBytes] at this
        omega
    have hsl : s.size ≤ 140737488355328 := by
      have := hmem 3 _ _ rfl rfl s.data.toList.length (by rw [e3x]; simp [DataW.weights])
      have hsz : s.data.toList.length = s.size := Array.length_toList
      simp only [reachBytes] at this
      omega
    have hlist : ∃ (l : List It) (rows : List Rw) (v : Value), c4 = v ∧ SlS (fun k => k < w.heap.size) w 5 v l.length (rows.flatMap rwC) ∧ ItsR (fun k => k < w.heap.size) w l rows ∧ szOkL l ∧ kwL l := by
      rcases DataW.trod_slice' Tryz.underlying59 f4 with ⟨e4, _⟩ | ⟨a, len, cap, n', elems, rest, rfl, e4, hl, hm, hx, hlen, hel⟩
      · have e4 := (List.cons.inj e4).1
        exact ⟨[], [], _, e4, ⟨Sl.nil _ _, .inl rfl⟩, by unfold ItsR; rfl, trivial, trivial⟩
      · have e4 := (List.cons.inj e4).1
        have hin : ∀ i, i < len → ∃ q : It × Rw, w.cells? base (a.add (i * 5)) 5 = some (rwC q.2) ∧ ItR (fun k => k < w.heap.size) w q.1 q.2 ∧ szOk q.1 ∧ kwB q.1 := fun i hi => by
          have h1 := hel i hi
          rw [List.getElem?_eq_getElem (by omega), show Tryz.prog.cellsOf 62 = 5 by kernel_rfl] at h1
          obtain ⟨cs', h2, h3⟩ := Option.bind_eq_some_iff.1 h1
          obtain ⟨it, r, rfl, h4, h5, h6⟩ := ih n' (by omega) cs' _ h3 (fun m hm => by
            refine hmem 4 _ _ rfl rfl m ?_
            rw [hx]
            simp only [DataW.weights, Tryz.underlying59, List.mem_cons, List.mem_append]
            exact .inr (.inl (weightsAll_mem (d := elems[i].1) (List.mem_map.2 ⟨_, List.getElem_mem _, rfl⟩) hm)))
          exact ⟨(it, r), h2, h4, h5, h6⟩
        obtain ⟨F, hF⟩ := Go.Deep.choose_lt hin
        have hfl : ((List.range len).map fun i => (F i).2).flatMap rwC = (List.range len).flatMap fun i => rwC (F i).2 := by rw [List.flatMap_map]
        obtain ⟨g1, g2⟩ := flatMap_get (f := fun i => rwC (F i).2) (sz := 5) len (fun i _ => rfl)
        refine ⟨(List.range len).map fun i => (F i).1, (List.range len).map fun i => (F i).2, _, e4, ?_, ItsR.of (by simp) (fun i hi hr => by simp only [List.getElem_map, List.getElem_range]; exact (hF i (by simpa using hi)).2.1), ?_, kwL_all fun y hy => ?_⟩
        · refine slS_of ⟨by rw [hfl, g1]; simp, ?_⟩ (by decide) (fun k hk => hk)
          simp only [List.length_map, List.length_range]
          by_cases hz : len = 0
          · exact .inl ⟨_, _, by rw [hz], hz⟩
          · right
            have hcell : ∀ i j, i < len → j < 5 → w.cell? ((a.add (i * 5)).add j) = (rwC (F i).2)[j]? := fun i j hi hj => (World.cells?_some (hF i hi).1).2.2 j hj
            have hspot : a.spot = none := by
              have h1 := hcell 0 0 (by omega) (by decide)
              have h2 : (rwC (F 0).2)[0]? = some (.int .i64 (F 0).2.k) := rfl
              rw [h2] at h1
              have := World.cell?_spot h1
              simpa [Addr.add] using this
            obtain ⟨bb, off, spot⟩ := a
            simp only at hspot
            subst hspot
            refine ⟨bb, off, cap, rfl, hl, hm, fun j u hj => ?_⟩
            rw [hfl] at hj
            have hjl : j < len * 5 := by rw [← g1]; exact (List.getElem?_eq_some_iff.1 hj).1
            have hd : j / 5 < len := Nat.div_lt_of_lt_mul (by rw [Nat.mul_comm]; exact hjl)
            have he : j / 5 * 5 + j % 5 = j := by omega
            have h1 := g2 (j / 5) (j % 5) hd (by omega)
            rw [he, hj] at h1
            have h2 := hcell (j / 5) (j % 5) hd (by omega)
            rw [Addr.add_lit, Addr.add_lit, Nat.add_assoc, he, ← h1] at h2
            exact h2
        · clear g1 g2 hfl
          have : ∀ (L : List Nat), (∀ i ∈ L, i < len) → szOkL (L.map fun i => (F i).1) := by
            intro L
            induction L with
            | nil => intro _; trivial
            | cons i L ihL => intro hL; exact ⟨(hF i (hL i (by simp))).2.2.1, ihL fun j hj => hL j (by simp [hj])⟩
          exact this _ (fun i hi => List.mem_range.1 hi)
        · obtain ⟨i, hi, rfl⟩ := List.mem_map.1 hy
          exact (hF i (List.mem_range.1 hi)).2.2.2
    obtain ⟨l, rows, v, rfl, s4, i4, z4, k4⟩ := hlist
    refine ⟨.mk k m b s l, ⟨k, m, _, s, _⟩, rfl, ?_, ⟨⟨hbl, hsl⟩, z4⟩, ⟨⟨by omega, by omega⟩, k4⟩⟩
    unfold ItR
    exact ⟨rfl, rfl, rfl, ⟨by omega, by omega⟩, slS_of sl2 (by decide) (fun k hk => hk), rows, s4, i4⟩
end Go.Proofs.YtpkonagjnfphkaaGreatDoor

namespace Go.Proofs.YtpkonagjnfphkaaGreatDoor
open Go.RowKit
set_option linter.unusedSimpArgs false
set_option linter.unusedVariables false
/-- A literal's cells. -/
theorem susl_lit (w : World) (cs : List Value) (T : TypeId) (f : Nat × Nat) (k : Nat) (hk : k = w.heap.size) (hm : cs.length ≤ maxLen) : Sl (w.alloc (.cells cs.toArray T f)) 1 (.slice (some ⟨k, 0, none⟩) cs.length cs.length) cs.length cs := by
  subst hk
  refine ⟨by simp, .inr ⟨w.heap.size, 0, cs.length, rfl, Nat.le_refl _, hm, fun j u hj => ?_⟩⟩
  have : (w.alloc (.cells cs.toArray T f)).heap[w.heap.size]? = some (.cells cs.toArray T f) := heap_alloc_new w _
  simp only [World.cell?, this, Nat.zero_add]
  simpa using hj
theorem suslB_lit (w : World) (vs : List Value) (ls : List (List UInt8)) (h : ∀ (i : Nat) (u : Value) (l : List UInt8), vs[i]? = some u → ls[i]? = some l → Sl w 1 u l.length (by8 l)) (hl : vs.length = ls.length) (T : TypeId) (f : Nat × Nat) (k : Nat) (hk : k = w.heap.size) (hm : vs.length ≤ maxLen) :
    SlB (w.alloc (.cells vs.toArray T f)) (.slice (some ⟨k, 0, none⟩) vs.length vs.length) vs.length vs ls :=
  ⟨susl_lit w vs T f k hk hm, hl, fun i u l h1 h2 => (h i u l h1 h2).up (below_alloc _ _)⟩
open Go.RowKit
set_option linter.unusedSimpArgs false
set_option linter.unusedVariables false
attribute [local go_sem] Oper.semAt_some
open Go.RowKit
set_option linter.unusedSimpArgs false
set_option linter.unusedVariables false
open Go.RowKit
set_option linter.unusedSimpArgs false
set_option linter.unusedVariables false
theorem suslB1 (w : World) (l : List UInt8) (v : Value) (n : Nat) (h : Sl w 1 v n (by8 l)) (T : TypeId) (kk : Nat) (hk : kk = w.heap.size) : SlB (w.alloc (.cells #[v] T)) (.slice (some ⟨kk, 0, none⟩) 1 1) 1 [v] [l] := by
  refine suslB_lit w [v] [l] (fun i u l' h1 h2 => ?_) rfl T (0, 0) kk hk (by simp [maxLen])
  match i with
  | 0 => simp only [List.getElem?_cons_zero, Option.some.injEq] at h1 h2; subst h1 h2; rw [h.n_len]; exact h
  | i + 1 => simp at h1
end Go.Proofs.YtpkonagjnfphkaaGreatDoor

namespace Go.Proofs.YtpkonagjnfphkaaGreatDoor
open Go.RowKit Trc Cb
set_option linter.unusedSimpArgs false
set_option linter.unusedVariables false
/-- A list's item, by a slice of its items' records. -/
theorem it_list {w : World} {L : List It} {rows : List Rw} {v : Value} (hl : Sl w 5 v L.length (rows.flatMap rwC)) (hI : ItsR (fun j => j < w.heap.size) w L rows) : ItR (fun j => j < w.heap.size) w (lI L) (rL v) := by
  unfold ItR
  exact ⟨rfl, rfl, rfl, ⟨by omega, by omega⟩, ⟨Sl.nil _ _, .inl rfl⟩, rows, slS_of hl (by decide) (fun _ h => h), hI⟩
structure Prm.Wr (x : It) : Prop where
  c : chk x = 0
  n : cnt x ≤ 1000000
  k : kwB x
theorem enters_prWith : Enters Tryz.prog 90 := enters_of Tryz.func90 (by kernel_rfl) rfl
set_option maxHeartbeats 4000000 in
set_option maxRecDepth 100000 in
theorem prSealed1 (L : List It) (rows : List Rw) (la : Option Addr) (lc : Nat) (w : World) (hl : Sl w 5 (.slice la L.length lc) L.length (rows.flatMap rwC)) (hI : ItsR (fun j => j < w.heap.size) w L rows) (hL : L.length ≤ 100000)
    (hz : Prm.Wr (Prm.zeroIt 1 L)) (hs : Prm.Wr (Prm.sealIt 1 L)) (hT : Tabs w) : Calls Tryz.prog 44 #[.int .i64 1, .slice la L.length lc] w (Byt (Prm.sealIt 1 L) w) := by
  obtain ⟨bl, hbl⟩ : ∃ bl, bl = Oct.putB (Sum.sumN 1 (bytesOf (Prm.zeroIt 1 L))) (Sum.wd 1) := ⟨_, rfl⟩
  have hpe : Oct.putE ((Sum.sumN 1 (bytesOf (Prm.zeroIt 1 L)) : Nat) : Int) 2 = 0 := by
    have h1 := Sum.put_all (k := 1) (by decide) (bytesOf (Prm.zeroIt 1 L))
    have h2 := Sum.sumN_in (k := 1) (by decide) (bytesOf (Prm.zeroIt 1 L))
    unfold Oct.putE
    rw [show Oct.okW (2 : Int) = true from rfl, show Oct.fitsB (2 : Int) ((Sum.sumN 1 (bytesOf (Prm.zeroIt 1 L)) : Nat) : Int) = true by
      unfold Oct.fitsB; rw [decide_eq_true_eq]; exact Sum.pow_up h2]
    rfl
  have hblen : bl.length = 2 := by rw [hbl]; exact Prm.put_len (k := 1) _ (by decide)
  rw [show Prm.sealIt 1 L = lI (L ++ [Prm.bI bl]) by unfold Prm.sealIt; rw [if_neg (by decide), hbl]] at hs ⊢
  have hmf : ∀ (fn : Fn) (first cap : Array Value) (w : World), (Instr.makeFunc fn first cap).run Tryz.prog w = .ok (.func fn first cap) w := fun _ _ _ _ => rfl
  have hz0 : (List.replicate 2 (0 : UInt8)).length = 2 := rfl
  have hzl : Prm.zeroIt 1 L = lI (L ++ [Prm.bI (List.replicate 2 0)]) := rfl
  have D0 := below_alloc w (.cells #[.slice la L.length lc] 59)
  have c0 : (w.alloc (.cells #[.slice la L.length lc] 59)).cell? ⟨w.heap.size, 0, none⟩ = some (.slice la L.length lc) := cell_new _ _ _
  have hent := enters_prWith
  unfold Enters at hent
  have hsum : Sum.sumN 1 (bytesOf (Prm.zeroIt 1 L)) < 4294967296 := by
    have h := Sum.sumN_in (k := 1) (by decide) (bytesOf (Prm.zeroIt 1 L))
    have e : 256 ^ Sum.wd 1 = 65536 := rfl
    omega
  have HL := Lib.hid hl
  have HI := Lib.hid hI
  have HZ := Lib.hid hz
  have HS := Lib.hid hs
  have HT := Lib.hid hT
  have HBL := Lib.hid hbl
  have HPE := Lib.hid hpe
  have HLEN := Lib.hid hblen
  have HZL := Lib.hid hzl
  clear hl hI hz hs hT hbl hpe hblen hzl
  obtain ⟨zb, hzb⟩ : ∃ zb, zb = bytesOf (Prm.zeroIt 1 L) := ⟨_, rfl⟩
  rw [← hzb] at HBL HPE hsum
  have HZB := Lib.hid hzb
  clear hzb
  obtain ⟨sn, hsn⟩ : ∃ sn, sn = Sum.sumN 1 zb := ⟨_, rfl⟩
  rw [← hsn] at HBL HPE hsum
  have HSN := Lib.hid hsn
  clear hsn
  have hwr : IntKind.u64.wrap (sn : Int) = sn := by rw [IntKind.wrap_u64]; omega
  have HSM := Lib.hid hsum
  clear hsum
  have HWD := Lib.hid (fun (W : World) => show Calls Tryz.prog 50 #[.int .i64 1] W (Ret (.tuple #[.int .i64 2, .int .i64 0]) W) from suwidth_c 1 (by decide) W)
  go_enter Tryz.func44, Tryz.ntmps44
  have hmk : ∀ w : World, (Instr.makeSlice 48 (.int .i64 2) (.int .i64 2)).run Tryz.prog w = .ok (.slice (some ⟨w.heap.size, 0, none⟩) 2 2) (w.alloc (.cells #[.int .u8 0, .int .u8 0] 5)) := fun _ => by kernel_rfl
  go_wp2_with (first
    | (go_at_call 50; refine (HWD.out _).mono ?_; rintro en w1 ⟨rfl, hb1⟩))
  have Da := below_alloc w1 (.cells #[.int .u8 0, .int .u8 0] 5)
  have D1 := below_up (below_up D0 hb1) Da
  have c1 := cell_up Da (cell_up hb1 c0)
  have hz1 : SlS (fun k => k < (w1.alloc (.cells #[.int .u8 0, .int .u8 0] 5)).heap.size) (w1.alloc (.cells #[.int .u8 0, .int .u8 0] 5)) 1 (.slice (some ⟨w1.heap.size, 0, none⟩) 2 2) 2 (by8 (List.replicate 2 0)) :=
    slS_of (Sl.of_own (World.ownsRow_lit w1 #[.int .u8 0, .int .u8 0] 2 (size := 1) (e := 5) (Nat.le_refl _) (by decide) rfl)) (by decide) (fun _ h => h)
  have hw1 := prWith_c L rows w.heap.size la lc (some ⟨w1.heap.size, 0, none⟩) 2 (List.replicate 2 0) _ c1 (HL.out.up D1) ((HI.out.up D1).monoP (fun k e => Nat.lt_of_lt_of_le e D1.size)) hz1 HZ.out.c HZ.out.n HZ.out.k hL (HT.out.up D1)
  refine hw1.mono ?_
  rintro en w2 ⟨v2, rfl, ho2, hb2⟩
  have ho3 : w2.ownsRow (w1.alloc (.cells #[.int .u8 0, .int .u8 0] 5)).heap.size 5 1 v2 zb.length (by8 zb) := by rw [HZB.out]; exact ho2
  obtain ⟨p2, c2, rfl⟩ := own_slice ho3
  have hzl : zb.length ≤ 9000000 := by have h1 := Prm.bytes_le (Prm.zeroIt 1 L); have h2 := HZ.out.n; rw [HZB.out]; omega
  have Db := below_alloc w2 (.cells #[.slice p2 zb.length c2] 48)
  have D2 := below_up (below_up D1 hb2) Db
  have hs2 := susumOf_c 1 (by decide) [zb] [.slice p2 zb.length c2] (some ⟨w2.heap.size, 0, none⟩) 1 1 _ (suslB1 w2 zb _ zb.length (Sl.of_own ho3) 48 _ rfl) (by decide) (by intro l h; simp at h; subst h; omega)
  simp only [List.flatten_cons, List.flatten_nil, List.append_nil] at hs2
  rw [← HSN.out] at hs2
  have HS2 := Lib.hid hs2
  have HO3 := Lib.hid ho3
  have c2' := cell_up Db (cell_up hb2 c1)
  have HDD := Lib.hid D2
  clear hs2 ho2 ho3 hw1 hz1 c1 c0 hb2 Db Da D1 hb1 hzl
  generalize zb.length = zn at *
  go_wp2_with fail
  refine HS2.out.mono ?_
  rintro en w3 ⟨rfl, hb3⟩
  have c3 := cell_up hb3 c2'
  have D3 := below_up HDD.out hb3
  have hpu := put_c (sn : Int) 2 w3 (by omega) (by have := HSM.out; omega)
  rw [HPE.out, show Oct.putB (sn : Int) 2 = bl from HBL.out.symm] at hpu
  have HPU := Lib.hid hpu
  clear hpu c2' hb3
  go_wp2_with fail
  refine HPU.out.mono ?_
  rintro en w4 ⟨v4, rfl, ho4, hb4⟩
  obtain ⟨p4, c4, rfl⟩ := own_slice ho4
  have D4 := below_up D3 hb4
  have c4' := cell_up hb4 c3
  have hw4 := prWith_c L rows w.heap.size la lc p4 c4 bl w4 c4' (HL.out.up D4) ((HI.out.up D4).monoP (fun k e => Nat.lt_of_lt_of_le e D4.size)) (slS_of (Sl.of_own ho4) (by decide) (fun _ h => h)) HS.out.c HS.out.n HS.out.k hL (HT.out.up D4)
  have HW4 := Lib.hid hw4
  clear hw4 ho4 hb4 c3 c4'
  generalize hbn : bl.length = bn at *
  have HBN := Lib.hid hbn
  clear hbn
  go_wp2_with fail
  refine HW4.out.mono ?_
  rintro en w5 ⟨v5, rfl, ho5, hb5⟩
  have HO5 := Lib.hid ho5
  clear ho5
  go_wp2
  go_ret
  exact ⟨_, rfl, own_down HO5.out D4.size, below_up D4 hb5⟩
set_option maxHeartbeats 4000000 in
set_option maxRecDepth 100000 in
theorem prSealed2 (L : List It) (rows : List Rw) (la : Option Addr) (lc : Nat) (w : World) (hl : Sl w 5 (.slice la L.length lc) L.length (rows.flatMap rwC)) (hI : ItsR (fun j => j < w.heap.size) w L rows) (hL : L.length ≤ 100000)
    (hz : Prm.Wr (Prm.zeroIt 2 L)) (hs : Prm.Wr (Prm.sealIt 2 L)) (hT : Tabs w) : Calls Tryz.prog 44 #[.int .i64 2, .slice la L.length lc] w (Byt (Prm.sealIt 2 L) w) := by
  obtain ⟨bl, hbl⟩ : ∃ bl, bl = Oct.putB (Sum.sumN 2 (bytesOf (Prm.zeroIt 2 L))) (Sum.wd 2) := ⟨_, rfl⟩
  have hpe : Oct.putE ((Sum.sumN 2 (bytesOf (Prm.zeroIt 2 L)) : Nat) : Int) 4 = 0 := by
    have h1 := Sum.put_all (k := 2) (by decide) (bytesOf (Prm.zeroIt 2 L))
    have h2 := Sum.sumN_in (k := 2) (by decide) (bytesOf (Prm.zeroIt 2 L))
    unfold Oct.putE
    rw [show Oct.okW (4 : Int) = true from rfl, show Oct.fitsB (4 : Int) ((Sum.sumN 2 (bytesOf (Prm.zeroIt 2 L)) : Nat) : Int) = true by
      unfold Oct.fitsB; rw [decide_eq_true_eq]; exact Sum.pow_up h2]
    rfl
  have hblen : bl.length = 4 := by rw [hbl]; exact Prm.put_len (k := 2) _ (by decide)
  rw [show Prm.sealIt 2 L = lI (L ++ [Prm.bI bl]) by unfold Prm.sealIt; rw [if_neg (by decide), hbl]] at hs ⊢
  have hmf : ∀ (fn : Fn) (first cap : Array Value) (w : World), (Instr.makeFunc fn first cap).run Tryz.prog w = .ok (.func fn first cap) w := fun _ _ _ _ => rfl
  have hz0 : (List.replicate 4 (0 : UInt8)).length = 4 := rfl
  have hzl : Prm.zeroIt 2 L = lI (L ++ [Prm.bI (List.replicate 4 0)]) := rfl
  have D0 := below_alloc w (.cells #[.slice la L.length lc] 59)
  have c0 : (w.alloc (.cells #[.slice la L.length lc] 59)).cell? ⟨w.heap.size, 0, none⟩ = some (.slice la L.length lc) := cell_new _ _ _
  have hent := enters_prWith
  unfold Enters at hent
  have hsum : Sum.sumN 2 (bytesOf (Prm.zeroIt 2 L)) < 4294967296 := by
    have h := Sum.sumN_in (k := 2) (by decide) (bytesOf (Prm.zeroIt 2 L))
    have e : 256 ^ Sum.wd 2 = 4294967296 := rfl
    omega
  have HL := Lib.hid hl
  have HI := Lib.hid hI
  have HZ := Lib.hid hz
  have HS := Lib.hid hs
  have HT := Lib.hid hT
  have HBL := Lib.hid hbl
  have HPE := Lib.hid hpe
  have HLEN := Lib.hid hblen
  have HZL := Lib.hid hzl
  clear hl hI hz hs hT hbl hpe hblen hzl
  obtain ⟨zb, hzb⟩ : ∃ zb, zb = bytesOf (Prm.zeroIt 2 L) := ⟨_, rfl⟩
  rw [← hzb] at HBL HPE hsum
  have HZB := Lib.hid hzb
  clear hzb
  obtain ⟨sn, hsn⟩ : ∃ sn, sn = Sum.sumN 2 zb := ⟨_, rfl⟩
  rw [← hsn] at HBL HPE hsum
  have HSN := Lib.hid hsn
  clear hsn
  have hwr : IntKind.u64.wrap (sn : Int) = sn := by rw [IntKind.wrap_u64]; omega
  have HSM := Lib.hid hsum
  clear hsum
  have HWD := Lib.hid (fun (W : World) => show Calls Tryz.prog 50 #[.int .i64 2] W (Ret (.tuple #[.int .i64 4, .int .i64 0]) W) from suwidth_c 2 (by decide) W)
  go_enter Tryz.func44, Tryz.ntmps44
  have hmk : ∀ w : World, (Instr.makeSlice 48 (.int .i64 4) (.int .i64 4)).run Tryz.prog w = .ok (.slice (some ⟨w.heap.size, 0, none⟩) 4 4) (w.alloc (.cells #[.int .u8 0, .int .u8 0, .int .u8 0, .int .u8 0] 5)) := fun _ => by kernel_rfl
  go_wp2_with (first
    | (go_at_call 50; refine (HWD.out _).mono ?_; rintro en w1 ⟨rfl, hb1⟩))
  have Da := below_alloc w1 (.cells #[.int .u8 0, .int .u8 0, .int .u8 0, .int .u8 0] 5)
  have D1 := below_up (below_up D0 hb1) Da
  have c1 := cell_up Da (cell_up hb1 c0)
  have hz1 : SlS (fun k => k < (w1.alloc (.cells #[.int .u8 0, .int .u8 0, .int .u8 0, .int .u8 0] 5)).heap.size) (w1.alloc (.cells #[.int .u8 0, .int .u8 0, .int .u8 0, .int .u8 0] 5)) 1 (.slice (some ⟨w1.heap.size, 0, none⟩) 4 4) 4 (by8 (List.replicate 4 0)) :=
    slS_of (Sl.of_own (World.ownsRow_lit w1 #[.int .u8 0, .int .u8 0, .int .u8 0, .int .u8 0] 4 (size := 1) (e := 5) (Nat.le_refl _) (by decide) rfl)) (by decide) (fun _ h => h)
  have hw1 := prWith_c L rows w.heap.size la lc (some ⟨w1.heap.size, 0, none⟩) 4 (List.replicate 4 0) _ c1 (HL.out.up D1) ((HI.out.up D1).monoP (fun k e => Nat.lt_of_lt_of_le e D1.size)) hz1 HZ.out.c HZ.out.n HZ.out.k hL (HT.out.up D1)
  refine hw1.mono ?_
  rintro en w2 ⟨v2, rfl, ho2, hb2⟩
  have ho3 : w2.ownsRow (w1.alloc (.cells #[.int .u8 0, .int .u8 0, .int .u8 0, .int .u8 0] 5)).heap.size 5 1 v2 zb.length (by8 zb) := by rw [HZB.out]; exact ho2
  obtain ⟨p2, c2, rfl⟩ := own_slice ho3
  have hzl : zb.length ≤ 9000000 := by have h1 := Prm.bytes_le (Prm.zeroIt 2 L); have h2 := HZ.out.n; rw [HZB.out]; omega
  have Db := below_alloc w2 (.cells #[.slice p2 zb.length c2] 48)
  have D2 := below_up (below_up D1 hb2) Db
  have hs2 := susumOf_c 2 (by decide) [zb] [.slice p2 zb.length c2] (some ⟨w2.heap.size, 0, none⟩) 1 1 _ (suslB1 w2 zb _ zb.length (Sl.of_own ho3) 48 _ rfl) (by decide) (by intro l h; simp at h; subst h; omega)
  simp only [List.flatten_cons, List.flatten_nil, List.append_nil] at hs2
  rw [← HSN.out] at hs2
  have HS2 := Lib.hid hs2
  have HO3 := Lib.hid ho3
  have c2' := cell_up Db (cell_up hb2 c1)
  have HDD := Lib.hid D2
  clear hs2 ho2 ho3 hw1 hz1 c1 c0 hb2 Db Da D1 hb1 hzl
  generalize zb.length = zn at *
  go_wp2_with fail
  refine HS2.out.mono ?_
  rintro en w3 ⟨rfl, hb3⟩
  have c3 := cell_up hb3 c2'
  have D3 := below_up HDD.out hb3
  have hpu := put_c (sn : Int) 4 w3 (by omega) (by have := HSM.out; omega)
  rw [HPE.out, show Oct.putB (sn : Int) 4 = bl from HBL.out.symm] at hpu
  have HPU := Lib.hid hpu
  clear hpu c2' hb3
  go_wp2_with fail
  refine HPU.out.mono ?_
  rintro en w4 ⟨v4, rfl, ho4, hb4⟩
  obtain ⟨p4, c4, rfl⟩ := own_slice ho4
  have D4 := below_up D3 hb4
  have c4' := cell_up hb4 c3
  have hw4 := prWith_c L rows w.heap.size la lc p4 c4 bl w4 c4' (HL.out.up D4) ((HI.out.up D4).monoP (fun k e => Nat.lt_of_lt_of_le e D4.size)) (slS_of (Sl.of_own ho4) (by decide) (fun _ h => h)) HS.out.c HS.out.n HS.out.k hL (HT.out.up D4)
  have HW4 := Lib.hid hw4
  clear hw4 ho4 hb4 c3 c4'
  generalize hbn : bl.length = bn at *
  have HBN := Lib.hid hbn
  clear hbn
  go_wp2_with fail
  refine HW4.out.mono ?_
  rintro en w5 ⟨v5, rfl, ho5, hb5⟩
  have HO5 := Lib.hid ho5
  clear ho5
  go_wp2
  go_ret
  exact ⟨_, rfl, own_down HO5.out D4.size, below_up D4 hb5⟩
end Go.Proofs.YtpkonagjnfphkaaGreatDoor
