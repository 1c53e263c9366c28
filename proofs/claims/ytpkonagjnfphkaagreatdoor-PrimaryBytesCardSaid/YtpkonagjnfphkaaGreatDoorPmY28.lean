/-
  PrF, PrG, OpenB, CbOp, PrY: several texts in one (bundle.py).
-/
import Derived.Test.YtpkonagjnfphkaaGreatDoorPmY27
import Derived.Test.YtpkonagjnfphkaaGreatDoorPmY25
import Derived.Test.YtpkonagjnfphkaaGreatDoorPmY14
import Derived.Test.YtpkonagjnfphkaaGreatDoorPmY15
import Derived.Test.YtpkonagjnfphkaaGreatDoorPmY03
import Derived.Test.YtpkonagjnfphkaaGreatDoorPmY01
import Derived.Test.YtpkonagjnfphkaaGreatDoorPmY04
import Derived.SizedLaws
import Derived.Test.YtpkonagjnfphkaaGreatDoorPmY08
import Derived.Test.YtpkonagjnfphkaaGreatDoorPmY10
import Derived.Test.YtpkonagjnfphkaaGreatDoorPmY11
import Derived.Test.YtpkonagjnfphkaaGreatDoorPmY05
import Derived.Laws.Bits64
import Derived.StillTailTactics
import Derived.Sort.LoopGhostIn
import Derived.Laws.EntriesVeiled
set_option linter.unusedSimpArgs false
set_option linter.unusedVariables false
set_option maxRecDepth 100000
set_option maxHeartbeats 4000000
namespace Go.Proofs.YtpkonagjnfphkaaGreatDoor
open Go.RowKit Trc Cb
theorem prWritten_c (S : Nat → Prop) (x : It) (r : Rw) (w : World) (hr : ItR S w x r) (hcx : cnt x ≤ 1000000) (hkw : kwB x) (hT : Tabs w) (hSk : ∀ k, S k → k < w.heap.size) (hc : chk x = 0) : Calls Tryz.prog 89 #[rwV r] w (Byt x w) := by
  obtain ⟨k1, n1, ba1, bn1, bc1, s1, la1, ln1, lc1, rfl⟩ := hr.shape; have hB0 := below_alloc w (.cells (rwC ⟨k1, n1, .slice ba1 bn1 bc1, s1, .slice la1 ln1 lc1⟩).toArray 62); have X0 := RowAt.new w (rwC ⟨k1, n1, .slice ba1 bn1 bc1, s1, .slice la1 ln1 lc1⟩).toArray 62; have hcl := encode_c S x ⟨k1, n1, .slice ba1 bn1 bc1, s1, .slice la1 ln1 lc1⟩ _ (hr.up hB0) hcx hkw (hT.up hB0) (fun k hk => by have := hSk k hk; simp; omega); unfold EncE at hcl; rw [hc] at hcl; have HCL := Lib.hid hcl; have x0 := X0.cell (i := 0) rfl; have x1 := X0.cell (i := 1) rfl; have x2 := X0.cell (i := 2) rfl; have x3 := X0.cell (i := 3) rfl; have x4 := X0.cell (i := 4) rfl; clear hcl hr hcx hkw hT hSk X0 hc; go_enter Tryz.func89, Tryz.ntmps89
  go_wp2_with (first
    | (go_at_call 114; refine HCL.out.mono ?_; rintro en w1 ⟨hb1, v1, rfl, ho1, _⟩; have HO := Lib.hid (ho1 rfl); clear ho1)
    | (go_at_call 42; with_reducible refine (prMust_yes _ _).mono ?_; rintro en wn ⟨rfl, rfl⟩))
  go_ret; exact ⟨_, rfl, own_down HO.out (by simp), below_up hB0 hb1⟩
theorem one_shp {rows : List Rw} (h : ∀ r ∈ rows, Shp r) : ∀ u ∈ rows.flatMap rwC, u.oneCell' = true := by
  intro u hu; obtain ⟨r, hr, hu⟩ := List.mem_flatMap.1 hu; obtain ⟨k1, n1, ba1, bn1, bc1, s1, la1, ln1, lc1, rfl⟩ := h r hr; exact one_rwS _ _ _ _ _ _ _ _ _ u hu
theorem prClone_c (rows : List Rw) (hsh : ∀ r ∈ rows, Shp r) (v : Value) (n : Nat) (w : World) (hv : Sl w 5 v n (rows.flatMap rwC)) (hn : n ≤ 1000000) :
    Calls Tryz.prog 91 #[v] w fun e w' => ∃ v', e = .returned v' ∧ w'.ownsRow w.heap.size 62 5 v' n (rows.flatMap rwC) ∧ Below w.heap.size w w' := by
  obtain ⟨a, c, rfl⟩ := hv.len
  have he := fun (w : World) (a : Option Addr) (n c : Nat) => Lib.run_eql_slice_nil (P := Tryz.prog) w 59 62 a n c 0 0 Tryz.underlying59
  have h1 := one_shp hsh
  cases a with
  | none =>
    have h0 : n = 0 ∧ rows.flatMap rwC = [] := by
      obtain ⟨hl, ⟨a, c, h1, rfl⟩ | ⟨b, off, cap, h1, _⟩⟩ := hv
      · exact ⟨rfl, List.eq_nil_of_length_eq_zero (by omega)⟩
      · simp at h1
    obtain ⟨rfl, h0⟩ := h0; rw [h0]; clear h1 hv h0 hsh; go_enter Tryz.func91, Tryz.ntmps91; go_wp2; go_ret; exact ⟨_, rfl, World.ownsRow_nil _ _ _ _, Below.refl _ _⟩
  | some a =>
    generalize rows.flatMap rwC = cs at *; clear hsh; go_enter Tryz.func91, Tryz.ntmps91
    go_wp2_with (at_builtin; refine wpList_app rfl _ _ 59 rfl slT_items w.heap.size rfl (World.ownsRow_lit w #[] 0 (Nat.le_refl _) (by decide) rfl) rfl (hv.up (below_alloc _ _)) h1 (by simp [maxLen]; omega) (by omega) (by simp) ?_; intro v' w1 hown hgrow _)
    go_ret; exact ⟨v', rfl, by simpa using hown, grown_below (below_alloc _ _) hgrow (fun k hk => by have : w.heap.size = k := Option.some.inj hk; omega)⟩
theorem ItsR.monoP {S S' : Nat → Prop} {w : World} {l : List It} {rows : List Rw} (h : ItsR S w l rows) (hS : ∀ k, S k → S' k) : ItsR S' w l rows := h.turn fun _ _ _ _ h => h.mono hS
theorem its_with {S : Nat → Prop} {w : World} {L : List It} {rows : List Rw} {v bv : Value} {bl : List UInt8} {base : Nat} (hI : ItsR S w L rows) (hb : SlS S w 1 bv bl.length (by8 bl))
    (ho : w.ownsRow base 62 5 v (L.length + 1) (rows.flatMap rwC ++ rwC ⟨2, 0, bv, ⟨#[]⟩, .slice none 0 0⟩)) (hS : ∀ k, base ≤ k → k < w.heap.size → S k) : ItR S w (lI (L ++ [Prm.bI bl])) (rL v) := by
  have hbi : ItR S w (Prm.bI bl) ⟨2, 0, bv, ⟨#[]⟩, .slice none 0 0⟩ := by
    unfold ItR; exact ⟨rfl, rfl, rfl, ⟨by omega, by omega⟩, hb, [], ⟨Sl.nil _ _, .inl rfl⟩, by unfold ItsR; rfl⟩
  have h2 := hI.snoc hbi; unfold ItR; refine ⟨rfl, rfl, rfl, ⟨by omega, by omega⟩, ⟨Sl.nil _ _, .inl rfl⟩, rows ++ [⟨2, 0, bv, ⟨#[]⟩, .slice none 0 0⟩], ⟨?_, ?_⟩, h2⟩
  · have := Sl.of_own ho
    simpa using this
  · exact .inr fun k hk => hS k (own_of_some ho hk).1 (own_of_some ho hk).2
theorem prWith_c (L : List It) (rows : List Rw) (B : Nat) (la : Option Addr) (lc : Nat) (ba : Option Addr) (bc : Nat) (bl : List UInt8) (w : World) (hB : w.cell? ⟨B, 0, none⟩ = some (.slice la L.length lc))
    (hl : Sl w 5 (.slice la L.length lc) L.length (rows.flatMap rwC)) (hI : ItsR (fun k => k < w.heap.size) w L rows) (hb : SlS (fun k => k < w.heap.size) w 1 (.slice ba bl.length bc) bl.length (by8 bl))
    (hc : chk (lI (L ++ [Prm.bI bl])) = 0) (hx : cnt (lI (L ++ [Prm.bI bl])) ≤ 1000000) (hk : kwB (lI (L ++ [Prm.bI bl]))) (hL : L.length ≤ 100000) (hT : Tabs w) :
    Calls Tryz.prog 90 #[.slice ba bl.length bc, .pointer (some ⟨B, 0, none⟩)] w (Byt (lI (L ++ [Prm.bI bl])) w) := by
  have HCL := Lib.hid (prClone_c rows hI.shp _ _ w hl (by omega)); have HI := Lib.hid hI; have HB := Lib.hid hb; have HC := Lib.hid hc; have HX := Lib.hid hx; have HK := Lib.hid hk; have HT := Lib.hid hT; clear hl hI hb hc hx hk hT; have hn1 : IntKind.i64.wrap ((bl.length : Int)) = bl.length ∨ True := .inr trivial; go_enter Tryz.func90, Tryz.ntmps90
  go_wp2_with (first
    | (go_at_call 91; refine HCL.out.mono ?_; rintro en w1 ⟨v1, rfl, ho1, hb1⟩; obtain ⟨p1, c1, rfl⟩ := own_slice ho1)
    | (at_builtin; refine wpList_app (m := 1) rfl _ _ 59 rfl slT_items w.heap.size rfl (own_up ho1 (below_alloc w1 (.cells (rwC ⟨2, 0, .slice ba bl.length bc, ⟨#[]⟩, .slice none 0 0⟩).toArray 62))) rfl (sl_new5 w1 ⟨2, 0, .slice ba bl.length bc, ⟨#[]⟩, .slice none 0 0⟩) (one_rwS _ _ _ _ _ _ _ _ _) (by simp only [maxLen]; omega) (by omega) (by have := hb1.size; simp; omega) ?_; intro v2 w2 hown hgrow _; obtain ⟨p2, c2, rfl⟩ := own_slice hown; have D2 : Below w.heap.size w w2 := grown_below (below_up hb1 (below_alloc w1 _)) hgrow (fun k hk => (own_of_some ho1 hk).1); have HIT := Lib.hid (its_with (S := fun k => k < w2.heap.size) ((HI.out.up D2).monoP (fun k e => Nat.lt_of_lt_of_le e D2.size)) ((HB.out.up D2).mono (fun k e => Nat.lt_of_lt_of_le e D2.size)) hown (fun k _ e => e)))
    | (go_at_call 86; refine (prList_c _ _ _ _).mono ?_; rintro en w3 ⟨rfl, hb3⟩)
    | (go_at_call 89; refine (prWritten_c (fun k => k < w3.heap.size) _ _ w3 ((HIT.out.up hb3).mono (fun k e => Nat.lt_of_lt_of_le e hb3.size)) HX.out HK.out (HT.out.up (below_up D2 hb3)) (fun k hk => hk) HC.out).mono ?_; rintro en w4 ⟨v4, rfl, ho4, hb4⟩))
  go_ret; exact ⟨_, rfl, own_down ho4 (below_up D2 hb3).size, below_up (below_up D2 hb3) hb4⟩
theorem prEnc2_c (p : Prm.Pr) (g : FuncId) (hg : Enters Tryz.prog g) (x : It) (hq : ∀ w1, Calls Tryz.prog g #[prV p] w1 (MadeE x w1)) (P : Nat) (w : World) (hP : RowAt w P (prC p).toArray 28) :
    Calls Tryz.prog 46 #[.func (.func g) #[] #[], .pointer (some ⟨P, 0, none⟩)] w (MadeE x w) := by
  have HW1 := Lib.hid (below_alloc w (.cells #[.int .i64 0, .int .u64 0, .slice none 0 0, .string ⟨#[]⟩, .slice none 0 0] 62)); have HZ0 := Lib.hid (RowAt.new w #[.int .i64 0, .int .u64 0, .slice none 0 0, .string ⟨#[]⟩, .slice none 0 0] 62); have X0 := hP.below (below_alloc w (.cells #[.int .i64 0, .int .u64 0, .slice none 0 0, .string ⟨#[]⟩, .slice none 0 0] 62)); have x0 := X0.cell (i := 0) rfl; have x1 := X0.cell (i := 1) rfl; have x2 := X0.cell (i := 2) rfl; have x3 := X0.cell (i := 3) rfl; have x4 := X0.cell (i := 4) rfl; have x5 := X0.cell (i := 5) rfl; have x6 := X0.cell (i := 6) rfl; have x7 := X0.cell (i := 7) rfl; have x8 := X0.cell (i := 8) rfl; have x9 := X0.cell (i := 9) rfl; have x10 := X0.cell (i := 10) rfl; have hcl := hq (w.alloc (.cells #[.int .i64 0, .int .u64 0, .slice none 0 0, .string ⟨#[]⟩, .slice none 0 0] 62))
  have HCL := Lib.hid hcl; clear hcl hq hP X0; unfold Enters at hg; go_enter Tryz.func46, Tryz.ntmps46
  go_wp2_with fail
  refine HCL.out.mono ?_; rintro en w1 ⟨hb1, r8, rfl, hi8⟩; obtain ⟨k8, n8, ba8, bn8, bc8, s8, la8, ln8, lc8, rfl⟩ := hi8.shape; have D3 := below_up HW1.out hb1; have Z3 := HZ0.out.below hb1
  have hs1 : w.heap.size + 1 ≤ w1.heap.size := by have := hb1.size; simpa using this
  replace hi8 := hi8.mono (S' := fun j => w.heap.size < j ∧ j < w1.heap.size) (fun j e => ⟨by have := e.1; simp at this; omega, e.2⟩); have z0 := Z3.cell (i := 0) rfl; have z1 := Z3.cell (i := 1) rfl; have z2 := Z3.cell (i := 2) rfl; have z3 := Z3.cell (i := 3) rfl; have z4 := Z3.cell (i := 4) rfl; have f0 := Z3.fz 0; have f1 := Z3.fz 1; have f2 := Z3.fz 2; have f3 := Z3.fz 3; have f4 := Z3.fz 4; go_wp2; obtain ⟨h5, hm⟩ := made_end (w := w) Z3 rfl (by omega) D3 hi8; have g0 := RowAt.cell h5 (i := 0) rfl; have g1 := RowAt.cell h5 (i := 1) rfl; have g2 := RowAt.cell h5 (i := 2) rfl; have g3 := RowAt.cell h5 (i := 3) rfl; have g4 := RowAt.cell h5 (i := 4) rfl; exact bodyPost_ret (v := rwV ⟨k8, n8, .slice ba8 bn8 bc8, s8, .slice la8 ln8 lc8⟩) (by simp [results, Tryz.results46, go_sem, g0, g1, g2, g3, g4]) rfl hm
abbrev prFn (g : FuncId) : List Value := [.func (.func g) #[] #[]]
theorem enters_prEnc2 : Enters Tryz.prog 46 := enters_of Tryz.func46 (by kernel_rfl) rfl
def MdS (w : World) (o : Value) (W : World) (j : Nat) : Prop := w.heap.size ≤ j ∧ j < W.heap.size ∧ o.ownBlock ≠ some j
theorem prMade_c (p : Prm.Pr) (its : List It) (gs : List FuncId) (P : Nat) (v : Value) (n : Nat) (w : World) (hv : Sl w 1 v n (gs.flatMap prFn)) (hlen : gs.length = its.length) (hn : n ≤ 1000) (hP : RowAt w P (prC p).toArray 28)
    (hg : ∀ g ∈ gs, Enters Tryz.prog g) (hq : ∀ (i : Nat) (hi : i < gs.length) (hi' : i < its.length) (w1 : World), Calls Tryz.prog gs[i] #[prV p] w1 (MadeE its[i] w1)) :
    Calls Tryz.prog 45 #[v, .func (.func 46) #[] #[.pointer (some ⟨P, 0, none⟩)]] w (fun en w' => ∃ v' rows, en = .returned v' ∧ w'.ownsRow w.heap.size 62 5 v' its.length (rows.flatMap rwC) ∧ ItsR (fun k => w.heap.size ≤ k ∧ k < w'.heap.size) w' its rows ∧ Below w.heap.size w w') := by
  have Hln := Lib.hid (Sl.recs (cells := prFn) (sz := 1) (fun _ => rfl) (by decide) hv); have HL := Lib.hid hlen; have HP := Lib.hid hP; have HG := Lib.hid hg; have HQ := Lib.hid hq; have hent := enters_prEnc2; obtain ⟨a, c, rfl⟩ := hv.len; clear hlen hP hg hq; unfold Enters at hent; go_enter Tryz.func45, Tryz.ntmps45; go_wp2
  go_loopw [4, 9] (fun o i wr => ∃ (k : Nat) (rows : List Rw), k ≤ n ∧ i = .int .i64 k ∧ wr.ownsRow w.heap.size 62 5 o k (rows.flatMap rwC) ∧ ItsR (MdS w o wr) wr (its.take k) rows ∧ Below w.heap.size w wr) (fun _ i _ => n - (intOf i).toNat)
  case atStart => exact ⟨0, [], Nat.zero_le _, rfl, World.ownsRow_nil _ _ _ _, by simp only [List.take_zero]; unfold ItsR; rfl, Below.refl _ _⟩
  case round =>
    obtain ⟨k, rows, hk, rfl, hown, hits, hB⟩ := hrel; have HB := Lib.hid hB; have HIT := Lib.hid hits; obtain ⟨po, co, rfl⟩ := own_slice hown; by_cases hlt : k < n
    · have hlg : k < gs.length := by rw [Hln.out]; exact hlt
      have hli : k < its.length := by rw [← HL.out]; exact hlg
      obtain ⟨b, off, rfl, hr⟩ := (hv.up hB).rec_at (cells := prFn) (sz := 1) (fun _ => rfl) hlt hlg; have c0 := hr 0 _ rfl; simp only [Nat.mul_one, Nat.add_zero] at c0; have hcl := prEnc2_c p gs[k] (HG.out _ (List.getElem_mem hlg)) its[k] (HQ.out k hlg hli) P wr (HP.out.below hB); have HCL := Lib.hid hcl; have HTK := Lib.hid (show its.take (k + 1) = its.take k ++ [its[k]] from List.take_succ_eq_append_getElem hli); clear hcl hB hits hr; generalize gs[k] = g at *; generalize its[k] = x at *; have HOW := Lib.hid hown; clear hown
      go_wp2_with (first
        | (refine HCL.out.mono ?_; rintro en w1 ⟨hb1, r8, rfl, hi8⟩; obtain ⟨k8, n8, ba8, bn8, bc8, s8, la8, ln8, lc8, rfl⟩ := hi8.shape)
        | (at_builtin; refine wpList_app_at (m := 1) rfl _ _ 59 rfl slT_items w.heap.size rfl (own_up (own_up HOW.out hb1) (below_alloc w1 (.cells (rwC ⟨k8, n8, .slice ba8 bn8 bc8, s8, .slice la8 ln8 lc8⟩).toArray 62))) rfl (sl_new5 w1 ⟨k8, n8, .slice ba8 bn8 bc8, s8, .slice la8 ln8 lc8⟩) (one_rwS _ _ _ _ _ _ _ _ _) (by simp only [maxLen]; omega) (by omega) (by have := HB.out.size; have := hb1.size; simp; omega) ?_; intro v2 w2 hown2 hgrow _ hob; obtain ⟨p2, c2, rfl⟩ := own_slice hown2))
      have hs1 := hb1.size; have hsB := HB.out.size; have Ha := below_alloc w1 (.cells (rwC ⟨k8, n8, .slice ba8 bn8 bc8, s8, .slice la8 ln8 lc8⟩).toArray 62)
      have hw1 : (w1.alloc (.cells (rwC ⟨k8, n8, .slice ba8 bn8 bc8, s8, .slice la8 ln8 lc8⟩).toArray 62)).heap.size = w1.heap.size + 1 := by simp
      have hBut : But (fun j => (Value.slice po k co).ownBlock = some j) (w1.alloc (.cells (rwC ⟨k8, n8, .slice ba8 bn8 bc8, s8, .slice la8 ln8 lc8⟩).toArray 62)) w2 := But.grown hgrow (fun r e => .inl e); have hs2 := hBut.size
      have hold : ∀ j, (Value.slice po k co).ownBlock = some j → w.heap.size ≤ j ∧ j < wr.heap.size := fun j e => own_of_some HOW.out e
      have D2 : Below w.heap.size w w2 := ((below_up HB.out hb1).trans (Ha.mono (below_up HB.out hb1).size)).trans (hBut.below (fun j e => (hold j e).1) (by omega))
      have hnew : ∀ j, j < w1.heap.size → (Value.slice po k co).ownBlock ≠ some j → (Value.slice p2 (k + 1) c2).ownBlock ≠ some j := by
        intro j hj hne e; rcases hob with h | h
        · rw [h] at e; exact hne e
        · rw [h, hw1] at e; have := Option.some.inj e; omega
      have hI2 : ItsR (MdS w (.slice p2 (k + 1) c2) w2) w2 (its.take k) rows := by
        have h1 := (HIT.out.up hb1).up Ha; have h2 := ItsR.turn (S' := MdS w (.slice p2 (k + 1) c2) w2) (w' := w2) (fun sz v n cs h => (h.but hBut (fun j e => e.2.2)).mono (fun j e => ⟨e.1, by have := e.2.1; omega, hnew j (by have := e.2.1; omega) e.2.2⟩)) h1; exact h2
      have hX2 : ItR (MdS w (.slice p2 (k + 1) c2) w2) w2 x ⟨k8, n8, .slice ba8 bn8 bc8, s8, .slice la8 ln8 lc8⟩ := by
        have h1 := hi8.up Ha; have h2 := h1.but hBut (fun j e h => by have := (hold j h).2; omega); exact h2.mono (fun j e => ⟨by omega, by omega, hnew j (by omega) (fun h => by have := (hold j h).2; omega)⟩)
      go_roundw
      case rel => exact ⟨k + 1, rows ++ [⟨k8, n8, .slice ba8 bn8 bc8, s8, .slice la8 ln8 lc8⟩], by omega, by go_num, by rw [List.flatMap_append]; simpa using hown2, by rw [HTK.out]; exact hI2.snoc hX2, D2⟩
      case measure => simp [intOf]; omega
    · obtain rfl : k = n := by omega
      have htk : its.take k = its := List.take_of_length_le (by rw [← HL.out, Hln.out]; exact Nat.le_refl _); have HL2 := Lib.hid (show its.length = k by rw [← HL.out]; exact Hln.out); rw [htk] at HIT; clear htk; have HOW := Lib.hid hown; clear hown hits; go_wp2; go_ret; exact ⟨_, rows, rfl, by rw [HL2.out]; exact HOW.out, ItsR.turn (fun sz v n cs h => h.mono fun j e => ⟨e.1, e.2.1⟩) HIT.out, HB.out⟩
end Go.Proofs.YtpkonagjnfphkaaGreatDoor
namespace Go.Proofs.YtpkonagjnfphkaaGreatDoor
open Go.RowKit Go.ChangeAt
theorem bytes_of {H : Type} {enc : TypeId × Value → H} {w : World} {base : Nat} {spare : Nat → Bool} {held : Bool} {T : TypeId} (ht : Tryz.prog.underlying T = some (.int .u8)) {v : Value} {n : Nat} {vs : List Value} (hsl : Sl w 1 v n vs)
    (hl : ∀ i, i < n → ∀ (j : Nat) (U : TypeId), [T][j]? = some U → ∃ c, vs[i * 1 + j]? = some c ∧ Leaf enc Tryz.prog w base spare held U c) : ∃ l, vs = by8 l := by
  have hlen : vs.length = n := by have := hsl.1; omega
  have : ∀ (vs : List Value), (∀ i, i < vs.length → ∃ x : UInt8, vs[i]? = some (.int .u8 (x.toNat : Int))) → ∃ l, vs = by8 l := by
    intro vs
    induction vs with
    | nil => intro _; exact ⟨[], rfl⟩
    | cons u vs ih =>
      intro h; obtain ⟨x, hx⟩ := h 0 (by simp); obtain ⟨l, hl⟩ := ih (fun i hi => by have := h (i + 1) (by simpa using hi); simpa using this); simp at hx; exact ⟨x :: l, by rw [hx, hl]; rfl⟩
  refine this vs (fun i hi => ?_); obtain ⟨c, hc, hL⟩ := hl i (by omega) 0 T rfl; obtain ⟨m, rfl, hm⟩ := hL.int ht; simp [Lit.wf, IntKind.min, IntKind.max, IntKind.signed, IntKind.bits] at hm; refine ⟨UInt8.ofNat m.toNat, ?_⟩
  have e : ((UInt8.ofNat m.toNat).toNat : Int) = m := by simp only [UInt8.toNat_ofNat']; omega
  rw [e]
  simpa using hc
end Go.Proofs.YtpkonagjnfphkaaGreatDoor
namespace Go.Proofs.YtpkonagjnfphkaaGreatDoor
open Go.RowKit Go.ChangeAt Cb
instance : Inhabited (It × Rw) := ⟨(.mk 0 0 [] ⟨#[]⟩ [], ⟨0, 0, .slice none 0 0, ⟨#[]⟩, .slice none 0 0⟩)⟩
theorem slS_of {S : Nat → Prop} {w : World} {sz n : Nat} {v : Value} {cs : List Value} (h : Sl w sz v n cs) (h0 : 0 < sz) (hS : ∀ k, k < w.heap.size → S k) : SlS S w sz v n cs := ⟨h, (h.blk h0).imp id fun f k hk => hS k (f k hk)⟩
end Go.Proofs.YtpkonagjnfphkaaGreatDoor
namespace Go.Proofs.YtpkonagjnfphkaaGreatDoor
open Go.RowKit
theorem susl_lit (w : World) (cs : List Value) (T : TypeId) (f : Nat × Nat) (k : Nat) (hk : k = w.heap.size) (hm : cs.length ≤ maxLen) : Sl (w.alloc (.cells cs.toArray T f)) 1 (.slice (some ⟨k, 0, none⟩) cs.length cs.length) cs.length cs := by
  subst hk; refine ⟨by simp, .inr ⟨w.heap.size, 0, cs.length, rfl, Nat.le_refl _, hm, fun j u hj => ?_⟩⟩; have : (w.alloc (.cells cs.toArray T f)).heap[w.heap.size]? = some (.cells cs.toArray T f) := heap_alloc_new w _; simp only [World.cell?, this, Nat.zero_add]
  simpa using hj
theorem suslB_lit (w : World) (vs : List Value) (ls : List (List UInt8)) (h : ∀ (i : Nat) (u : Value) (l : List UInt8), vs[i]? = some u → ls[i]? = some l → Sl w 1 u l.length (by8 l)) (hl : vs.length = ls.length) (T : TypeId) (f : Nat × Nat) (k : Nat) (hk : k = w.heap.size) (hm : vs.length ≤ maxLen) :
    SlB (w.alloc (.cells vs.toArray T f)) (.slice (some ⟨k, 0, none⟩) vs.length vs.length) vs.length vs ls :=
  ⟨susl_lit w vs T f k hk hm, hl, fun i u l h1 h2 => (h i u l h1 h2).up (below_alloc _ _)⟩
open Go.RowKit
attribute [local go_sem] Oper.semAt_some
open Go.RowKit
open Go.RowKit
theorem suslB1 (w : World) (l : List UInt8) (v : Value) (n : Nat) (h : Sl w 1 v n (by8 l)) (T : TypeId) (kk : Nat) (hk : kk = w.heap.size) : SlB (w.alloc (.cells #[v] T)) (.slice (some ⟨kk, 0, none⟩) 1 1) 1 [v] [l] := by
  refine suslB_lit w [v] [l] (fun i u l' h1 h2 => ?_) rfl T (0, 0) kk hk (by simp [maxLen])
  match i with
  | 0 => simp only [List.getElem?_cons_zero, Option.some.injEq] at h1 h2; subst h1 h2; rw [h.n_len]; exact h
  | i + 1 => simp at h1
end Go.Proofs.YtpkonagjnfphkaaGreatDoor
