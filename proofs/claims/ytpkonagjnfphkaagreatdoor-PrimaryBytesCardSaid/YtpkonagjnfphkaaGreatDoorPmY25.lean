/-
  PrD, PrB, PrL: several texts in one (bundle.py).
-/
import Derived.Test.YtpkonagjnfphkaaGreatDoorPmY24
import Derived.Test.YtpkonagjnfphkaaGreatDoorPmY18
import Derived.Test.YtpkonagjnfphkaaGreatDoorPmY23
import Derived.Laws.EntriesVeiled
set_option linter.unusedSimpArgs false
set_option linter.unusedVariables false
set_option maxRecDepth 100000
set_option maxHeartbeats 1000000
namespace Go.Proofs.YtpkonagjnfphkaaGreatDoor
open Go.RowKit Trc
abbrev prC (p : Prm.Pr) : List Value := [.int .u32 p.flags, .int .i64 p.sum, .int .u32 p.toN, .int .u32 p.toS, .int .u32 p.srN, .int .u32 p.srS, .int .u32 p.rpN, .int .u32 p.rpS, .int .u64 p.time, .int .u32 p.seq, .int .u64 p.life]
abbrev prV (p : Prm.Pr) : Value := .agg (prC p).toArray
theorem bv_andNot {w : Nat} (x m : BitVec w) : x &&& ~~~m = 0#w ↔ x &&& m = x := by
  constructor
  · intro h
    refine BitVec.eq_of_getLsbD_eq fun i hi => ?_
    have h2 := congrArg (fun b : BitVec w => b.getLsbD i) h; simp only [BitVec.getLsbD_and, BitVec.getLsbD_not, BitVec.getLsbD_zero, hi, decide_true, Bool.true_and] at h2 ⊢
    cases hx : x.getLsbD i <;> cases hm : m.getLsbD i <;> simp_all
  · intro h
    refine BitVec.eq_of_getLsbD_eq fun i hi => ?_
    have h2 := congrArg (fun b : BitVec w => b.getLsbD i) h; simp only [BitVec.getLsbD_and, BitVec.getLsbD_not, BitVec.getLsbD_zero, hi, decide_true, Bool.true_and] at h2 ⊢
    cases hx : x.getLsbD i <;> cases hm : m.getLsbD i <;> simp_all
theorem andNot_zero (f : Nat) (hf : f < 4294967296) : (bits .andNot .u32 (f : Int) 418 == 0) = decide (f &&& 418 = f) := by
  have e1 : BitVec.ofInt 32 (f : Int) = BitVec.ofNat 32 f := by simp
  have e2 : bits .andNot .u32 (f : Int) 418 = ((BitVec.ofNat 32 f &&& ~~~(418#32)).toNat : Int) := by
    show IntKind.u32.wrap _ = _; rw [IntKind.wrap_u32]; have h := (BitVec.ofNat 32 f &&& ~~~(418#32)).isLt; rw [show (BitVec.ofInt IntKind.u32.bits (f : Int)) = BitVec.ofNat 32 f from e1]; show ((BitVec.ofNat 32 f &&& ~~~(418#32)).toNat : Int) % 4294967296 = _; omega
  rw [e2]; have h3 := bv_andNot (BitVec.ofNat 32 f) (418#32)
  have h4 : (BitVec.ofNat 32 f &&& 418#32 = BitVec.ofNat 32 f) ↔ f &&& 418 = f := by
    rw [← BitVec.toNat_inj, BitVec.toNat_and, BitVec.toNat_ofNat, BitVec.toNat_ofNat, Nat.mod_eq_of_lt hf]
  rw [h4, ← BitVec.toNat_inj] at h3; by_cases h : f &&& 418 = f
  · rw [decide_eq_true h, h3.2 h]; rfl
  · rw [decide_eq_false h, beq_eq_false_iff_ne]
    intro e; exact h (h3.1 (by simpa using e))
theorem prFlags_c (p : Prm.Pr) (hf : p.flags < 4294967296) (w : World) : Calls Tryz.prog 36 #[prV p] w (Ret (.bool (Prm.flagsB p.flags)) w) := by
  have X0 := RowAt.new w (prC p).toArray 76; have x0 := X0.cell (i := 0) rfl; have hB := below_alloc w (.cells (prC p).toArray 76)
  have hq : ((p.flags : Int).tdiv 128) = ((p.flags / 128 : Nat) : Int) := by rw [Int.tdiv_eq_ediv_of_nonneg (by omega)]; omega
  have e := andNot_zero p.flags hf; have hfe := Prm.flags_eq p.flags; obtain ⟨R, hR⟩ : ∃ R, R = Prm.flagsB p.flags := ⟨_, rfl⟩; rw [← hR] at hfe ⊢; have HR := Lib.hid hfe; clear hR hfe; by_cases h1 : p.flags &&& 418 = p.flags
  · rw [decide_eq_true h1] at e
    by_cases h2 : p.flags / 128 ≤ 2
    · have h3 : decide ((p.flags : Int) / 128 ≤ 2) = true := decide_eq_true (by omega)
      have HRT := Lib.hid (show R = true by rw [← HR.out]; exact decide_eq_true ⟨h1, h2⟩); clear h1 h2; go_enter Tryz.func36, Tryz.ntmps36; go_wp2; go_ret; exact ⟨by rw [HRT.out]; rfl, hB⟩
    · have h3 : decide ((p.flags : Int) / 128 ≤ 2) = false := decide_eq_false (by omega)
      have HRT := Lib.hid (show R = false by rw [← HR.out]; exact decide_eq_false fun h => h2 h.2); clear h1 h2; go_enter Tryz.func36, Tryz.ntmps36; go_wp2; go_ret; exact ⟨by rw [HRT.out]; rfl, hB⟩
  · rw [decide_eq_false h1] at e
    have HRT := Lib.hid (show R = false by rw [← HR.out]; exact decide_eq_false fun h => h1 h.1); clear h1; go_enter Tryz.func36, Tryz.ntmps36; go_wp2; go_ret; exact ⟨by rw [HRT.out]; rfl, hB⟩
structure Prm.Qn where
  g : FuncId
  cap : Array Value
  b : Bool
abbrev prQ (a : Prm.Qn) : List Value := [.func (.func a.g) #[] a.cap]
theorem Prm.any_take {l : List Prm.Qn} {k : Nat} (hk : k < l.length) (h : (l.take k).any (·.b) = false) (hb : l[k].b = false) : (l.take (k + 1)).any (·.b) = false := by
  rw [List.take_succ_eq_append_getElem hk, List.any_append, h]; simp [hb]
theorem Prm.any_at {l : List Prm.Qn} {k : Nat} (hk : k < l.length) (hb : l[k].b = true) : l.any (·.b) = true := by
  rw [List.any_eq_true]; exact ⟨l[k], List.getElem_mem hk, hb⟩
theorem prWrong_c (l : List Prm.Qn) (v : Value) (n : Nat) (w : World) (hv : Sl w 1 v n (l.flatMap prQ)) (hg : ∀ a ∈ l, Enters Tryz.prog a.g)
    (hq : ∀ a ∈ l, ∀ w1, Below w.heap.size w w1 → Calls Tryz.prog a.g a.cap w1 (Ret (.bool a.b) w1)) :
    Calls Tryz.prog 47 #[v] w (Ret (.bool (l.any (·.b))) w) := by
  have Hln := Lib.hid (Sl.recs (cells := prQ) (sz := 1) (fun _ => rfl) (by decide) hv); have hn := hv.n_max; obtain ⟨a, c, rfl⟩ := hv.len; obtain ⟨R, hR⟩ : ∃ R, R = l.any (·.b) := ⟨_, rfl⟩; rw [← hR]; have HR := Lib.hid hR; have HG := Lib.hid hg; have HQ := Lib.hid hq; clear hR hg hq; go_enter Tryz.func47, Tryz.ntmps47; go_wp2; refine wp_scope_fwd 0 rfl ?_; go_wp2
  go_loopw [2, 7] (fun q i wr => ∃ k : Nat, k ≤ n ∧ q = .bool false ∧ i = .int .i64 k ∧ RowKit.Hid ((l.take k).any (·.b) = false) ∧ Below w.heap.size w wr) (fun _ i _ => n - (intOf i).toNat)
  case atStart => exact ⟨0, Nat.zero_le _, rfl, rfl, Lib.hid (by simp), Below.refl _ _⟩
  case round =>
    obtain ⟨k, hk, rfl, rfl, Hno, hB⟩ := hrel; have HB := Lib.hid hB; by_cases hlt : k < n
    · have hlt' : k < l.length := by rw [Hln.out]; exact hlt
      obtain ⟨b, off, rfl, hr⟩ := (hv.up hB).rec_at (cells := prQ) (sz := 1) (fun _ => rfl) hlt hlt'; have hcall := HQ.out l[k] (List.getElem_mem hlt'); have hent := HG.out l[k] (List.getElem_mem hlt'); have Hsome := Lib.hid (fun h : l[k].b = true => HR.out.trans (Prm.any_at hlt' h)); have Hstep := Lib.hid (fun (h : l[k].b = false) => Prm.any_take hlt' Hno.out h); clear hB; unfold Enters at hent; generalize l[k] = x at *; obtain ⟨g, cap, bb⟩ := x; simp only at hcall hent; have hcl := hcall _ HB.out; have c0 := hr 0 _ rfl; simp only [Nat.mul_one, Nat.add_zero] at c0
      cases bb with
      | true =>
        have hRe := Hsome.out rfl
        go_wp2_with (refine hcl.mono ?_; rintro en w1 ⟨rfl, hb⟩)
        refine wp_goto ?_; refine And.intro rfl ?_; show Code.wp _ _ _ _ _; go_wp2
        try rw [jump_ret]
        go_ret; exact ⟨by rw [hRe]; rfl, below_up HB.out hb⟩
      | false =>
        go_wp2_with (refine hcl.mono ?_; rintro en w1 ⟨rfl, hb⟩)
        go_roundw
        case rel => exact ⟨k + 1, by omega, rfl, by go_num, Lib.hid (by first | exact Hstep.out rfl | exact Hstep.out trivial), below_up HB.out hb⟩
        case measure => simp [intOf]; omega
    · obtain rfl : k = n := by omega
      have hRe : R = false := by rw [HR.out, ← Hno.out, List.take_of_length_le (by rw [Hln.out]; exact Nat.le_refl _)]
      go_wp2; refine wp_label ?_; go_wp2; go_ret; exact ⟨by rw [hRe]; rfl, HB.out⟩
theorem prQ1_c (p : Prm.Pr) (hp : p.Ok) (B : Nat) (w : World) (hB : RowAt w B (prC p).toArray 76) : Calls Tryz.prog 48 #[.pointer (some ⟨B, 0, none⟩)] w (Ret (.bool (!Prm.flagsB p.flags)) w) := by
  have x0 := hB.cell (i := 0) rfl; have x1 := hB.cell (i := 1) rfl; have x2 := hB.cell (i := 2) rfl; have x3 := hB.cell (i := 3) rfl; have x4 := hB.cell (i := 4) rfl; have x5 := hB.cell (i := 5) rfl; have x6 := hB.cell (i := 6) rfl; have x7 := hB.cell (i := 7) rfl; have x8 := hB.cell (i := 8) rfl; have x9 := hB.cell (i := 9) rfl; have x10 := hB.cell (i := 10) rfl; have hcl := prFlags_c p hp.f w; cases hb : Prm.flagsB p.flags
  all_goals
    rw [hb] at hcl; go_enter Tryz.func48, Tryz.ntmps48
    go_wp2_with (go_at_call 36; refine hcl.mono ?_; rintro en w1 ⟨rfl, hb1⟩)
    go_ret; exact ⟨rfl, hb1⟩
theorem prQ2_c (p : Prm.Pr) (hp : p.Ok) (B : Nat) (w : World) (hB : RowAt w B (prC p).toArray 76) : Calls Tryz.prog 49 #[.pointer (some ⟨B, 0, none⟩)] w (Ret (.bool (!decide (0 ≤ p.sum ∧ p.sum ≤ 2))) w) := by
  have x0 := hB.cell (i := 0) rfl; have x1 := hB.cell (i := 1) rfl; have x2 := hB.cell (i := 2) rfl; have x3 := hB.cell (i := 3) rfl; have x4 := hB.cell (i := 4) rfl; have x5 := hB.cell (i := 5) rfl; have x6 := hB.cell (i := 6) rfl; have x7 := hB.cell (i := 7) rfl; have x8 := hB.cell (i := 8) rfl; have x9 := hB.cell (i := 9) rfl; have x10 := hB.cell (i := 10) rfl; by_cases h : 0 ≤ p.sum ∧ p.sum ≤ 2
  · rw [decide_eq_true h]
    have hs : ((p.sum.toNat : Nat) : Int) = p.sum := by omega
    have hcl := suwidth_c p.sum.toNat (by omega) w; rw [hs] at hcl; go_enter Tryz.func49, Tryz.ntmps49
    go_wp2_with (go_at_call 50; refine hcl.mono ?_; rintro en w1 ⟨rfl, hb1⟩)
    go_ret; exact ⟨rfl, hb1⟩
  · rw [decide_eq_false h]
    have hcl := suwidth_bad p.sum (by omega) w; clear h; go_enter Tryz.func49, Tryz.ntmps49
    go_wp2_with (go_at_call 50; refine hcl.mono ?_; rintro en w1 ⟨rfl, hb1⟩)
    go_ret; exact ⟨rfl, hb1⟩
theorem prQ3_c (p : Prm.Pr) (hp : p.Ok) (B : Nat) (w : World) (hB : RowAt w B (prC p).toArray 76) : Calls Tryz.prog 51 #[.pointer (some ⟨B, 0, none⟩)] w (Ret (.bool (!decide (p.toN ≠ 0 ∧ p.srN ≠ 0))) w) := by
  have x0 := hB.cell (i := 0) rfl; have x1 := hB.cell (i := 1) rfl; have x2 := hB.cell (i := 2) rfl; have x3 := hB.cell (i := 3) rfl; have x4 := hB.cell (i := 4) rfl; have x5 := hB.cell (i := 5) rfl; have x6 := hB.cell (i := 6) rfl; have x7 := hB.cell (i := 7) rfl; have x8 := hB.cell (i := 8) rfl; have x9 := hB.cell (i := 9) rfl; have x10 := hB.cell (i := 10) rfl; by_cases h : p.toN ≠ 0 ∧ p.srN ≠ 0
  · have e2 : (min (p.toN : Int) (p.srN : Int) == 0) = false := by rw [beq_eq_false_iff_ne]; omega
    rw [decide_eq_true h]; clear h; go_enter Tryz.func51, Tryz.ntmps51; go_wp2; go_ret; exact ⟨rfl, Below.refl _ _⟩
  · have e2 : (min (p.toN : Int) (p.srN : Int) == 0) = true := by rw [beq_iff_eq]; omega
    rw [decide_eq_false h]; clear h; go_enter Tryz.func51, Tryz.ntmps51; go_wp2; go_ret; exact ⟨rfl, Below.refl _ _⟩
theorem prQ4_c (p : Prm.Pr) (hp : p.Ok) (B : Nat) (w : World) (hB : RowAt w B (prC p).toArray 76) : Calls Tryz.prog 52 #[.pointer (some ⟨B, 0, none⟩)] w (Ret (.bool (!decide (Dig.chkP p.rpN p.rpS = 0))) w) := by
  have x0 := hB.cell (i := 0) rfl; have x1 := hB.cell (i := 1) rfl; have x2 := hB.cell (i := 2) rfl; have x3 := hB.cell (i := 3) rfl; have x4 := hB.cell (i := 4) rfl; have x5 := hB.cell (i := 5) rfl; have x6 := hB.cell (i := 6) rfl; have x7 := hB.cell (i := 7) rfl; have x8 := hB.cell (i := 8) rfl; have x9 := hB.cell (i := 9) rfl; have x10 := hB.cell (i := 10) rfl; have hcl := check_cN p.rpN p.rpS w
  have h2 : Dig.chkP p.rpN p.rpS = 0 ∨ Dig.chkP p.rpN p.rpS = 2 := by unfold Dig.chkP; split; exact .inr rfl; exact .inl rfl
  rcases h2 with h | h
  all_goals
    rw [h] at hcl ⊢; go_enter Tryz.func52, Tryz.ntmps52
    go_wp2_with (go_at_call 53; refine hcl.mono ?_; rintro en w1 ⟨rfl, hb1⟩)
    go_ret; exact ⟨rfl, hb1⟩
theorem prQ5_c (p : Prm.Pr) (hp : p.Ok) (B : Nat) (w : World) (hB : RowAt w B (prC p).toArray 76) : Calls Tryz.prog 54 #[.pointer (some ⟨B, 0, none⟩)] w (Ret (.bool (!decide (p.time ≤ 4611686018427387903 ∧ p.life ≤ 4611686018427387903))) w) := by
  have x0 := hB.cell (i := 0) rfl; have x1 := hB.cell (i := 1) rfl; have x2 := hB.cell (i := 2) rfl; have x3 := hB.cell (i := 3) rfl; have x4 := hB.cell (i := 4) rfl; have x5 := hB.cell (i := 5) rfl; have x6 := hB.cell (i := 6) rfl; have x7 := hB.cell (i := 7) rfl; have x8 := hB.cell (i := 8) rfl; have x9 := hB.cell (i := 9) rfl; have x10 := hB.cell (i := 10) rfl
  have hsl : Sl (w.alloc (.cells #[.int .u64 p.time, .int .u64 p.life] 26)) 1 (.slice (some ⟨w.heap.size, 0, none⟩) 2 2) 2 (([(p.time : Int), (p.life : Int)]).map (.int .u64)) :=
    Sl.of_own (World.ownsRow_lit w #[.int .u64 p.time, .int .u64 p.life] 2 (size := 1) (e := 26) (Nat.le_refl _) (by decide) rfl)
  have hcl := ckcheck_c [(p.time : Int), (p.life : Int)] _ 2 _ hsl (by decide)
  have hd : ([(p.time : Int), (p.life : Int)].all fun n => decide (n ≤ 4611686018427387903)) = decide (p.time ≤ 4611686018427387903 ∧ p.life ≤ 4611686018427387903) := by
    rw [Bool.eq_iff_iff]; simp; omega
  rw [hd] at hcl; have hB0 := below_alloc w (.cells #[.int .u64 p.time, .int .u64 p.life] 26); cases hb : decide (p.time ≤ 4611686018427387903 ∧ p.life ≤ 4611686018427387903)
  all_goals
    rw [hb] at hcl; clear hb hd hsl; go_enter Tryz.func54, Tryz.ntmps54
    go_wp2_with (go_at_call 55; refine hcl.mono ?_; rintro en w1 ⟨rfl, hb1⟩)
    go_ret; exact ⟨rfl, below_up hB0 hb1⟩
theorem enters_prQ1 : Enters Tryz.prog 48 := enters_of Tryz.func48 (by kernel_rfl) rfl
theorem enters_prQ2 : Enters Tryz.prog 49 := enters_of Tryz.func49 (by kernel_rfl) rfl
theorem enters_prQ3 : Enters Tryz.prog 51 := enters_of Tryz.func51 (by kernel_rfl) rfl
theorem enters_prQ4 : Enters Tryz.prog 52 := enters_of Tryz.func52 (by kernel_rfl) rfl
theorem enters_prQ5 : Enters Tryz.prog 54 := enters_of Tryz.func54 (by kernel_rfl) rfl
def prQs (p : Prm.Pr) (B : Nat) : List Prm.Qn := [⟨48, #[.pointer (some ⟨B, 0, none⟩)], !Prm.flagsB p.flags⟩, ⟨49, #[.pointer (some ⟨B, 0, none⟩)], !decide (0 ≤ p.sum ∧ p.sum ≤ 2)⟩, ⟨51, #[.pointer (some ⟨B, 0, none⟩)], !decide (p.toN ≠ 0 ∧ p.srN ≠ 0)⟩, ⟨52, #[.pointer (some ⟨B, 0, none⟩)], !decide (Dig.chkP p.rpN p.rpS = 0)⟩, ⟨54, #[.pointer (some ⟨B, 0, none⟩)], !decide (p.time ≤ 4611686018427387903 ∧ p.life ≤ 4611686018427387903)⟩]
theorem prQs_any (p : Prm.Pr) (B : Nat) : (prQs p B).any (·.b) = !Prm.okPr p := by
  unfold prQs Prm.okPr; simp only [List.any_cons, List.any_nil, Bool.or_false, Bool.not_and]
theorem prQs_call (p : Prm.Pr) (hp : p.Ok) (B : Nat) (w : World) (hB : RowAt w B (prC p).toArray 76) : ∀ a ∈ prQs p B, ∀ w1, Below w.heap.size w w1 → Calls Tryz.prog a.g a.cap w1 (Ret (.bool a.b) w1) := by
  intro a ha w1 hb; simp only [prQs, List.mem_cons, List.not_mem_nil, or_false] at ha; rcases ha with rfl | rfl | rfl | rfl | rfl
  · exact prQ1_c p hp B w1 (hB.below hb)
  · exact prQ2_c p hp B w1 (hB.below hb)
  · exact prQ3_c p hp B w1 (hB.below hb)
  · exact prQ4_c p hp B w1 (hB.below hb)
  · exact prQ5_c p hp B w1 (hB.below hb)
theorem prQs_enter (p : Prm.Pr) (B : Nat) : ∀ a ∈ prQs p B, Enters Tryz.prog a.g := by
  intro a ha; simp only [prQs, List.mem_cons, List.not_mem_nil, or_false] at ha; rcases ha with rfl | rfl | rfl | rfl | rfl
  · exact enters_prQ1
  · exact enters_prQ2
  · exact enters_prQ3
  · exact enters_prQ4
  · exact enters_prQ5
theorem prCheck_c (p : Prm.Pr) (hp : p.Ok) (w : World) : Calls Tryz.prog 23 #[prV p] w (Ret (.int .i64 (if Prm.okPr p then 0 else 2)) w) := by
  have X0 := RowAt.new w (prC p).toArray 28; have x0 := X0.cell (i := 0) rfl; have x1 := X0.cell (i := 1) rfl; have x2 := X0.cell (i := 2) rfl; have x3 := X0.cell (i := 3) rfl; have x4 := X0.cell (i := 4) rfl; have x5 := X0.cell (i := 5) rfl; have x6 := X0.cell (i := 6) rfl; have x7 := X0.cell (i := 7) rfl; have x8 := X0.cell (i := 8) rfl; have x9 := X0.cell (i := 9) rfl; have x10 := X0.cell (i := 10) rfl
  have hmf : ∀ (fn : Fn) (first cap : Array Value) (w : World), (Instr.makeFunc fn first cap).run Tryz.prog w = .ok (.func fn first cap) w := fun _ _ _ _ => rfl
  obtain ⟨W1, hW1⟩ : ∃ W, W = (w.alloc (.cells (prC p).toArray 28)).alloc (.cells (prC p).toArray 76) := ⟨_, rfl⟩
  have hB1 : RowAt W1 (w.heap.size + 1) (prC p).toArray 76 := by
    rw [hW1]; have := RowAt.new (w.alloc (.cells (prC p).toArray 28)) (prC p).toArray 76
    rwa [World.size_alloc] at this
  have hb1 : Below w.heap.size w W1 := by rw [hW1]; exact (below_alloc _ _).alloc (by simp) _
  have hs1 : W1.heap.size = w.heap.size + 2 := by rw [hW1]; simp
  have hq := below_alloc W1 (.cells ((prQs p (w.heap.size + 1)).flatMap prQ).toArray 30)
  have hsl : Sl (W1.alloc (.cells ((prQs p (w.heap.size + 1)).flatMap prQ).toArray 30)) 1 (.slice (some ⟨W1.heap.size, 0, none⟩) 5 5) 5 ((prQs p (w.heap.size + 1)).flatMap prQ) :=
    Sl.of_own (World.ownsRow_lit W1 ((prQs p (w.heap.size + 1)).flatMap prQ).toArray 5 (size := 1) (e := 30) (Nat.le_refl _) (by decide) rfl)
  have hcl := prWrong_c (prQs p (w.heap.size + 1)) _ 5 _ hsl (prQs_enter p _) (prQs_call p hp _ _ (hB1.below hq)); rw [prQs_any, hs1] at hcl; have HCL := Lib.hid hcl; have HQ := Lib.hid (below_up hb1 hq); have HW := Lib.hid hW1; clear hcl hsl hq hB1 hb1 hs1; cases hk : Prm.okPr p
  all_goals
    rw [hk] at HCL; go_enter Tryz.func23, Tryz.ntmps23
    go_wp2_with (go_at_call 47; rw [← HW.out]; refine HCL.out.mono ?_; rintro en w1 ⟨rfl, hb1⟩)
    go_ret; exact ⟨rfl, below_up HQ.out hb1⟩
end Go.Proofs.YtpkonagjnfphkaaGreatDoor
namespace Go.Proofs.YtpkonagjnfphkaaGreatDoor
open Go.RowKit Trc Cb
namespace Prm
structure Fine (d : Nat) (x : It) : Prop where
  r : rightB x = true
  d : depth x ≤ d
  n : nOk x
  k : kwB x
theorem runes_no : (runes (⟨#[]⟩ : ByteArray)).2 = true := by decide
theorem fine_u {n : Nat} (h : n < 18446744073709551616) (d : Nat) : Fine (d + 1) (uI n) := by
  refine ⟨?_, ?_, ?_, ?_⟩
  · rw [rightB_eq]; simp [ownB, bareB, It.k, It.n, It.b, It.s, It.l, rightL, runes_no]; try rfl
  · simp [depth, depthL]
  · rw [nOk_eq]; exact ⟨⟨by simp [It.n], by simp [It.n]; omega⟩, by simp [It.l, nOkL]⟩
  · rw [kwB_eq]; exact ⟨by simp [It.k], by simp [It.l, kwL]⟩
theorem fine_b (b : List UInt8) (d : Nat) : Fine (d + 1) (bI b) := by
  refine ⟨?_, ?_, ?_, ?_⟩
  · rw [rightB_eq]; simp [ownB, bareB, It.k, It.n, It.b, It.s, It.l, rightL, runes_no]; try rfl
  · simp [depth, depthL]
  · rw [nOk_eq]; exact ⟨⟨by simp [It.n], by simp [It.n]⟩, by simp [It.l, nOkL]⟩
  · rw [kwB_eq]; exact ⟨by simp [It.k], by simp [It.l, kwL]⟩
theorem fine_l {L : List It} {d : Nat} (h : ∀ x ∈ L, Fine d x) : Fine (d + 1) (lI L) := by
  refine ⟨?_, ?_, ?_, ?_⟩
  · rw [rightB_eq]
    have h1 : rightL L = true := by rw [rightL_all, List.all_eq_true]; exact fun x hx => (h x hx).r
    have h2 : ownB (lI L) = true := by simp [ownB, bareB, It.k, It.n, It.b, It.s, It.l, runes_no]; try rfl
    rw [h2]; exact h1
  · rw [depth_eq]
    have : ∀ l : List It, (∀ x ∈ l, depth x ≤ d) → depthL l ≤ d := by
      intro l
      induction l with
      | nil => intro _; simp [depthL]
      | cons x l ih =>
        intro hl; have h1 := hl x (by simp)
        have h2 := ih fun y hy => hl y (by simp [hy])
        simp only [depthL]; omega
    have := this L fun x hx => (h x hx).d
    exact Nat.succ_le_succ this
  · rw [nOk_eq]; exact ⟨⟨by simp [It.n], by simp [It.n]⟩, nOkL_all fun x hx => (h x hx).n⟩
  · rw [kwB_eq]; exact ⟨by simp [It.k], kwL_all fun x hx => (h x hx).k⟩
theorem Fine.mono {d e : Nat} {x : It} (h : Fine d x) (hd : d ≤ e) : Fine e x := ⟨h.r, Nat.le_trans h.d hd, h.n, h.k⟩
theorem fine_ep {n m : Nat} (hn : n < 4294967296) (hm : m < 4294967296) (d : Nat) : Fine (d + 3) (epI n m) := by
  unfold epI; split
  · refine fine_l fun x hx => ?_
    simp only [List.mem_cons, List.not_mem_nil, or_false] at hx
    rcases hx with rfl | rfl <;> exact fine_u (by omega) _
  · refine fine_l fun x hx => ?_
    simp only [List.mem_cons, List.not_mem_nil, or_false] at hx; rcases hx with rfl | rfl
    · exact fine_u (by omega) _
    · refine fine_l fun x hx => ?_
      simp only [List.mem_cons, List.not_mem_nil, or_false] at hx
      rcases hx with rfl | rfl <;> exact fine_u (by omega) _
theorem fine_pr {p : Pr} (h : p.Ok) (h0 : 0 ≤ p.sum) : ∀ x ∈ prL p, Fine 4 x := by
  intro x hx; have := h.f; have := h.s1; have := h.t; have := h.q; have := h.l; simp only [prL, List.mem_cons, List.not_mem_nil, or_false] at hx; rcases hx with rfl | rfl | rfl | rfl | rfl | rfl | rfl | rfl
  · exact fine_u (by omega) _
  · exact fine_u (by omega) _
  · exact fine_u (by omega) _
  · exact fine_ep h.tn h.ts 1
  · exact fine_ep h.sn h.ss 1
  · exact fine_ep h.rn h.rs 1
  · refine fine_l fun x hx => ?_
    simp only [List.mem_cons, List.not_mem_nil, or_false] at hx
    rcases hx with rfl | rfl <;> exact fine_u (by omega) _
  · exact fine_u (by omega) _
theorem fine_app {d : Nat} {L : List It} (h : ∀ x ∈ L, Fine (d + 1) x) (b : List UInt8) : ∀ x ∈ L ++ [bI b], Fine (d + 1) x := by
  intro x hx; rcases List.mem_append.1 hx with hx | hx
  · exact h x hx
  · simp only [List.mem_cons, List.not_mem_nil, or_false] at hx
    subst hx; exact fine_b _ _
theorem fine_zero {d : Nat} {L : List It} (h : ∀ x ∈ L, Fine (d + 1) x) (k : Nat) : Fine (d + 2) (zeroIt k L) := fine_l (fine_app h _)
theorem fine_seal {d : Nat} {L : List It} (h : ∀ x ∈ L, Fine (d + 1) x) (k : Nat) : Fine (d + 2) (sealIt k L) := by
  unfold sealIt; split
  · exact fine_l h
  · exact fine_l (fine_app h _)
theorem cnt_l (L : List It) : cnt (lI L) = 1 + cntL L := by have h0 : (⟨#[]⟩ : ByteArray).size = 0 := rfl; simp [Cb.cnt, h0]
theorem cnt_bI (b : List UInt8) : cnt (bI b) = 1 + b.length := by have h0 : (⟨#[]⟩ : ByteArray).size = 0 := rfl; simp [Cb.cnt, cntL, h0]
theorem cnt_uI (n : Nat) : cnt (uI n) = 1 := by have h0 : (⟨#[]⟩ : ByteArray).size = 0 := rfl; simp [Cb.cnt, cntL, h0]
theorem cnt_epI (n m : Nat) : cnt (epI n m) ≤ 5 := by
  unfold epI; split
  · rw [cnt_l]; simp only [cntL, cnt_uI]; omega
  · rw [cnt_l]; simp only [cntL, cnt_uI, cnt_l]; omega
theorem wd_le (k : Nat) : Sum.wd k ≤ 4 := by unfold Sum.wd; split <;> omega
theorem put_len {k : Nat} (l : List UInt8) (h : k ≤ 2) : (Oct.putB (Sum.sumN k l) (Sum.wd k)).length = Sum.wd k := by
  by_cases h0 : k = 0
  · subst h0; rfl
  · rw [Sum.put_all (by omega), Oct.beB_len]
theorem put_le (k : Nat) (l : List UInt8) : (Oct.putB (Sum.sumN k l) (Sum.wd k)).length ≤ 8 := Sum.putB_le _ _
theorem cnt_zero (k : Nat) (L : List It) : cnt (zeroIt k L) ≤ 6 + cntL L := by
  have := wd_le k; unfold zeroIt; rw [cnt_l, cntL_app]; simp only [cntL, cnt_bI, List.length_replicate]; omega
theorem cnt_seal (k : Nat) (L : List It) : cnt (sealIt k L) ≤ 10 + cntL L := by
  unfold sealIt; split
  · rw [cnt_l]; omega
  · have := put_le k (bytesOf (zeroIt k L))
    rw [cnt_l, cntL_app]; simp only [cntL, cnt_bI]; omega
theorem cnt_pr (p : Pr) : cntL (prL p) ≤ 30 := by
  have h1 := cnt_epI p.toN p.toS; have h2 := cnt_epI p.srN p.srS; have h3 := cnt_epI p.rpN p.rpS; unfold prL; simp only [cntL, cnt_uI, cnt_l]; omega
theorem bytes_le (x : It) : (bytesOf x).length ≤ 9 * cnt x := by
  have := bytesL_le [x]
  simpa [bytesL, cntL] using this
theorem chk_fine {x : It} (h : Fine 8 x) (hl : (bytesOf x).length ≤ 65536) : chk x = 0 := by
  unfold chk; rw [h.r, if_neg (by simp), if_neg (by have := h.d; omega), if_neg (by omega)]
theorem chk_zeroPr {p : Pr} (h : p.Ok) (h0 : 0 ≤ p.sum) (k : Nat) : chk (zeroIt k (prL p)) = 0 ∧ Fine 5 (zeroIt k (prL p)) ∧ cnt (zeroIt k (prL p)) ≤ 40 := by
  have h1 := fine_zero (d := 3) (fine_pr h h0) k; have h2 := cnt_zero k (prL p); have h3 := cnt_pr p; have h4 := bytes_le (zeroIt k (prL p)); exact ⟨chk_fine (h1.mono (by omega)) (by omega), h1, by omega⟩
theorem chk_sealPr {p : Pr} (h : p.Ok) (h0 : 0 ≤ p.sum) (k : Nat) : chk (sealIt k (prL p)) = 0 ∧ Fine 5 (sealIt k (prL p)) ∧ cnt (sealIt k (prL p)) ≤ 40 := by
  have h1 := fine_seal (d := 3) (fine_pr h h0) k; have h2 := cnt_seal k (prL p); have h3 := cnt_pr p; have h4 := bytes_le (sealIt k (prL p)); exact ⟨chk_fine (h1.mono (by omega)) (by omega), h1, by omega⟩
theorem enc_dec {b : List UInt8} {p : Pr} (h : decPr b = .ok p) : encPr p = b ∧ okPr p = true ∧ p.Ok := by
  unfold decPr at h; split at h
  · cases h
  · rename_i x hx
    split at h
    · cases h
    · rename_i q hq
      split at h
      · rename_i he
        cases h; have := dec_got hx; exact ⟨he, (readPr_ok hq this.2.2.2.2).1, (readPr_ok hq this.2.2.2.2).2⟩
      · cases h
end Prm
end Go.Proofs.YtpkonagjnfphkaaGreatDoor
namespace Go.Proofs.YtpkonagjnfphkaaGreatDoor
open Go.RowKit Trc
theorem row11 {w : World} {B : Nat} {T : TypeId} {a0 a1 a2 a3 a4 a5 a6 a7 a8 a9 a10 : Value} (h : RowAt w B #[a0, a1, a2, a3, a4, a5, a6, a7, a8, a9, a10] T) (v0 v1 v2 v3 v4 v5 v6 v7 v8 v9 v10 : Value) : RowAt (((((((((((w.setCell ⟨B, 0, none⟩ (v0)).setCell ⟨B, 1, none⟩ (v1)).setCell ⟨B, 2, none⟩ (v2)).setCell ⟨B, 3, none⟩ (v3)).setCell ⟨B, 4, none⟩ (v4)).setCell ⟨B, 5, none⟩ (v5)).setCell ⟨B, 6, none⟩ (v6)).setCell ⟨B, 7, none⟩ (v7)).setCell ⟨B, 8, none⟩ (v8)).setCell ⟨B, 9, none⟩ (v9)).setCell ⟨B, 10, none⟩ (v10)) B #[v0, v1, v2, v3, v4, v5, v6, v7, v8, v9, v10] T ∧ But (fun k => k = B) w (((((((((((w.setCell ⟨B, 0, none⟩ (v0)).setCell ⟨B, 1, none⟩ (v1)).setCell ⟨B, 2, none⟩ (v2)).setCell ⟨B, 3, none⟩ (v3)).setCell ⟨B, 4, none⟩ (v4)).setCell ⟨B, 5, none⟩ (v5)).setCell ⟨B, 6, none⟩ (v6)).setCell ⟨B, 7, none⟩ (v7)).setCell ⟨B, 8, none⟩ (v8)).setCell ⟨B, 9, none⟩ (v9)).setCell ⟨B, 10, none⟩ (v10)) := by
  have h1 : RowAt (w.setCell ⟨B, 0, none⟩ (v0)) B #[v0, a1, a2, a3, a4, a5, a6, a7, a8, a9, a10] T := h.set 0 v0; have h2 : RowAt ((w.setCell ⟨B, 0, none⟩ (v0)).setCell ⟨B, 1, none⟩ (v1)) B #[v0, v1, a2, a3, a4, a5, a6, a7, a8, a9, a10] T := h1.set 1 v1; have h3 : RowAt (((w.setCell ⟨B, 0, none⟩ (v0)).setCell ⟨B, 1, none⟩ (v1)).setCell ⟨B, 2, none⟩ (v2)) B #[v0, v1, v2, a3, a4, a5, a6, a7, a8, a9, a10] T := h2.set 2 v2; have h4 : RowAt ((((w.setCell ⟨B, 0, none⟩ (v0)).setCell ⟨B, 1, none⟩ (v1)).setCell ⟨B, 2, none⟩ (v2)).setCell ⟨B, 3, none⟩ (v3)) B #[v0, v1, v2, v3, a4, a5, a6, a7, a8, a9, a10] T := h3.set 3 v3; have h5 : RowAt (((((w.setCell ⟨B, 0, none⟩ (v0)).setCell ⟨B, 1, none⟩ (v1)).setCell ⟨B, 2, none⟩ (v2)).setCell ⟨B, 3, none⟩ (v3)).setCell ⟨B, 4, none⟩ (v4)) B #[v0, v1, v2, v3, v4, a5, a6, a7, a8, a9, a10] T := h4.set 4 v4; have h6 : RowAt ((((((w.setCell ⟨B, 0, none⟩ (v0)).setCell ⟨B, 1, none⟩ (v1)).setCell ⟨B, 2, none⟩ (v2)).setCell ⟨B, 3, none⟩ (v3)).setCell ⟨B, 4, none⟩ (v4)).setCell ⟨B, 5, none⟩ (v5)) B #[v0, v1, v2, v3, v4, v5, a6, a7, a8, a9, a10] T := h5.set 5 v5
  have h7 : RowAt (((((((w.setCell ⟨B, 0, none⟩ (v0)).setCell ⟨B, 1, none⟩ (v1)).setCell ⟨B, 2, none⟩ (v2)).setCell ⟨B, 3, none⟩ (v3)).setCell ⟨B, 4, none⟩ (v4)).setCell ⟨B, 5, none⟩ (v5)).setCell ⟨B, 6, none⟩ (v6)) B #[v0, v1, v2, v3, v4, v5, v6, a7, a8, a9, a10] T := h6.set 6 v6; have h8 : RowAt ((((((((w.setCell ⟨B, 0, none⟩ (v0)).setCell ⟨B, 1, none⟩ (v1)).setCell ⟨B, 2, none⟩ (v2)).setCell ⟨B, 3, none⟩ (v3)).setCell ⟨B, 4, none⟩ (v4)).setCell ⟨B, 5, none⟩ (v5)).setCell ⟨B, 6, none⟩ (v6)).setCell ⟨B, 7, none⟩ (v7)) B #[v0, v1, v2, v3, v4, v5, v6, v7, a8, a9, a10] T := h7.set 7 v7; have h9 : RowAt (((((((((w.setCell ⟨B, 0, none⟩ (v0)).setCell ⟨B, 1, none⟩ (v1)).setCell ⟨B, 2, none⟩ (v2)).setCell ⟨B, 3, none⟩ (v3)).setCell ⟨B, 4, none⟩ (v4)).setCell ⟨B, 5, none⟩ (v5)).setCell ⟨B, 6, none⟩ (v6)).setCell ⟨B, 7, none⟩ (v7)).setCell ⟨B, 8, none⟩ (v8)) B #[v0, v1, v2, v3, v4, v5, v6, v7, v8, a9, a10] T := h8.set 8 v8
  have h10 : RowAt ((((((((((w.setCell ⟨B, 0, none⟩ (v0)).setCell ⟨B, 1, none⟩ (v1)).setCell ⟨B, 2, none⟩ (v2)).setCell ⟨B, 3, none⟩ (v3)).setCell ⟨B, 4, none⟩ (v4)).setCell ⟨B, 5, none⟩ (v5)).setCell ⟨B, 6, none⟩ (v6)).setCell ⟨B, 7, none⟩ (v7)).setCell ⟨B, 8, none⟩ (v8)).setCell ⟨B, 9, none⟩ (v9)) B #[v0, v1, v2, v3, v4, v5, v6, v7, v8, v9, a10] T := h9.set 9 v9; have h11 : RowAt (((((((((((w.setCell ⟨B, 0, none⟩ (v0)).setCell ⟨B, 1, none⟩ (v1)).setCell ⟨B, 2, none⟩ (v2)).setCell ⟨B, 3, none⟩ (v3)).setCell ⟨B, 4, none⟩ (v4)).setCell ⟨B, 5, none⟩ (v5)).setCell ⟨B, 6, none⟩ (v6)).setCell ⟨B, 7, none⟩ (v7)).setCell ⟨B, 8, none⟩ (v8)).setCell ⟨B, 9, none⟩ (v9)).setCell ⟨B, 10, none⟩ (v10)) B #[v0, v1, v2, v3, v4, v5, v6, v7, v8, v9, v10] T := h10.set 10 v10; have b1 : But (fun k => k = B) w (w.setCell ⟨B, 0, none⟩ (v0)) := But.setCell _ _ _ (.inl rfl); have b2 : But (fun k => k = B) w ((w.setCell ⟨B, 0, none⟩ (v0)).setCell ⟨B, 1, none⟩ (v1)) := b1.trans (But.setCell _ _ _ (.inl rfl))
  have b3 : But (fun k => k = B) w (((w.setCell ⟨B, 0, none⟩ (v0)).setCell ⟨B, 1, none⟩ (v1)).setCell ⟨B, 2, none⟩ (v2)) := b2.trans (But.setCell _ _ _ (.inl rfl)); have b4 : But (fun k => k = B) w ((((w.setCell ⟨B, 0, none⟩ (v0)).setCell ⟨B, 1, none⟩ (v1)).setCell ⟨B, 2, none⟩ (v2)).setCell ⟨B, 3, none⟩ (v3)) := b3.trans (But.setCell _ _ _ (.inl rfl)); have b5 : But (fun k => k = B) w (((((w.setCell ⟨B, 0, none⟩ (v0)).setCell ⟨B, 1, none⟩ (v1)).setCell ⟨B, 2, none⟩ (v2)).setCell ⟨B, 3, none⟩ (v3)).setCell ⟨B, 4, none⟩ (v4)) := b4.trans (But.setCell _ _ _ (.inl rfl)); have b6 : But (fun k => k = B) w ((((((w.setCell ⟨B, 0, none⟩ (v0)).setCell ⟨B, 1, none⟩ (v1)).setCell ⟨B, 2, none⟩ (v2)).setCell ⟨B, 3, none⟩ (v3)).setCell ⟨B, 4, none⟩ (v4)).setCell ⟨B, 5, none⟩ (v5)) := b5.trans (But.setCell _ _ _ (.inl rfl)); have b7 : But (fun k => k = B) w (((((((w.setCell ⟨B, 0, none⟩ (v0)).setCell ⟨B, 1, none⟩ (v1)).setCell ⟨B, 2, none⟩ (v2)).setCell ⟨B, 3, none⟩ (v3)).setCell ⟨B, 4, none⟩ (v4)).setCell ⟨B, 5, none⟩ (v5)).setCell ⟨B, 6, none⟩ (v6)) := b6.trans (But.setCell _ _ _ (.inl rfl))
  have b8 : But (fun k => k = B) w ((((((((w.setCell ⟨B, 0, none⟩ (v0)).setCell ⟨B, 1, none⟩ (v1)).setCell ⟨B, 2, none⟩ (v2)).setCell ⟨B, 3, none⟩ (v3)).setCell ⟨B, 4, none⟩ (v4)).setCell ⟨B, 5, none⟩ (v5)).setCell ⟨B, 6, none⟩ (v6)).setCell ⟨B, 7, none⟩ (v7)) := b7.trans (But.setCell _ _ _ (.inl rfl)); have b9 : But (fun k => k = B) w (((((((((w.setCell ⟨B, 0, none⟩ (v0)).setCell ⟨B, 1, none⟩ (v1)).setCell ⟨B, 2, none⟩ (v2)).setCell ⟨B, 3, none⟩ (v3)).setCell ⟨B, 4, none⟩ (v4)).setCell ⟨B, 5, none⟩ (v5)).setCell ⟨B, 6, none⟩ (v6)).setCell ⟨B, 7, none⟩ (v7)).setCell ⟨B, 8, none⟩ (v8)) := b8.trans (But.setCell _ _ _ (.inl rfl)); have b10 : But (fun k => k = B) w ((((((((((w.setCell ⟨B, 0, none⟩ (v0)).setCell ⟨B, 1, none⟩ (v1)).setCell ⟨B, 2, none⟩ (v2)).setCell ⟨B, 3, none⟩ (v3)).setCell ⟨B, 4, none⟩ (v4)).setCell ⟨B, 5, none⟩ (v5)).setCell ⟨B, 6, none⟩ (v6)).setCell ⟨B, 7, none⟩ (v7)).setCell ⟨B, 8, none⟩ (v8)).setCell ⟨B, 9, none⟩ (v9)) := b9.trans (But.setCell _ _ _ (.inl rfl))
  have b11 : But (fun k => k = B) w (((((((((((w.setCell ⟨B, 0, none⟩ (v0)).setCell ⟨B, 1, none⟩ (v1)).setCell ⟨B, 2, none⟩ (v2)).setCell ⟨B, 3, none⟩ (v3)).setCell ⟨B, 4, none⟩ (v4)).setCell ⟨B, 5, none⟩ (v5)).setCell ⟨B, 6, none⟩ (v6)).setCell ⟨B, 7, none⟩ (v7)).setCell ⟨B, 8, none⟩ (v8)).setCell ⟨B, 9, none⟩ (v9)).setCell ⟨B, 10, none⟩ (v10)) := b10.trans (But.setCell _ _ _ (.inl rfl)); exact ⟨h11, b11⟩
theorem row11_same {w : World} {B : Nat} {T : TypeId} {a0 a1 a2 a3 a4 a5 a6 a7 a8 a9 a10 : Value} (h : RowAt w B #[a0, a1, a2, a3, a4, a5, a6, a7, a8, a9, a10] T) : (((((((((((w.setCell ⟨B, 0, none⟩ (a0)).setCell ⟨B, 1, none⟩ (a1)).setCell ⟨B, 2, none⟩ (a2)).setCell ⟨B, 3, none⟩ (a3)).setCell ⟨B, 4, none⟩ (a4)).setCell ⟨B, 5, none⟩ (a5)).setCell ⟨B, 6, none⟩ (a6)).setCell ⟨B, 7, none⟩ (a7)).setCell ⟨B, 8, none⟩ (a8)).setCell ⟨B, 9, none⟩ (a9)).setCell ⟨B, 10, none⟩ (a10)) = w := by
  rw [h.same (i := 0) (v := a0) rfl, h.same (i := 1) (v := a1) rfl, h.same (i := 2) (v := a2) rfl, h.same (i := 3) (v := a3) rfl, h.same (i := 4) (v := a4) rfl, h.same (i := 5) (v := a5) rfl, h.same (i := 6) (v := a6) rfl, h.same (i := 7) (v := a7) rfl, h.same (i := 8) (v := a8) rfl, h.same (i := 9) (v := a9) rfl, h.same (i := 10) (v := a10) rfl]
end Go.Proofs.YtpkonagjnfphkaaGreatDoor
