/-
  ContactHolds: true, whatever the contacts, the one more, the time are. No condition but that numbers are of their types.
-/
import Derived.Test.YtgbpdchdcbnoaaaConL
import Derived.Test.YtgbpdchdcbnoaaaFork
namespace Go.Proofs.Ytgbpdchdcbnoaaa
open Go.RowKit Vol
set_option linter.unusedSimpArgs false
set_option linter.unusedVariables false

/-- What the law has at hand in its first loop: the one more, both plans, the contacts that are there (a slice of its own). -/
structure CH (w w1 : World) (more : Ct) (B0 P O : Nat) (vP vO : Value) (L M : List Ct) (v9 : Value) (T : List Ct) : Prop where
  below : Below w.heap.size w w1
  more : RowAt w1 w.heap.size (ctC more).toArray 27
  p : PlanAt w1 P vP L
  o : PlanAt w1 O vO M
  own : w1.ownsRow B0 27 5 v9 T.length (T.flatMap ctC)
  wP : w.heap.size < P
  wO : w.heap.size < O
  PB : P < B0
  OB : O < B0
  ne : ¬ P = O
  size0 : B0 ≤ w1.heap.size
  xP : ∀ k, vP.ownBlock = some k → B0 ≤ k
  xO : ∀ k, vO.ownBlock = some k → B0 ≤ k
  lP : ∀ k, vP.ownBlock = some k → k < w1.heap.size
  lO : ∀ k, vO.ownBlock = some k → k < w1.heap.size
  sp : ∀ k, vP.ownBlock = some k → ¬ v9.ownBlock = some k
  so : ∀ k, vO.ownBlock = some k → ¬ v9.ownBlock = some k
theorem PlanAt.but {w w' : World} {B : Nat} {v : Value} {L : List Ct} (h : PlanAt w B v L) {O : Nat → Prop} (hb : But O w w') (hB : ¬ O B) (hv : ∀ k, v.ownBlock = some k → ¬ O k) : PlanAt w' B v L := ⟨h.var.but hb hB, h.sl.but hb (.inr hv), h.ne⟩
theorem ct_neqs (c : Ct) (w : World) : (binOp .neq 27 (ctV c) (ctV c)).run Try.prog w = .ok (.bool false) w := by simp [go_sem]
theorem CH.up {w w1 w2 : World} {more : Ct} {B0 P O : Nat} {vP vO : Value} {L M : List Ct} {v9 : Value} {T : List Ct} (h : CH w w1 more B0 P O vP vO L M v9 T) (hb : Below w1.heap.size w1 w2) : CH w w2 more B0 P O vP vO L M v9 T :=
  ⟨below_up h.below hb, h.more.below hb, h.p.below hb, h.o.below hb, own_but h.own (But.of_below (O := fun _ => False) hb) (fun _ _ h => h), h.wP, h.wO, h.PB, h.OB, h.ne, Nat.le_trans h.size0 hb.size, h.xP, h.xO, fun k hk => Nat.lt_of_lt_of_le (h.lP k hk) hb.size, fun k hk => Nat.lt_of_lt_of_le (h.lO k hk) hb.size, h.sp, h.so⟩
theorem CH.size {w w1 : World} {more : Ct} {B0 P O : Nat} {vP vO : Value} {L M : List Ct} {v9 : Value} {T : List Ct} (h : CH w w1 more B0 P O vP vO L M v9 T) (k : Nat) (hk : v9.ownBlock = some k) : k < w1.heap.size := (own_of_some h.own hk).2
/-- The first plan turns. -/
theorem CH.addP {w w1 w2 : World} {more : Ct} {B0 P O : Nat} {vP vO v' : Value} {L L' M : List Ct} {v9 : Value} {T : List Ct} (h : CH w w1 more B0 P O vP vO L M v9 T) (hP : PlanAt w2 P v' L') (hb : But (· = P) w1 w2) (hv : v' = vP ∨ ∀ k, v'.ownBlock = some k → w1.heap.size ≤ k ∧ k < w2.heap.size) (hB : B0 ≤ w1.heap.size) : CH w w2 more B0 P O v' vO L' M v9 T := by
  have hwP := h.wP
  have hPB := h.PB
  refine ⟨h.below.trans (hb.below (fun k hk => by omega) h.below.size), h.more.but hb (by omega), hP, h.o.but hb (fun e => h.ne e.symm) (fun k hk e => by have := h.xO k hk; omega), own_but h.own hb (fun k hk e => by have := (own_of_some h.own hk).1; omega), h.wP, h.wO, h.PB, h.OB, h.ne, Nat.le_trans h.size0 hb.size, fun k hk => ?_, h.xO, fun k hk => ?_, fun k hk => Nat.lt_of_lt_of_le (h.lO k hk) hb.size, fun k hk e => ?_, h.so⟩
  · rcases hv with rfl | hv
    · exact h.xP k hk
    · exact Nat.le_trans hB (hv k hk).1
  · rcases hv with rfl | hv
    · exact Nat.lt_of_lt_of_le (h.lP k hk) hb.size
    · exact (hv k hk).2
  · rcases hv with rfl | hv
    · exact h.sp k hk e
    · have := h.size k e
      have := hv k hk
      omega
theorem CH.addP' {w w1 w2 : World} {more : Ct} {B0 P O : Nat} {vP vO v' : Value} {L L' M : List Ct} {v9 : Value} {T : List Ct} (h : CH w w1 more B0 P O vP vO L M v9 T) (hP : PlanAt w2 P v' L') (hb : But (· = P) w1 w2) (hv : v' = vP ∨ ∀ k, v'.ownBlock = some k → w1.heap.size ≤ k ∧ k < w2.heap.size) : CH w w2 more B0 P O v' vO L' M v9 T := h.addP hP hb hv h.size0
/-- The second plan turns. -/
theorem CH.addO {w w1 w2 : World} {more : Ct} {B0 P O : Nat} {vP vO v' : Value} {L M M' : List Ct} {v9 : Value} {T : List Ct} (h : CH w w1 more B0 P O vP vO L M v9 T) (hO : PlanAt w2 O v' M') (hb : But (· = O) w1 w2) (hv : v' = vO ∨ ∀ k, v'.ownBlock = some k → w1.heap.size ≤ k ∧ k < w2.heap.size) (hB : B0 ≤ w1.heap.size) : CH w w2 more B0 P O vP v' L M' v9 T := by
  have hwO := h.wO
  have hOB := h.OB
  refine ⟨h.below.trans (hb.below (fun k hk => by omega) h.below.size), h.more.but hb (by omega), h.p.but hb h.ne (fun k hk e => by have := h.xP k hk; omega), hO, own_but h.own hb (fun k hk e => by have := (own_of_some h.own hk).1; omega), h.wP, h.wO, h.PB, h.OB, h.ne, Nat.le_trans h.size0 hb.size, h.xP, fun k hk => ?_, fun k hk => Nat.lt_of_lt_of_le (h.lP k hk) hb.size, fun k hk => ?_, h.sp, fun k hk e => ?_⟩
  · rcases hv with rfl | hv
    · exact h.xO k hk
    · exact Nat.le_trans hB (hv k hk).1
  · rcases hv with rfl | hv
    · exact Nat.lt_of_lt_of_le (h.lO k hk) hb.size
    · exact (hv k hk).2
  · rcases hv with rfl | hv
    · exact h.so k hk e
    · have := h.size k e
      have := hv k hk
      omega
/-- One more is there. -/
theorem CH.there {w w1 w2 : World} {more : Ct} {B0 P O : Nat} {vP vO : Value} {L M : List Ct} {v9 v' : Value} {T T' : List Ct} (h : CH w w1 more B0 P O vP vO L M v9 T) (hown : w2.ownsRow B0 27 5 v' T'.length (T'.flatMap ctC)) (hg : w1.grownBy w2 v9.ownBlock) (hv : v'.ownBlock = v9.ownBlock ∨ v'.ownBlock = some w1.heap.size) : CH w w2 more B0 P O vP vO L M v' T' := by
  have hb : But (fun k => v9.ownBlock = some k) w1 w2 := But.grown hg (fun r hr => .inl hr)
  have hge : ∀ k, v9.ownBlock = some k → B0 ≤ k := fun k hk => (own_of_some h.own hk).1
  have hwP := h.wP
  have hPB := h.PB
  have hOB := h.OB
  refine ⟨h.below.trans (hb.below (fun k hk => by have := hge k hk; omega) h.below.size), h.more.but hb (fun e => by have := hge _ e; omega), h.p.but hb (fun e => by have := hge _ e; omega) h.sp, h.o.but hb (fun e => by have := hge _ e; omega) h.so, hown, h.wP, h.wO, h.PB, h.OB, h.ne, Nat.le_trans h.size0 hb.size, h.xP, h.xO, fun k hk => Nat.lt_of_lt_of_le (h.lP k hk) hb.size, fun k hk => Nat.lt_of_lt_of_le (h.lO k hk) hb.size, fun k hk e => ?_, fun k hk e => ?_⟩
  · rcases hv with hv | hv
    · exact h.sp k hk (hv ▸ e)
    · have := h.lP k hk
      rw [hv] at e
      have := Option.some.inj e
      omega
  · rcases hv with hv | hv
    · exact h.so k hk (hv ▸ e)
    · have := h.lO k hk
      rw [hv] at e
      have := Option.some.inj e
      omega

set_option maxHeartbeats 80000000 in
set_option maxRecDepth 100000 in
theorem contactHolds_c (xs : List Ct) (hxs : ∀ x ∈ xs, x.Wf) (v : Value) (n : Nat) (more : Ct) (hmw : more.Wf) (at_ : Int) (w : World) (hv : Sl w 5 v n (xs.flatMap ctC)) : Calls Try.prog 5 #[v, ctV more, .int .u64 at_] w (Ret (.bool true) w) := by
  obtain ⟨av, cv, rfl⟩ := hv.len
  have hln : xs.length = n := Sl.recs (cells := ctC) (sz := 5) (fun _ => rfl) (by decide) hv
  have hmx := hv.n_max
  have hB0 := below_alloc w (.cells (ctC more).toArray 27)
  have M0 := RowAt.new w (ctC more).toArray 27
  by_cases h40 : 40 < n
  · have h40' : (40 : Int) < (n : Int) := by omega
    go_enter Try.func5, Try.ntmps5
    go_wp2_with (go_at_call 11; refine (cWorks_c _).mono ?_; rintro en w1 ⟨rfl, hb⟩)
    go_ret
    exact ⟨rfl, below_up hB0 hb⟩
  have h40' : ¬ (40 : Int) < (n : Int) := by omega
  have HL := Lib.hid hln
  have HX := Lib.hid hxs
  clear hln hxs
  have T1 := Lib.hid True.intro
  go_enter Try.func5, Try.ntmps5
  go_wp2_with (first
    | (go_at_call 12; have T0 := T1; clear T0 T1; refine (pNew_c _).mono ?_; rintro en w1 ⟨rfl, HP, hb⟩)
    | (go_at_call 12; refine (pNew_c _).mono ?_; rintro en w2 ⟨rfl, HO, hb2⟩))
  have hs1 := hb.size
  have hs2 := hb2.size
  have hs3 := HO.var.lt
  have hs4 := HP.var.lt
  have hs5 := M0.lt
  have V0 : CH w w2 more w2.heap.size (w.heap.size + 1) w1.heap.size (.slice none 0 0) (.slice none 0 0) [] [] (.slice none 0 0) [] := by
    refine ⟨below_up (below_up hB0 hb) hb2, (M0.below hb).below hb2, ?_, HO, World.ownsRow_nil _ _ _ _, by omega, by omega, by omega, by omega, by omega, Nat.le_refl _, (fun k hk => by cases hk), (fun k hk => by cases hk), (fun k hk => by cases hk), (fun k hk => by cases hk), (fun k hk => by cases hk), (fun k hk => by cases hk)⟩
    have := HP.below hb2
    rwa [World.size_alloc] at this
  have HA0 : Acc [] [] := Acc.nil
  obtain ⟨O, hO⟩ : ∃ O, O = w1.heap.size := ⟨_, rfl⟩
  obtain ⟨B0, hB0e⟩ : ∃ B0, B0 = w2.heap.size := ⟨_, rfl⟩
  rw [← hO, ← hB0e] at V0
  try rw [← hO]
  have hB0v : w2.heap.size = B0 := hB0e.symm
  clear HP HO hb hb2 hs1 hs2 hs3 hs4 hs5 M0 hB0 hO hB0e
  go_loopw [10, 9] (fun t u wr => ∃ (i : Nat) (vP : Value) (L T : List Ct), i ≤ n ∧ t = .int .i64 i ∧ Acc T L ∧ T.length ≤ i ∧ RowKit.Hid (∀ x ∈ T, x.Wf) ∧ CH w wr more B0 (w.heap.size + 1) O vP (.slice none 0 0) L [] u T) (fun t _ _ => n - (intOf t).toNat)
  case atStart => exact ⟨0, _, [], [], Nat.zero_le _, rfl, HA0, Nat.zero_le _, Lib.hid (fun x hx => by cases hx), V0⟩
  case round =>
    clear V0 HA0
    obtain ⟨i, vP, L, T, hi, rfl, hA, hTi, HXT, V⟩ := hrel
    have HA := Lib.hid hA
    have HTi := Lib.hid hTi
    clear hA hTi
    obtain ⟨a9, c9, hu⟩ := own_slice V.own
    subst hu
    by_cases hlt : i < n
    · have hltI : (i : Int) < (n : Int) := by omega
      have hil : i < xs.length := by rw [HL.out]; exact hlt
      have hTL : L.length = T.length := HA.out.perm.length_eq
      have hL40 : L.length ≤ 100000 := by have := HTi.out; omega
      have HL40 := Lib.hid hL40
      have HTL := Lib.hid hTL
      clear hL40 hTL
      have hbb : ∀ b off, av = some ⟨b, off, none⟩ → b < w.heap.size := fun b off e => by
        obtain ⟨b', off', e', hr'⟩ := hv.rec_at (cells := ctC) (sz := 5) (fun _ => rfl) hlt hil
        rw [e] at e'
        obtain ⟨rfl, rfl⟩ : b = b' ∧ off = off' := by simpa using e'
        exact World.block_lt_of_cell? w ⟨b, off + i * 5 + 0, none⟩ (hr' 0 _ rfl)
      obtain ⟨b, off, hav, hr⟩ := (hv.up V.below).rec_at (cells := ctC) (sz := 5) (fun _ => rfl) hlt hil
      subst hav
      have hbw := hbb b off rfl
      have hcw := HX.out xs[i] (List.getElem_mem hil)
      clear hbb
      have Hr := Lib.hid (fun (w' : World) (h : Below w.heap.size w w') => show w'.rangeAt b (off + i * 5) (ctC xs[i]) by
        obtain ⟨b', off', e', hr'⟩ := (hv.up h).rec_at (cells := ctC) (sz := 5) (fun _ => rfl) hlt hil
        obtain ⟨rfl, rfl⟩ : b = b' ∧ off = off' := by simpa using e'
        exact hr')
      generalize xs[i] = c at *
      have hadd := pAdd_c (B := w.heap.size + 1) (v := vP) (L := L) c hcw HL40.out (fun _ _ => HA.out.inv.mono c)
      obtain ⟨e, he⟩ : ∃ e, e = (Vol.addF L c).1 := ⟨_, rfl⟩
      obtain ⟨L', hL'⟩ : ∃ L', L' = (Vol.addF L c).2 := ⟨_, rfl⟩
      rw [← he, ← hL'] at hadd
      have HE := Lib.hid he
      have HL' := Lib.hid hL'
      clear he hL'
      by_cases he0 : e = 0
      · have HA2 := Lib.hid (show Acc (T ++ [c]) L' by rw [HL'.out]; exact HA.out.add (HE.out.symm.trans he0))
        subst he0
        go_wp2_with (first
          | (refine wpList_load_mid rfl 27 (.tmp 35) rfl b (off + i * 5) rfl (ctC c) _ hr Try.underlying27 rfl (by kernel_rfl) ?_)
          | (go_at_call 13; refine (hadd _ V.p).mono ?_; rintro en w3 ⟨v3, rfl, HP3, hb, hv3⟩; have V3 := V.addP HP3 hb hv3 V.size0; have V4 := V3.up (below_alloc w3 (.cells (ctC c).toArray 27)); have hr3 := Hr.out _ V3.below; clear hr hb hv3 HP3)
          | (refine wpList_load_mid rfl 27 (.tmp 43) rfl b (off + i * 5) rfl (ctC c) _ hr3 Try.underlying27 rfl (by kernel_rfl) ?_)
          | (at_builtin; go_loud (refine wpList_app_at rfl _ _ 38 rfl slC B0 rfl V4.own rfl (slOne w3 w3.heap.size rfl 27 c) (one_ct [c]) (by have := HTi.out; simp only [maxLen]; omega) (by have := HTi.out; omega) V4.size0 ?_; intro v5 w5 hown5 hgrow5 _ hat5))
          | (go_at_call 9; refine (num_cc _ _).mono ?_; rintro en ww ⟨rfl, rfl⟩))
        go_roundw
        case rel => exact ⟨i + 1, v3, L', T ++ [c], by omega, by go_num, HA2.out, by have := HTi.out; simp; omega, Lib.hid (fun x hx => by rcases List.mem_append.1 hx with hx | hx; exact HXT.out x hx; rw [List.mem_singleton.1 hx]; exact hcw), V4.there (by rw [List.length_append, List.flatMap_append]; exact hown5) hgrow5 hat5⟩
        case measure => simp [intOf]; omega
      · have hLL : L' = L := HL'.out.trans (addF_not (fun h => he0 (HE.out.trans h)))
        have HLL := Lib.hid hLL
        have heb : (e == 0) = false := by rw [beq_eq_false_iff_ne]; exact he0
        clear hLL
        go_wp2_with (first
          | (refine wpList_load_mid rfl 27 (.tmp 35) rfl b (off + i * 5) rfl (ctC c) _ hr Try.underlying27 rfl (by kernel_rfl) ?_)
          | (go_at_call 13; refine (hadd _ V.p).mono ?_; rintro en w3 ⟨v3, rfl, HP3, hb, hv3⟩; have V3 := V.addP HP3 hb hv3 V.size0; clear hr hb hv3 HP3)
          | (go_at_call 9; refine (num_cc _ _).mono ?_; rintro en ww ⟨rfl, rfl⟩))
        go_roundw
        case rel => exact ⟨i + 1, v3, L, T, by omega, by go_num, HA.out, by have := HTi.out; omega, HXT, by have := V3; rwa [HLL.out] at this⟩
        case measure => simp [intOf]; omega
    · obtain rfl : i = n := by omega
      have hT40 : T.length ≤ 40 := by have := HTi.out; omega
      clear hlt hi HTi HX
      go_wp2
      go_loopw [11] (fun t wr => ∃ (k : Nat) (vO : Value) (M : List Ct), k ≤ T.length ∧ t = .int .i64 ((k : Int) - 1) ∧ PInv M ∧ RowKit.Hid (M.Perm (T.drop k)) ∧ CH w wr more B0 (w.heap.size + 1) O vP vO L M (.slice a9 T.length c9) T) (fun t _ => ((intOf t) + 1).toNat)
      case atStart => exact ⟨T.length, _, [], Nat.le_refl _, by go_num, PInv.nil, Lib.hid (by rw [List.drop_length]), V⟩
      case round =>
        clear V
        obtain ⟨k, vO, M, hk, rfl, hM, HMp, V⟩ := hrel
        have HM := Lib.hid hM
        clear hM
        rcases Nat.eq_zero_or_pos k with hk0 | hk0
        · subst hk0
          have hLM := HA.out.same HM.out (by have := HMp.out; rwa [List.drop_zero] at this)
          subst hLM
          have hL40 : L.length ≤ 100000 := by rw [HA.out.perm.length_eq]; omega
          have hadd := pAdd_c (B := w.heap.size + 1) (v := vP) (L := L) more hmw hL40 (fun _ _ => HA.out.inv.mono more)
          obtain ⟨e, he⟩ : ∃ e, e = (Vol.addF L more).1 := ⟨_, rfl⟩
          obtain ⟨L', hL'⟩ : ∃ L', L' = (Vol.addF L more).2 := ⟨_, rfl⟩
          rw [← he, ← hL'] at hadd
          have HE := Lib.hid he
          have HL' := Lib.hid hL'
          have VV := Lib.hid V
          have S1 := Lib.hid True.intro
          clear he hL' V
          by_cases he0 : e = 0
          · have hdb := drop_back HA.out.inv (HE.out.symm.trans he0)
            rw [← HL'.out] at hdb
            have HDB := Lib.hid hdb
            have hl' : L'.length ≤ 100000 := by
              rw [HL'.out, (addF_zero (HE.out.symm.trans he0)).2.2, (insF_perm L more).length_eq, List.length_cons, HA.out.perm.length_eq]; omega
            have hne := ct_neqs more
            subst he0
            clear hdb
            go_wp2_with (first
              | (go_at_call 16; have S2 := S1; clear S2 S1; refine (pSame_c _ VV.out.p VV.out.o).mono ?_; simp only [decide_true]; rintro en w5 ⟨rfl, hb⟩; replace VV := Lib.hid (VV.out.up hb); have hrm := VV.out.more.range; clear hb)
              | (refine wpList_load_mid rfl 27 (.tmp 4) rfl w.heap.size 0 rfl (ctC more) _ hrm Try.underlying27 rfl (by kernel_rfl) ?_)
              | (go_at_call 13; refine (hadd _ VV.out.p).mono ?_; rintro en w6 ⟨v6, rfl, HP6, hb, hv6⟩; have V6 := VV.out.addP HP6 hb hv6 VV.out.size0; have m0 := V6.more.cell (i := 0) (v := .int .u32 more.from_) rfl; have m1 := V6.more.cell (i := 1) (v := .int .u32 more.to) rfl; have m2 := V6.more.cell (i := 2) (v := .int .u64 more.a) rfl; clear hb hv6 HP6 VV hrm)
              | (go_at_call 17; refine (dropK more.from_ more.to more.a hl' HDB.out.1 HDB.out.2 _ V6.p).mono ?_; simp only [Option.getD_some, dropE]; rintro en w7 ⟨v7, rfl, HP7, hb, hv7⟩; have V7 := V6.addP' HP7 hb hv7; have V8 := V7.up (below_alloc w7 (.cells (ctC more).toArray 27)); have N8 := (RowAt.new w7 (ctC more).toArray 27).range; have hrm := V8.more.range; clear hb hv7 HP7 m0 m1 m2)
              | (refine wpList_load_mid rfl 27 (.tmp 12) rfl w7.heap.size 0 rfl (ctC more) _ N8 Try.underlying27 rfl (by kernel_rfl) ?_)
              | (go_at_call 16; refine (pSame_c _ V8.p V8.o).mono ?_; simp only [decide_true]; rintro en w9 ⟨rfl, hb⟩; have VZ := Lib.hid (V8.up hb); clear hb)
              | (go_at_call 9; refine (num_cc _ _).mono ?_; rintro en ww ⟨rfl, rfl⟩))
            obtain ⟨vPz, hvPz⟩ : ∃ vPz, vPz = v7 := ⟨_, rfl⟩
            rw [← hvPz] at VZ
            have hlT : T.length ≤ 9223372036854775807 := by omega
            go_loopg [14] T.length (fun gh t wr => ∃ (i : Nat), i ≤ T.length ∧ gh = T.length - i ∧ t = .int .i64 i ∧ CH w wr more B0 (w.heap.size + 1) O vPz vO L L (.slice a9 T.length c9) T)
            case atStart => exact ⟨0, Nat.zero_le _, rfl, rfl, VZ.out⟩
            case round =>
              clear VZ
              obtain ⟨i, hi, rfl, rfl, V5⟩ := hrel
              by_cases hlt : i < T.length
              · have hltI : (i : Int) < (T.length : Int) := by omega
                have hi0 : (0 : Int) ≤ (i : Int) := by omega
                obtain ⟨bT, offT, ha9, hry⟩ := (Sl.of_own V5.own).rec_at (cells := ctC) (sz := 5) (fun _ => rfl) hlt hlt
                subst ha9
                have HAT := HA.out.at_ T[i] at_
                have HON := HA.out.one T[i] at_
                have Hry := Lib.hid (fun (w' : World) (h : CH w w' more B0 (w.heap.size + 1) O vPz vO L L (.slice (some ⟨bT, offT, none⟩) T.length c9) T) => show w'.rangeAt bT (offT + i * 5) (ctC T[i]) by
                  obtain ⟨b', off', e', hr'⟩ := (Sl.of_own h.own).rec_at (cells := ctC) (sz := 5) (fun _ => rfl) hlt hlt
                  obtain ⟨rfl, rfl⟩ : bT = b' ∧ offT = off' := by simpa using e'
                  exact hr')
                generalize hyy : T[i] = y at *
                have HON2 := Lib.hid HON
                have HAT2 := Lib.hid HAT
                have HV5 := Lib.hid V5
                clear HON HAT hyy hry V5
                go_wp2
                go_loopg [15, 16] T.length (fun gh a b wr => ∃ (k m : Nat), k ≤ T.length ∧ gh = T.length - k ∧ a = .int .i64 m ∧ b = .int .i64 k ∧ RowKit.Hid (((T.take k).filter (qB y at_)).length = m) ∧ CH w wr more B0 (w.heap.size + 1) O vPz vO L L (.slice (some ⟨bT, offT, none⟩) T.length c9) T)
                case atStart => exact ⟨0, 0, Nat.zero_le _, rfl, rfl, rfl, Lib.hid rfl, HV5.out⟩
                case round =>
                  clear HV5
                  obtain ⟨k, m, hk, rfl, rfl, rfl, HC, V5⟩ := hrel
                  by_cases hkl : k < T.length
                  · have hkI : (k : Int) < (T.length : Int) := by omega
                    obtain ⟨b', off', e', hr⟩ := (Sl.of_own V5.own).rec_at (cells := ctC) (sz := 5) (fun _ => rfl) hkl hkl
                    obtain ⟨rfl, rfl⟩ : bT = b' ∧ offT = off' := by simpa using e'
                    have HF := Lib.hid (filter_succ (qB y at_) hkl)
                    have hm40 : m ≤ 40 := by
                      have h1 := HC.out
                      have h2 := List.length_filter_le (qB y at_) (T.take k)
                      rw [List.length_take] at h2
                      omega
                    have hry6 := Hry.out _ (V5.up (below_alloc wr (.cells (ctC T[k]).toArray 27)))
                    have V6 := V5.up (below_alloc wr (.cells (ctC T[k]).toArray 27))
                    have N6 := RowAt.new wr (ctC T[k]).toArray 27
                    generalize T[k] = x at *
                    clear V5
                    go_wp2_with (first
                      | (refine wpList_load_mid rfl 27 (.tmp 109) rfl bT (offT + k * 5) rfl (ctC x) _ hr Try.underlying27 rfl (by kernel_rfl) ?_; clear hr))
                    obtain ⟨N17, hN17⟩ : ∃ N, N = wr.heap.size := ⟨_, rfl⟩
                    rw [← hN17] at N6
                    try rw [← hN17]
                    clear hN17
                    refine wp_region_pi [(0, false), (1, false), (2, false), (3, false), (4, false), (5, false), (6, false), (7, false), (8, false), (9, false), (10, false), (11, false), (12, false), (13, false), (14, false), (15, false), (16, false), (17, false), (18, false), (19, false), (20, false), (21, false), (22, false), (23, false), (24, false), (25, false), (26, false), (27, false), (28, false), (29, false), (30, false), (31, false)] (by kernel_rfl) (by kernel_rfl) (by kernel_rfl) rfl (fun _ _ d _ _ h => by cases d <;> exact h) (fun Wd hBd => ?_)
                    try simp only [Act.put, List.getElem_toArray, List.getElem_cons_zero, List.getElem_cons_succ, List.setIfInBounds_toArray, List.set_cons_zero, List.set_cons_succ]
                    have VV := V6.up hBd
                    have xr := N6.below hBd
                    have x0 : ∀ w', Below Wd.heap.size Wd w' → w'.cell? ⟨N17, 0, none⟩ = some (.int .u32 x.from_) := fun w' h => cell_up h (xr.cell (i := 0) rfl)
                    have x1 : ∀ w', Below Wd.heap.size Wd w' → w'.cell? ⟨N17, 1, none⟩ = some (.int .u32 x.to) := fun w' h => cell_up h (xr.cell (i := 1) rfl)
                    have x2 : ∀ w', Below Wd.heap.size Wd w' → w'.cell? ⟨N17, 2, none⟩ = some (.int .u64 x.a) := fun w' h => cell_up h (xr.cell (i := 2) rfl)
                    have x3 : ∀ w', Below Wd.heap.size Wd w' → w'.cell? ⟨N17, 3, none⟩ = some (.int .u64 x.b) := fun w' h => cell_up h (xr.cell (i := 3) rfl)
                    have ry := rangeAt_up hBd hry6
                    have y0 : ∀ w', Below Wd.heap.size Wd w' → w'.cell? ⟨bT, offT + i * 5, none⟩ = some (.int .u32 y.from_) := fun w' h => cell_up h (ry 0 _ rfl)
                    have y1 : ∀ w', Below Wd.heap.size Wd w' → w'.cell? ⟨bT, offT + i * 5 + 1, none⟩ = some (.int .u32 y.to) := fun w' h => cell_up h (ry 1 _ rfl)
                    refine pi_q (v := ?_) rfl (by rfl) ?_ ?_
                    rotate_left
                    · intro w' hBw'
                      first | (go_simp; done) | (go_simp; with_reducible rfl)
                    try simp only [Act.put, List.getElem_toArray, List.getElem_cons_zero, List.getElem_cons_succ, List.setIfInBounds_toArray, List.set_cons_zero, List.set_cons_succ]
                    refine pi_q (v := ?_) rfl (by rfl) ?_ ?_
                    rotate_left
                    · intro w' hBw'
                      first | (go_simp; done) | (go_simp; with_reducible rfl)
                    try simp only [Act.put, List.getElem_toArray, List.getElem_cons_zero, List.getElem_cons_succ, List.setIfInBounds_toArray, List.set_cons_zero, List.set_cons_succ]
                    refine pi_q (v := ?_) rfl (by rfl) ?_ ?_
                    rotate_left
                    · intro w' hBw'
                      first | (go_simp; done) | (go_simp; with_reducible rfl)
                    try simp only [Act.put, List.getElem_toArray, List.getElem_cons_zero, List.getElem_cons_succ, List.setIfInBounds_toArray, List.set_cons_zero, List.set_cons_succ]
                    refine pi_q (v := ?_) rfl (by rfl) ?_ ?_
                    rotate_left
                    · intro w' hBw'
                      first | (go_simp; done) | (go_simp; with_reducible rfl)
                    try simp only [Act.put, List.getElem_toArray, List.getElem_cons_zero, List.getElem_cons_succ, List.setIfInBounds_toArray, List.set_cons_zero, List.set_cons_succ]
                    refine pi_q (v := ?_) rfl (by rfl) ?_ ?_
                    rotate_left
                    · intro w' hBw'
                      first | (go_simp; done) | (go_simp; with_reducible rfl)
                    try simp only [Act.put, List.getElem_toArray, List.getElem_cons_zero, List.getElem_cons_succ, List.setIfInBounds_toArray, List.set_cons_zero, List.set_cons_succ]
                    refine pi_q (v := ?_) rfl (by rfl) ?_ ?_
                    rotate_left
                    · intro w' hBw'
                      first | (go_simp; done) | (go_simp; with_reducible rfl)
                    try simp only [Act.put, List.getElem_toArray, List.getElem_cons_zero, List.getElem_cons_succ, List.setIfInBounds_toArray, List.set_cons_zero, List.set_cons_succ]
                    refine pi_q (v := ?_) rfl (by rfl) ?_ ?_
                    rotate_left
                    · intro w' hBw'
                      first | (go_simp; done) | (go_simp; with_reducible rfl)
                    try simp only [Act.put, List.getElem_toArray, List.getElem_cons_zero, List.getElem_cons_succ, List.setIfInBounds_toArray, List.set_cons_zero, List.set_cons_succ]
                    refine pi_q (v := ?_) rfl (by rfl) ?_ ?_
                    rotate_left
                    · intro w' hBw'
                      first | (go_simp; done) | (go_simp; with_reducible rfl)
                    try simp only [Act.put, List.getElem_toArray, List.getElem_cons_zero, List.getElem_cons_succ, List.setIfInBounds_toArray, List.set_cons_zero, List.set_cons_succ]
                    refine pi_q (v := ?_) rfl (by rfl) ?_ ?_
                    rotate_left
                    · intro w' hBw'
                      first | (go_simp; done) | (go_simp; with_reducible rfl)
                    try simp only [Act.put, List.getElem_toArray, List.getElem_cons_zero, List.getElem_cons_succ, List.setIfInBounds_toArray, List.set_cons_zero, List.set_cons_succ]
                    cases hb1 : (x.from_ == y.from_) with
                    | false =>
                      have eb1 : decide (x.from_ = y.from_) = false := by simpa using hb1
                      refine pi_no rfl (by rfl) ?_
                      try simp only [Act.put, List.getElem_toArray, List.getElem_cons_zero, List.getElem_cons_succ, List.setIfInBounds_toArray, List.set_cons_zero, List.set_cons_succ]
                      refine pi_no rfl (by rfl) ?_
                      try simp only [Act.put, List.getElem_toArray, List.getElem_cons_zero, List.getElem_cons_succ, List.setIfInBounds_toArray, List.set_cons_zero, List.set_cons_succ]
                      refine pi_no rfl (by rfl) ?_
                      try simp only [Act.put, List.getElem_toArray, List.getElem_cons_zero, List.getElem_cons_succ, List.setIfInBounds_toArray, List.set_cons_zero, List.set_cons_succ]
                      refine pi_no rfl (by rfl) ?_
                      try simp only [Act.put, List.getElem_toArray, List.getElem_cons_zero, List.getElem_cons_succ, List.setIfInBounds_toArray, List.set_cons_zero, List.set_cons_succ]
                      refine pi_no rfl (by rfl) ?_
                      try simp only [Act.put, List.getElem_toArray, List.getElem_cons_zero, List.getElem_cons_succ, List.setIfInBounds_toArray, List.set_cons_zero, List.set_cons_succ]
                      refine pi_no rfl (by rfl) ?_
                      try simp only [Act.put, List.getElem_toArray, List.getElem_cons_zero, List.getElem_cons_succ, List.setIfInBounds_toArray, List.set_cons_zero, List.set_cons_succ]
                      refine pi_no rfl (by rfl) ?_
                      try simp only [Act.put, List.getElem_toArray, List.getElem_cons_zero, List.getElem_cons_succ, List.setIfInBounds_toArray, List.set_cons_zero, List.set_cons_succ]
                      refine pi_no rfl (by rfl) ?_
                      try simp only [Act.put, List.getElem_toArray, List.getElem_cons_zero, List.getElem_cons_succ, List.setIfInBounds_toArray, List.set_cons_zero, List.set_cons_succ]
                      refine pi_q (v := ?_) rfl (by rfl) ?_ ?_
                      rotate_left
                      · intro w' hBw'
                        first | (go_simp; done) | (go_simp; with_reducible rfl)
                      try simp only [Act.put, List.getElem_toArray, List.getElem_cons_zero, List.getElem_cons_succ, List.setIfInBounds_toArray, List.set_cons_zero, List.set_cons_succ]
                      refine pi_q (v := ?_) rfl (by rfl) ?_ ?_
                      rotate_left
                      · intro w' hBw'
                        first | (go_simp; done) | (go_simp; with_reducible rfl)
                      try simp only [Act.put, List.getElem_toArray, List.getElem_cons_zero, List.getElem_cons_succ, List.setIfInBounds_toArray, List.set_cons_zero, List.set_cons_succ]
                      refine pi_no rfl (by rfl) ?_
                      try simp only [Act.put, List.getElem_toArray, List.getElem_cons_zero, List.getElem_cons_succ, List.setIfInBounds_toArray, List.set_cons_zero, List.set_cons_succ]
                      refine pi_no rfl (by rfl) ?_
                      try simp only [Act.put, List.getElem_toArray, List.getElem_cons_zero, List.getElem_cons_succ, List.setIfInBounds_toArray, List.set_cons_zero, List.set_cons_succ]
                      refine pi_no rfl (by rfl) ?_
                      try simp only [Act.put, List.getElem_toArray, List.getElem_cons_zero, List.getElem_cons_succ, List.setIfInBounds_toArray, List.set_cons_zero, List.set_cons_succ]
                      refine pi_no rfl (by rfl) ?_
                      try simp only [Act.put, List.getElem_toArray, List.getElem_cons_zero, List.getElem_cons_succ, List.setIfInBounds_toArray, List.set_cons_zero, List.set_cons_succ]
                      refine pi_no rfl (by rfl) ?_
                      try simp only [Act.put, List.getElem_toArray, List.getElem_cons_zero, List.getElem_cons_succ, List.setIfInBounds_toArray, List.set_cons_zero, List.set_cons_succ]
                      refine pi_q (v := ?_) rfl (by rfl) ?_ ?_
                      rotate_left
                      · intro w' hBw'
                        first | (go_simp; done) | (go_simp; with_reducible rfl)
                      try simp only [Act.put, List.getElem_toArray, List.getElem_cons_zero, List.getElem_cons_succ, List.setIfInBounds_toArray, List.set_cons_zero, List.set_cons_succ]
                      refine pi_q (v := ?_) rfl (by rfl) ?_ ?_
                      rotate_left
                      · intro w' hBw'
                        first | (go_simp; done) | (go_simp; with_reducible rfl)
                      try simp only [Act.put, List.getElem_toArray, List.getElem_cons_zero, List.getElem_cons_succ, List.setIfInBounds_toArray, List.set_cons_zero, List.set_cons_succ]
                      refine pi_no rfl (by rfl) ?_
                      try simp only [Act.put, List.getElem_toArray, List.getElem_cons_zero, List.getElem_cons_succ, List.setIfInBounds_toArray, List.set_cons_zero, List.set_cons_succ]
                      refine pi_no rfl (by rfl) ?_
                      try simp only [Act.put, List.getElem_toArray, List.getElem_cons_zero, List.getElem_cons_succ, List.setIfInBounds_toArray, List.set_cons_zero, List.set_cons_succ]
                      refine pi_no rfl (by rfl) ?_
                      try simp only [Act.put, List.getElem_toArray, List.getElem_cons_zero, List.getElem_cons_succ, List.setIfInBounds_toArray, List.set_cons_zero, List.set_cons_succ]
                      refine pi_no rfl (by rfl) ?_
                      try simp only [Act.put, List.getElem_toArray, List.getElem_cons_zero, List.getElem_cons_succ, List.setIfInBounds_toArray, List.set_cons_zero, List.set_cons_succ]
                      refine pi_no rfl (by rfl) ?_
                      try simp only [Act.put, List.getElem_toArray, List.getElem_cons_zero, List.getElem_cons_succ, List.setIfInBounds_toArray, List.set_cons_zero, List.set_cons_succ]
                      refine pi_q (v := ?_) rfl (by rfl) ?_ ?_
                      rotate_left
                      · intro w' hBw'
                        first | (go_simp; done) | (go_simp; with_reducible rfl)
                      try simp only [Act.put, List.getElem_toArray, List.getElem_cons_zero, List.getElem_cons_succ, List.setIfInBounds_toArray, List.set_cons_zero, List.set_cons_succ]
                      refine pi_nil ?_
                      have HC2 := Lib.hid (show qB y at_ x = false by simp [qB, eb1])
                      have V7 := Lib.hid VV
                      clear VV xr x0 x1 x2 x3 ry y0 y1 hry6 N6 V6 hBd
                      go_wp2
                      go_roundg (T.length - (k + 1))
                      case rel => exact ⟨k + 1, m, by omega, rfl, rfl, by go_num, Lib.hid (by rw [HF.out, HC.out, HC2.out]; rfl), V7.out⟩
                      case measure => omega
                    | true =>
                      have eb1 : decide (x.from_ = y.from_) = true := by simpa using hb1
                      refine pi_q (v := ?_) rfl (by rfl) ?_ ?_
                      rotate_left
                      · intro w' hBw'
                        first | (go_simp; done) | (go_simp; with_reducible rfl)
                      try simp only [Act.put, List.getElem_toArray, List.getElem_cons_zero, List.getElem_cons_succ, List.setIfInBounds_toArray, List.set_cons_zero, List.set_cons_succ]
                      refine pi_q (v := ?_) rfl (by rfl) ?_ ?_
                      rotate_left
                      · intro w' hBw'
                        first | (go_simp; done) | (go_simp; with_reducible rfl)
                      try simp only [Act.put, List.getElem_toArray, List.getElem_cons_zero, List.getElem_cons_succ, List.setIfInBounds_toArray, List.set_cons_zero, List.set_cons_succ]
                      refine pi_q (v := ?_) rfl (by rfl) ?_ ?_
                      rotate_left
                      · intro w' hBw'
                        first | (go_simp; done) | (go_simp; with_reducible rfl)
                      try simp only [Act.put, List.getElem_toArray, List.getElem_cons_zero, List.getElem_cons_succ, List.setIfInBounds_toArray, List.set_cons_zero, List.set_cons_succ]
                      refine pi_q (v := ?_) rfl (by rfl) ?_ ?_
                      rotate_left
                      · intro w' hBw'
                        first | (go_simp; done) | (go_simp; with_reducible rfl)
                      try simp only [Act.put, List.getElem_toArray, List.getElem_cons_zero, List.getElem_cons_succ, List.setIfInBounds_toArray, List.set_cons_zero, List.set_cons_succ]
                      refine pi_q (v := ?_) rfl (by rfl) ?_ ?_
                      rotate_left
                      · intro w' hBw'
                        first | (go_simp; done) | (go_simp; with_reducible rfl)
                      try simp only [Act.put, List.getElem_toArray, List.getElem_cons_zero, List.getElem_cons_succ, List.setIfInBounds_toArray, List.set_cons_zero, List.set_cons_succ]
                      refine pi_q (v := ?_) rfl (by rfl) ?_ ?_
                      rotate_left
                      · intro w' hBw'
                        first | (go_simp; done) | (go_simp; with_reducible rfl)
                      try simp only [Act.put, List.getElem_toArray, List.getElem_cons_zero, List.getElem_cons_succ, List.setIfInBounds_toArray, List.set_cons_zero, List.set_cons_succ]
                      refine pi_q (v := ?_) rfl (by rfl) ?_ ?_
                      rotate_left
                      · intro w' hBw'
                        first | (go_simp; done) | (go_simp; with_reducible rfl)
                      try simp only [Act.put, List.getElem_toArray, List.getElem_cons_zero, List.getElem_cons_succ, List.setIfInBounds_toArray, List.set_cons_zero, List.set_cons_succ]
                      refine pi_q (v := ?_) rfl (by rfl) ?_ ?_
                      rotate_left
                      · intro w' hBw'
                        first | (go_simp; done) | (go_simp; with_reducible rfl)
                      try simp only [Act.put, List.getElem_toArray, List.getElem_cons_zero, List.getElem_cons_succ, List.setIfInBounds_toArray, List.set_cons_zero, List.set_cons_succ]
                      cases hb2 : (x.to == y.to) with
                      | false =>
                        have eb2 : decide (x.to = y.to) = false := by simpa using hb2
                        refine pi_q (v := ?_) rfl (by rfl) ?_ ?_
                        rotate_left
                        · intro w' hBw'
                          first | (go_simp; done) | (go_simp; with_reducible rfl)
                        try simp only [Act.put, List.getElem_toArray, List.getElem_cons_zero, List.getElem_cons_succ, List.setIfInBounds_toArray, List.set_cons_zero, List.set_cons_succ]
                        refine pi_q (v := ?_) rfl (by rfl) ?_ ?_
                        rotate_left
                        · intro w' hBw'
                          first | (go_simp; done) | (go_simp; with_reducible rfl)
                        try simp only [Act.put, List.getElem_toArray, List.getElem_cons_zero, List.getElem_cons_succ, List.setIfInBounds_toArray, List.set_cons_zero, List.set_cons_succ]
                        refine pi_no rfl (by rfl) ?_
                        try simp only [Act.put, List.getElem_toArray, List.getElem_cons_zero, List.getElem_cons_succ, List.setIfInBounds_toArray, List.set_cons_zero, List.set_cons_succ]
                        refine pi_no rfl (by rfl) ?_
                        try simp only [Act.put, List.getElem_toArray, List.getElem_cons_zero, List.getElem_cons_succ, List.setIfInBounds_toArray, List.set_cons_zero, List.set_cons_succ]
                        refine pi_no rfl (by rfl) ?_
                        try simp only [Act.put, List.getElem_toArray, List.getElem_cons_zero, List.getElem_cons_succ, List.setIfInBounds_toArray, List.set_cons_zero, List.set_cons_succ]
                        refine pi_no rfl (by rfl) ?_
                        try simp only [Act.put, List.getElem_toArray, List.getElem_cons_zero, List.getElem_cons_succ, List.setIfInBounds_toArray, List.set_cons_zero, List.set_cons_succ]
                        refine pi_no rfl (by rfl) ?_
                        try simp only [Act.put, List.getElem_toArray, List.getElem_cons_zero, List.getElem_cons_succ, List.setIfInBounds_toArray, List.set_cons_zero, List.set_cons_succ]
                        refine pi_q (v := ?_) rfl (by rfl) ?_ ?_
                        rotate_left
                        · intro w' hBw'
                          first | (go_simp; done) | (go_simp; with_reducible rfl)
                        try simp only [Act.put, List.getElem_toArray, List.getElem_cons_zero, List.getElem_cons_succ, List.setIfInBounds_toArray, List.set_cons_zero, List.set_cons_succ]
                        refine pi_q (v := ?_) rfl (by rfl) ?_ ?_
                        rotate_left
                        · intro w' hBw'
                          first | (go_simp; done) | (go_simp; with_reducible rfl)
                        try simp only [Act.put, List.getElem_toArray, List.getElem_cons_zero, List.getElem_cons_succ, List.setIfInBounds_toArray, List.set_cons_zero, List.set_cons_succ]
                        refine pi_no rfl (by rfl) ?_
                        try simp only [Act.put, List.getElem_toArray, List.getElem_cons_zero, List.getElem_cons_succ, List.setIfInBounds_toArray, List.set_cons_zero, List.set_cons_succ]
                        refine pi_no rfl (by rfl) ?_
                        try simp only [Act.put, List.getElem_toArray, List.getElem_cons_zero, List.getElem_cons_succ, List.setIfInBounds_toArray, List.set_cons_zero, List.set_cons_succ]
                        refine pi_no rfl (by rfl) ?_
                        try simp only [Act.put, List.getElem_toArray, List.getElem_cons_zero, List.getElem_cons_succ, List.setIfInBounds_toArray, List.set_cons_zero, List.set_cons_succ]
                        refine pi_no rfl (by rfl) ?_
                        try simp only [Act.put, List.getElem_toArray, List.getElem_cons_zero, List.getElem_cons_succ, List.setIfInBounds_toArray, List.set_cons_zero, List.set_cons_succ]
                        refine pi_no rfl (by rfl) ?_
                        try simp only [Act.put, List.getElem_toArray, List.getElem_cons_zero, List.getElem_cons_succ, List.setIfInBounds_toArray, List.set_cons_zero, List.set_cons_succ]
                        refine pi_q (v := ?_) rfl (by rfl) ?_ ?_
                        rotate_left
                        · intro w' hBw'
                          first | (go_simp; done) | (go_simp; with_reducible rfl)
                        try simp only [Act.put, List.getElem_toArray, List.getElem_cons_zero, List.getElem_cons_succ, List.setIfInBounds_toArray, List.set_cons_zero, List.set_cons_succ]
                        refine pi_nil ?_
                        have HC2 := Lib.hid (show qB y at_ x = false by simp [qB, eb2])
                        have V7 := Lib.hid VV
                        clear VV xr x0 x1 x2 x3 ry y0 y1 hry6 N6 V6 hBd
                        go_wp2
                        go_roundg (T.length - (k + 1))
                        case rel => exact ⟨k + 1, m, by omega, rfl, rfl, by go_num, Lib.hid (by rw [HF.out, HC.out, HC2.out]; rfl), V7.out⟩
                        case measure => omega
                      | true =>
                        have eb2 : decide (x.to = y.to) = true := by simpa using hb2
                        refine pi_q (v := ?_) rfl (by rfl) ?_ ?_
                        rotate_left
                        · intro w' hBw'
                          first | (go_simp; done) | (go_simp; with_reducible rfl)
                        try simp only [Act.put, List.getElem_toArray, List.getElem_cons_zero, List.getElem_cons_succ, List.setIfInBounds_toArray, List.set_cons_zero, List.set_cons_succ]
                        refine pi_q (v := ?_) rfl (by rfl) ?_ ?_
                        rotate_left
                        · intro w' hBw'
                          first | (go_simp; done) | (go_simp; with_reducible rfl)
                        try simp only [Act.put, List.getElem_toArray, List.getElem_cons_zero, List.getElem_cons_succ, List.setIfInBounds_toArray, List.set_cons_zero, List.set_cons_succ]
                        refine pi_q (v := ?_) rfl (by rfl) ?_ ?_
                        rotate_left
                        · intro w' hBw'
                          first | (go_simp; done) | (go_simp; with_reducible rfl)
                        try simp only [Act.put, List.getElem_toArray, List.getElem_cons_zero, List.getElem_cons_succ, List.setIfInBounds_toArray, List.set_cons_zero, List.set_cons_succ]
                        refine pi_q (v := ?_) rfl (by rfl) ?_ ?_
                        rotate_left
                        · intro w' hBw'
                          first | (go_simp; done) | (go_simp; with_reducible rfl)
                        try simp only [Act.put, List.getElem_toArray, List.getElem_cons_zero, List.getElem_cons_succ, List.setIfInBounds_toArray, List.set_cons_zero, List.set_cons_succ]
                        refine pi_q (v := ?_) rfl (by rfl) ?_ ?_
                        rotate_left
                        · intro w' hBw'
                          first | (go_simp; done) | (go_simp; with_reducible rfl)
                        try simp only [Act.put, List.getElem_toArray, List.getElem_cons_zero, List.getElem_cons_succ, List.setIfInBounds_toArray, List.set_cons_zero, List.set_cons_succ]
                        refine pi_q (v := ?_) rfl (by rfl) ?_ ?_
                        rotate_left
                        · intro w' hBw'
                          first | (go_simp; done) | (go_simp; with_reducible rfl)
                        try simp only [Act.put, List.getElem_toArray, List.getElem_cons_zero, List.getElem_cons_succ, List.setIfInBounds_toArray, List.set_cons_zero, List.set_cons_succ]
                        refine pi_q (v := ?_) rfl (by rfl) ?_ ?_
                        rotate_left
                        · intro w' hBw'
                          first | (go_simp; done) | (go_simp; with_reducible rfl)
                        try simp only [Act.put, List.getElem_toArray, List.getElem_cons_zero, List.getElem_cons_succ, List.setIfInBounds_toArray, List.set_cons_zero, List.set_cons_succ]
                        cases hb3 : decide (x.a ≤ at_) with
                        | false =>
                          have eb3 : decide (x.a ≤ at_) = false := by simpa using hb3
                          refine pi_q (v := ?_) rfl (by rfl) ?_ ?_
                          rotate_left
                          · intro w' hBw'
                            first | (go_simp; done) | (go_simp; with_reducible rfl)
                          try simp only [Act.put, List.getElem_toArray, List.getElem_cons_zero, List.getElem_cons_succ, List.setIfInBounds_toArray, List.set_cons_zero, List.set_cons_succ]
                          refine pi_q (v := ?_) rfl (by rfl) ?_ ?_
                          rotate_left
                          · intro w' hBw'
                            first | (go_simp; done) | (go_simp; with_reducible rfl)
                          try simp only [Act.put, List.getElem_toArray, List.getElem_cons_zero, List.getElem_cons_succ, List.setIfInBounds_toArray, List.set_cons_zero, List.set_cons_succ]
                          refine pi_no rfl (by rfl) ?_
                          try simp only [Act.put, List.getElem_toArray, List.getElem_cons_zero, List.getElem_cons_succ, List.setIfInBounds_toArray, List.set_cons_zero, List.set_cons_succ]
                          refine pi_no rfl (by rfl) ?_
                          try simp only [Act.put, List.getElem_toArray, List.getElem_cons_zero, List.getElem_cons_succ, List.setIfInBounds_toArray, List.set_cons_zero, List.set_cons_succ]
                          refine pi_no rfl (by rfl) ?_
                          try simp only [Act.put, List.getElem_toArray, List.getElem_cons_zero, List.getElem_cons_succ, List.setIfInBounds_toArray, List.set_cons_zero, List.set_cons_succ]
                          refine pi_no rfl (by rfl) ?_
                          try simp only [Act.put, List.getElem_toArray, List.getElem_cons_zero, List.getElem_cons_succ, List.setIfInBounds_toArray, List.set_cons_zero, List.set_cons_succ]
                          refine pi_no rfl (by rfl) ?_
                          try simp only [Act.put, List.getElem_toArray, List.getElem_cons_zero, List.getElem_cons_succ, List.setIfInBounds_toArray, List.set_cons_zero, List.set_cons_succ]
                          refine pi_q (v := ?_) rfl (by rfl) ?_ ?_
                          rotate_left
                          · intro w' hBw'
                            first | (go_simp; done) | (go_simp; with_reducible rfl)
                          try simp only [Act.put, List.getElem_toArray, List.getElem_cons_zero, List.getElem_cons_succ, List.setIfInBounds_toArray, List.set_cons_zero, List.set_cons_succ]
                          refine pi_nil ?_
                          have HC2 := Lib.hid (show qB y at_ x = false by simp [qB, eb3])
                          have V7 := Lib.hid VV
                          clear VV xr x0 x1 x2 x3 ry y0 y1 hry6 N6 V6 hBd
                          go_wp2
                          go_roundg (T.length - (k + 1))
                          case rel => exact ⟨k + 1, m, by omega, rfl, rfl, by go_num, Lib.hid (by rw [HF.out, HC.out, HC2.out]; rfl), V7.out⟩
                          case measure => omega
                        | true =>
                          have eb3 : decide (x.a ≤ at_) = true := by simpa using hb3
                          refine pi_q (v := ?_) rfl (by rfl) ?_ ?_
                          rotate_left
                          · intro w' hBw'
                            first | (go_simp; done) | (go_simp; with_reducible rfl)
                          try simp only [Act.put, List.getElem_toArray, List.getElem_cons_zero, List.getElem_cons_succ, List.setIfInBounds_toArray, List.set_cons_zero, List.set_cons_succ]
                          refine pi_q (v := ?_) rfl (by rfl) ?_ ?_
                          rotate_left
                          · intro w' hBw'
                            first | (go_simp; done) | (go_simp; with_reducible rfl)
                          try simp only [Act.put, List.getElem_toArray, List.getElem_cons_zero, List.getElem_cons_succ, List.setIfInBounds_toArray, List.set_cons_zero, List.set_cons_succ]
                          refine pi_q (v := ?_) rfl (by rfl) ?_ ?_
                          rotate_left
                          · intro w' hBw'
                            first | (go_simp; done) | (go_simp; with_reducible rfl)
                          try simp only [Act.put, List.getElem_toArray, List.getElem_cons_zero, List.getElem_cons_succ, List.setIfInBounds_toArray, List.set_cons_zero, List.set_cons_succ]
                          refine pi_q (v := ?_) rfl (by rfl) ?_ ?_
                          rotate_left
                          · intro w' hBw'
                            first | (go_simp; done) | (go_simp; with_reducible rfl)
                          try simp only [Act.put, List.getElem_toArray, List.getElem_cons_zero, List.getElem_cons_succ, List.setIfInBounds_toArray, List.set_cons_zero, List.set_cons_succ]
                          refine pi_q (v := ?_) rfl (by rfl) ?_ ?_
                          rotate_left
                          · intro w' hBw'
                            first | (go_simp; done) | (go_simp; with_reducible rfl)
                          try simp only [Act.put, List.getElem_toArray, List.getElem_cons_zero, List.getElem_cons_succ, List.setIfInBounds_toArray, List.set_cons_zero, List.set_cons_succ]
                          refine pi_q (v := ?_) rfl (by rfl) ?_ ?_
                          rotate_left
                          · intro w' hBw'
                            first | (go_simp; done) | (go_simp; with_reducible rfl)
                          try simp only [Act.put, List.getElem_toArray, List.getElem_cons_zero, List.getElem_cons_succ, List.setIfInBounds_toArray, List.set_cons_zero, List.set_cons_succ]
                          refine pi_q (v := ?_) rfl (by rfl) ?_ ?_
                          rotate_left
                          · intro w' hBw'
                            first | (go_simp; done) | (go_simp; with_reducible rfl)
                          try simp only [Act.put, List.getElem_toArray, List.getElem_cons_zero, List.getElem_cons_succ, List.setIfInBounds_toArray, List.set_cons_zero, List.set_cons_succ]
                          cases hb4 : decide (at_ < x.b) with
                          | false =>
                            have eb4 : decide (at_ < x.b) = false := by simpa using hb4
                            refine pi_q (v := ?_) rfl (by rfl) ?_ ?_
                            rotate_left
                            · intro w' hBw'
                              first | (go_simp; done) | (go_simp; with_reducible rfl)
                            try simp only [Act.put, List.getElem_toArray, List.getElem_cons_zero, List.getElem_cons_succ, List.setIfInBounds_toArray, List.set_cons_zero, List.set_cons_succ]
                            refine pi_nil ?_
                            have HC2 := Lib.hid (show qB y at_ x = false by simp [qB, eb4])
                            have V7 := Lib.hid VV
                            clear VV xr x0 x1 x2 x3 ry y0 y1 hry6 N6 V6 hBd
                            go_wp2
                            go_roundg (T.length - (k + 1))
                            case rel => exact ⟨k + 1, m, by omega, rfl, rfl, by go_num, Lib.hid (by rw [HF.out, HC.out, HC2.out]; rfl), V7.out⟩
                            case measure => omega
                          | true =>
                            have eb4 : decide (at_ < x.b) = true := by simpa using hb4
                            refine pi_q (v := ?_) rfl (by rfl) ?_ ?_
                            rotate_left
                            · intro w' hBw'
                              first | (go_simp; done) | (go_simp; with_reducible rfl)
                            try simp only [Act.put, List.getElem_toArray, List.getElem_cons_zero, List.getElem_cons_succ, List.setIfInBounds_toArray, List.set_cons_zero, List.set_cons_succ]
                            refine pi_nil ?_
                            have HC2 := Lib.hid (show qB y at_ x = true by simp [qB, eb1, eb2, eb3, eb4])
                            have V7 := Lib.hid VV
                            clear VV xr x0 x1 x2 x3 ry y0 y1 hry6 N6 V6 hBd
                            go_wp2
                            go_roundg (T.length - (k + 1))
                            case rel => exact ⟨k + 1, m + 1, by omega, rfl, by go_num, by go_num, Lib.hid (by rw [HF.out, HC.out, HC2.out]; rfl), V7.out⟩
                            case measure => omega
                  · obtain rfl : k = T.length := by omega
                    have hN : (T.filter (qB y at_)).length = m := by have := HC.out; rwa [List.take_length] at this
                    have hm1 : m ≤ 1 := by rw [← hN]; exact HON2.out
                    have HbI := Lib.hid (show (atR L y.from_ y.to at_).isSome = decide (m = 1) by rw [HAT2.out, hN])
                    obtain ⟨cR, hcR⟩ : ∃ cR, cR = (atR L y.from_ y.to at_).getD zct0 := ⟨_, rfl⟩
                    have HcR := Lib.hid hcR
                    have hry6 := Hry.out _ V5
                    have hbTs : bT < wr.heap.size := World.block_lt_of_cell? wr ⟨bT, offT + i * 5 + 0, none⟩ (hry6 0 _ rfl)
                    have V6 := Lib.hid V5
                    clear hN hcR V5 HC
                    obtain ⟨wq, hwq⟩ : ∃ wq, wq = wr := ⟨_, rfl⟩
                    have hbTq : bT < wq.heap.size := by rw [hwq]; exact hbTs
                    have HWQ := Lib.hid (show wq.heap.size = wr.heap.size by rw [hwq])
                    clear hwq hbTs
                    rcases Nat.lt_or_ge m 1 with hm0 | hm0
                    · obtain rfl : m = 0 := by omega
                      go_wp2
                      refine wp_region_pt (fun j => wq.heap.size ≤ j) (.q 0 (.q 1 (.q 2 (.q 3 (.q 4 (.q 5 (.q 6 (.q 7 (.q 8 (.q 9 (.q 10 (.q 11 (.f 12 (.q 13 (.q 14 (.q 15 (.c 16 (.c 17 (.q 18 .done)))))) 16 (.c 12 (.q 13 (.q 14 (.q 15 (.c 17 (.q 18 .done))))))))))))))))))) (by kernel_rfl) (by kernel_rfl) (by kernel_rfl) (by decide) (fun _ _ d _ _ h => by cases d <;> exact h) (fun Wd hBd => ?_)
                      try simp only [Act.put, List.getElem_toArray, List.getElem_cons_zero, List.getElem_cons_succ, List.setIfInBounds_toArray, List.set_cons_zero, List.set_cons_succ]
                      have V8 := V6.out.up hBd
                      have ry := rangeAt_up hBd hry6
                      have y0 : ∀ w', But (fun j => wq.heap.size ≤ j) Wd w' → w'.cell? ⟨bT, offT + i * 5, none⟩ = some (.int .u32 y.from_) := fun w' h => h.cell (ry 0 _ rfl) (by omega)
                      have y1 : ∀ w', But (fun j => wq.heap.size ≤ j) Wd w' → w'.cell? ⟨bT, offT + i * 5 + 1, none⟩ = some (.int .u32 y.to) := fun w' h => h.cell (ry 1 _ rfl) (by omega)
                      refine pt_q (v := ?_) rfl (by rfl) ?_ ?_
                      rotate_left
                      · intro w' hBw'
                        first | (go_simp; done) | (go_simp; with_reducible rfl)
                      try simp only [Act.put, List.getElem_toArray, List.getElem_cons_zero, List.getElem_cons_succ, List.setIfInBounds_toArray, List.set_cons_zero, List.set_cons_succ]
                      refine pt_q (v := ?_) rfl (by rfl) ?_ ?_
                      rotate_left
                      · intro w' hBw'
                        first | (go_simp; done) | (go_simp; with_reducible rfl)
                      try simp only [Act.put, List.getElem_toArray, List.getElem_cons_zero, List.getElem_cons_succ, List.setIfInBounds_toArray, List.set_cons_zero, List.set_cons_succ]
                      refine pt_q (v := ?_) rfl (by rfl) ?_ ?_
                      rotate_left
                      · intro w' hBw'
                        first | (go_simp; done) | (go_simp; with_reducible rfl)
                      try simp only [Act.put, List.getElem_toArray, List.getElem_cons_zero, List.getElem_cons_succ, List.setIfInBounds_toArray, List.set_cons_zero, List.set_cons_succ]
                      refine pt_q (v := ?_) rfl (by rfl) ?_ ?_
                      rotate_left
                      · intro w' hBw'
                        first | (go_simp; done) | (go_simp; with_reducible rfl)
                      try simp only [Act.put, List.getElem_toArray, List.getElem_cons_zero, List.getElem_cons_succ, List.setIfInBounds_toArray, List.set_cons_zero, List.set_cons_succ]
                      refine pt_q (v := ?_) rfl (by rfl) ?_ ?_
                      rotate_left
                      · intro w' hBw'
                        first | (go_simp; done) | (go_simp; with_reducible rfl)
                      try simp only [Act.put, List.getElem_toArray, List.getElem_cons_zero, List.getElem_cons_succ, List.setIfInBounds_toArray, List.set_cons_zero, List.set_cons_succ]
                      refine pt_q (v := ?_) rfl (by rfl) ?_ ?_
                      rotate_left
                      · intro w' hBw'
                        first | (go_simp; done) | (go_simp; with_reducible rfl)
                      try simp only [Act.put, List.getElem_toArray, List.getElem_cons_zero, List.getElem_cons_succ, List.setIfInBounds_toArray, List.set_cons_zero, List.set_cons_succ]
                      refine pt_q (v := ?_) rfl (by rfl) ?_ ?_
                      rotate_left
                      · intro w' hBw'
                        first | (go_simp; done) | (go_simp; with_reducible rfl)
                      try simp only [Act.put, List.getElem_toArray, List.getElem_cons_zero, List.getElem_cons_succ, List.setIfInBounds_toArray, List.set_cons_zero, List.set_cons_succ]
                      refine pt_q (v := ?_) rfl (by rfl) ?_ ?_
                      rotate_left
                      · intro w' hBw'
                        first | (go_simp; done) | (go_simp; with_reducible rfl)
                      try simp only [Act.put, List.getElem_toArray, List.getElem_cons_zero, List.getElem_cons_succ, List.setIfInBounds_toArray, List.set_cons_zero, List.set_cons_succ]
                      refine pt_q (v := ?_) rfl (by rfl) ?_ ?_
                      rotate_left
                      · intro w' hBw'
                        first | (go_simp; done) | (go_simp; with_reducible rfl)
                      try simp only [Act.put, List.getElem_toArray, List.getElem_cons_zero, List.getElem_cons_succ, List.setIfInBounds_toArray, List.set_cons_zero, List.set_cons_succ]
                      refine pt_q (v := ?_) rfl (by rfl) ?_ ?_
                      rotate_left
                      · intro w' hBw'
                        first | (go_simp; done) | (go_simp; with_reducible rfl)
                      try simp only [Act.put, List.getElem_toArray, List.getElem_cons_zero, List.getElem_cons_succ, List.setIfInBounds_toArray, List.set_cons_zero, List.set_cons_succ]
                      refine pt_q (v := ?_) rfl (by rfl) ?_ ?_
                      rotate_left
                      · intro w' hBw'
                        first | (go_simp; done) | (go_simp; with_reducible rfl)
                      try simp only [Act.put, List.getElem_toArray, List.getElem_cons_zero, List.getElem_cons_succ, List.setIfInBounds_toArray, List.set_cons_zero, List.set_cons_succ]
                      refine pt_q (v := ?_) rfl (by rfl) ?_ ?_
                      rotate_left
                      · intro w' hBw'
                        first | (go_simp; done) | (go_simp; with_reducible rfl)
                      try simp only [Act.put, List.getElem_toArray, List.getElem_cons_zero, List.getElem_cons_succ, List.setIfInBounds_toArray, List.set_cons_zero, List.set_cons_succ]
                      refine pt_f ?_ ?_
                      · refine pt_step rfl (by rfl) (fun K hK => ?_)
                        go_simp
                        refine (pAt_c y.from_ y.to at_ _ V8.p).mono ?_
                        rw [← HcR.out, HbI.out]
                        rintro en w8 ⟨rfl, hb8⟩
                        go_wp2_with fail
                        refine hK.out _ _ (But.of_below hb8) ?_
                        clear hK K
                        try simp only [Act.put, List.getElem_toArray, List.getElem_cons_zero, List.getElem_cons_succ, List.setIfInBounds_toArray, List.set_cons_zero, List.set_cons_succ]
                        refine pt_q (v := ?_) rfl (by rfl) ?_ ?_
                        rotate_left
                        · intro w' hBw'
                          first | (go_simp; done) | (go_simp; with_reducible rfl)
                        try simp only [Act.put, List.getElem_toArray, List.getElem_cons_zero, List.getElem_cons_succ, List.setIfInBounds_toArray, List.set_cons_zero, List.set_cons_succ]
                        refine pt_q (v := ?_) rfl (by rfl) ?_ ?_
                        rotate_left
                        · intro w' hBw'
                          first | (go_simp; done) | (go_simp; with_reducible rfl)
                        try simp only [Act.put, List.getElem_toArray, List.getElem_cons_zero, List.getElem_cons_succ, List.setIfInBounds_toArray, List.set_cons_zero, List.set_cons_succ]
                        refine pt_q (v := ?_) rfl (by rfl) ?_ ?_
                        rotate_left
                        · intro w' hBw'
                          first | (go_simp; done) | (go_simp; with_reducible rfl)
                        try simp only [Act.put, List.getElem_toArray, List.getElem_cons_zero, List.getElem_cons_succ, List.setIfInBounds_toArray, List.set_cons_zero, List.set_cons_succ]
                        refine pt_c ?_
                        refine pt_step rfl (by rfl) (fun K hK => ?_)
                        go_simp
                        have hbT := below_up hb8 (below_alloc w8 (.cells (ctC zct0).toArray 27))
                        refine hK.out _ _ (But.alloc _ _) ?_
                        clear hK K
                        try simp only [Act.put, List.getElem_toArray, List.getElem_cons_zero, List.getElem_cons_succ, List.setIfInBounds_toArray, List.set_cons_zero, List.set_cons_succ]
                        refine pt_c ?_
                        refine pt_step rfl (by rfl) (fun K hK => ?_)
                        go_simp
                        have V9 := V8.up (below_up hb8 (below_alloc w8 (.cells (ctC cR).toArray 27)))
                        refine hK.out _ _ (But.realloc _ _ _ (by have := hBd.size; have := hb8.size; have := HWQ.out; omega)) ?_
                        clear hK K
                        try simp only [Act.put, List.getElem_toArray, List.getElem_cons_zero, List.getElem_cons_succ, List.setIfInBounds_toArray, List.set_cons_zero, List.set_cons_succ]
                        refine pt_q (v := ?_) rfl (by rfl) ?_ ?_
                        rotate_left
                        · intro w' hBw'
                          first | (go_simp; done) | (go_simp; with_reducible rfl)
                        try simp only [Act.put, List.getElem_toArray, List.getElem_cons_zero, List.getElem_cons_succ, List.setIfInBounds_toArray, List.set_cons_zero, List.set_cons_succ]
                        refine pt_done ?_
                        clear V8 ry y0 y1 hry6
                        go_wp2
                        go_roundg (T.length - (i + 1))
                        case rel => exact ⟨i + 1, by omega, rfl, by go_num, V9⟩
                        case measure => omega
                      · refine pt_step rfl (by rfl) (fun K hK => ?_)
                        go_simp
                        have Va := V8.up (below_alloc Wd (.cells (ctC zct0).toArray 27))
                        have Z8 := RowAt.new Wd (ctC zct0).toArray 27
                        refine hK.out _ _ (But.alloc _ _) ?_
                        clear hK K
                        try simp only [Act.put, List.getElem_toArray, List.getElem_cons_zero, List.getElem_cons_succ, List.setIfInBounds_toArray, List.set_cons_zero, List.set_cons_succ]
                        refine pt_c ?_
                        refine pt_step rfl (by rfl) (fun K hK => ?_)
                        go_simp
                        refine (pAt_c y.from_ y.to at_ _ Va.p).mono ?_
                        rw [← HcR.out, HbI.out]
                        rintro en w8 ⟨rfl, hb8⟩
                        go_wp2_with fail
                        have hbT := below_up (below_alloc Wd (.cells (ctC zct0).toArray 27)) hb8
                        have Z9 := Z8.below hb8
                        refine hK.out _ _ (But.of_below hb8) ?_
                        clear hK K
                        try simp only [Act.put, List.getElem_toArray, List.getElem_cons_zero, List.getElem_cons_succ, List.setIfInBounds_toArray, List.set_cons_zero, List.set_cons_succ]
                        refine pt_q (v := ?_) rfl (by rfl) ?_ ?_
                        rotate_left
                        · intro w' hBw'
                          first | (go_simp; done) | (go_simp; with_reducible rfl)
                        try simp only [Act.put, List.getElem_toArray, List.getElem_cons_zero, List.getElem_cons_succ, List.setIfInBounds_toArray, List.set_cons_zero, List.set_cons_succ]
                        refine pt_q (v := ?_) rfl (by rfl) ?_ ?_
                        rotate_left
                        · intro w' hBw'
                          first | (go_simp; done) | (go_simp; with_reducible rfl)
                        try simp only [Act.put, List.getElem_toArray, List.getElem_cons_zero, List.getElem_cons_succ, List.setIfInBounds_toArray, List.set_cons_zero, List.set_cons_succ]
                        refine pt_q (v := ?_) rfl (by rfl) ?_ ?_
                        rotate_left
                        · intro w' hBw'
                          first | (go_simp; done) | (go_simp; with_reducible rfl)
                        try simp only [Act.put, List.getElem_toArray, List.getElem_cons_zero, List.getElem_cons_succ, List.setIfInBounds_toArray, List.set_cons_zero, List.set_cons_succ]
                        refine pt_c ?_
                        (refine pt_put_row rfl (by rfl) 27 (.tmp 18) (.tmp 159) rfl Wd.heap.size (ctC cR) rfl rfl Z9 rfl (by kernel_rfl) (by rfl) (by have := hBd.size; have := HWQ.out; omega) ?_; intro w9 Z10 hb9; have V9 := V8.up (hbT.trans (hb9.below (fun q hq => by omega) hbT.size)))
                        try simp only [Act.put, List.getElem_toArray, List.getElem_cons_zero, List.getElem_cons_succ, List.setIfInBounds_toArray, List.set_cons_zero, List.set_cons_succ]
                        refine pt_q (v := ?_) rfl (by rfl) ?_ ?_
                        rotate_left
                        · intro w' hBw'
                          first | (go_simp; done) | (go_simp; with_reducible rfl)
                        try simp only [Act.put, List.getElem_toArray, List.getElem_cons_zero, List.getElem_cons_succ, List.setIfInBounds_toArray, List.set_cons_zero, List.set_cons_succ]
                        refine pt_done ?_
                        clear V8 ry y0 y1 hry6
                        go_wp2
                        go_roundg (T.length - (i + 1))
                        case rel => exact ⟨i + 1, by omega, rfl, by go_num, V9⟩
                        case measure => omega
                    · obtain rfl : m = 1 := by omega
                      go_wp2
                      refine wp_region_pt (fun j => wq.heap.size ≤ j) (.q 0 (.q 1 (.q 2 (.q 3 (.q 4 (.q 5 (.q 6 (.q 7 (.q 8 (.q 9 (.q 10 (.q 11 (.f 12 (.q 13 (.q 14 (.q 15 (.c 16 (.c 17 (.q 18 .done)))))) 16 (.c 12 (.q 13 (.q 14 (.q 15 (.c 17 (.q 18 .done))))))))))))))))))) (by kernel_rfl) (by kernel_rfl) (by kernel_rfl) (by decide) (fun _ _ d _ _ h => by cases d <;> exact h) (fun Wd hBd => ?_)
                      try simp only [Act.put, List.getElem_toArray, List.getElem_cons_zero, List.getElem_cons_succ, List.setIfInBounds_toArray, List.set_cons_zero, List.set_cons_succ]
                      have V8 := V6.out.up hBd
                      have ry := rangeAt_up hBd hry6
                      have y0 : ∀ w', But (fun j => wq.heap.size ≤ j) Wd w' → w'.cell? ⟨bT, offT + i * 5, none⟩ = some (.int .u32 y.from_) := fun w' h => h.cell (ry 0 _ rfl) (by omega)
                      have y1 : ∀ w', But (fun j => wq.heap.size ≤ j) Wd w' → w'.cell? ⟨bT, offT + i * 5 + 1, none⟩ = some (.int .u32 y.to) := fun w' h => h.cell (ry 1 _ rfl) (by omega)
                      refine pt_q (v := ?_) rfl (by rfl) ?_ ?_
                      rotate_left
                      · intro w' hBw'
                        first | (go_simp; done) | (go_simp; with_reducible rfl)
                      try simp only [Act.put, List.getElem_toArray, List.getElem_cons_zero, List.getElem_cons_succ, List.setIfInBounds_toArray, List.set_cons_zero, List.set_cons_succ]
                      refine pt_q (v := ?_) rfl (by rfl) ?_ ?_
                      rotate_left
                      · intro w' hBw'
                        first | (go_simp; done) | (go_simp; with_reducible rfl)
                      try simp only [Act.put, List.getElem_toArray, List.getElem_cons_zero, List.getElem_cons_succ, List.setIfInBounds_toArray, List.set_cons_zero, List.set_cons_succ]
                      refine pt_q (v := ?_) rfl (by rfl) ?_ ?_
                      rotate_left
                      · intro w' hBw'
                        first | (go_simp; done) | (go_simp; with_reducible rfl)
                      try simp only [Act.put, List.getElem_toArray, List.getElem_cons_zero, List.getElem_cons_succ, List.setIfInBounds_toArray, List.set_cons_zero, List.set_cons_succ]
                      refine pt_q (v := ?_) rfl (by rfl) ?_ ?_
                      rotate_left
                      · intro w' hBw'
                        first | (go_simp; done) | (go_simp; with_reducible rfl)
                      try simp only [Act.put, List.getElem_toArray, List.getElem_cons_zero, List.getElem_cons_succ, List.setIfInBounds_toArray, List.set_cons_zero, List.set_cons_succ]
                      refine pt_q (v := ?_) rfl (by rfl) ?_ ?_
                      rotate_left
                      · intro w' hBw'
                        first | (go_simp; done) | (go_simp; with_reducible rfl)
                      try simp only [Act.put, List.getElem_toArray, List.getElem_cons_zero, List.getElem_cons_succ, List.setIfInBounds_toArray, List.set_cons_zero, List.set_cons_succ]
                      refine pt_q (v := ?_) rfl (by rfl) ?_ ?_
                      rotate_left
                      · intro w' hBw'
                        first | (go_simp; done) | (go_simp; with_reducible rfl)
                      try simp only [Act.put, List.getElem_toArray, List.getElem_cons_zero, List.getElem_cons_succ, List.setIfInBounds_toArray, List.set_cons_zero, List.set_cons_succ]
                      refine pt_q (v := ?_) rfl (by rfl) ?_ ?_
                      rotate_left
                      · intro w' hBw'
                        first | (go_simp; done) | (go_simp; with_reducible rfl)
                      try simp only [Act.put, List.getElem_toArray, List.getElem_cons_zero, List.getElem_cons_succ, List.setIfInBounds_toArray, List.set_cons_zero, List.set_cons_succ]
                      refine pt_q (v := ?_) rfl (by rfl) ?_ ?_
                      rotate_left
                      · intro w' hBw'
                        first | (go_simp; done) | (go_simp; with_reducible rfl)
                      try simp only [Act.put, List.getElem_toArray, List.getElem_cons_zero, List.getElem_cons_succ, List.setIfInBounds_toArray, List.set_cons_zero, List.set_cons_succ]
                      refine pt_q (v := ?_) rfl (by rfl) ?_ ?_
                      rotate_left
                      · intro w' hBw'
                        first | (go_simp; done) | (go_simp; with_reducible rfl)
                      try simp only [Act.put, List.getElem_toArray, List.getElem_cons_zero, List.getElem_cons_succ, List.setIfInBounds_toArray, List.set_cons_zero, List.set_cons_succ]
                      refine pt_q (v := ?_) rfl (by rfl) ?_ ?_
                      rotate_left
                      · intro w' hBw'
                        first | (go_simp; done) | (go_simp; with_reducible rfl)
                      try simp only [Act.put, List.getElem_toArray, List.getElem_cons_zero, List.getElem_cons_succ, List.setIfInBounds_toArray, List.set_cons_zero, List.set_cons_succ]
                      refine pt_q (v := ?_) rfl (by rfl) ?_ ?_
                      rotate_left
                      · intro w' hBw'
                        first | (go_simp; done) | (go_simp; with_reducible rfl)
                      try simp only [Act.put, List.getElem_toArray, List.getElem_cons_zero, List.getElem_cons_succ, List.setIfInBounds_toArray, List.set_cons_zero, List.set_cons_succ]
                      refine pt_q (v := ?_) rfl (by rfl) ?_ ?_
                      rotate_left
                      · intro w' hBw'
                        first | (go_simp; done) | (go_simp; with_reducible rfl)
                      try simp only [Act.put, List.getElem_toArray, List.getElem_cons_zero, List.getElem_cons_succ, List.setIfInBounds_toArray, List.set_cons_zero, List.set_cons_succ]
                      refine pt_f ?_ ?_
                      · refine pt_step rfl (by rfl) (fun K hK => ?_)
                        go_simp
                        refine (pAt_c y.from_ y.to at_ _ V8.p).mono ?_
                        rw [← HcR.out, HbI.out]
                        rintro en w8 ⟨rfl, hb8⟩
                        go_wp2_with fail
                        refine hK.out _ _ (But.of_below hb8) ?_
                        clear hK K
                        try simp only [Act.put, List.getElem_toArray, List.getElem_cons_zero, List.getElem_cons_succ, List.setIfInBounds_toArray, List.set_cons_zero, List.set_cons_succ]
                        refine pt_q (v := ?_) rfl (by rfl) ?_ ?_
                        rotate_left
                        · intro w' hBw'
                          first | (go_simp; done) | (go_simp; with_reducible rfl)
                        try simp only [Act.put, List.getElem_toArray, List.getElem_cons_zero, List.getElem_cons_succ, List.setIfInBounds_toArray, List.set_cons_zero, List.set_cons_succ]
                        refine pt_q (v := ?_) rfl (by rfl) ?_ ?_
                        rotate_left
                        · intro w' hBw'
                          first | (go_simp; done) | (go_simp; with_reducible rfl)
                        try simp only [Act.put, List.getElem_toArray, List.getElem_cons_zero, List.getElem_cons_succ, List.setIfInBounds_toArray, List.set_cons_zero, List.set_cons_succ]
                        refine pt_q (v := ?_) rfl (by rfl) ?_ ?_
                        rotate_left
                        · intro w' hBw'
                          first | (go_simp; done) | (go_simp; with_reducible rfl)
                        try simp only [Act.put, List.getElem_toArray, List.getElem_cons_zero, List.getElem_cons_succ, List.setIfInBounds_toArray, List.set_cons_zero, List.set_cons_succ]
                        refine pt_c ?_
                        refine pt_step rfl (by rfl) (fun K hK => ?_)
                        go_simp
                        have hbT := below_up hb8 (below_alloc w8 (.cells (ctC zct0).toArray 27))
                        refine hK.out _ _ (But.alloc _ _) ?_
                        clear hK K
                        try simp only [Act.put, List.getElem_toArray, List.getElem_cons_zero, List.getElem_cons_succ, List.setIfInBounds_toArray, List.set_cons_zero, List.set_cons_succ]
                        refine pt_c ?_
                        refine pt_step rfl (by rfl) (fun K hK => ?_)
                        go_simp
                        have V9 := V8.up (below_up hb8 (below_alloc w8 (.cells (ctC cR).toArray 27)))
                        refine hK.out _ _ (But.realloc _ _ _ (by have := hBd.size; have := hb8.size; have := HWQ.out; omega)) ?_
                        clear hK K
                        try simp only [Act.put, List.getElem_toArray, List.getElem_cons_zero, List.getElem_cons_succ, List.setIfInBounds_toArray, List.set_cons_zero, List.set_cons_succ]
                        refine pt_q (v := ?_) rfl (by rfl) ?_ ?_
                        rotate_left
                        · intro w' hBw'
                          first | (go_simp; done) | (go_simp; with_reducible rfl)
                        try simp only [Act.put, List.getElem_toArray, List.getElem_cons_zero, List.getElem_cons_succ, List.setIfInBounds_toArray, List.set_cons_zero, List.set_cons_succ]
                        refine pt_done ?_
                        clear V8 ry y0 y1 hry6
                        go_wp2
                        go_roundg (T.length - (i + 1))
                        case rel => exact ⟨i + 1, by omega, rfl, by go_num, V9⟩
                        case measure => omega
                      · refine pt_step rfl (by rfl) (fun K hK => ?_)
                        go_simp
                        have Va := V8.up (below_alloc Wd (.cells (ctC zct0).toArray 27))
                        have Z8 := RowAt.new Wd (ctC zct0).toArray 27
                        refine hK.out _ _ (But.alloc _ _) ?_
                        clear hK K
                        try simp only [Act.put, List.getElem_toArray, List.getElem_cons_zero, List.getElem_cons_succ, List.setIfInBounds_toArray, List.set_cons_zero, List.set_cons_succ]
                        refine pt_c ?_
                        refine pt_step rfl (by rfl) (fun K hK => ?_)
                        go_simp
                        refine (pAt_c y.from_ y.to at_ _ Va.p).mono ?_
                        rw [← HcR.out, HbI.out]
                        rintro en w8 ⟨rfl, hb8⟩
                        go_wp2_with fail
                        have hbT := below_up (below_alloc Wd (.cells (ctC zct0).toArray 27)) hb8
                        have Z9 := Z8.below hb8
                        refine hK.out _ _ (But.of_below hb8) ?_
                        clear hK K
                        try simp only [Act.put, List.getElem_toArray, List.getElem_cons_zero, List.getElem_cons_succ, List.setIfInBounds_toArray, List.set_cons_zero, List.set_cons_succ]
                        refine pt_q (v := ?_) rfl (by rfl) ?_ ?_
                        rotate_left
                        · intro w' hBw'
                          first | (go_simp; done) | (go_simp; with_reducible rfl)
                        try simp only [Act.put, List.getElem_toArray, List.getElem_cons_zero, List.getElem_cons_succ, List.setIfInBounds_toArray, List.set_cons_zero, List.set_cons_succ]
                        refine pt_q (v := ?_) rfl (by rfl) ?_ ?_
                        rotate_left
                        · intro w' hBw'
                          first | (go_simp; done) | (go_simp; with_reducible rfl)
                        try simp only [Act.put, List.getElem_toArray, List.getElem_cons_zero, List.getElem_cons_succ, List.setIfInBounds_toArray, List.set_cons_zero, List.set_cons_succ]
                        refine pt_q (v := ?_) rfl (by rfl) ?_ ?_
                        rotate_left
                        · intro w' hBw'
                          first | (go_simp; done) | (go_simp; with_reducible rfl)
                        try simp only [Act.put, List.getElem_toArray, List.getElem_cons_zero, List.getElem_cons_succ, List.setIfInBounds_toArray, List.set_cons_zero, List.set_cons_succ]
                        refine pt_c ?_
                        (refine pt_put_row rfl (by rfl) 27 (.tmp 18) (.tmp 159) rfl Wd.heap.size (ctC cR) rfl rfl Z9 rfl (by kernel_rfl) (by rfl) (by have := hBd.size; have := HWQ.out; omega) ?_; intro w9 Z10 hb9; have V9 := V8.up (hbT.trans (hb9.below (fun q hq => by omega) hbT.size)))
                        try simp only [Act.put, List.getElem_toArray, List.getElem_cons_zero, List.getElem_cons_succ, List.setIfInBounds_toArray, List.set_cons_zero, List.set_cons_succ]
                        refine pt_q (v := ?_) rfl (by rfl) ?_ ?_
                        rotate_left
                        · intro w' hBw'
                          first | (go_simp; done) | (go_simp; with_reducible rfl)
                        try simp only [Act.put, List.getElem_toArray, List.getElem_cons_zero, List.getElem_cons_succ, List.setIfInBounds_toArray, List.set_cons_zero, List.set_cons_succ]
                        refine pt_done ?_
                        clear V8 ry y0 y1 hry6
                        go_wp2
                        go_roundg (T.length - (i + 1))
                        case rel => exact ⟨i + 1, by omega, rfl, by go_num, V9⟩
                        case measure => omega
              · obtain rfl : i = T.length := by omega
                have VW := Lib.hid V5
                clear V5
                go_wp2_with (go_at_call 11; refine (cWorks_c _).mono ?_; rintro en w10 ⟨rfl, hb⟩; replace VW := Lib.hid (VW.out.up hb))
                go_ret
                exact ⟨rfl, VW.out.below⟩
          · have hLL : L' = L := HL'.out.trans (addF_not (fun h => he0 (HE.out.trans h)))
            have HLL := Lib.hid hLL
            have heb : (e == 0) = false := by rw [beq_eq_false_iff_ne]; exact he0
            clear hLL
            go_wp2_with (first
              | (go_at_call 16; have S2 := S1; clear S2 S1; refine (pSame_c _ VV.out.p VV.out.o).mono ?_; simp only [decide_true]; rintro en w5 ⟨rfl, hb⟩; replace VV := Lib.hid (VV.out.up hb); have hrm := VV.out.more.range; clear hb)
              | (refine wpList_load_mid rfl 27 (.tmp 4) rfl w.heap.size 0 rfl (ctC more) _ hrm Try.underlying27 rfl (by kernel_rfl) ?_)
              | (go_at_call 13; refine (hadd _ VV.out.p).mono ?_; rintro en w6 ⟨v6, rfl, HP6, hb, hv6⟩; have V6 := VV.out.addP HP6 hb hv6 VV.out.size0; rw [HLL.out] at V6; clear hb hv6 HP6 VV hrm)
              | (go_at_call 16; refine (pSame_c _ V6.p V6.o).mono ?_; simp only [decide_true]; rintro en w9 ⟨rfl, hb⟩; have VZ := Lib.hid (V6.up hb); clear hb)
              | (go_at_call 9; refine (num_cc _ _).mono ?_; rintro en ww ⟨rfl, rfl⟩))
            obtain ⟨vPz, hvPz⟩ : ∃ vPz, vPz = v6 := ⟨_, rfl⟩
            rw [← hvPz] at VZ
            have hlT : T.length ≤ 9223372036854775807 := by omega
            go_loopg [14] T.length (fun gh t wr => ∃ (i : Nat), i ≤ T.length ∧ gh = T.length - i ∧ t = .int .i64 i ∧ CH w wr more B0 (w.heap.size + 1) O vPz vO L L (.slice a9 T.length c9) T)
            case atStart => exact ⟨0, Nat.zero_le _, rfl, rfl, VZ.out⟩
            case round =>
              clear VZ
              obtain ⟨i, hi, rfl, rfl, V5⟩ := hrel
              by_cases hlt : i < T.length
              · have hltI : (i : Int) < (T.length : Int) := by omega
                have hi0 : (0 : Int) ≤ (i : Int) := by omega
                obtain ⟨bT, offT, ha9, hry⟩ := (Sl.of_own V5.own).rec_at (cells := ctC) (sz := 5) (fun _ => rfl) hlt hlt
                subst ha9
                have HAT := HA.out.at_ T[i] at_
                have HON := HA.out.one T[i] at_
                have Hry := Lib.hid (fun (w' : World) (h : CH w w' more B0 (w.heap.size + 1) O vPz vO L L (.slice (some ⟨bT, offT, none⟩) T.length c9) T) => show w'.rangeAt bT (offT + i * 5) (ctC T[i]) by
                  obtain ⟨b', off', e', hr'⟩ := (Sl.of_own h.own).rec_at (cells := ctC) (sz := 5) (fun _ => rfl) hlt hlt
                  obtain ⟨rfl, rfl⟩ : bT = b' ∧ offT = off' := by simpa using e'
                  exact hr')
                generalize hyy : T[i] = y at *
                have HON2 := Lib.hid HON
                have HAT2 := Lib.hid HAT
                have HV5 := Lib.hid V5
                clear HON HAT hyy hry V5
                go_wp2
                go_loopg [15, 16] T.length (fun gh a b wr => ∃ (k m : Nat), k ≤ T.length ∧ gh = T.length - k ∧ a = .int .i64 m ∧ b = .int .i64 k ∧ RowKit.Hid (((T.take k).filter (qB y at_)).length = m) ∧ CH w wr more B0 (w.heap.size + 1) O vPz vO L L (.slice (some ⟨bT, offT, none⟩) T.length c9) T)
                case atStart => exact ⟨0, 0, Nat.zero_le _, rfl, rfl, rfl, Lib.hid rfl, HV5.out⟩
                case round =>
                  clear HV5
                  obtain ⟨k, m, hk, rfl, rfl, rfl, HC, V5⟩ := hrel
                  by_cases hkl : k < T.length
                  · have hkI : (k : Int) < (T.length : Int) := by omega
                    obtain ⟨b', off', e', hr⟩ := (Sl.of_own V5.own).rec_at (cells := ctC) (sz := 5) (fun _ => rfl) hkl hkl
                    obtain ⟨rfl, rfl⟩ : bT = b' ∧ offT = off' := by simpa using e'
                    have HF := Lib.hid (filter_succ (qB y at_) hkl)
                    have hm40 : m ≤ 40 := by
                      have h1 := HC.out
                      have h2 := List.length_filter_le (qB y at_) (T.take k)
                      rw [List.length_take] at h2
                      omega
                    have hry6 := Hry.out _ (V5.up (below_alloc wr (.cells (ctC T[k]).toArray 27)))
                    have V6 := V5.up (below_alloc wr (.cells (ctC T[k]).toArray 27))
                    have N6 := RowAt.new wr (ctC T[k]).toArray 27
                    generalize T[k] = x at *
                    clear V5
                    go_wp2_with (first
                      | (refine wpList_load_mid rfl 27 (.tmp 109) rfl bT (offT + k * 5) rfl (ctC x) _ hr Try.underlying27 rfl (by kernel_rfl) ?_; clear hr))
                    obtain ⟨N17, hN17⟩ : ∃ N, N = wr.heap.size := ⟨_, rfl⟩
                    rw [← hN17] at N6
                    try rw [← hN17]
                    clear hN17
                    refine wp_region_pi [(0, false), (1, false), (2, false), (3, false), (4, false), (5, false), (6, false), (7, false), (8, false), (9, false), (10, false), (11, false), (12, false), (13, false), (14, false), (15, false), (16, false), (17, false), (18, false), (19, false), (20, false), (21, false), (22, false), (23, false), (24, false), (25, false), (26, false), (27, false), (28, false), (29, false), (30, false), (31, false)] (by kernel_rfl) (by kernel_rfl) (by kernel_rfl) rfl (fun _ _ d _ _ h => by cases d <;> exact h) (fun Wd hBd => ?_)
                    try simp only [Act.put, List.getElem_toArray, List.getElem_cons_zero, List.getElem_cons_succ, List.setIfInBounds_toArray, List.set_cons_zero, List.set_cons_succ]
                    have VV := V6.up hBd
                    have xr := N6.below hBd
                    have x0 : ∀ w', Below Wd.heap.size Wd w' → w'.cell? ⟨N17, 0, none⟩ = some (.int .u32 x.from_) := fun w' h => cell_up h (xr.cell (i := 0) rfl)
                    have x1 : ∀ w', Below Wd.heap.size Wd w' → w'.cell? ⟨N17, 1, none⟩ = some (.int .u32 x.to) := fun w' h => cell_up h (xr.cell (i := 1) rfl)
                    have x2 : ∀ w', Below Wd.heap.size Wd w' → w'.cell? ⟨N17, 2, none⟩ = some (.int .u64 x.a) := fun w' h => cell_up h (xr.cell (i := 2) rfl)
                    have x3 : ∀ w', Below Wd.heap.size Wd w' → w'.cell? ⟨N17, 3, none⟩ = some (.int .u64 x.b) := fun w' h => cell_up h (xr.cell (i := 3) rfl)
                    have ry := rangeAt_up hBd hry6
                    have y0 : ∀ w', Below Wd.heap.size Wd w' → w'.cell? ⟨bT, offT + i * 5, none⟩ = some (.int .u32 y.from_) := fun w' h => cell_up h (ry 0 _ rfl)
                    have y1 : ∀ w', Below Wd.heap.size Wd w' → w'.cell? ⟨bT, offT + i * 5 + 1, none⟩ = some (.int .u32 y.to) := fun w' h => cell_up h (ry 1 _ rfl)
                    refine pi_q (v := ?_) rfl (by rfl) ?_ ?_
                    rotate_left
                    · intro w' hBw'
                      first | (go_simp; done) | (go_simp; with_reducible rfl)
                    try simp only [Act.put, List.getElem_toArray, List.getElem_cons_zero, List.getElem_cons_succ, List.setIfInBounds_toArray, List.set_cons_zero, List.set_cons_succ]
                    refine pi_q (v := ?_) rfl (by rfl) ?_ ?_
                    rotate_left
                    · intro w' hBw'
                      first | (go_simp; done) | (go_simp; with_reducible rfl)
                    try simp only [Act.put, List.getElem_toArray, List.getElem_cons_zero, List.getElem_cons_succ, List.setIfInBounds_toArray, List.set_cons_zero, List.set_cons_succ]
                    refine pi_q (v := ?_) rfl (by rfl) ?_ ?_
                    rotate_left
                    · intro w' hBw'
                      first | (go_simp; done) | (go_simp; with_reducible rfl)
                    try simp only [Act.put, List.getElem_toArray, List.getElem_cons_zero, List.getElem_cons_succ, List.setIfInBounds_toArray, List.set_cons_zero, List.set_cons_succ]
                    refine pi_q (v := ?_) rfl (by rfl) ?_ ?_
                    rotate_left
                    · intro w' hBw'
                      first | (go_simp; done) | (go_simp; with_reducible rfl)
                    try simp only [Act.put, List.getElem_toArray, List.getElem_cons_zero, List.getElem_cons_succ, List.setIfInBounds_toArray, List.set_cons_zero, List.set_cons_succ]
                    refine pi_q (v := ?_) rfl (by rfl) ?_ ?_
                    rotate_left
                    · intro w' hBw'
                      first | (go_simp; done) | (go_simp; with_reducible rfl)
                    try simp only [Act.put, List.getElem_toArray, List.getElem_cons_zero, List.getElem_cons_succ, List.setIfInBounds_toArray, List.set_cons_zero, List.set_cons_succ]
                    refine pi_q (v := ?_) rfl (by rfl) ?_ ?_
                    rotate_left
                    · intro w' hBw'
                      first | (go_simp; done) | (go_simp; with_reducible rfl)
                    try simp only [Act.put, List.getElem_toArray, List.getElem_cons_zero, List.getElem_cons_succ, List.setIfInBounds_toArray, List.set_cons_zero, List.set_cons_succ]
                    refine pi_q (v := ?_) rfl (by rfl) ?_ ?_
                    rotate_left
                    · intro w' hBw'
                      first | (go_simp; done) | (go_simp; with_reducible rfl)
                    try simp only [Act.put, List.getElem_toArray, List.getElem_cons_zero, List.getElem_cons_succ, List.setIfInBounds_toArray, List.set_cons_zero, List.set_cons_succ]
                    refine pi_q (v := ?_) rfl (by rfl) ?_ ?_
                    rotate_left
                    · intro w' hBw'
                      first | (go_simp; done) | (go_simp; with_reducible rfl)
                    try simp only [Act.put, List.getElem_toArray, List.getElem_cons_zero, List.getElem_cons_succ, List.setIfInBounds_toArray, List.set_cons_zero, List.set_cons_succ]
                    refine pi_q (v := ?_) rfl (by rfl) ?_ ?_
                    rotate_left
                    · intro w' hBw'
                      first | (go_simp; done) | (go_simp; with_reducible rfl)
                    try simp only [Act.put, List.getElem_toArray, List.getElem_cons_zero, List.getElem_cons_succ, List.setIfInBounds_toArray, List.set_cons_zero, List.set_cons_succ]
                    cases hb1 : (x.from_ == y.from_) with
                    | false =>
                      have eb1 : decide (x.from_ = y.from_) = false := by simpa using hb1
                      refine pi_no rfl (by rfl) ?_
                      try simp only [Act.put, List.getElem_toArray, List.getElem_cons_zero, List.getElem_cons_succ, List.setIfInBounds_toArray, List.set_cons_zero, List.set_cons_succ]
                      refine pi_no rfl (by rfl) ?_
                      try simp only [Act.put, List.getElem_toArray, List.getElem_cons_zero, List.getElem_cons_succ, List.setIfInBounds_toArray, List.set_cons_zero, List.set_cons_succ]
                      refine pi_no rfl (by rfl) ?_
                      try simp only [Act.put, List.getElem_toArray, List.getElem_cons_zero, List.getElem_cons_succ, List.setIfInBounds_toArray, List.set_cons_zero, List.set_cons_succ]
                      refine pi_no rfl (by rfl) ?_
                      try simp only [Act.put, List.getElem_toArray, List.getElem_cons_zero, List.getElem_cons_succ, List.setIfInBounds_toArray, List.set_cons_zero, List.set_cons_succ]
                      refine pi_no rfl (by rfl) ?_
                      try simp only [Act.put, List.getElem_toArray, List.getElem_cons_zero, List.getElem_cons_succ, List.setIfInBounds_toArray, List.set_cons_zero, List.set_cons_succ]
                      refine pi_no rfl (by rfl) ?_
                      try simp only [Act.put, List.getElem_toArray, List.getElem_cons_zero, List.getElem_cons_succ, List.setIfInBounds_toArray, List.set_cons_zero, List.set_cons_succ]
                      refine pi_no rfl (by rfl) ?_
                      try simp only [Act.put, List.getElem_toArray, List.getElem_cons_zero, List.getElem_cons_succ, List.setIfInBounds_toArray, List.set_cons_zero, List.set_cons_succ]
                      refine pi_no rfl (by rfl) ?_
                      try simp only [Act.put, List.getElem_toArray, List.getElem_cons_zero, List.getElem_cons_succ, List.setIfInBounds_toArray, List.set_cons_zero, List.set_cons_succ]
                      refine pi_q (v := ?_) rfl (by rfl) ?_ ?_
                      rotate_left
                      · intro w' hBw'
                        first | (go_simp; done) | (go_simp; with_reducible rfl)
                      try simp only [Act.put, List.getElem_toArray, List.getElem_cons_zero, List.getElem_cons_succ, List.setIfInBounds_toArray, List.set_cons_zero, List.set_cons_succ]
                      refine pi_q (v := ?_) rfl (by rfl) ?_ ?_
                      rotate_left
                      · intro w' hBw'
                        first | (go_simp; done) | (go_simp; with_reducible rfl)
                      try simp only [Act.put, List.getElem_toArray, List.getElem_cons_zero, List.getElem_cons_succ, List.setIfInBounds_toArray, List.set_cons_zero, List.set_cons_succ]
                      refine pi_no rfl (by rfl) ?_
                      try simp only [Act.put, List.getElem_toArray, List.getElem_cons_zero, List.getElem_cons_succ, List.setIfInBounds_toArray, List.set_cons_zero, List.set_cons_succ]
                      refine pi_no rfl (by rfl) ?_
                      try simp only [Act.put, List.getElem_toArray, List.getElem_cons_zero, List.getElem_cons_succ, List.setIfInBounds_toArray, List.set_cons_zero, List.set_cons_succ]
                      refine pi_no rfl (by rfl) ?_
                      try simp only [Act.put, List.getElem_toArray, List.getElem_cons_zero, List.getElem_cons_succ, List.setIfInBounds_toArray, List.set_cons_zero, List.set_cons_succ]
                      refine pi_no rfl (by rfl) ?_
                      try simp only [Act.put, List.getElem_toArray, List.getElem_cons_zero, List.getElem_cons_succ, List.setIfInBounds_toArray, List.set_cons_zero, List.set_cons_succ]
                      refine pi_no rfl (by rfl) ?_
                      try simp only [Act.put, List.getElem_toArray, List.getElem_cons_zero, List.getElem_cons_succ, List.setIfInBounds_toArray, List.set_cons_zero, List.set_cons_succ]
                      refine pi_q (v := ?_) rfl (by rfl) ?_ ?_
                      rotate_left
                      · intro w' hBw'
                        first | (go_simp; done) | (go_simp; with_reducible rfl)
                      try simp only [Act.put, List.getElem_toArray, List.getElem_cons_zero, List.getElem_cons_succ, List.setIfInBounds_toArray, List.set_cons_zero, List.set_cons_succ]
                      refine pi_q (v := ?_) rfl (by rfl) ?_ ?_
                      rotate_left
                      · intro w' hBw'
                        first | (go_simp; done) | (go_simp; with_reducible rfl)
                      try simp only [Act.put, List.getElem_toArray, List.getElem_cons_zero, List.getElem_cons_succ, List.setIfInBounds_toArray, List.set_cons_zero, List.set_cons_succ]
                      refine pi_no rfl (by rfl) ?_
                      try simp only [Act.put, List.getElem_toArray, List.getElem_cons_zero, List.getElem_cons_succ, List.setIfInBounds_toArray, List.set_cons_zero, List.set_cons_succ]
                      refine pi_no rfl (by rfl) ?_
                      try simp only [Act.put, List.getElem_toArray, List.getElem_cons_zero, List.getElem_cons_succ, List.setIfInBounds_toArray, List.set_cons_zero, List.set_cons_succ]
                      refine pi_no rfl (by rfl) ?_
                      try simp only [Act.put, List.getElem_toArray, List.getElem_cons_zero, List.getElem_cons_succ, List.setIfInBounds_toArray, List.set_cons_zero, List.set_cons_succ]
                      refine pi_no rfl (by rfl) ?_
                      try simp only [Act.put, List.getElem_toArray, List.getElem_cons_zero, List.getElem_cons_succ, List.setIfInBounds_toArray, List.set_cons_zero, List.set_cons_succ]
                      refine pi_no rfl (by rfl) ?_
                      try simp only [Act.put, List.getElem_toArray, List.getElem_cons_zero, List.getElem_cons_succ, List.setIfInBounds_toArray, List.set_cons_zero, List.set_cons_succ]
                      refine pi_q (v := ?_) rfl (by rfl) ?_ ?_
                      rotate_left
                      · intro w' hBw'
                        first | (go_simp; done) | (go_simp; with_reducible rfl)
                      try simp only [Act.put, List.getElem_toArray, List.getElem_cons_zero, List.getElem_cons_succ, List.setIfInBounds_toArray, List.set_cons_zero, List.set_cons_succ]
                      refine pi_nil ?_
                      have HC2 := Lib.hid (show qB y at_ x = false by simp [qB, eb1])
                      have V7 := Lib.hid VV
                      clear VV xr x0 x1 x2 x3 ry y0 y1 hry6 N6 V6 hBd
                      go_wp2
                      go_roundg (T.length - (k + 1))
                      case rel => exact ⟨k + 1, m, by omega, rfl, rfl, by go_num, Lib.hid (by rw [HF.out, HC.out, HC2.out]; rfl), V7.out⟩
                      case measure => omega
                    | true =>
                      have eb1 : decide (x.from_ = y.from_) = true := by simpa using hb1
                      refine pi_q (v := ?_) rfl (by rfl) ?_ ?_
                      rotate_left
                      · intro w' hBw'
                        first | (go_simp; done) | (go_simp; with_reducible rfl)
                      try simp only [Act.put, List.getElem_toArray, List.getElem_cons_zero, List.getElem_cons_succ, List.setIfInBounds_toArray, List.set_cons_zero, List.set_cons_succ]
                      refine pi_q (v := ?_) rfl (by rfl) ?_ ?_
                      rotate_left
                      · intro w' hBw'
                        first | (go_simp; done) | (go_simp; with_reducible rfl)
                      try simp only [Act.put, List.getElem_toArray, List.getElem_cons_zero, List.getElem_cons_succ, List.setIfInBounds_toArray, List.set_cons_zero, List.set_cons_succ]
                      refine pi_q (v := ?_) rfl (by rfl) ?_ ?_
                      rotate_left
                      · intro w' hBw'
                        first | (go_simp; done) | (go_simp; with_reducible rfl)
                      try simp only [Act.put, List.getElem_toArray, List.getElem_cons_zero, List.getElem_cons_succ, List.setIfInBounds_toArray, List.set_cons_zero, List.set_cons_succ]
                      refine pi_q (v := ?_) rfl (by rfl) ?_ ?_
                      rotate_left
                      · intro w' hBw'
                        first | (go_simp; done) | (go_simp; with_reducible rfl)
                      try simp only [Act.put, List.getElem_toArray, List.getElem_cons_zero, List.getElem_cons_succ, List.setIfInBounds_toArray, List.set_cons_zero, List.set_cons_succ]
                      refine pi_q (v := ?_) rfl (by rfl) ?_ ?_
                      rotate_left
                      · intro w' hBw'
                        first | (go_simp; done) | (go_simp; with_reducible rfl)
                      try simp only [Act.put, List.getElem_toArray, List.getElem_cons_zero, List.getElem_cons_succ, List.setIfInBounds_toArray, List.set_cons_zero, List.set_cons_succ]
                      refine pi_q (v := ?_) rfl (by rfl) ?_ ?_
                      rotate_left
                      · intro w' hBw'
                        first | (go_simp; done) | (go_simp; with_reducible rfl)
                      try simp only [Act.put, List.getElem_toArray, List.getElem_cons_zero, List.getElem_cons_succ, List.setIfInBounds_toArray, List.set_cons_zero, List.set_cons_succ]
                      refine pi_q (v := ?_) rfl (by rfl) ?_ ?_
                      rotate_left
                      · intro w' hBw'
                        first | (go_simp; done) | (go_simp; with_reducible rfl)
                      try simp only [Act.put, List.getElem_toArray, List.getElem_cons_zero, List.getElem_cons_succ, List.setIfInBounds_toArray, List.set_cons_zero, List.set_cons_succ]
                      refine pi_q (v := ?_) rfl (by rfl) ?_ ?_
                      rotate_left
                      · intro w' hBw'
                        first | (go_simp; done) | (go_simp; with_reducible rfl)
                      try simp only [Act.put, List.getElem_toArray, List.getElem_cons_zero, List.getElem_cons_succ, List.setIfInBounds_toArray, List.set_cons_zero, List.set_cons_succ]
                      cases hb2 : (x.to == y.to) with
                      | false =>
                        have eb2 : decide (x.to = y.to) = false := by simpa using hb2
                        refine pi_q (v := ?_) rfl (by rfl) ?_ ?_
                        rotate_left
                        · intro w' hBw'
                          first | (go_simp; done) | (go_simp; with_reducible rfl)
                        try simp only [Act.put, List.getElem_toArray, List.getElem_cons_zero, List.getElem_cons_succ, List.setIfInBounds_toArray, List.set_cons_zero, List.set_cons_succ]
                        refine pi_q (v := ?_) rfl (by rfl) ?_ ?_
                        rotate_left
                        · intro w' hBw'
                          first | (go_simp; done) | (go_simp; with_reducible rfl)
                        try simp only [Act.put, List.getElem_toArray, List.getElem_cons_zero, List.getElem_cons_succ, List.setIfInBounds_toArray, List.set_cons_zero, List.set_cons_succ]
                        refine pi_no rfl (by rfl) ?_
                        try simp only [Act.put, List.getElem_toArray, List.getElem_cons_zero, List.getElem_cons_succ, List.setIfInBounds_toArray, List.set_cons_zero, List.set_cons_succ]
                        refine pi_no rfl (by rfl) ?_
                        try simp only [Act.put, List.getElem_toArray, List.getElem_cons_zero, List.getElem_cons_succ, List.setIfInBounds_toArray, List.set_cons_zero, List.set_cons_succ]
                        refine pi_no rfl (by rfl) ?_
                        try simp only [Act.put, List.getElem_toArray, List.getElem_cons_zero, List.getElem_cons_succ, List.setIfInBounds_toArray, List.set_cons_zero, List.set_cons_succ]
                        refine pi_no rfl (by rfl) ?_
                        try simp only [Act.put, List.getElem_toArray, List.getElem_cons_zero, List.getElem_cons_succ, List.setIfInBounds_toArray, List.set_cons_zero, List.set_cons_succ]
                        refine pi_no rfl (by rfl) ?_
                        try simp only [Act.put, List.getElem_toArray, List.getElem_cons_zero, List.getElem_cons_succ, List.setIfInBounds_toArray, List.set_cons_zero, List.set_cons_succ]
                        refine pi_q (v := ?_) rfl (by rfl) ?_ ?_
                        rotate_left
                        · intro w' hBw'
                          first | (go_simp; done) | (go_simp; with_reducible rfl)
                        try simp only [Act.put, List.getElem_toArray, List.getElem_cons_zero, List.getElem_cons_succ, List.setIfInBounds_toArray, List.set_cons_zero, List.set_cons_succ]
                        refine pi_q (v := ?_) rfl (by rfl) ?_ ?_
                        rotate_left
                        · intro w' hBw'
                          first | (go_simp; done) | (go_simp; with_reducible rfl)
                        try simp only [Act.put, List.getElem_toArray, List.getElem_cons_zero, List.getElem_cons_succ, List.setIfInBounds_toArray, List.set_cons_zero, List.set_cons_succ]
                        refine pi_no rfl (by rfl) ?_
                        try simp only [Act.put, List.getElem_toArray, List.getElem_cons_zero, List.getElem_cons_succ, List.setIfInBounds_toArray, List.set_cons_zero, List.set_cons_succ]
                        refine pi_no rfl (by rfl) ?_
                        try simp only [Act.put, List.getElem_toArray, List.getElem_cons_zero, List.getElem_cons_succ, List.setIfInBounds_toArray, List.set_cons_zero, List.set_cons_succ]
                        refine pi_no rfl (by rfl) ?_
                        try simp only [Act.put, List.getElem_toArray, List.getElem_cons_zero, List.getElem_cons_succ, List.setIfInBounds_toArray, List.set_cons_zero, List.set_cons_succ]
                        refine pi_no rfl (by rfl) ?_
                        try simp only [Act.put, List.getElem_toArray, List.getElem_cons_zero, List.getElem_cons_succ, List.setIfInBounds_toArray, List.set_cons_zero, List.set_cons_succ]
                        refine pi_no rfl (by rfl) ?_
                        try simp only [Act.put, List.getElem_toArray, List.getElem_cons_zero, List.getElem_cons_succ, List.setIfInBounds_toArray, List.set_cons_zero, List.set_cons_succ]
                        refine pi_q (v := ?_) rfl (by rfl) ?_ ?_
                        rotate_left
                        · intro w' hBw'
                          first | (go_simp; done) | (go_simp; with_reducible rfl)
                        try simp only [Act.put, List.getElem_toArray, List.getElem_cons_zero, List.getElem_cons_succ, List.setIfInBounds_toArray, List.set_cons_zero, List.set_cons_succ]
                        refine pi_nil ?_
                        have HC2 := Lib.hid (show qB y at_ x = false by simp [qB, eb2])
                        have V7 := Lib.hid VV
                        clear VV xr x0 x1 x2 x3 ry y0 y1 hry6 N6 V6 hBd
                        go_wp2
                        go_roundg (T.length - (k + 1))
                        case rel => exact ⟨k + 1, m, by omega, rfl, rfl, by go_num, Lib.hid (by rw [HF.out, HC.out, HC2.out]; rfl), V7.out⟩
                        case measure => omega
                      | true =>
                        have eb2 : decide (x.to = y.to) = true := by simpa using hb2
                        refine pi_q (v := ?_) rfl (by rfl) ?_ ?_
                        rotate_left
                        · intro w' hBw'
                          first | (go_simp; done) | (go_simp; with_reducible rfl)
                        try simp only [Act.put, List.getElem_toArray, List.getElem_cons_zero, List.getElem_cons_succ, List.setIfInBounds_toArray, List.set_cons_zero, List.set_cons_succ]
                        refine pi_q (v := ?_) rfl (by rfl) ?_ ?_
                        rotate_left
                        · intro w' hBw'
                          first | (go_simp; done) | (go_simp; with_reducible rfl)
                        try simp only [Act.put, List.getElem_toArray, List.getElem_cons_zero, List.getElem_cons_succ, List.setIfInBounds_toArray, List.set_cons_zero, List.set_cons_succ]
                        refine pi_q (v := ?_) rfl (by rfl) ?_ ?_
                        rotate_left
                        · intro w' hBw'
                          first | (go_simp; done) | (go_simp; with_reducible rfl)
                        try simp only [Act.put, List.getElem_toArray, List.getElem_cons_zero, List.getElem_cons_succ, List.setIfInBounds_toArray, List.set_cons_zero, List.set_cons_succ]
                        refine pi_q (v := ?_) rfl (by rfl) ?_ ?_
                        rotate_left
                        · intro w' hBw'
                          first | (go_simp; done) | (go_simp; with_reducible rfl)
                        try simp only [Act.put, List.getElem_toArray, List.getElem_cons_zero, List.getElem_cons_succ, List.setIfInBounds_toArray, List.set_cons_zero, List.set_cons_succ]
                        refine pi_q (v := ?_) rfl (by rfl) ?_ ?_
                        rotate_left
                        · intro w' hBw'
                          first | (go_simp; done) | (go_simp; with_reducible rfl)
                        try simp only [Act.put, List.getElem_toArray, List.getElem_cons_zero, List.getElem_cons_succ, List.setIfInBounds_toArray, List.set_cons_zero, List.set_cons_succ]
                        refine pi_q (v := ?_) rfl (by rfl) ?_ ?_
                        rotate_left
                        · intro w' hBw'
                          first | (go_simp; done) | (go_simp; with_reducible rfl)
                        try simp only [Act.put, List.getElem_toArray, List.getElem_cons_zero, List.getElem_cons_succ, List.setIfInBounds_toArray, List.set_cons_zero, List.set_cons_succ]
                        refine pi_q (v := ?_) rfl (by rfl) ?_ ?_
                        rotate_left
                        · intro w' hBw'
                          first | (go_simp; done) | (go_simp; with_reducible rfl)
                        try simp only [Act.put, List.getElem_toArray, List.getElem_cons_zero, List.getElem_cons_succ, List.setIfInBounds_toArray, List.set_cons_zero, List.set_cons_succ]
                        cases hb3 : decide (x.a ≤ at_) with
                        | false =>
                          have eb3 : decide (x.a ≤ at_) = false := by simpa using hb3
                          refine pi_q (v := ?_) rfl (by rfl) ?_ ?_
                          rotate_left
                          · intro w' hBw'
                            first | (go_simp; done) | (go_simp; with_reducible rfl)
                          try simp only [Act.put, List.getElem_toArray, List.getElem_cons_zero, List.getElem_cons_succ, List.setIfInBounds_toArray, List.set_cons_zero, List.set_cons_succ]
                          refine pi_q (v := ?_) rfl (by rfl) ?_ ?_
                          rotate_left
                          · intro w' hBw'
                            first | (go_simp; done) | (go_simp; with_reducible rfl)
                          try simp only [Act.put, List.getElem_toArray, List.getElem_cons_zero, List.getElem_cons_succ, List.setIfInBounds_toArray, List.set_cons_zero, List.set_cons_succ]
                          refine pi_no rfl (by rfl) ?_
                          try simp only [Act.put, List.getElem_toArray, List.getElem_cons_zero, List.getElem_cons_succ, List.setIfInBounds_toArray, List.set_cons_zero, List.set_cons_succ]
                          refine pi_no rfl (by rfl) ?_
                          try simp only [Act.put, List.getElem_toArray, List.getElem_cons_zero, List.getElem_cons_succ, List.setIfInBounds_toArray, List.set_cons_zero, List.set_cons_succ]
                          refine pi_no rfl (by rfl) ?_
                          try simp only [Act.put, List.getElem_toArray, List.getElem_cons_zero, List.getElem_cons_succ, List.setIfInBounds_toArray, List.set_cons_zero, List.set_cons_succ]
                          refine pi_no rfl (by rfl) ?_
                          try simp only [Act.put, List.getElem_toArray, List.getElem_cons_zero, List.getElem_cons_succ, List.setIfInBounds_toArray, List.set_cons_zero, List.set_cons_succ]
                          refine pi_no rfl (by rfl) ?_
                          try simp only [Act.put, List.getElem_toArray, List.getElem_cons_zero, List.getElem_cons_succ, List.setIfInBounds_toArray, List.set_cons_zero, List.set_cons_succ]
                          refine pi_q (v := ?_) rfl (by rfl) ?_ ?_
                          rotate_left
                          · intro w' hBw'
                            first | (go_simp; done) | (go_simp; with_reducible rfl)
                          try simp only [Act.put, List.getElem_toArray, List.getElem_cons_zero, List.getElem_cons_succ, List.setIfInBounds_toArray, List.set_cons_zero, List.set_cons_succ]
                          refine pi_nil ?_
                          have HC2 := Lib.hid (show qB y at_ x = false by simp [qB, eb3])
                          have V7 := Lib.hid VV
                          clear VV xr x0 x1 x2 x3 ry y0 y1 hry6 N6 V6 hBd
                          go_wp2
                          go_roundg (T.length - (k + 1))
                          case rel => exact ⟨k + 1, m, by omega, rfl, rfl, by go_num, Lib.hid (by rw [HF.out, HC.out, HC2.out]; rfl), V7.out⟩
                          case measure => omega
                        | true =>
                          have eb3 : decide (x.a ≤ at_) = true := by simpa using hb3
                          refine pi_q (v := ?_) rfl (by rfl) ?_ ?_
                          rotate_left
                          · intro w' hBw'
                            first | (go_simp; done) | (go_simp; with_reducible rfl)
                          try simp only [Act.put, List.getElem_toArray, List.getElem_cons_zero, List.getElem_cons_succ, List.setIfInBounds_toArray, List.set_cons_zero, List.set_cons_succ]
                          refine pi_q (v := ?_) rfl (by rfl) ?_ ?_
                          rotate_left
                          · intro w' hBw'
                            first | (go_simp; done) | (go_simp; with_reducible rfl)
                          try simp only [Act.put, List.getElem_toArray, List.getElem_cons_zero, List.getElem_cons_succ, List.setIfInBounds_toArray, List.set_cons_zero, List.set_cons_succ]
                          refine pi_q (v := ?_) rfl (by rfl) ?_ ?_
                          rotate_left
                          · intro w' hBw'
                            first | (go_simp; done) | (go_simp; with_reducible rfl)
                          try simp only [Act.put, List.getElem_toArray, List.getElem_cons_zero, List.getElem_cons_succ, List.setIfInBounds_toArray, List.set_cons_zero, List.set_cons_succ]
                          refine pi_q (v := ?_) rfl (by rfl) ?_ ?_
                          rotate_left
                          · intro w' hBw'
                            first | (go_simp; done) | (go_simp; with_reducible rfl)
                          try simp only [Act.put, List.getElem_toArray, List.getElem_cons_zero, List.getElem_cons_succ, List.setIfInBounds_toArray, List.set_cons_zero, List.set_cons_succ]
                          refine pi_q (v := ?_) rfl (by rfl) ?_ ?_
                          rotate_left
                          · intro w' hBw'
                            first | (go_simp; done) | (go_simp; with_reducible rfl)
                          try simp only [Act.put, List.getElem_toArray, List.getElem_cons_zero, List.getElem_cons_succ, List.setIfInBounds_toArray, List.set_cons_zero, List.set_cons_succ]
                          refine pi_q (v := ?_) rfl (by rfl) ?_ ?_
                          rotate_left
                          · intro w' hBw'
                            first | (go_simp; done) | (go_simp; with_reducible rfl)
                          try simp only [Act.put, List.getElem_toArray, List.getElem_cons_zero, List.getElem_cons_succ, List.setIfInBounds_toArray, List.set_cons_zero, List.set_cons_succ]
                          refine pi_q (v := ?_) rfl (by rfl) ?_ ?_
                          rotate_left
                          · intro w' hBw'
                            first | (go_simp; done) | (go_simp; with_reducible rfl)
                          try simp only [Act.put, List.getElem_toArray, List.getElem_cons_zero, List.getElem_cons_succ, List.setIfInBounds_toArray, List.set_cons_zero, List.set_cons_succ]
                          cases hb4 : decide (at_ < x.b) with
                          | false =>
                            have eb4 : decide (at_ < x.b) = false := by simpa using hb4
                            refine pi_q (v := ?_) rfl (by rfl) ?_ ?_
                            rotate_left
                            · intro w' hBw'
                              first | (go_simp; done) | (go_simp; with_reducible rfl)
                            try simp only [Act.put, List.getElem_toArray, List.getElem_cons_zero, List.getElem_cons_succ, List.setIfInBounds_toArray, List.set_cons_zero, List.set_cons_succ]
                            refine pi_nil ?_
                            have HC2 := Lib.hid (show qB y at_ x = false by simp [qB, eb4])
                            have V7 := Lib.hid VV
                            clear VV xr x0 x1 x2 x3 ry y0 y1 hry6 N6 V6 hBd
                            go_wp2
                            go_roundg (T.length - (k + 1))
                            case rel => exact ⟨k + 1, m, by omega, rfl, rfl, by go_num, Lib.hid (by rw [HF.out, HC.out, HC2.out]; rfl), V7.out⟩
                            case measure => omega
                          | true =>
                            have eb4 : decide (at_ < x.b) = true := by simpa using hb4
                            refine pi_q (v := ?_) rfl (by rfl) ?_ ?_
                            rotate_left
                            · intro w' hBw'
                              first | (go_simp; done) | (go_simp; with_reducible rfl)
                            try simp only [Act.put, List.getElem_toArray, List.getElem_cons_zero, List.getElem_cons_succ, List.setIfInBounds_toArray, List.set_cons_zero, List.set_cons_succ]
                            refine pi_nil ?_
                            have HC2 := Lib.hid (show qB y at_ x = true by simp [qB, eb1, eb2, eb3, eb4])
                            have V7 := Lib.hid VV
                            clear VV xr x0 x1 x2 x3 ry y0 y1 hry6 N6 V6 hBd
                            go_wp2
                            go_roundg (T.length - (k + 1))
                            case rel => exact ⟨k + 1, m + 1, by omega, rfl, by go_num, by go_num, Lib.hid (by rw [HF.out, HC.out, HC2.out]; rfl), V7.out⟩
                            case measure => omega
                  · obtain rfl : k = T.length := by omega
                    have hN : (T.filter (qB y at_)).length = m := by have := HC.out; rwa [List.take_length] at this
                    have hm1 : m ≤ 1 := by rw [← hN]; exact HON2.out
                    have HbI := Lib.hid (show (atR L y.from_ y.to at_).isSome = decide (m = 1) by rw [HAT2.out, hN])
                    obtain ⟨cR, hcR⟩ : ∃ cR, cR = (atR L y.from_ y.to at_).getD zct0 := ⟨_, rfl⟩
                    have HcR := Lib.hid hcR
                    have hry6 := Hry.out _ V5
                    have hbTs : bT < wr.heap.size := World.block_lt_of_cell? wr ⟨bT, offT + i * 5 + 0, none⟩ (hry6 0 _ rfl)
                    have V6 := Lib.hid V5
                    clear hN hcR V5 HC
                    obtain ⟨wq, hwq⟩ : ∃ wq, wq = wr := ⟨_, rfl⟩
                    have hbTq : bT < wq.heap.size := by rw [hwq]; exact hbTs
                    have HWQ := Lib.hid (show wq.heap.size = wr.heap.size by rw [hwq])
                    clear hwq hbTs
                    rcases Nat.lt_or_ge m 1 with hm0 | hm0
                    · obtain rfl : m = 0 := by omega
                      go_wp2
                      refine wp_region_pt (fun j => wq.heap.size ≤ j) (.q 0 (.q 1 (.q 2 (.q 3 (.q 4 (.q 5 (.q 6 (.q 7 (.q 8 (.q 9 (.q 10 (.q 11 (.f 12 (.q 13 (.q 14 (.q 15 (.c 16 (.c 17 (.q 18 .done)))))) 16 (.c 12 (.q 13 (.q 14 (.q 15 (.c 17 (.q 18 .done))))))))))))))))))) (by kernel_rfl) (by kernel_rfl) (by kernel_rfl) (by decide) (fun _ _ d _ _ h => by cases d <;> exact h) (fun Wd hBd => ?_)
                      try simp only [Act.put, List.getElem_toArray, List.getElem_cons_zero, List.getElem_cons_succ, List.setIfInBounds_toArray, List.set_cons_zero, List.set_cons_succ]
                      have V8 := V6.out.up hBd
                      have ry := rangeAt_up hBd hry6
                      have y0 : ∀ w', But (fun j => wq.heap.size ≤ j) Wd w' → w'.cell? ⟨bT, offT + i * 5, none⟩ = some (.int .u32 y.from_) := fun w' h => h.cell (ry 0 _ rfl) (by omega)
                      have y1 : ∀ w', But (fun j => wq.heap.size ≤ j) Wd w' → w'.cell? ⟨bT, offT + i * 5 + 1, none⟩ = some (.int .u32 y.to) := fun w' h => h.cell (ry 1 _ rfl) (by omega)
                      refine pt_q (v := ?_) rfl (by rfl) ?_ ?_
                      rotate_left
                      · intro w' hBw'
                        first | (go_simp; done) | (go_simp; with_reducible rfl)
                      try simp only [Act.put, List.getElem_toArray, List.getElem_cons_zero, List.getElem_cons_succ, List.setIfInBounds_toArray, List.set_cons_zero, List.set_cons_succ]
                      refine pt_q (v := ?_) rfl (by rfl) ?_ ?_
                      rotate_left
                      · intro w' hBw'
                        first | (go_simp; done) | (go_simp; with_reducible rfl)
                      try simp only [Act.put, List.getElem_toArray, List.getElem_cons_zero, List.getElem_cons_succ, List.setIfInBounds_toArray, List.set_cons_zero, List.set_cons_succ]
                      refine pt_q (v := ?_) rfl (by rfl) ?_ ?_
                      rotate_left
                      · intro w' hBw'
                        first | (go_simp; done) | (go_simp; with_reducible rfl)
                      try simp only [Act.put, List.getElem_toArray, List.getElem_cons_zero, List.getElem_cons_succ, List.setIfInBounds_toArray, List.set_cons_zero, List.set_cons_succ]
                      refine pt_q (v := ?_) rfl (by rfl) ?_ ?_
                      rotate_left
                      · intro w' hBw'
                        first | (go_simp; done) | (go_simp; with_reducible rfl)
                      try simp only [Act.put, List.getElem_toArray, List.getElem_cons_zero, List.getElem_cons_succ, List.setIfInBounds_toArray, List.set_cons_zero, List.set_cons_succ]
                      refine pt_q (v := ?_) rfl (by rfl) ?_ ?_
                      rotate_left
                      · intro w' hBw'
                        first | (go_simp; done) | (go_simp; with_reducible rfl)
                      try simp only [Act.put, List.getElem_toArray, List.getElem_cons_zero, List.getElem_cons_succ, List.setIfInBounds_toArray, List.set_cons_zero, List.set_cons_succ]
                      refine pt_q (v := ?_) rfl (by rfl) ?_ ?_
                      rotate_left
                      · intro w' hBw'
                        first | (go_simp; done) | (go_simp; with_reducible rfl)
                      try simp only [Act.put, List.getElem_toArray, List.getElem_cons_zero, List.getElem_cons_succ, List.setIfInBounds_toArray, List.set_cons_zero, List.set_cons_succ]
                      refine pt_q (v := ?_) rfl (by rfl) ?_ ?_
                      rotate_left
                      · intro w' hBw'
                        first | (go_simp; done) | (go_simp; with_reducible rfl)
                      try simp only [Act.put, List.getElem_toArray, List.getElem_cons_zero, List.getElem_cons_succ, List.setIfInBounds_toArray, List.set_cons_zero, List.set_cons_succ]
                      refine pt_q (v := ?_) rfl (by rfl) ?_ ?_
                      rotate_left
                      · intro w' hBw'
                        first | (go_simp; done) | (go_simp; with_reducible rfl)
                      try simp only [Act.put, List.getElem_toArray, List.getElem_cons_zero, List.getElem_cons_succ, List.setIfInBounds_toArray, List.set_cons_zero, List.set_cons_succ]
                      refine pt_q (v := ?_) rfl (by rfl) ?_ ?_
                      rotate_left
                      · intro w' hBw'
                        first | (go_simp; done) | (go_simp; with_reducible rfl)
                      try simp only [Act.put, List.getElem_toArray, List.getElem_cons_zero, List.getElem_cons_succ, List.setIfInBounds_toArray, List.set_cons_zero, List.set_cons_succ]
                      refine pt_q (v := ?_) rfl (by rfl) ?_ ?_
                      rotate_left
                      · intro w' hBw'
                        first | (go_simp; done) | (go_simp; with_reducible rfl)
                      try simp only [Act.put, List.getElem_toArray, List.getElem_cons_zero, List.getElem_cons_succ, List.setIfInBounds_toArray, List.set_cons_zero, List.set_cons_succ]
                      refine pt_q (v := ?_) rfl (by rfl) ?_ ?_
                      rotate_left
                      · intro w' hBw'
                        first | (go_simp; done) | (go_simp; with_reducible rfl)
                      try simp only [Act.put, List.getElem_toArray, List.getElem_cons_zero, List.getElem_cons_succ, List.setIfInBounds_toArray, List.set_cons_zero, List.set_cons_succ]
                      refine pt_q (v := ?_) rfl (by rfl) ?_ ?_
                      rotate_left
                      · intro w' hBw'
                        first | (go_simp; done) | (go_simp; with_reducible rfl)
                      try simp only [Act.put, List.getElem_toArray, List.getElem_cons_zero, List.getElem_cons_succ, List.setIfInBounds_toArray, List.set_cons_zero, List.set_cons_succ]
                      refine pt_f ?_ ?_
                      · refine pt_step rfl (by rfl) (fun K hK => ?_)
                        go_simp
                        refine (pAt_c y.from_ y.to at_ _ V8.p).mono ?_
                        rw [← HcR.out, HbI.out]
                        rintro en w8 ⟨rfl, hb8⟩
                        go_wp2_with fail
                        refine hK.out _ _ (But.of_below hb8) ?_
                        clear hK K
                        try simp only [Act.put, List.getElem_toArray, List.getElem_cons_zero, List.getElem_cons_succ, List.setIfInBounds_toArray, List.set_cons_zero, List.set_cons_succ]
                        refine pt_q (v := ?_) rfl (by rfl) ?_ ?_
                        rotate_left
                        · intro w' hBw'
                          first | (go_simp; done) | (go_simp; with_reducible rfl)
                        try simp only [Act.put, List.getElem_toArray, List.getElem_cons_zero, List.getElem_cons_succ, List.setIfInBounds_toArray, List.set_cons_zero, List.set_cons_succ]
                        refine pt_q (v := ?_) rfl (by rfl) ?_ ?_
                        rotate_left
                        · intro w' hBw'
                          first | (go_simp; done) | (go_simp; with_reducible rfl)
                        try simp only [Act.put, List.getElem_toArray, List.getElem_cons_zero, List.getElem_cons_succ, List.setIfInBounds_toArray, List.set_cons_zero, List.set_cons_succ]
                        refine pt_q (v := ?_) rfl (by rfl) ?_ ?_
                        rotate_left
                        · intro w' hBw'
                          first | (go_simp; done) | (go_simp; with_reducible rfl)
                        try simp only [Act.put, List.getElem_toArray, List.getElem_cons_zero, List.getElem_cons_succ, List.setIfInBounds_toArray, List.set_cons_zero, List.set_cons_succ]
                        refine pt_c ?_
                        refine pt_step rfl (by rfl) (fun K hK => ?_)
                        go_simp
                        have hbT := below_up hb8 (below_alloc w8 (.cells (ctC zct0).toArray 27))
                        refine hK.out _ _ (But.alloc _ _) ?_
                        clear hK K
                        try simp only [Act.put, List.getElem_toArray, List.getElem_cons_zero, List.getElem_cons_succ, List.setIfInBounds_toArray, List.set_cons_zero, List.set_cons_succ]
                        refine pt_c ?_
                        refine pt_step rfl (by rfl) (fun K hK => ?_)
                        go_simp
                        have V9 := V8.up (below_up hb8 (below_alloc w8 (.cells (ctC cR).toArray 27)))
                        refine hK.out _ _ (But.realloc _ _ _ (by have := hBd.size; have := hb8.size; have := HWQ.out; omega)) ?_
                        clear hK K
                        try simp only [Act.put, List.getElem_toArray, List.getElem_cons_zero, List.getElem_cons_succ, List.setIfInBounds_toArray, List.set_cons_zero, List.set_cons_succ]
                        refine pt_q (v := ?_) rfl (by rfl) ?_ ?_
                        rotate_left
                        · intro w' hBw'
                          first | (go_simp; done) | (go_simp; with_reducible rfl)
                        try simp only [Act.put, List.getElem_toArray, List.getElem_cons_zero, List.getElem_cons_succ, List.setIfInBounds_toArray, List.set_cons_zero, List.set_cons_succ]
                        refine pt_done ?_
                        clear V8 ry y0 y1 hry6
                        go_wp2
                        go_roundg (T.length - (i + 1))
                        case rel => exact ⟨i + 1, by omega, rfl, by go_num, V9⟩
                        case measure => omega
                      · refine pt_step rfl (by rfl) (fun K hK => ?_)
                        go_simp
                        have Va := V8.up (below_alloc Wd (.cells (ctC zct0).toArray 27))
                        have Z8 := RowAt.new Wd (ctC zct0).toArray 27
                        refine hK.out _ _ (But.alloc _ _) ?_
                        clear hK K
                        try simp only [Act.put, List.getElem_toArray, List.getElem_cons_zero, List.getElem_cons_succ, List.setIfInBounds_toArray, List.set_cons_zero, List.set_cons_succ]
                        refine pt_c ?_
                        refine pt_step rfl (by rfl) (fun K hK => ?_)
                        go_simp
                        refine (pAt_c y.from_ y.to at_ _ Va.p).mono ?_
                        rw [← HcR.out, HbI.out]
                        rintro en w8 ⟨rfl, hb8⟩
                        go_wp2_with fail
                        have hbT := below_up (below_alloc Wd (.cells (ctC zct0).toArray 27)) hb8
                        have Z9 := Z8.below hb8
                        refine hK.out _ _ (But.of_below hb8) ?_
                        clear hK K
                        try simp only [Act.put, List.getElem_toArray, List.getElem_cons_zero, List.getElem_cons_succ, List.setIfInBounds_toArray, List.set_cons_zero, List.set_cons_succ]
                        refine pt_q (v := ?_) rfl (by rfl) ?_ ?_
                        rotate_left
                        · intro w' hBw'
                          first | (go_simp; done) | (go_simp; with_reducible rfl)
                        try simp only [Act.put, List.getElem_toArray, List.getElem_cons_zero, List.getElem_cons_succ, List.setIfInBounds_toArray, List.set_cons_zero, List.set_cons_succ]
                        refine pt_q (v := ?_) rfl (by rfl) ?_ ?_
                        rotate_left
                        · intro w' hBw'
                          first | (go_simp; done) | (go_simp; with_reducible rfl)
                        try simp only [Act.put, List.getElem_toArray, List.getElem_cons_zero, List.getElem_cons_succ, List.setIfInBounds_toArray, List.set_cons_zero, List.set_cons_succ]
                        refine pt_q (v := ?_) rfl (by rfl) ?_ ?_
                        rotate_left
                        · intro w' hBw'
                          first | (go_simp; done) | (go_simp; with_reducible rfl)
                        try simp only [Act.put, List.getElem_toArray, List.getElem_cons_zero, List.getElem_cons_succ, List.setIfInBounds_toArray, List.set_cons_zero, List.set_cons_succ]
                        refine pt_c ?_
                        (refine pt_put_row rfl (by rfl) 27 (.tmp 18) (.tmp 159) rfl Wd.heap.size (ctC cR) rfl rfl Z9 rfl (by kernel_rfl) (by rfl) (by have := hBd.size; have := HWQ.out; omega) ?_; intro w9 Z10 hb9; have V9 := V8.up (hbT.trans (hb9.below (fun q hq => by omega) hbT.size)))
                        try simp only [Act.put, List.getElem_toArray, List.getElem_cons_zero, List.getElem_cons_succ, List.setIfInBounds_toArray, List.set_cons_zero, List.set_cons_succ]
                        refine pt_q (v := ?_) rfl (by rfl) ?_ ?_
                        rotate_left
                        · intro w' hBw'
                          first | (go_simp; done) | (go_simp; with_reducible rfl)
                        try simp only [Act.put, List.getElem_toArray, List.getElem_cons_zero, List.getElem_cons_succ, List.setIfInBounds_toArray, List.set_cons_zero, List.set_cons_succ]
                        refine pt_done ?_
                        clear V8 ry y0 y1 hry6
                        go_wp2
                        go_roundg (T.length - (i + 1))
                        case rel => exact ⟨i + 1, by omega, rfl, by go_num, V9⟩
                        case measure => omega
                    · obtain rfl : m = 1 := by omega
                      go_wp2
                      refine wp_region_pt (fun j => wq.heap.size ≤ j) (.q 0 (.q 1 (.q 2 (.q 3 (.q 4 (.q 5 (.q 6 (.q 7 (.q 8 (.q 9 (.q 10 (.q 11 (.f 12 (.q 13 (.q 14 (.q 15 (.c 16 (.c 17 (.q 18 .done)))))) 16 (.c 12 (.q 13 (.q 14 (.q 15 (.c 17 (.q 18 .done))))))))))))))))))) (by kernel_rfl) (by kernel_rfl) (by kernel_rfl) (by decide) (fun _ _ d _ _ h => by cases d <;> exact h) (fun Wd hBd => ?_)
                      try simp only [Act.put, List.getElem_toArray, List.getElem_cons_zero, List.getElem_cons_succ, List.setIfInBounds_toArray, List.set_cons_zero, List.set_cons_succ]
                      have V8 := V6.out.up hBd
                      have ry := rangeAt_up hBd hry6
                      have y0 : ∀ w', But (fun j => wq.heap.size ≤ j) Wd w' → w'.cell? ⟨bT, offT + i * 5, none⟩ = some (.int .u32 y.from_) := fun w' h => h.cell (ry 0 _ rfl) (by omega)
                      have y1 : ∀ w', But (fun j => wq.heap.size ≤ j) Wd w' → w'.cell? ⟨bT, offT + i * 5 + 1, none⟩ = some (.int .u32 y.to) := fun w' h => h.cell (ry 1 _ rfl) (by omega)
                      refine pt_q (v := ?_) rfl (by rfl) ?_ ?_
                      rotate_left
                      · intro w' hBw'
                        first | (go_simp; done) | (go_simp; with_reducible rfl)
                      try simp only [Act.put, List.getElem_toArray, List.getElem_cons_zero, List.getElem_cons_succ, List.setIfInBounds_toArray, List.set_cons_zero, List.set_cons_succ]
                      refine pt_q (v := ?_) rfl (by rfl) ?_ ?_
                      rotate_left
                      · intro w' hBw'
                        first | (go_simp; done) | (go_simp; with_reducible rfl)
                      try simp only [Act.put, List.getElem_toArray, List.getElem_cons_zero, List.getElem_cons_succ, List.setIfInBounds_toArray, List.set_cons_zero, List.set_cons_succ]
                      refine pt_q (v := ?_) rfl (by rfl) ?_ ?_
                      rotate_left
                      · intro w' hBw'
                        first | (go_simp; done) | (go_simp; with_reducible rfl)
                      try simp only [Act.put, List.getElem_toArray, List.getElem_cons_zero, List.getElem_cons_succ, List.setIfInBounds_toArray, List.set_cons_zero, List.set_cons_succ]
                      refine pt_q (v := ?_) rfl (by rfl) ?_ ?_
                      rotate_left
                      · intro w' hBw'
                        first | (go_simp; done) | (go_simp; with_reducible rfl)
                      try simp only [Act.put, List.getElem_toArray, List.getElem_cons_zero, List.getElem_cons_succ, List.setIfInBounds_toArray, List.set_cons_zero, List.set_cons_succ]
                      refine pt_q (v := ?_) rfl (by rfl) ?_ ?_
                      rotate_left
                      · intro w' hBw'
                        first | (go_simp; done) | (go_simp; with_reducible rfl)
                      try simp only [Act.put, List.getElem_toArray, List.getElem_cons_zero, List.getElem_cons_succ, List.setIfInBounds_toArray, List.set_cons_zero, List.set_cons_succ]
                      refine pt_q (v := ?_) rfl (by rfl) ?_ ?_
                      rotate_left
                      · intro w' hBw'
                        first | (go_simp; done) | (go_simp; with_reducible rfl)
                      try simp only [Act.put, List.getElem_toArray, List.getElem_cons_zero, List.getElem_cons_succ, List.setIfInBounds_toArray, List.set_cons_zero, List.set_cons_succ]
                      refine pt_q (v := ?_) rfl (by rfl) ?_ ?_
                      rotate_left
                      · intro w' hBw'
                        first | (go_simp; done) | (go_simp; with_reducible rfl)
                      try simp only [Act.put, List.getElem_toArray, List.getElem_cons_zero, List.getElem_cons_succ, List.setIfInBounds_toArray, List.set_cons_zero, List.set_cons_succ]
                      refine pt_q (v := ?_) rfl (by rfl) ?_ ?_
                      rotate_left
                      · intro w' hBw'
                        first | (go_simp; done) | (go_simp; with_reducible rfl)
                      try simp only [Act.put, List.getElem_toArray, List.getElem_cons_zero, List.getElem_cons_succ, List.setIfInBounds_toArray, List.set_cons_zero, List.set_cons_succ]
                      refine pt_q (v := ?_) rfl (by rfl) ?_ ?_
                      rotate_left
                      · intro w' hBw'
                        first | (go_simp; done) | (go_simp; with_reducible rfl)
                      try simp only [Act.put, List.getElem_toArray, List.getElem_cons_zero, List.getElem_cons_succ, List.setIfInBounds_toArray, List.set_cons_zero, List.set_cons_succ]
                      refine pt_q (v := ?_) rfl (by rfl) ?_ ?_
                      rotate_left
                      · intro w' hBw'
                        first | (go_simp; done) | (go_simp; with_reducible rfl)
                      try simp only [Act.put, List.getElem_toArray, List.getElem_cons_zero, List.getElem_cons_succ, List.setIfInBounds_toArray, List.set_cons_zero, List.set_cons_succ]
                      refine pt_q (v := ?_) rfl (by rfl) ?_ ?_
                      rotate_left
                      · intro w' hBw'
                        first | (go_simp; done) | (go_simp; with_reducible rfl)
                      try simp only [Act.put, List.getElem_toArray, List.getElem_cons_zero, List.getElem_cons_succ, List.setIfInBounds_toArray, List.set_cons_zero, List.set_cons_succ]
                      refine pt_q (v := ?_) rfl (by rfl) ?_ ?_
                      rotate_left
                      · intro w' hBw'
                        first | (go_simp; done) | (go_simp; with_reducible rfl)
                      try simp only [Act.put, List.getElem_toArray, List.getElem_cons_zero, List.getElem_cons_succ, List.setIfInBounds_toArray, List.set_cons_zero, List.set_cons_succ]
                      refine pt_f ?_ ?_
                      · refine pt_step rfl (by rfl) (fun K hK => ?_)
                        go_simp
                        refine (pAt_c y.from_ y.to at_ _ V8.p).mono ?_
                        rw [← HcR.out, HbI.out]
                        rintro en w8 ⟨rfl, hb8⟩
                        go_wp2_with fail
                        refine hK.out _ _ (But.of_below hb8) ?_
                        clear hK K
                        try simp only [Act.put, List.getElem_toArray, List.getElem_cons_zero, List.getElem_cons_succ, List.setIfInBounds_toArray, List.set_cons_zero, List.set_cons_succ]
                        refine pt_q (v := ?_) rfl (by rfl) ?_ ?_
                        rotate_left
                        · intro w' hBw'
                          first | (go_simp; done) | (go_simp; with_reducible rfl)
                        try simp only [Act.put, List.getElem_toArray, List.getElem_cons_zero, List.getElem_cons_succ, List.setIfInBounds_toArray, List.set_cons_zero, List.set_cons_succ]
                        refine pt_q (v := ?_) rfl (by rfl) ?_ ?_
                        rotate_left
                        · intro w' hBw'
                          first | (go_simp; done) | (go_simp; with_reducible rfl)
                        try simp only [Act.put, List.getElem_toArray, List.getElem_cons_zero, List.getElem_cons_succ, List.setIfInBounds_toArray, List.set_cons_zero, List.set_cons_succ]
                        refine pt_q (v := ?_) rfl (by rfl) ?_ ?_
                        rotate_left
                        · intro w' hBw'
                          first | (go_simp; done) | (go_simp; with_reducible rfl)
                        try simp only [Act.put, List.getElem_toArray, List.getElem_cons_zero, List.getElem_cons_succ, List.setIfInBounds_toArray, List.set_cons_zero, List.set_cons_succ]
                        refine pt_c ?_
                        refine pt_step rfl (by rfl) (fun K hK => ?_)
                        go_simp
                        have hbT := below_up hb8 (below_alloc w8 (.cells (ctC zct0).toArray 27))
                        refine hK.out _ _ (But.alloc _ _) ?_
                        clear hK K
                        try simp only [Act.put, List.getElem_toArray, List.getElem_cons_zero, List.getElem_cons_succ, List.setIfInBounds_toArray, List.set_cons_zero, List.set_cons_succ]
                        refine pt_c ?_
                        refine pt_step rfl (by rfl) (fun K hK => ?_)
                        go_simp
                        have V9 := V8.up (below_up hb8 (below_alloc w8 (.cells (ctC cR).toArray 27)))
                        refine hK.out _ _ (But.realloc _ _ _ (by have := hBd.size; have := hb8.size; have := HWQ.out; omega)) ?_
                        clear hK K
                        try simp only [Act.put, List.getElem_toArray, List.getElem_cons_zero, List.getElem_cons_succ, List.setIfInBounds_toArray, List.set_cons_zero, List.set_cons_succ]
                        refine pt_q (v := ?_) rfl (by rfl) ?_ ?_
                        rotate_left
                        · intro w' hBw'
                          first | (go_simp; done) | (go_simp; with_reducible rfl)
                        try simp only [Act.put, List.getElem_toArray, List.getElem_cons_zero, List.getElem_cons_succ, List.setIfInBounds_toArray, List.set_cons_zero, List.set_cons_succ]
                        refine pt_done ?_
                        clear V8 ry y0 y1 hry6
                        go_wp2
                        go_roundg (T.length - (i + 1))
                        case rel => exact ⟨i + 1, by omega, rfl, by go_num, V9⟩
                        case measure => omega
                      · refine pt_step rfl (by rfl) (fun K hK => ?_)
                        go_simp
                        have Va := V8.up (below_alloc Wd (.cells (ctC zct0).toArray 27))
                        have Z8 := RowAt.new Wd (ctC zct0).toArray 27
                        refine hK.out _ _ (But.alloc _ _) ?_
                        clear hK K
                        try simp only [Act.put, List.getElem_toArray, List.getElem_cons_zero, List.getElem_cons_succ, List.setIfInBounds_toArray, List.set_cons_zero, List.set_cons_succ]
                        refine pt_c ?_
                        refine pt_step rfl (by rfl) (fun K hK => ?_)
                        go_simp
                        refine (pAt_c y.from_ y.to at_ _ Va.p).mono ?_
                        rw [← HcR.out, HbI.out]
                        rintro en w8 ⟨rfl, hb8⟩
                        go_wp2_with fail
                        have hbT := below_up (below_alloc Wd (.cells (ctC zct0).toArray 27)) hb8
                        have Z9 := Z8.below hb8
                        refine hK.out _ _ (But.of_below hb8) ?_
                        clear hK K
                        try simp only [Act.put, List.getElem_toArray, List.getElem_cons_zero, List.getElem_cons_succ, List.setIfInBounds_toArray, List.set_cons_zero, List.set_cons_succ]
                        refine pt_q (v := ?_) rfl (by rfl) ?_ ?_
                        rotate_left
                        · intro w' hBw'
                          first | (go_simp; done) | (go_simp; with_reducible rfl)
                        try simp only [Act.put, List.getElem_toArray, List.getElem_cons_zero, List.getElem_cons_succ, List.setIfInBounds_toArray, List.set_cons_zero, List.set_cons_succ]
                        refine pt_q (v := ?_) rfl (by rfl) ?_ ?_
                        rotate_left
                        · intro w' hBw'
                          first | (go_simp; done) | (go_simp; with_reducible rfl)
                        try simp only [Act.put, List.getElem_toArray, List.getElem_cons_zero, List.getElem_cons_succ, List.setIfInBounds_toArray, List.set_cons_zero, List.set_cons_succ]
                        refine pt_q (v := ?_) rfl (by rfl) ?_ ?_
                        rotate_left
                        · intro w' hBw'
                          first | (go_simp; done) | (go_simp; with_reducible rfl)
                        try simp only [Act.put, List.getElem_toArray, List.getElem_cons_zero, List.getElem_cons_succ, List.setIfInBounds_toArray, List.set_cons_zero, List.set_cons_succ]
                        refine pt_c ?_
                        (refine pt_put_row rfl (by rfl) 27 (.tmp 18) (.tmp 159) rfl Wd.heap.size (ctC cR) rfl rfl Z9 rfl (by kernel_rfl) (by rfl) (by have := hBd.size; have := HWQ.out; omega) ?_; intro w9 Z10 hb9; have V9 := V8.up (hbT.trans (hb9.below (fun q hq => by omega) hbT.size)))
                        try simp only [Act.put, List.getElem_toArray, List.getElem_cons_zero, List.getElem_cons_succ, List.setIfInBounds_toArray, List.set_cons_zero, List.set_cons_succ]
                        refine pt_q (v := ?_) rfl (by rfl) ?_ ?_
                        rotate_left
                        · intro w' hBw'
                          first | (go_simp; done) | (go_simp; with_reducible rfl)
                        try simp only [Act.put, List.getElem_toArray, List.getElem_cons_zero, List.getElem_cons_succ, List.setIfInBounds_toArray, List.set_cons_zero, List.set_cons_succ]
                        refine pt_done ?_
                        clear V8 ry y0 y1 hry6
                        go_wp2
                        go_roundg (T.length - (i + 1))
                        case rel => exact ⟨i + 1, by omega, rfl, by go_num, V9⟩
                        case measure => omega
              · obtain rfl : i = T.length := by omega
                have VW := Lib.hid V5
                clear V5
                go_wp2_with (go_at_call 11; refine (cWorks_c _).mono ?_; rintro en w10 ⟨rfl, hb⟩; replace VW := Lib.hid (VW.out.up hb))
                go_ret
                exact ⟨rfl, VW.out.below⟩
        · obtain ⟨k', rfl⟩ : ∃ k', k = k' + 1 := ⟨k - 1, by omega⟩
          have ek : ((k' + 1 : Nat) : Int) - 1 = (k' : Int) := by omega
          rw [ek]
          have hkT : k' < T.length := by omega
          have hkI : (k' : Int) < (T.length : Int) := by omega
          have hk0I : (0 : Int) ≤ (k' : Int) := by omega
          obtain ⟨ha, hM2, hp2⟩ := HA.out.back (by omega) hkT HM.out HMp.out
          have hMl : M.length ≤ 100000 := by rw [HMp.out.length_eq, List.length_drop]; omega
          have hcw := HXT.out T[k'] (List.getElem_mem hkT)
          obtain ⟨bT, offT, ha9, hr⟩ := (Sl.of_own V.own).rec_at (cells := ctC) (sz := 5) (fun _ => rfl) hkT hkT
          subst ha9
          generalize hgc : T[k'] = c at *
          have hadd := addK (B := O) (v := vO) c hcw hMl HM.out ha
          have HM2 := Lib.hid hM2
          have HP2 := Lib.hid hp2
          clear ha hM2 hp2 hMl hgc
          go_wp2_with (first
            | (refine wpList_load_mid rfl 27 (.tmp 57) rfl bT (offT + k' * 5) rfl (ctC c) _ hr Try.underlying27 rfl (by kernel_rfl) ?_)
            | (go_at_call 13; refine (hadd _ V.o).mono ?_; rintro en w3 ⟨v3, rfl, HO3, hb, hv3⟩; have V3 := V.addO HO3 hb hv3 V.size0; clear hr hb hv3 HO3)
            | (go_at_call 9; refine (num_cc _ _).mono ?_; rintro en ww ⟨rfl, rfl⟩))
          go_roundw
          case rel => exact ⟨k', v3, _, by omega, by go_num, HM2.out, HP2, V3⟩
          case measure => simp [intOf] <;> omega

theorem contactHolds_law {H : Type} {enc : TypeId × Value → H} {base : Nat} {spare : Nat → Bool} {held : Bool} (c0 c1 c2 c3 c4 at_ : Int) (w0 : (Lit.int .u32 c0).wf = true) (w1 : (Lit.int .u32 c1).wf = true) (w2 : (Lit.int .u64 c2).wf = true) (w3 : (Lit.int .u64 c3).wf = true) (w4 : (Lit.int .u64 c4).wf = true)
    (w : World) {v : Value} {n : Nat} {vs : List Value} (hsl : Sl w 5 v n vs) (hl : ∀ i, i < n → ∀ (j : Nat) (U : TypeId), [22, 22, 23, 23, 23][j]? = some U → ∃ c, vs[i * 5 + j]? = some c ∧ Leaf enc Try.prog w base spare held U c) :
    Calls Try.prog 5 #[v, .agg #[.int .u32 c0, .int .u32 c1, .int .u64 c2, .int .u64 c3, .int .u64 c4], .int .u64 at_] w (Ret (.bool true) w) := by
  obtain ⟨xs, rfl, hxs⟩ := cts_of hsl hl
  simp [Lit.wf, IntKind.min, IntKind.max, IntKind.signed, IntKind.bits] at w0 w1 w2 w3 w4
  exact contactHolds_c xs hxs v n ⟨c0, c1, c2, c3, c4⟩ ⟨by show 0 ≤ c0; omega, by show c0 ≤ _; omega, by show 0 ≤ c1; omega, by show c1 ≤ _; omega, by show 0 ≤ c2; omega, by show 0 ≤ c3; omega, by show 0 ≤ c4; omega⟩ at_ w hsl
end Go.Proofs.Ytgbpdchdcbnoaaa
