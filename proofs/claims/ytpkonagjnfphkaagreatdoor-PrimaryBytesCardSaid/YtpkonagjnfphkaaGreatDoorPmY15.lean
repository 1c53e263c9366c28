/-
  CbIt: several texts in one (bundle.py).
-/
import Derived.Test.YtpkonagjnfphkaaGreatDoorPmY14
set_option linter.unusedSimpArgs false
set_option linter.unusedVariables false
set_option maxRecDepth 100000
set_option maxHeartbeats 8000000
namespace Go.Proofs.YtpkonagjnfphkaaGreatDoor
open Go.RowKit Cb
theorem item_deep (w : World) (D : Nat) (i : Int) (hi : 8 ≤ i) :
    Calls Tryz.prog 126 #[.pointer (some ⟨D, 0, none⟩), .int .i64 i] w fun en w' => en = .panicked (gup 120) ∧ Below w.heap.size w w' := by
  have hd : decide (i < 8) = false := decide_eq_false (by omega)
  have hi2 : ¬ i < 8 := by omega
  have hB := below_alloc w (.cells (rwC ⟨0, 0, .slice none 0 0, ⟨#[]⟩, .slice none 0 0⟩).toArray 62); go_enter Tryz.func126, Tryz.ntmps126
  go_wp2_with (go_at_call 125; with_reducible refine (must_no _ _).mono ?_; rintro en w6 ⟨rfl, rfl⟩)
  exact ⟨rfl, rfl, hB⟩
theorem wpList_index {P : Program} {ops : Array Oper} {rest : List Oper} {o : Oper} {a : Act} {w : World} {Q : Exit → Act → World → Prop} (hw : Region.wanted o (yielded ops a.tmps) = true) (t : TypeId) (x y : Operand) (ho : o.op = .index t x y) {v : Value} (hv : (execOp a.eval o).run P w = .ok (.value v) w)
    (h : wpList P ops Q rest (a.put o.dst v) w) : wpList P ops Q (o :: rest) a w := wpList_valG hw hv h
theorem slit_u8 (W : World) (c : Int) : Sl (W.alloc (.cells #[.int .u8 c] 5)) 1 (.slice (some ⟨W.heap.size, 0, none⟩) 1 1) 1 [.int .u8 c] := Sl.of_own (World.ownsRow_lit W #[.int .u8 c] 1 (size := 1) (base := 0) (e := 5) (Nat.zero_le _) (by decide) rfl)
section
variable {P : Program} {ops : Array Oper} {Q : Exit → Act → World → Prop} {O : Nat → Prop}
theorem pt_app3 {i : Nat} {o : Oper} {R : Act → World → Prop} {a : Act} {w : World} (hi : ops[i]? = some o) (hw : Region.wanted o (yielded ops a.tmps) = true) (s x : Operand) (t : TypeId)
    (ho : o.op = .call { callee := .builtin .append, args := #[s, x], argTypes := #[t, t] })
    {e : TypeId} {sz bytes : Nat} (T : SlT P t e sz bytes) (base : Nat) {v : Value} {n : Nat} {xs : List Value} (hs : a.eval s = v) (hown : w.ownsRow base e sz v n xs)
    {xv : Value} {m : Nat} {news : List Value} (hx : a.eval x = xv) (hsl : Sl w sz xv m news) (h1 : ∀ u ∈ news, u.oneCell' = true)
    (h63 : n + m ≤ maxLen) (hbytes : (n + m) * bytes ≤ 140737488355328) (hbase : base ≤ w.heap.size) (hO : ∀ k, base ≤ k → O k)
    (h : ∀ v' w', w'.ownsRow base e sz v' (n + m) (xs ++ news) → But (fun k => v.ownBlock = some k) w w' → (v'.ownBlock = v.ownBlock ∨ v'.ownBlock = some w.heap.size) → R (a.put o.dst v') w') : ptStep P O ops Q i R a w :=
  ⟨o, hi, hw, by
    obtain ⟨v', w', hr, h2, h3, h4, h5⟩ := run_app_at T o.type w base v n xs hown xv m news hsl h1 h63 hbytes hbase; have hb : But (fun k => v.ownBlock = some k) w w' := But.grown h3 (fun r hr => .inl hr); unfold Oper.wp execOp; simp only [ho, resolve, invoke, builtin, Sem.run_bind, Sem.run_pure, Result.andThen_ok, List.map_toArray, List.map_cons, List.map_nil, hs, hx, hr]
    exact ⟨hb.mono fun j _ e => hO j (own_of_some hown e).1, h v' w' h2 hb h5⟩⟩
end
theorem slT_items : SlT Tryz.prog 59 62 5 80 := SlT.mk' Tryz.underlying59 (z := .agg #[.int .i64 0, .int .u64 0, .slice none 0 0, .string ⟨#[]⟩, .slice none 0 0]) (by kernel_rfl) rfl (by decide)
theorem one_rwS (k1 n1 : Int) (ba1 : Option Addr) (bn1 bc1 : Nat) (s1 : ByteArray) (la1 : Option Addr) (ln1 lc1 : Nat) : ∀ u ∈ rwC ⟨k1, n1, .slice ba1 bn1 bc1, s1, .slice la1 ln1 lc1⟩, u.oneCell' = true := by
  intro u hu; simp only [rwC, List.mem_cons, List.not_mem_nil, or_false] at hu
  rcases hu with rfl | rfl | rfl | rfl | rfl <;> rfl
theorem sl_new5 (W : World) (r : Rw) : Sl (W.alloc (.cells (rwC r).toArray 62)) 5 (.slice (some ⟨W.heap.size, 0, none⟩) 1 1) 1 (rwC r) := by
  refine ⟨rfl, .inr ⟨_, 0, 1, rfl, Nat.le_refl _, by decide, fun j u hj => ?_⟩⟩; rw [Nat.zero_add]; exact (RowAt.new W _ _).cell (by simpa using hj)
theorem item_step (d i : Nat) (hdi : d + i = 7) (IH : ∀ (w : World) (D : Nat) (v : Value) (b : List UInt8), RdAt w D v b → b.length ≤ 1000000 → Tabs w → Calls Tryz.prog 126 #[.pointer (some ⟨D, 0, none⟩), .int .i64 ((i : Int) + 1)] w (ItE d b w D))
    (w : World) (D : Nat) (v : Value) (b : List UInt8) (h : RdAt w D v b) (hbl : b.length ≤ 1000000) (hT : Tabs w) :
    Calls Tryz.prog 126 #[.pointer (some ⟨D, 0, none⟩), .int .i64 i] w (ItE (d + 1) b w D) := by
  have hd : decide ((i : Int) < 8) = true := decide_eq_true (by omega)
  have hi2 : (i : Int) < 8 := by omega
  have hDw := h.box.lt; have hB0 := below_alloc w (.cells #[.int .i64 0, .int .u64 0, .slice none 0 0, .string ⟨#[]⟩, .slice none 0 0] 62); have hbx := RowAt.new w #[.int .i64 0, .int .u64 0, .slice none 0 0, .string ⟨#[]⟩, .slice none 0 0] 62; have hrd := h.up hB0; obtain ⟨a, c, rfl⟩ := h.sl.len; go_enter Tryz.func126, Tryz.ntmps126
  go_wp2_with (go_at_call 125; with_reducible refine (must_yes _ _).mono ?_; rintro en w6 ⟨rfl, rfl⟩)
  go_loopw [17] (fun t wr => ∃ k : Nat, k ≤ 3 ∧ t = .int .i64 k ∧ RowKit.Hid (∀ j : Nat, j < k → Oct.beginsB b [UInt8.ofNat (244 + j)] = false) ∧ Below w.heap.size w wr ∧ RowAt wr w.heap.size #[.int .i64 0, .int .u64 0, .slice none 0 0, .string ⟨#[]⟩, .slice none 0 0] 62 ∧ RdAt wr D (.slice a b.length c) b) (fun t _ => 3 - (intOf t).toNat)
  case atStart => exact ⟨0, by decide, rfl, Lib.hid (fun j hj => by omega), hB0, hbx, hrd⟩
  case round =>
    obtain ⟨k, hk, rfl, Hno, hB, hbx, hrd⟩ := hrel
    have hcs : k = 0 ∨ k = 1 ∨ k = 2 ∨ k = 3 := by omega
    have cD := hrd.box.cell (i := 0) (v := .slice a b.length c) rfl; rcases hcs with rfl | rfl | rfl | rfl
    · have hbe := fun (W : World) (hb : Below wr.heap.size wr W) => begins_c b [UInt8.ofNat 244] _ _ _ _ _ ((hrd.sl.up hb).up (below_alloc W (.cells #[.int .u8 244] 5))) (slit_u8 W 244) (by omega)
      have hbe := hbe wr (Below.refl _ _); obtain ⟨z, hz⟩ : ∃ z, Oct.beginsB b [UInt8.ofNat 244] = z := ⟨_, rfl⟩; rw [hz] at hbe; cases z
      · go_wp2_with (first
        | (refine wpList_index (by rfl) 181 (.tmp 16) (.tmp 17) rfl (v := .int .u8 244) (by kernel_rfl) ?_)
        | (go_at_call 144; refine hbe.mono ?_; rintro en w3 ⟨rfl, hb3⟩))
        go_roundw
        case rel =>
          have hba := hB.alloc hB.size (.cells #[.int .u8 244] 5); refine ⟨1, by decide, rfl, Lib.hid (fun j hj => ?_), below_up hba hb3, (hbx.below (below_alloc _ _)).below hb3, (hrd.up (below_alloc _ _)).up hb3⟩; by_cases hj0 : j < 0
          · exact Hno.out j hj0
          · obtain rfl : j = 0 := by omega
            exact hz
        case measure => simp [intOf]
      · have hb1 : 1 ≤ b.length := by
          simp only [Oct.beginsB, Bool.and_eq_true, decide_eq_true_eq, List.length_cons, List.length_nil] at hz; omega
        have hne : w.heap.size ≠ D := by have := h.box.lt; omega
        go_wp2_with (first
        | (refine wpList_index (by rfl) 181 (.tmp 16) (.tmp 17) rfl (v := .int .u8 244) (by kernel_rfl) ?_)
        | (refine wpList_index (by rfl) 183 (.tmp 35) (.tmp 36) rfl (v := rwV ⟨5, 0, .slice none 0 0, ⟨#[]⟩, .slice none 0 0⟩) (by kernel_rfl) ?_)
        | (go_at_call 144; refine hbe.mono ?_; rintro en w3 ⟨rfl, hb3⟩; have hrd3 := (hrd.up (below_alloc _ _)).up hb3; have htk := take_yes w3 D _ b 1 hrd3 hb1 hbl; have hbx3 := (hbx.below (below_alloc _ _)).below hb3)
        | (go_at_call 145; refine htk.mono ?_; rintro en w4 ⟨u, v4, rfl, ho4, hR4, hb4⟩; obtain ⟨a4, c4, rfl⟩ := own_slice ho4; have hbx4 := (hb4.same _ hbx3.lt hne).trans hbx3; have e0 := RowAt.cell hbx4 (i := 0) rfl; have e1 := RowAt.cell hbx4 (i := 1) rfl; have e2 := RowAt.cell hbx4 (i := 2) rfl; have e3 := RowAt.cell hbx4 (i := 3) rfl; have e4 := RowAt.cell hbx4 (i := 4) rfl; have g0 := RowAt.fz hbx4 0; have g1 := RowAt.fz hbx4 1; have g2 := RowAt.fz hbx4 2; have g3 := RowAt.fz hbx4 3; have g4 := RowAt.fz hbx4 4))
        obtain ⟨hX5, hb5⟩ := set5 hbx4 (.int .i64 5) (.int .u64 0) (.slice none 0 0) (.string ⟨#[]⟩) (.slice none 0 0); refine bodyPost_ret (results_cell_row Tryz.results126 _ _ w.heap.size _ _ _ _ rfl hX5 Tryz.underlying62 rfl (by kernel_rfl)) rfl ?_; have hbw := below_up (hB.alloc hB.size (.cells #[.int .u8 244] 5)) hb3; exact itE_ok (r := ⟨5, 0, .slice none 0 0, ⟨#[]⟩, .slice none 0 0⟩) (itemP_simple 0 (by decide) hz) (((But.of_below hbw).trans hb4).then hb5 (fun q hq e => by omega)) (itR_flat (by decide) (by decide) slS_nil) (hR4.but hb5 (fun q hq e => by have := h.box.lt; omega))
    · have hbe := fun (W : World) (hb : Below wr.heap.size wr W) => begins_c b [UInt8.ofNat 245] _ _ _ _ _ ((hrd.sl.up hb).up (below_alloc W (.cells #[.int .u8 245] 5))) (slit_u8 W 245) (by omega)
      have hbe := hbe wr (Below.refl _ _); obtain ⟨z, hz⟩ : ∃ z, Oct.beginsB b [UInt8.ofNat 245] = z := ⟨_, rfl⟩; rw [hz] at hbe; cases z
      · go_wp2_with (first
        | (refine wpList_index (by rfl) 181 (.tmp 16) (.tmp 17) rfl (v := .int .u8 245) (by kernel_rfl) ?_)
        | (go_at_call 144; refine hbe.mono ?_; rintro en w3 ⟨rfl, hb3⟩))
        go_roundw
        case rel =>
          have hba := hB.alloc hB.size (.cells #[.int .u8 245] 5); refine ⟨2, by decide, rfl, Lib.hid (fun j hj => ?_), below_up hba hb3, (hbx.below (below_alloc _ _)).below hb3, (hrd.up (below_alloc _ _)).up hb3⟩; by_cases hj0 : j < 1
          · exact Hno.out j hj0
          · obtain rfl : j = 1 := by omega
            exact hz
        case measure => simp [intOf]
      · have hb1 : 1 ≤ b.length := by
          simp only [Oct.beginsB, Bool.and_eq_true, decide_eq_true_eq, List.length_cons, List.length_nil] at hz; omega
        have hne : w.heap.size ≠ D := by have := h.box.lt; omega
        go_wp2_with (first
        | (refine wpList_index (by rfl) 181 (.tmp 16) (.tmp 17) rfl (v := .int .u8 245) (by kernel_rfl) ?_)
        | (refine wpList_index (by rfl) 183 (.tmp 35) (.tmp 36) rfl (v := rwV ⟨5, 1, .slice none 0 0, ⟨#[]⟩, .slice none 0 0⟩) (by kernel_rfl) ?_)
        | (go_at_call 144; refine hbe.mono ?_; rintro en w3 ⟨rfl, hb3⟩; have hrd3 := (hrd.up (below_alloc _ _)).up hb3; have htk := take_yes w3 D _ b 1 hrd3 hb1 hbl; have hbx3 := (hbx.below (below_alloc _ _)).below hb3)
        | (go_at_call 145; refine htk.mono ?_; rintro en w4 ⟨u, v4, rfl, ho4, hR4, hb4⟩; obtain ⟨a4, c4, rfl⟩ := own_slice ho4; have hbx4 := (hb4.same _ hbx3.lt hne).trans hbx3; have e0 := RowAt.cell hbx4 (i := 0) rfl; have e1 := RowAt.cell hbx4 (i := 1) rfl; have e2 := RowAt.cell hbx4 (i := 2) rfl; have e3 := RowAt.cell hbx4 (i := 3) rfl; have e4 := RowAt.cell hbx4 (i := 4) rfl; have g0 := RowAt.fz hbx4 0; have g1 := RowAt.fz hbx4 1; have g2 := RowAt.fz hbx4 2; have g3 := RowAt.fz hbx4 3; have g4 := RowAt.fz hbx4 4))
        obtain ⟨hX5, hb5⟩ := set5 hbx4 (.int .i64 5) (.int .u64 1) (.slice none 0 0) (.string ⟨#[]⟩) (.slice none 0 0); refine bodyPost_ret (results_cell_row Tryz.results126 _ _ w.heap.size _ _ _ _ rfl hX5 Tryz.underlying62 rfl (by kernel_rfl)) rfl ?_; have hbw := below_up (hB.alloc hB.size (.cells #[.int .u8 245] 5)) hb3; exact itE_ok (r := ⟨5, 1, .slice none 0 0, ⟨#[]⟩, .slice none 0 0⟩) (itemP_simple 1 (by decide) hz) (((But.of_below hbw).trans hb4).then hb5 (fun q hq e => by omega)) (itR_flat (by decide) (by decide) slS_nil) (hR4.but hb5 (fun q hq e => by have := h.box.lt; omega))
    · have hbe := fun (W : World) (hb : Below wr.heap.size wr W) => begins_c b [UInt8.ofNat 246] _ _ _ _ _ ((hrd.sl.up hb).up (below_alloc W (.cells #[.int .u8 246] 5))) (slit_u8 W 246) (by omega)
      have hbe := hbe wr (Below.refl _ _); obtain ⟨z, hz⟩ : ∃ z, Oct.beginsB b [UInt8.ofNat 246] = z := ⟨_, rfl⟩; rw [hz] at hbe; cases z
      · go_wp2_with (first
        | (refine wpList_index (by rfl) 181 (.tmp 16) (.tmp 17) rfl (v := .int .u8 246) (by kernel_rfl) ?_)
        | (go_at_call 144; refine hbe.mono ?_; rintro en w3 ⟨rfl, hb3⟩))
        go_roundw
        case rel =>
          have hba := hB.alloc hB.size (.cells #[.int .u8 246] 5); refine ⟨3, by decide, rfl, Lib.hid (fun j hj => ?_), below_up hba hb3, (hbx.below (below_alloc _ _)).below hb3, (hrd.up (below_alloc _ _)).up hb3⟩; by_cases hj0 : j < 2
          · exact Hno.out j hj0
          · obtain rfl : j = 2 := by omega
            exact hz
        case measure => simp [intOf]
      · have hb1 : 1 ≤ b.length := by
          simp only [Oct.beginsB, Bool.and_eq_true, decide_eq_true_eq, List.length_cons, List.length_nil] at hz; omega
        have hne : w.heap.size ≠ D := by have := h.box.lt; omega
        go_wp2_with (first
        | (refine wpList_index (by rfl) 181 (.tmp 16) (.tmp 17) rfl (v := .int .u8 246) (by kernel_rfl) ?_)
        | (refine wpList_index (by rfl) 183 (.tmp 35) (.tmp 36) rfl (v := rwV ⟨6, 0, .slice none 0 0, ⟨#[]⟩, .slice none 0 0⟩) (by kernel_rfl) ?_)
        | (go_at_call 144; refine hbe.mono ?_; rintro en w3 ⟨rfl, hb3⟩; have hrd3 := (hrd.up (below_alloc _ _)).up hb3; have htk := take_yes w3 D _ b 1 hrd3 hb1 hbl; have hbx3 := (hbx.below (below_alloc _ _)).below hb3)
        | (go_at_call 145; refine htk.mono ?_; rintro en w4 ⟨u, v4, rfl, ho4, hR4, hb4⟩; obtain ⟨a4, c4, rfl⟩ := own_slice ho4; have hbx4 := (hb4.same _ hbx3.lt hne).trans hbx3; have e0 := RowAt.cell hbx4 (i := 0) rfl; have e1 := RowAt.cell hbx4 (i := 1) rfl; have e2 := RowAt.cell hbx4 (i := 2) rfl; have e3 := RowAt.cell hbx4 (i := 3) rfl; have e4 := RowAt.cell hbx4 (i := 4) rfl; have g0 := RowAt.fz hbx4 0; have g1 := RowAt.fz hbx4 1; have g2 := RowAt.fz hbx4 2; have g3 := RowAt.fz hbx4 3; have g4 := RowAt.fz hbx4 4))
        obtain ⟨hX5, hb5⟩ := set5 hbx4 (.int .i64 6) (.int .u64 0) (.slice none 0 0) (.string ⟨#[]⟩) (.slice none 0 0); refine bodyPost_ret (results_cell_row Tryz.results126 _ _ w.heap.size _ _ _ _ rfl hX5 Tryz.underlying62 rfl (by kernel_rfl)) rfl ?_; have hbw := below_up (hB.alloc hB.size (.cells #[.int .u8 246] 5)) hb3; exact itE_ok (r := ⟨6, 0, .slice none 0 0, ⟨#[]⟩, .slice none 0 0⟩) (itemP_simple 2 (by decide) hz) (((But.of_below hbw).trans hb4).then hb5 (fun q hq e => by omega)) (itR_flat (by decide) (by decide) slS_nil) (hR4.but hb5 (fun q hq e => by have := h.box.lt; omega))
    · have hne : w.heap.size ≠ D := by omega
      have HP := itemP_head (d := d) Hno.out; have hhd := readHead_c wr D _ b hrd hbl; have hTr := hT.up hB
      cases hh : headP b with
      | none =>
        rw [hh] at HP; have hhd : Calls Tryz.prog 146 #[.pointer (some ⟨D, 0, none⟩)] wr (fun en w' => en = .panicked (gup 121) ∧ But (fun k => k = D) wr w') := hhd.mono (fun en w' h => ⟨by have := h.2; rw [hh] at this; exact this, h.1⟩); have HP := Lib.hid HP
        go_wp2_with (go_at_call 146; refine hhd.mono ?_; rintro en w4 ⟨rfl, hb4⟩)
        exact ⟨rfl, itE_err HP.out ((But.of_below hB).trans hb4)⟩
      | some p =>
        obtain ⟨m, n, k⟩ := p; obtain ⟨⟨hm0, hm7⟩, ⟨hn0, hn1⟩, hk1, hkb, _, _⟩ := headP_some hh; have hhd : Calls Tryz.prog 146 #[.pointer (some ⟨D, 0, none⟩)] wr (fun en w' => en = .returned (.tuple #[.int .i64 m, .int .u64 n]) ∧ But (fun k => k = D) wr w' ∧ ∃ v', RdAt w' D v' (b.drop k)) := hhd.mono (fun en w' h => by have := h.2; rw [hh] at this; exact ⟨this.1, h.1, this.2⟩); rw [hh] at HP; have HP : itemP (d + 1) b = bodyP (itemP d) m n k (b.drop k) := HP; obtain ⟨N, rfl⟩ : ∃ N : Nat, n = N := ⟨n.toNat, by omega⟩
        have hrl : (b.drop k).length ≤ 1000000 := by rw [List.length_drop]; omega
        have HDD : RowKit.Hid (∀ j, b.drop (k + j) = (b.drop k).drop j) := Lib.hid (fun j => by rw [List.drop_drop]); have HD0 := Lib.hid (show b.drop k = b.drop k from rfl); obtain ⟨r, hr⟩ : ∃ r, b.drop k = r := ⟨_, rfl⟩; rw [hr] at hhd HP hrl HDD; have HR := Lib.hid hr; have HH := Lib.hid hh; clear hr hh Hno
        have hcs : m = 0 ∨ m = 2 ∨ m = 3 ∨ m = 4 ∨ m = 1 ∨ m = 5 ∨ m = 6 ∨ m = 7 := by omega
        rcases hcs with rfl | rfl | rfl | rfl | hm
        · have HP := Lib.hid (HP.trans (show _ = .ok (It.mk 1 N [] noS [], k) by unfold bodyP; rw [if_pos rfl]))
          go_wp2_with (first
          | (go_at_call 146; refine hhd.mono ?_; rintro en w4 ⟨rfl, hb4, v4, hR4⟩; have hbx4 : RowAt w4 w.heap.size _ TI := (hb4.same _ hbx.lt hne).trans hbx; have e0 := RowAt.cell hbx4 (i := 0) rfl; have e1 := RowAt.cell hbx4 (i := 1) rfl; have e2 := RowAt.cell hbx4 (i := 2) rfl; have e3 := RowAt.cell hbx4 (i := 3) rfl; have e4 := RowAt.cell hbx4 (i := 4) rfl; have g0 := RowAt.fz hbx4 0; have g1 := RowAt.fz hbx4 1; have g2 := RowAt.fz hbx4 2; have g3 := RowAt.fz hbx4 3; have g4 := RowAt.fz hbx4 4))
          obtain ⟨hX5, hb5⟩ := set5 hbx4 (.int .i64 1) (.int .u64 N) (.slice none 0 0) (.string ⟨#[]⟩) (.slice none 0 0); refine bodyPost_ret (results_cell_row Tryz.results126 _ _ w.heap.size _ _ _ _ rfl hX5 Tryz.underlying62 rfl (by kernel_rfl)) rfl ?_; exact itE_ok (r := ⟨1, N, .slice none 0 0, ⟨#[]⟩, .slice none 0 0⟩) HP.out (((But.of_below hB).trans hb4).then hb5 (fun q hq e => by omega)) (itR_flat hn0 hn1 slS_nil) (by rw [HR.out]; exact hR4.but hb5 (fun q hq e => by omega))
        · by_cases hN : N ≤ r.length
          · have HP := Lib.hid (HP.trans (show _ = .ok (It.mk 2 0 (r.take N) noS [], k + N) by unfold bodyP; rw [if_neg (by decide), if_pos rfl, if_pos (by omega), Int.toNat_natCast]))
            go_wp2_with (first
          | (go_at_call 146; refine hhd.mono ?_; rintro en w4 ⟨rfl, hb4, v4, hR4⟩; have hbx4 : RowAt w4 w.heap.size _ TI := (hb4.same _ hbx.lt hne).trans hbx; have e0 := RowAt.cell hbx4 (i := 0) rfl; have e1 := RowAt.cell hbx4 (i := 1) rfl; have e2 := RowAt.cell hbx4 (i := 2) rfl; have e3 := RowAt.cell hbx4 (i := 3) rfl; have e4 := RowAt.cell hbx4 (i := 4) rfl; have g0 := RowAt.fz hbx4 0; have g1 := RowAt.fz hbx4 1; have g2 := RowAt.fz hbx4 2; have g3 := RowAt.fz hbx4 3; have g4 := RowAt.fz hbx4 4)
          | (go_at_call 145; refine (take_yes w4 D v4 r N hR4 hN hrl).mono ?_; rintro en w5 ⟨u5, v5, rfl, ho5, hR5, hb5⟩; obtain ⟨a5, c5, rfl⟩ := own_slice ho5; have hbx5 : RowAt w5 w.heap.size _ TI := (hb5.same _ hbx4.lt hne).trans hbx4; have e0 := RowAt.cell hbx5 (i := 0) rfl; have e1 := RowAt.cell hbx5 (i := 1) rfl; have e2 := RowAt.cell hbx5 (i := 2) rfl; have e3 := RowAt.cell hbx5 (i := 3) rfl; have e4 := RowAt.cell hbx5 (i := 4) rfl; have g0 := RowAt.fz hbx5 0; have g1 := RowAt.fz hbx5 1; have g2 := RowAt.fz hbx5 2; have g3 := RowAt.fz hbx5 3; have g4 := RowAt.fz hbx5 4))
            obtain ⟨hX6, hb6⟩ := set5 hbx5 (.int .i64 2) (.int .u64 0) (.slice a5 N c5) (.string ⟨#[]⟩) (.slice none 0 0); refine bodyPost_ret (results_cell_row Tryz.results126 _ _ w.heap.size _ _ _ _ rfl hX6 Tryz.underlying62 rfl (by kernel_rfl)) rfl ?_; have hwz := hB.size; have hz4 := hb4.size; have hz5 := hb5.size; have hz6 := hb6.size
            have hbk : ∀ q, (Value.slice a5 N c5).ownBlock = some q → w.heap.size < q ∧ q < w5.heap.size := fun q hq => by have := own_of_some ho5 hq; have := hbx4.lt; omega
            exact itE_ok (r := ⟨2, 0, .slice a5 N c5, ⟨#[]⟩, .slice none 0 0⟩) HP.out ((((But.of_below hB).trans hb4).trans hb5).then hb6 (fun q hq e => by omega)) (itR_flat (by decide) (by decide) (by rw [List.length_take, Nat.min_eq_left hN]; exact ⟨(Sl.of_own ho5).but hb6 (.inr fun q hq e => by have := hbk q hq; omega), .inr fun q hq => by have := hbk q hq; omega⟩)) (by rw [HDD.out]; exact hR5.but hb6 (fun q hq e => by omega))
          · have HP := Lib.hid (HP.trans (show _ = .error 121 by unfold bodyP; rw [if_neg (by decide), if_pos rfl, if_neg (by omega)]))
            go_wp2_with (first
          | (go_at_call 146; refine hhd.mono ?_; rintro en w4 ⟨rfl, hb4, v4, hR4⟩; have hbx4 : RowAt w4 w.heap.size _ TI := (hb4.same _ hbx.lt hne).trans hbx; have e0 := RowAt.cell hbx4 (i := 0) rfl; have e1 := RowAt.cell hbx4 (i := 1) rfl; have e2 := RowAt.cell hbx4 (i := 2) rfl; have e3 := RowAt.cell hbx4 (i := 3) rfl; have e4 := RowAt.cell hbx4 (i := 4) rfl; have g0 := RowAt.fz hbx4 0; have g1 := RowAt.fz hbx4 1; have g2 := RowAt.fz hbx4 2; have g3 := RowAt.fz hbx4 3; have g4 := RowAt.fz hbx4 4)
          | (go_at_call 145; refine (take_no w4 D v4 r N hR4 (by omega) hrl).mono ?_; rintro en w5 ⟨rfl, rfl⟩))
            exact ⟨rfl, itE_err HP.out ((But.of_below hB).trans hb4)⟩
        · by_cases hN : N ≤ r.length
          · obtain ⟨s, hs⟩ : ∃ s : ByteArray, (⟨(r.take N).toArray⟩ : ByteArray) = s := ⟨_, rfl⟩
            have hsz : s.size ≤ 1000000 := by rw [← hs]; show (r.take N).toArray.size ≤ _; rw [List.size_toArray, List.length_take]; omega
            have HPT : itemP (d + 1) b = if (runes s).2 = true then .ok (It.mk 3 0 [] s [], k + N) else .error 121 := HP.trans (by
              unfold bodyP; rw [if_neg (by decide), if_neg (by decide), if_pos rfl, Int.toNat_natCast, hs]
              have : (N : Int) ≤ r.length := by omega
              simp only [this, true_and])
            obtain ⟨⟨rn, rf⟩, hrf⟩ : ∃ R, runes s = R := ⟨_, rfl⟩; rw [hrf] at HPT
            have hT5 : ∀ W, But (fun k => k = D) wr W → Tabs W := fun W hb => hTr.one hrd.box hb
            cases rf
            · have HP := Lib.hid (HPT.trans (if_neg (by simp)))
              clear HPT
              go_wp2_with (first
          | (go_at_call 146; refine hhd.mono ?_; rintro en w4 ⟨rfl, hb4, v4, hR4⟩; have hbx4 : RowAt w4 w.heap.size _ TI := (hb4.same _ hbx.lt hne).trans hbx; have e0 := RowAt.cell hbx4 (i := 0) rfl; have e1 := RowAt.cell hbx4 (i := 1) rfl; have e2 := RowAt.cell hbx4 (i := 2) rfl; have e3 := RowAt.cell hbx4 (i := 3) rfl; have e4 := RowAt.cell hbx4 (i := 4) rfl; have g0 := RowAt.fz hbx4 0; have g1 := RowAt.fz hbx4 1; have g2 := RowAt.fz hbx4 2; have g3 := RowAt.fz hbx4 3; have g4 := RowAt.fz hbx4 4)
          | (go_at_call 145; refine (take_yes w4 D v4 r N hR4 hN hrl).mono ?_; rintro en w5 ⟨u5, v5, rfl, ho5, hR5, hb5⟩; obtain ⟨a5, c5, rfl⟩ := own_slice ho5; have hbx5 : RowAt w5 w.heap.size _ TI := (hb5.same _ hbx4.lt hne).trans hbx4; have hcv := run_str (P := Tryz.prog) Tryz.underlying48 Tryz.underlying5 Tryz.underlying9 (Sl.of_own ho5); rw [hs] at hcv; have hru := runes_c s w5 (by omega) (hT5 w5 (hb4.trans hb5)); rw [hrf] at hru; have e0 := RowAt.cell hbx5 (i := 0) rfl; have e1 := RowAt.cell hbx5 (i := 1) rfl; have e2 := RowAt.cell hbx5 (i := 2) rfl; have e3 := RowAt.cell hbx5 (i := 3) rfl; have e4 := RowAt.cell hbx5 (i := 4) rfl; have g0 := RowAt.fz hbx5 0; have g1 := RowAt.fz hbx5 1; have g2 := RowAt.fz hbx5 2; have g3 := RowAt.fz hbx5 3; have g4 := RowAt.fz hbx5 4)
          | (go_at_call 147; refine hru.mono ?_; rintro en w6 ⟨rfl, hb6⟩; have hbx6 := hbx5.below hb6; have e0 := RowAt.cell hbx6 (i := 0) rfl; have e1 := RowAt.cell hbx6 (i := 1) rfl; have e2 := RowAt.cell hbx6 (i := 2) rfl; have e3 := RowAt.cell hbx6 (i := 3) rfl; have e4 := RowAt.cell hbx6 (i := 4) rfl; have g0 := RowAt.fz hbx6 0; have g1 := RowAt.fz hbx6 1; have g2 := RowAt.fz hbx6 2; have g3 := RowAt.fz hbx6 3; have g4 := RowAt.fz hbx6 4)
          | (go_at_call 125; with_reducible refine (must_no _ _).mono ?_; rintro en w7 ⟨rfl, rfl⟩))
              exact ⟨rfl, itE_err HP.out ((((But.of_below hB).trans hb4).trans hb5).trans (But.of_below hb6))⟩
            · have HP := Lib.hid (HPT.trans (if_pos rfl))
              clear HPT
              go_wp2_with (first
          | (go_at_call 146; refine hhd.mono ?_; rintro en w4 ⟨rfl, hb4, v4, hR4⟩; have hbx4 : RowAt w4 w.heap.size _ TI := (hb4.same _ hbx.lt hne).trans hbx; have e0 := RowAt.cell hbx4 (i := 0) rfl; have e1 := RowAt.cell hbx4 (i := 1) rfl; have e2 := RowAt.cell hbx4 (i := 2) rfl; have e3 := RowAt.cell hbx4 (i := 3) rfl; have e4 := RowAt.cell hbx4 (i := 4) rfl; have g0 := RowAt.fz hbx4 0; have g1 := RowAt.fz hbx4 1; have g2 := RowAt.fz hbx4 2; have g3 := RowAt.fz hbx4 3; have g4 := RowAt.fz hbx4 4)
          | (go_at_call 145; refine (take_yes w4 D v4 r N hR4 hN hrl).mono ?_; rintro en w5 ⟨u5, v5, rfl, ho5, hR5, hb5⟩; obtain ⟨a5, c5, rfl⟩ := own_slice ho5; have hbx5 : RowAt w5 w.heap.size _ TI := (hb5.same _ hbx4.lt hne).trans hbx4; have hcv := run_str (P := Tryz.prog) Tryz.underlying48 Tryz.underlying5 Tryz.underlying9 (Sl.of_own ho5); rw [hs] at hcv; have hru := runes_c s w5 (by omega) (hT5 w5 (hb4.trans hb5)); rw [hrf] at hru; have e0 := RowAt.cell hbx5 (i := 0) rfl; have e1 := RowAt.cell hbx5 (i := 1) rfl; have e2 := RowAt.cell hbx5 (i := 2) rfl; have e3 := RowAt.cell hbx5 (i := 3) rfl; have e4 := RowAt.cell hbx5 (i := 4) rfl; have g0 := RowAt.fz hbx5 0; have g1 := RowAt.fz hbx5 1; have g2 := RowAt.fz hbx5 2; have g3 := RowAt.fz hbx5 3; have g4 := RowAt.fz hbx5 4)
          | (go_at_call 147; refine hru.mono ?_; rintro en w6 ⟨rfl, hb6⟩; have hbx6 := hbx5.below hb6; have e0 := RowAt.cell hbx6 (i := 0) rfl; have e1 := RowAt.cell hbx6 (i := 1) rfl; have e2 := RowAt.cell hbx6 (i := 2) rfl; have e3 := RowAt.cell hbx6 (i := 3) rfl; have e4 := RowAt.cell hbx6 (i := 4) rfl; have g0 := RowAt.fz hbx6 0; have g1 := RowAt.fz hbx6 1; have g2 := RowAt.fz hbx6 2; have g3 := RowAt.fz hbx6 3; have g4 := RowAt.fz hbx6 4)
          | (go_at_call 125; with_reducible refine (must_yes _ _).mono ?_; rintro en w7 ⟨rfl, rfl⟩))
              obtain ⟨hX7, hb7⟩ := set5 hbx6 (.int .i64 3) (.int .u64 0) (.slice none 0 0) (.string s) (.slice none 0 0); refine bodyPost_ret (results_cell_row Tryz.results126 _ _ w.heap.size _ _ _ _ rfl hX7 Tryz.underlying62 rfl (by kernel_rfl)) rfl ?_; exact itE_ok (r := ⟨3, 0, .slice none 0 0, s, .slice none 0 0⟩) HP.out (((((But.of_below hB).trans hb4).trans hb5).trans (But.of_below hb6)).then hb7 (fun q hq e => by omega)) (itR_flat (by decide) (by decide) slS_nil) (by rw [HDD.out]; exact (hR5.up hb6).but hb7 (fun q hq e => by omega))
          · have HP := Lib.hid (HP.trans (show _ = .error 121 by unfold bodyP; rw [if_neg (by decide), if_neg (by decide), if_pos rfl, if_neg (by omega)]))
            go_wp2_with (first
          | (go_at_call 146; refine hhd.mono ?_; rintro en w4 ⟨rfl, hb4, v4, hR4⟩; have hbx4 : RowAt w4 w.heap.size _ TI := (hb4.same _ hbx.lt hne).trans hbx; have e0 := RowAt.cell hbx4 (i := 0) rfl; have e1 := RowAt.cell hbx4 (i := 1) rfl; have e2 := RowAt.cell hbx4 (i := 2) rfl; have e3 := RowAt.cell hbx4 (i := 3) rfl; have e4 := RowAt.cell hbx4 (i := 4) rfl; have g0 := RowAt.fz hbx4 0; have g1 := RowAt.fz hbx4 1; have g2 := RowAt.fz hbx4 2; have g3 := RowAt.fz hbx4 3; have g4 := RowAt.fz hbx4 4)
          | (go_at_call 145; refine (take_no w4 D v4 r N hR4 (by omega) hrl).mono ?_; rintro en w5 ⟨rfl, rfl⟩))
            exact ⟨rfl, itE_err HP.out ((But.of_below hB).trans hb4)⟩
        · have HPB := HP
          clear HP
          have hX0 := fun (W : World) => RowAt.new W #[.int .i64 4, .int .u64 0, .slice none 0 0, .string ⟨#[]⟩, .slice none 0 0] TI
          go_wp2_with (first
          | (go_at_call 146; refine hhd.mono ?_; rintro en w4 ⟨rfl, hb4, v4, hR4⟩; have hbx4 : RowAt w4 w.heap.size _ TI := (hb4.same _ hbx.lt hne).trans hbx; have e0 := RowAt.cell hbx4 (i := 0) rfl; have e1 := RowAt.cell hbx4 (i := 1) rfl; have e2 := RowAt.cell hbx4 (i := 2) rfl; have e3 := RowAt.cell hbx4 (i := 3) rfl; have e4 := RowAt.cell hbx4 (i := 4) rfl; have g0 := RowAt.fz hbx4 0; have g1 := RowAt.fz hbx4 1; have g2 := RowAt.fz hbx4 2; have g3 := RowAt.fz hbx4 3; have g4 := RowAt.fz hbx4 4)
          | (go_at_call 125; with_reducible refine (must_yes _ _).mono ?_; rintro en w7 ⟨rfl, rfl⟩))
          have hls0 : LsAt w d r D w4.heap.size 0 0 [] [] (.slice none 0 0) v4 (w4.alloc (.cells #[.int .i64 4, .int .u64 0, .slice none 0 0, .string ⟨#[]⟩, .slice none 0 0] TI)) := by
            exact ⟨(((But.of_below hB).trans hb4).trans (But.alloc _ _)), rfl, hR4.up (below_alloc _ _), hX0 w4, World.ownsRow_nil _ _ _ _, by unfold ItsR; rfl, hbx4.alloc _⟩
          have hw4 : w.heap.size < w4.heap.size := hbx4.lt; clear e0 e1 e2 e3 e4 g0 g1 g2 g3 g4 hbx4; have HH4 := Lib.hid (And.intro hhd (And.intro hb4 hR4)); clear hhd hb4 hR4
          go_loopw [8] (fun t wr => ∃ (m j c : Nat) (l : List It) (rows : List Rw) (lv v' : Value), t = .int .u64 (m : Int) ∧ j + m = N ∧ LsAt w d r D w4.heap.size j c l rows lv v' wr) (fun t _ => (intOf t).toNat)
          case atStart => exact ⟨N, 0, 0, [], [], _, _, rfl, by omega, hls0⟩
          case round =>
            clear hls0; obtain ⟨m, j, c, l, rows, lv, v', rfl, hjm, hls⟩ := hrel; obtain ⟨p, q, rfl⟩ := own_slice hls.own; have htb : Tabs wr := hT.one h.box hls.but; have hll := listP_some (itemP_some d) _ _ _ _ hls.lst; have cX0 := hls.box.cell (i := 4) rfl; have hXr := hls.box.lt
            cases m with
            | zero =>
              have hbx5 := hls.bx; have e0 := RowAt.cell hbx5 (i := 0) rfl; have e1 := RowAt.cell hbx5 (i := 1) rfl; have e2 := RowAt.cell hbx5 (i := 2) rfl; have e3 := RowAt.cell hbx5 (i := 3) rfl; have e4 := RowAt.cell hbx5 (i := 4) rfl; have g0 := RowAt.fz hbx5 0; have g1 := RowAt.fz hbx5 1; have g2 := RowAt.fz hbx5 2; have g3 := RowAt.fz hbx5 3; have g4 := RowAt.fz hbx5 4; have x0 := RowAt.cell hls.box (i := 0) rfl; have x1 := RowAt.cell hls.box (i := 1) rfl; have x2 := RowAt.cell hls.box (i := 2) rfl; have x3 := RowAt.cell hls.box (i := 3) rfl; have x4 := RowAt.cell hls.box (i := 4) rfl; have y0 := RowAt.fz hls.box 0; have y1 := RowAt.fz hls.box 1; have y2 := RowAt.fz hls.box 2; have y3 := RowAt.fz hls.box 3; have y4 := RowAt.fz hls.box 4; go_wp2; obtain ⟨hX5, hb5⟩ := set5 hls.bx (.int .i64 4) (.int .u64 0) (.slice none 0 0) (.string ⟨#[]⟩) (.slice p j q); refine bodyPost_ret (results_cell_row Tryz.results126 _ _ w.heap.size _ _ _ _ rfl hX5 Tryz.underlying62 rfl (by kernel_rfl)) rfl ?_
              have hz5 := hb5.size
              have hown := fun y hy => own_of_some (k := y) hls.own hy
              refine itE_ok (x := .mk 4 0 [] noS l) (k := k + c) (r := ⟨4, 0, .slice none 0 0, ⟨#[]⟩, .slice p j q⟩) (HPB.trans (by unfold bodyP; rw [if_neg (by decide), if_neg (by decide), if_neg (by decide), if_pos rfl, Int.toNat_natCast, show N = j by omega, hls.lst])) (hls.but.then hb5 (fun y hy e => by omega)) ?_ (by rw [HDD.out]; exact hls.rd.but hb5 (fun y hy e => by omega)); unfold ItR; refine ⟨rfl, rfl, rfl, ⟨by decide, by decide⟩, slS_nil, rows, ?_, hls.its.turn (fun sz v n cs hsl => (hsl.but hb5 (fun y hy e => by have := hy.1; omega)).mono fun y hy => ⟨by have := hy.1; omega, by have := hy.2.1; omega⟩)⟩; rw [hll.1]; exact ⟨(Sl.of_own hls.own).but hb5 (.inr fun y hy e => by have := hown y hy; omega), .inr fun y hy => by have := hown y hy; omega⟩
            | succ m =>
              obtain ⟨M, hM⟩ : ∃ M : Int, ((m + 1 : Nat) : Int) = M := ⟨_, rfl⟩; rw [hM]
              have hM0 : 0 < M := by omega
              have hM1 : M ≤ 18446744073709551615 := by omega
              have hMd : decide (0 < M) = true := decide_eq_true hM0; have hwr : IntKind.i64.wrap ((i : Int) + 1) = (i : Int) + 1 := wrap_i64 (by omega) (by omega)
              cases hx : itemP d (r.drop c) with
              | error e =>
                have hx := hx; go_wp2; refine wp_region_pz (fun k => k = D ∨ w4.heap.size < k) 9 (.q 0 (.q 1 (.q 2 (.q 3 (.q 4 (.c 5 (.c 6 (.c 7 (.q 8 .done))))))))) (by kernel_rfl) (by kernel_rfl) (by kernel_rfl) (by decide) (fun _ _ d _ _ h => by cases d <;> exact h) (fun Wd hBd => ?_)
                try simp only [zq]
                have cX := cell_up hBd cX0; have hzd := hBd.size
                iterate 5
                  refine ztg rfl (by rfl) (fun w' hBw' => hBw'.cell cX (fun e => by omega)) ?_
                refine zc fun K hK => ?_
                go_simp
                go_at_call 126
                refine (IH Wd D _ _ (hls.rd.up hBd) (by rw [List.length_drop]; omega) (htb.up hBd)).mono ?_; rintro en w5 ⟨hb5, hm5⟩; rw [hx] at hm5; simp only at hm5; subst hm5; exact ⟨rfl, itE_err (HPB.trans (by unfold bodyP; rw [if_neg (by decide), if_neg (by decide), if_neg (by decide), if_pos rfl, Int.toNat_natCast, listP_err _ _ _ _ _ _ hls.lst hx (by omega)])) ((hls.but.trans (But.of_below hBd)).trans hb5)⟩
              | ok xk =>
                obtain ⟨x, kk⟩ := xk; go_wp2; refine wp_region_pz (fun k => k = D ∨ w4.heap.size < k) 9 (.q 0 (.q 1 (.q 2 (.q 3 (.q 4 (.c 5 (.c 6 (.c 7 (.q 8 .done))))))))) (by kernel_rfl) (by kernel_rfl) (by kernel_rfl) (by decide) (fun _ _ d _ _ h => by cases d <;> exact h) (fun Wd hBd => ?_)
                try simp only [zq]
                have cX := cell_up hBd cX0; have hzd := hBd.size
                iterate 5
                  refine ztg rfl (by rfl) (fun w' hBw' => hBw'.cell cX (fun e => by omega)) ?_
                refine zc fun K hK => ?_
                go_simp
                go_at_call 126
                refine (IH Wd D _ _ (hls.rd.up hBd) (by rw [List.length_drop]; omega) (htb.up hBd)).mono ?_; rintro en w5 ⟨hb5, hm5⟩; rw [hx] at hm5; simp only at hm5; obtain ⟨rr, u5, rfl, hr5, hR5⟩ := hm5; have hsh := hr5.shape; obtain ⟨k1, n1, ba1, bn1, bc1, s1, la1, ln1, lc1, rfl⟩ := hsh; have hs5 := hb5.size; refine hK.out _ _ (hb5.mono fun _ _ e => .inl e) ?_; clear hK K
                try simp only [zq]
                refine zc fun K hK => ?_
                go_simp; refine hK.out _ _ (But.alloc _ _) ?_; clear hK K
                try simp only [zq]
                refine pt_c ?_; refine pt_app3 rfl (by rfl) (.tmp 83) (.tmp 88) 59 rfl slT_items (w4.heap.size + 1) rfl (own_but (own_up hls.own hBd) (hb5.trans (But.alloc _ _)) (fun q hq e => by have := own_of_some hls.own hq; omega)) rfl (sl_new5 w5 ⟨k1, n1, .slice ba1 bn1 bc1, s1, .slice la1 ln1 lc1⟩) (one_rwS _ _ _ _ _ _ _ _ _) (by have := hjm; simp only [maxLen]; omega) (by have := hjm; omega) (by rw [World.size_alloc]; omega) (fun q hq => .inr hq) (fun v3 w7 ho7 hb7 hv7 => ?_)
                try simp only [zq]
                have hXD : w4.heap.size ≠ D := by omega
                have hX7 : RowAt w7 w4.heap.size _ TI := (hb7.same _ (by rw [World.size_alloc]; omega) (fun e => by have := own_of_some hls.own e; omega)).trans (RowAt.alloc ((hb5.same _ (by omega) hXD).trans ((hls.box.below hBd))) _); have x4 := hX7.cell (i := 4) rfl; have y4 := hX7.fz 4; obtain ⟨a7, c7, rfl⟩ := own_slice ho7; refine zt rfl (by rfl) ?_; refine pz_last rfl (by rfl) (fun K hK => ?_); go_simp; refine hK.out _ _ ?_; clear hK K
                try simp only [zq]
                clear x4 y4 cX; go_wp2
                go_roundw
                case rel =>
                  exact ⟨m, j + 1, c + kk, l ++ [x], rows ++ [⟨k1, n1, .slice ba1 bn1 bc1, s1, .slice la1 ln1 lc1⟩], _, u5, by rw [show M - 1 = (m : Int) by omega], by omega, (hls.mk_up hBd).step hDw hw4 hx hb5 hr5 hR5 (below_alloc _ _) ho7 hb7 hv7⟩
                case measure => simp [intOf]; omega
        · rcases hm with rfl | rfl | rfl | rfl
          all_goals
            have HP := Lib.hid (HP.trans (show _ = .error 121 by unfold bodyP; rw [if_neg (by decide), if_neg (by decide), if_neg (by decide), if_neg (by decide)]))
            go_wp2_with (first
          | (go_at_call 146; refine hhd.mono ?_; rintro en w4 ⟨rfl, hb4, v4, hR4⟩; have hbx4 : RowAt w4 w.heap.size _ TI := (hb4.same _ hbx.lt hne).trans hbx; have e0 := RowAt.cell hbx4 (i := 0) rfl; have e1 := RowAt.cell hbx4 (i := 1) rfl; have e2 := RowAt.cell hbx4 (i := 2) rfl; have e3 := RowAt.cell hbx4 (i := 3) rfl; have e4 := RowAt.cell hbx4 (i := 4) rfl; have g0 := RowAt.fz hbx4 0; have g1 := RowAt.fz hbx4 1; have g2 := RowAt.fz hbx4 2; have g3 := RowAt.fz hbx4 3; have g4 := RowAt.fz hbx4 4)
          | (go_at_call 125; with_reducible refine (must_no _ _).mono ?_; rintro en w7 ⟨rfl, rfl⟩))
            exact ⟨rfl, itE_err HP.out ((But.of_below hB).trans hb4)⟩
end Go.Proofs.YtpkonagjnfphkaaGreatDoor
