/-
  CbRb, PrWb, PrU: several texts in one (bundle.py).
-/
import Derived.Test.YtpkonagjnfphkaaGreatDoorPmB08
import Derived.Test.YtpkonagjnfphkaaGreatDoorPmB31
import Derived.Test.YtpkonagjnfphkaaGreatDoorPmB12
import Derived.Test.YtpkonagjnfphkaaGreatDoorPmB07
import Derived.Lib.AppendStr
import Derived.Test.YtpkonagjnfphkaaGreatDoorPmB39
import Derived.Test.YtpkonagjnfphkaaGreatDoorPmB36
import Derived.Test.YtpkonagjnfphkaaGreatDoorPmB34
namespace Go.Proofs.YtpkonagjnfphkaaGreatDoor
open Go.RowKit Cb
set_option linter.unusedSimpArgs false
set_option linter.unusedVariables false
theorem wrapU {x : Int} (h0 : 0 ≤ x) (h1 : x ≤ 18446744073709551615) : IntKind.u64.wrap x = x := by
  have hs : IntKind.u64.signed = false := rfl
  simp [IntKind.wrap, go_sem, hs]
  omega
theorem enters_headR : Enters Tryz.prog 67 := enters_of Tryz.func67 (by kernel_rfl) rfl
section
variable {P : Program} {ops : Array Oper} {Q : Exit → Act → World → Prop} {O : Nat → Prop}
/-- An append of a string's bytes within a drawn region. -/
theorem pt_apps {i : Nat} {o : Oper} {R : Act → World → Prop} {a : Act} {w : World} (hi : ops[i]? = some o) (hw : Region.wanted o (yielded ops a.tmps) = true) (s x : Operand) (t u : TypeId)
    (ho : o.op = .call { callee := .builtin .append, args := #[s, x], argTypes := #[t, u] })
    {e : TypeId} (ht : P.underlying t = some (.slice e)) (hu : P.underlying u = some .string) (hinf : (P.info? e).map (fun i => (i.zero, i.size, i.bytes)) = some (some (.int .u8 0), 1, 1)) (base : Nat) {v : Value} {n : Nat} {xs : List Value} (hs : a.eval s = v) (hown : w.ownsRow base e 1 v n xs)
    (str : ByteArray) (hx : a.eval x = .string str)
    (h63 : n + str.size ≤ maxLen) (hbytes : n + str.size ≤ 140737488355328) (hbase : base ≤ w.heap.size) (hO : ∀ k, base ≤ k → O k)
    (h : ∀ v' w', w'.ownsRow base e 1 v' (n + str.size) (xs ++ by8 str.data.toList) → But (fun k => v.ownBlock = some k) w w' → R (a.put o.dst v') w') : ptStep P O ops Q i R a w :=
  ⟨o, hi, hw, by
    obtain ⟨ie, hi2, h1, h2, h3⟩ := info_parts hinf
    obtain ⟨v', w', hr, h2, h3, h4⟩ := Lib.run_append_own_string (P := P) w base t u o.type e ie ht hu hi2 h1 h2 h3 v n xs hown str h63 hbytes hbase
    have hb : But (fun k => v.ownBlock = some k) w w' := But.grown h3 (fun r hr => .inl hr)
    unfold Oper.wp execOp
    simp only [ho, resolve, invoke, builtin, Sem.run_bind, Sem.run_pure, Result.andThen_ok, List.map_toArray, List.map_cons, List.map_nil, hs, hx, hr]
    exact ⟨hb.mono fun j _ e => hO j (own_of_some hown e).1, h v' w' h2 hb⟩⟩
end
theorem own_cast {w : World} {base : Nat} {e : TypeId} {sz : Nat} {v : Value} {n n' : Nat} {xs xs' : List Value} (h : w.ownsRow base e sz v n xs) (hn : n' = n) (hx : xs' = xs) : w.ownsRow base e sz v n' xs' := by subst hn; subst hx; exact h
abbrev ByE (bs : List UInt8) (w : World) (en : Ending) (w' : World) : Prop := ∃ v, en = .returned v ∧ w'.ownsRow w.heap.size 5 1 v bs.length (by8 bs) ∧ Below w.heap.size w w'
abbrev ByRC (S : Nat → Prop) (x : It) : Prop := ∀ (r : Rw) (w : World), ItR S w x r → cnt x ≤ 1000000 → rightB x = true → Calls Tryz.prog 31 #[rwV r] w (ByE (bytesOf x) w)
set_option maxHeartbeats 8000000 in
set_option maxRecDepth 100000 in
theorem bytesR_c (S : Nat → Prop) (x : It) : ByRC S x := by
  induction x using It.ind with
  | h x ih =>
    intro r w hr hcx hri
    obtain ⟨rows, p⟩ := hr.parts
    have hu := p.l
    have hea := p.each
    have hln := p.each.len
    have hc := cntL_len x.l
    have hcy : ∀ z ∈ x.l, cnt z ≤ 1000000 := fun z hz => by have := cnt_mem hz; omega
    have SB := p.b.1
    have hn0 : 0 ≤ x.n := p.lo
    have hn9 : x.n ≤ 18446744073709551615 := p.hi
    obtain ⟨k1, n1, ba1, bc1, s1, la1, lc1, rfl⟩ := hr.shape2
    have hll : x.l.length ≤ 1000000 := by have := cntL_len x.l; cases x; simp only [cnt, It.l] at *; omega
    have hbl : x.b.length ≤ 1000000 := by cases x; simp only [cnt, It.b] at *; omega
    have hss : s1.size ≤ 1000000 := by have h := p.s; simp only at h; subst h; cases x; simp only [cnt, It.s] at *; omega
    simp only at hu SB
    have hB1 := below_alloc w (.cells (rwC ⟨k1, n1, .slice ba1 x.b.length bc1, s1, .slice la1 x.l.length lc1⟩).toArray 62)
    have e1 := rangeAt_new w (rwC ⟨k1, n1, .slice ba1 x.b.length bc1, s1, .slice la1 x.l.length lc1⟩) 62 (0, 0)
    have hk : x.k = k1 := p.k.symm
    have hnn : x.n = n1 := p.n.symm
    have hs : x.s = s1 := p.s.symm
    have hby := bytesOf_eq x
    have hrl : ∀ z ∈ x.l, rightB z = true := fun z hz => by rw [rightB_eq, Bool.and_eq_true] at hri; exact rightL_mem hri.2 hz
    have how : (1 ≤ k1 ∧ k1 ≤ 6) ∧ (k1 = 5 → n1 ≤ 1) := by
      rw [rightB_eq, Bool.and_eq_true] at hri
      have h1 := hri.1
      simp only [ownB, Bool.and_eq_true, decide_eq_true_eq] at h1
      rw [hk, hnn] at h1
      exact ⟨h1.1, fun e => by have := h1.2.2.1; omega⟩
    have hbtl := bytesL_le x.l
    have hcl : cntL x.l ≤ 1000000 := by cases x; simp only [cnt, It.l] at *; omega
    rw [hk, hnn, hs] at hby
    rw [hnn] at hn0 hn9
    clear p hr hcx hri hk hnn hs
    have b0 := e1 0 _ rfl
    have b1 := e1 1 _ rfl
    have b2 := e1 2 _ rfl
    have b3 := e1 3 _ rfl
    have b4 := e1 4 _ rfl
    simp only [Nat.zero_add] at b0 b1 b2 b3 b4
    have hz1 : (w.alloc (.cells (rwC ⟨k1, n1, .slice ba1 x.b.length bc1, s1, .slice la1 x.l.length lc1⟩).toArray 62)).heap.size = w.heap.size + 1 := World.size_alloc _ _
    generalize hbs : x.b = bs at *
    clear hbs
    generalize hbn : bs.length = bn1 at *
    have HBN := Lib.hid hbn
    clear hbn
    generalize hn : x.l.length = n at *
    have Hn := Lib.hid hn
    clear hn
    have hcs : k1 = 1 ∨ k1 = 2 ∨ k1 = 3 ∨ k1 = 4 ∨ k1 = 5 ∨ k1 = 6 := by omega
    rcases hcs with rfl | rfl | rfl | rfl | rfl | rfl
    · rw [if_pos rfl] at hby
      have HBY := Lib.hid hby
      clear hby
      go_enter Tryz.func31, Tryz.ntmps31
      go_wp2_with (go_at_call 67; refine (headR_c 0 n1 _ (by decide) (by decide) hn0 hn9).mono ?_; rintro en w2 ⟨v2, rfl, ho2, hb2⟩)
      go_ret
      refine ⟨v2, rfl, ?_, below_up hB1 hb2⟩
      rw [HBY.out]
      exact own_down ho2 (by omega)
    · rw [if_neg (by decide), if_pos rfl] at hby
      have HBY := Lib.hid hby
      clear hby
      go_enter Tryz.func31, Tryz.ntmps31
      go_wp2
      refine wp_region_pt (fun q => w.heap.size + 1 ≤ q) (.q 0 (.q 1 (.q 2 (.q 3 (.q 5 (.q 6 (.c 4 (.c 7 (.q 8 .done))))))))) (by kernel_rfl) (by kernel_rfl) (by kernel_rfl) (by decide) (fun _ _ d _ _ h => by cases d <;> exact h) (fun Wd hBd => ?_)
      try simp only [Act.put, List.getElem_toArray, List.getElem_cons_zero, List.getElem_cons_succ, List.setIfInBounds_toArray, List.set_cons_zero, List.set_cons_succ]
      have hwu : IntKind.u64.wrap ((bn1 : Nat) : Int) = ((bn1 : Nat) : Int) := wrapU (by omega) (by omega)
      have Db2 := cell_up hBd b2
      have hzd := hBd.size
      have hhl := headB_len 2 bn1
      iterate 6
        refine pt_q (v := ?_) rfl (by rfl) ?_ ?_
        rotate_left
        · intro w' hBw'
          have p0 := hBw'.cell Db2 (fun e => by omega)
          first | (go_simp; done) | (go_simp; with_reducible rfl)
        try simp only [Act.put, List.getElem_toArray, List.getElem_cons_zero, List.getElem_cons_succ, List.setIfInBounds_toArray, List.set_cons_zero, List.set_cons_succ]
      refine pt_c ?_
      refine pt_call rfl (by rfl) (headR_c 2 bn1 Wd (by decide) (by decide) (by omega) (by omega)) enters_headR (by rfl) (by kernel_rfl) ?_
      try simp only [Act.put, List.getElem_toArray, List.getElem_cons_zero, List.getElem_cons_succ, List.setIfInBounds_toArray, List.set_cons_zero, List.set_cons_succ]
      rintro en wN ⟨v3, rfl, ho3, hb3⟩
      refine ⟨_, rfl, But.of_below hb3, ?_⟩
      have hd3 := cell_up hb3 Db2
      have hzN := hb3.size
      refine pt_c ?_
      refine pt_app2 rfl (by rfl) (.tmp 18) (.tmp 20) 48 rfl slT_u8 Wd.heap.size rfl ho3 rfl (SB.up (below_up (below_up hB1 hBd) hb3)) (one_by8 _) (by simp only [maxLen]; omega) (by omega) (by omega) (fun q hq => by omega) (fun v4 wA ho4 hb4 => ?_)
      try simp only [Act.put, List.getElem_toArray, List.getElem_cons_zero, List.getElem_cons_succ, List.setIfInBounds_toArray, List.set_cons_zero, List.set_cons_succ]
      obtain ⟨a4, c4, rfl⟩ := own_slice ho4
      refine pt_q (v := ?_) rfl (by rfl) ?_ ?_
      rotate_left
      · intro w' hBw'
        first | (go_simp; done) | (go_simp; with_reducible rfl)
      try simp only [Act.put, List.getElem_toArray, List.getElem_cons_zero, List.getElem_cons_succ, List.setIfInBounds_toArray, List.set_cons_zero, List.set_cons_succ]
      refine pt_done ?_
      have hsz0 : s1.data.toList.length = s1.size := Array.length_toList
      go_wp2
      go_ret
      refine ⟨.slice a4 _ c4, rfl, ?_, ?_⟩
      · rw [HBY.out]
        have := own_down (base' := w.heap.size) ho4 (by omega)
        refine own_cast this ?_ ?_
        · simp [HBN.out, hsz0]
        · simp [by8]
      · exact ((below_up hB1 hBd).trans (hb3.mono (by omega))).trans (hb4.below (fun q e => by have := (own_of_some ho3 e).1; omega) (by omega))

    · rw [if_neg (by decide), if_neg (by decide), if_pos rfl] at hby
      have HBY := Lib.hid hby
      have hsz : s1.data.toList.length = s1.size := Array.length_toList
      clear hby
      go_enter Tryz.func31, Tryz.ntmps31
      go_wp2
      refine wp_region_pt (fun q => w.heap.size + 1 ≤ q) (.q 0 (.q 1 (.q 2 (.q 3 (.q 5 (.q 6 (.c 4 (.c 7 (.q 8 .done))))))))) (by kernel_rfl) (by kernel_rfl) (by kernel_rfl) (by decide) (fun _ _ d _ _ h => by cases d <;> exact h) (fun Wd hBd => ?_)
      try simp only [Act.put, List.getElem_toArray, List.getElem_cons_zero, List.getElem_cons_succ, List.setIfInBounds_toArray, List.set_cons_zero, List.set_cons_succ]
      have hwu : IntKind.u64.wrap ((s1.size : Nat) : Int) = ((s1.size : Nat) : Int) := wrapU (by omega) (by omega)
      have Db3 := cell_up hBd b3
      have hzd := hBd.size
      have hhl := headB_len 3 s1.size
      iterate 6
        refine pt_q (v := ?_) rfl (by rfl) ?_ ?_
        rotate_left
        · intro w' hBw'
          have p0 := hBw'.cell Db3 (fun e => by omega)
          first | (go_simp; done) | (go_simp; with_reducible rfl)
        try simp only [Act.put, List.getElem_toArray, List.getElem_cons_zero, List.getElem_cons_succ, List.setIfInBounds_toArray, List.set_cons_zero, List.set_cons_succ]
      refine pt_c ?_
      refine pt_call rfl (by rfl) (headR_c 3 s1.size Wd (by decide) (by decide) (by omega) (by omega)) enters_headR (by rfl) (by kernel_rfl) ?_
      try simp only [Act.put, List.getElem_toArray, List.getElem_cons_zero, List.getElem_cons_succ, List.setIfInBounds_toArray, List.set_cons_zero, List.set_cons_succ]
      rintro en wN ⟨v3, rfl, ho3, hb3⟩
      refine ⟨_, rfl, But.of_below hb3, ?_⟩
      have hd3 := cell_up hb3 Db3
      have hzN := hb3.size
      refine pt_c ?_
      refine pt_apps rfl (by rfl) (.tmp 28) (.tmp 30) 48 9 rfl Tryz.underlying48 Tryz.underlying9 (by kernel_rfl) Wd.heap.size rfl ho3 s1 rfl (by simp only [maxLen]; omega) (by omega) (by omega) (fun q hq => by omega) (fun v4 wA ho4 hb4 => ?_)
      try simp only [Act.put, List.getElem_toArray, List.getElem_cons_zero, List.getElem_cons_succ, List.setIfInBounds_toArray, List.set_cons_zero, List.set_cons_succ]
      obtain ⟨a4, c4, rfl⟩ := own_slice ho4
      refine pt_q (v := ?_) rfl (by rfl) ?_ ?_
      rotate_left
      · intro w' hBw'
        first | (go_simp; done) | (go_simp; with_reducible rfl)
      try simp only [Act.put, List.getElem_toArray, List.getElem_cons_zero, List.getElem_cons_succ, List.setIfInBounds_toArray, List.set_cons_zero, List.set_cons_succ]
      refine pt_done ?_
      have hsz0 : s1.data.toList.length = s1.size := Array.length_toList
      go_wp2
      go_ret
      refine ⟨.slice a4 _ c4, rfl, ?_, ?_⟩
      · rw [HBY.out]
        have := own_down (base' := w.heap.size) ho4 (by omega)
        refine own_cast this ?_ ?_
        · simp [HBN.out, hsz0]
        · simp [by8]
      · exact ((below_up hB1 hBd).trans (hb3.mono (by omega))).trans (hb4.below (fun q e => by have := (own_of_some ho3 e).1; omega) (by omega))

    · rw [if_neg (by decide), if_neg (by decide), if_neg (by decide), if_neg (by decide), if_neg (by decide)] at hby
      have HBY := Lib.hid hby
      clear hby
      have hhl := headB_len 4 n
      go_enter Tryz.func31, Tryz.ntmps31
      go_wp2_with (go_at_call 67; refine (headR_c 4 n _ (by decide) (by decide) (by omega) (by omega)).mono ?_; rintro en w2 ⟨v2, rfl, ho2, hb2⟩)
      have hB2 := below_up hB1 hb2
      go_loopw [3, 4] (fun b i wr => ∃ j : Nat, j ≤ n ∧ i = .int .i64 j ∧ wr.ownsRow (w.heap.size + 1) 5 1 b (headB 4 n ++ bytesL (x.l.take j)).length (by8 (headB 4 n ++ bytesL (x.l.take j))) ∧ Below (w.heap.size + 1) w2 wr) (fun _ i _ => n - (intOf i).toNat)
      case atStart => exact ⟨0, Nat.zero_le _, rfl, by simp only [List.take_zero, bytesL, List.append_nil]; exact own_down ho2 (by omega), Below.refl _ _⟩
      case round =>
        obtain ⟨j, hj, rfl, hown, hB⟩ := hrel
        have hBw : Below w.heap.size w wr := hB2.trans (hB.mono (by omega))
        have hB1w := (hb2.mono (show w.heap.size + 1 ≤ _ by omega)).trans hB
        have hc1 : wr.cell? ⟨w.heap.size, 4, none⟩ = some (.slice la1 n lc1) := by
          have := rangeAt_up (by rw [hz1]; exact hB1w) e1 4 _ rfl
          simpa only [Nat.zero_add] using this
        have hzr := hBw.size
        have hzr2 := hB1w.size
        by_cases hlt : j < n
        · have hl' : j < x.l.length := by rw [Hn.out]; exact hlt
          have hr' : j < rows.length := by omega
          obtain ⟨b, off, rfl, hr⟩ := (hu.1.up hBw).rec_at (cells := rwC) (sz := 5) (fun _ => rfl) hlt hr'
          have hs1 := Lib.hid (show headB 4 n ++ bytesL (x.l.take (j + 1)) = (headB 4 n ++ bytesL (x.l.take j)) ++ bytesOf x.l[j] by rw [List.take_succ_eq_append_getElem hl', bytesL_app]; simp [bytesL])
          have htl : (bytesL (x.l.take j)).length ≤ (bytesL x.l).length := by
            have := congrArg List.length (bytesL_app (x.l.take j) (x.l.drop j))
            rw [List.take_append_drop, List.length_append] at this; omega
          have hxl := bytes_le x.l[j]
          have hxc := hcy _ (List.getElem_mem hl')
          have hcl2 := ih x.l[j] (List.getElem_mem hl') rows[j] wr ((hea.get hl' hr').up hBw) (hcy _ (List.getElem_mem hl')) (hrl _ (List.getElem_mem hl'))
          have hsx := (hea.get hl' hr').shape
          generalize rows[j] = rx at *
          obtain ⟨ka, na, baa, bna, bca, sa, laa, lna, lca, rfl⟩ := hsx
          generalize hA : headB 4 n ++ bytesL (x.l.take j) = A at *
          have hAl : A.length ≤ 9000009 := by rw [← hA, List.length_append]; omega
          generalize hC : bytesOf x.l[j] = C at *
          have HAC := Lib.hid (And.intro hA hC)
          clear hA hC
          obtain ⟨al, hal⟩ : ∃ q, A.length = q := ⟨_, rfl⟩
          obtain ⟨cl, hcl'⟩ : ∃ q, C.length = q := ⟨_, rfl⟩
          have HALC := Lib.hid (And.intro hal hcl')
          rw [hal] at hown hAl
          rw [hcl'] at hxl
          have hcl3 : Calls Tryz.prog 31 #[rwV ⟨ka, na, .slice baa bna bca, sa, .slice laa lna lca⟩] wr (fun en w' => ∃ v, en = .returned v ∧ w'.ownsRow wr.heap.size 5 1 v cl (by8 C) ∧ Below wr.heap.size wr w') := hcl2.mono (fun en w' h => by rw [← hcl']; exact h)
          clear hal hcl' hcl2
          obtain ⟨ab, cb, hob⟩ := own_slice hown
          subst hob
          go_wp2_with (first
            | (refine wpList_load_mid rfl 62 (.tmp 58) rfl b (off + j * 5) rfl (rwC ⟨ka, na, .slice baa bna bca, sa, .slice laa lna lca⟩) _ hr Tryz.underlying62 rfl (by kernel_rfl) ?_)
            | (go_at_call 31; refine hcl3.mono ?_; rintro en w4 ⟨v4, rfl, ho4, hb4⟩; obtain ⟨a4, c4, rfl⟩ := own_slice ho4)
            | (at_builtin; refine wpList_app rfl _ _ 48 rfl slT_u8 (w.heap.size + 1) rfl (own_up hown hb4) rfl (Sl.of_own ho4) (one_by8 _) (by simp only [maxLen]; omega) (by omega) (by have := hb4.size; omega) ?_; intro v5 w5 ho5 hg5 _))
          have hb5 : Below (w.heap.size + 1) w2 w5 := (hB.trans (hb4.mono (by omega))).trans ((But.grown hg5 (O := fun q => w.heap.size + 1 ≤ q) (fun q hq => .inl (own_of_some hown hq).1)).below (fun q e => e) (by have := hb4.size; omega))
          go_roundw
          case rel =>
            refine ⟨j + 1, by omega, by go_num, ?_, hb5⟩
            rw [hs1.out]
            refine own_cast ho5 ?_ (by simp [by8])
            rw [List.length_append, HALC.out.1, HALC.out.2]
          case measure => simp [intOf]; omega
        · obtain rfl : j = n := by omega
          have Hall := Lib.hid (show x.l.take j = x.l from List.take_of_length_le (by rw [Hn.out]; exact Nat.le_refl _))
          go_wp2
          go_ret
          refine ⟨_, rfl, ?_, hBw⟩
          rw [HBY.out, ← Hall.out]
          exact own_down hown (by omega)
    · rw [if_neg (by decide), if_neg (by decide), if_neg (by decide), if_pos rfl] at hby
      have HBY := Lib.hid hby
      clear hby
      have hcs : n1 = 0 ∨ n1 = 1 := by omega
      rcases hcs with rfl | rfl
      · go_enter Tryz.func31, Tryz.ntmps31
        go_wp2
        go_ret
        refine ⟨_, rfl, ?_, hB1.alloc hB1.size _⟩
        rw [HBY.out]
        refine own_cast (xs := [.int .u8 244]) ?_ rfl rfl
        have hlit := fun W : World => World.ownsRow_lit W #[.int .u8 244] 1 (size := 1) (base := W.heap.size) (e := 5) (Nat.le_refl _) (by decide) rfl
        have hlit := own_down (base' := w.heap.size) (hlit (w.alloc (.cells (rwC ⟨5, 0, .slice ba1 bn1 bc1, s1, .slice la1 n lc1⟩).toArray 62))) (by rw [hz1]; omega)
        rw [hz1] at hlit
        exact hlit
      · go_enter Tryz.func31, Tryz.ntmps31
        go_wp2
        go_ret
        refine ⟨_, rfl, ?_, hB1.alloc hB1.size _⟩
        rw [HBY.out]
        refine own_cast (xs := [.int .u8 245]) ?_ rfl rfl
        have hlit := fun W : World => World.ownsRow_lit W #[.int .u8 245] 1 (size := 1) (base := W.heap.size) (e := 5) (Nat.le_refl _) (by decide) rfl
        have hlit := own_down (base' := w.heap.size) (hlit (w.alloc (.cells (rwC ⟨5, 1, .slice ba1 bn1 bc1, s1, .slice la1 n lc1⟩).toArray 62))) (by rw [hz1]; omega)
        rw [hz1] at hlit
        exact hlit
    · rw [if_neg (by decide), if_neg (by decide), if_neg (by decide), if_neg (by decide), if_pos rfl] at hby
      have HBY := Lib.hid hby
      clear hby
      go_enter Tryz.func31, Tryz.ntmps31
      go_wp2
      go_ret
      refine ⟨_, rfl, ?_, hB1.alloc hB1.size _⟩
      rw [HBY.out]
      refine own_cast (xs := [.int .u8 246]) ?_ rfl rfl
      have hlit := fun W : World => World.ownsRow_lit W #[.int .u8 246] 1 (size := 1) (base := W.heap.size) (e := 5) (Nat.le_refl _) (by decide) rfl
      have hlit := own_down (base' := w.heap.size) (hlit (w.alloc (.cells (rwC ⟨6, n1, .slice ba1 bn1 bc1, s1, .slice la1 n lc1⟩).toArray 62))) (by rw [hz1]; omega)
      rw [hz1] at hlit
      exact hlit
end Go.Proofs.YtpkonagjnfphkaaGreatDoor

namespace Go.Proofs.YtpkonagjnfphkaaGreatDoor
open Go.RowKit Trc Cb
set_option linter.unusedSimpArgs false
set_option linter.unusedVariables false
set_option maxHeartbeats 2000000 in
set_option maxRecDepth 100000 in
theorem rRightPr_c (p : Prm.Pr) (hp : p.Ok) (w : World) : Calls Tryz.prog 24 #[prV p] w (Ret (.bool (Prm.okPr p)) w) := by
  have X0 := RowAt.new w (prC p).toArray 28
  have hB := below_alloc w (.cells (prC p).toArray 28)
  have x0 := X0.cell (i := 0) rfl
  have hfr := rFlagsRight_c p.flags hp.f (w.alloc (.cells (prC p).toArray 28))
  cases hf : Prm.flagsB p.flags with
  | false =>
    have HOK := Lib.hid (show Prm.okPr p = false from by unfold Prm.okPr; rw [hf]; rfl)
    rw [hf] at hfr
    clear hf
    go_enter Tryz.func24, Tryz.ntmps24
    go_wp2_with (first
      | (go_at_call 37; refine hfr.mono ?_; rintro en w1 ⟨rfl, hb1⟩; have Y1 := X0.below hb1; have y1 := Y1.cell (i := 1) rfl; have y2 := Y1.cell (i := 2) rfl; have y4 := Y1.cell (i := 4) rfl; have y6 := Y1.cell (i := 6) rfl; have y7 := Y1.cell (i := 7) rfl; have y8 := Y1.cell (i := 8) rfl; have y10 := Y1.cell (i := 10) rfl))
    go_ret
    exact ⟨by rw [HOK.out]; rfl, below_up hB hb1⟩
  | true =>
    rw [hf] at hfr
    by_cases h2 : 0 ≤ p.sum ∧ p.sum ≤ 2
    rotate_left
    · have HOK := Lib.hid (show Prm.okPr p = false from by unfold Prm.okPr; rw [hf, decide_eq_false h2]; simp)
      have hkd : (decide (0 ≤ p.sum) && decide (p.sum ≤ 2)) = false := by rw [Bool.and_eq_false_iff, decide_eq_false_iff_not, decide_eq_false_iff_not]; omega
      clear hf h2
      go_enter Tryz.func24, Tryz.ntmps24
      go_wp2_with (first
        | (go_at_call 37; refine hfr.mono ?_; rintro en w1 ⟨rfl, hb1⟩; have Y1 := X0.below hb1; have y1 := Y1.cell (i := 1) rfl; have y2 := Y1.cell (i := 2) rfl; have y4 := Y1.cell (i := 4) rfl; have y6 := Y1.cell (i := 6) rfl; have y7 := Y1.cell (i := 7) rfl; have y8 := Y1.cell (i := 8) rfl; have y10 := Y1.cell (i := 10) rfl)
        | (go_at_call 56; refine (surefKind_c p.sum _).mono ?_; rw [hkd]; rintro en wk ⟨rfl, rfl⟩))
      go_ret
      exact ⟨by rw [HOK.out]; rfl, below_up hB hb1⟩
    have hkd : (decide (0 ≤ p.sum) && decide (p.sum ≤ 2)) = true := by rw [Bool.and_eq_true, decide_eq_true_eq, decide_eq_true_eq]; exact h2
    by_cases h3 : 0 < p.toN
    rotate_left
    · have HOK := Lib.hid (show Prm.okPr p = false from by unfold Prm.okPr; rw [hf, decide_eq_true h2, decide_eq_false (show ¬ (p.toN ≠ 0 ∧ p.srN ≠ 0) by omega)]; simp)
      have d3 : decide ((0 : Int) < (p.toN : Int)) = false := decide_eq_false (by omega)
      have d3b : decide (0 < p.toN) = false := decide_eq_false (by omega)
      clear hf h2 h3
      go_enter Tryz.func24, Tryz.ntmps24
      go_wp2_with (first
        | (go_at_call 37; refine hfr.mono ?_; rintro en w1 ⟨rfl, hb1⟩; have Y1 := X0.below hb1; have y1 := Y1.cell (i := 1) rfl; have y2 := Y1.cell (i := 2) rfl; have y4 := Y1.cell (i := 4) rfl; have y6 := Y1.cell (i := 6) rfl; have y7 := Y1.cell (i := 7) rfl; have y8 := Y1.cell (i := 8) rfl; have y10 := Y1.cell (i := 10) rfl)
        | (go_at_call 56; refine (surefKind_c p.sum _).mono ?_; rw [hkd]; rintro en wk ⟨rfl, rfl⟩))
      go_ret
      exact ⟨by rw [HOK.out]; rfl, below_up hB hb1⟩
    have d3 : decide ((0 : Int) < (p.toN : Int)) = true := decide_eq_true (by omega)
    have d3b : decide (0 < p.toN) = true := decide_eq_true (by omega)
    by_cases h4 : 0 < p.srN
    rotate_left
    · have HOK := Lib.hid (show Prm.okPr p = false from by unfold Prm.okPr; rw [hf, decide_eq_true h2, decide_eq_false (show ¬ (p.toN ≠ 0 ∧ p.srN ≠ 0) by omega)]; simp)
      have d4 : decide ((0 : Int) < (p.srN : Int)) = false := decide_eq_false (by omega)
      have d4b : decide (0 < p.srN) = false := decide_eq_false (by omega)
      clear hf h2 h3 h4
      go_enter Tryz.func24, Tryz.ntmps24
      go_wp2_with (first
        | (go_at_call 37; refine hfr.mono ?_; rintro en w1 ⟨rfl, hb1⟩; have Y1 := X0.below hb1; have y1 := Y1.cell (i := 1) rfl; have y2 := Y1.cell (i := 2) rfl; have y4 := Y1.cell (i := 4) rfl; have y6 := Y1.cell (i := 6) rfl; have y7 := Y1.cell (i := 7) rfl; have y8 := Y1.cell (i := 8) rfl; have y10 := Y1.cell (i := 10) rfl)
        | (go_at_call 56; refine (surefKind_c p.sum _).mono ?_; rw [hkd]; rintro en wk ⟨rfl, rfl⟩))
      go_ret
      exact ⟨by rw [HOK.out]; rfl, below_up hB hb1⟩
    have d4 : decide ((0 : Int) < (p.srN : Int)) = true := decide_eq_true (by omega)
    have d4b : decide (0 < p.srN) = true := decide_eq_true (by omega)
    have h34 : p.toN ≠ 0 ∧ p.srN ≠ 0 := by omega
    by_cases h5 : Dig.chkP p.rpN p.rpS = 0
    rotate_left
    · have HOK := Lib.hid (show Prm.okPr p = false from by unfold Prm.okPr; rw [hf, decide_eq_true h2, decide_eq_true h34, decide_eq_false h5]; simp)
      have hrp : decide (Dig.chkP p.rpN p.rpS = 0) = false := decide_eq_false h5
      clear hf h2 h3 h4 h34 h5
      go_enter Tryz.func24, Tryz.ntmps24
      go_wp2_with (first
        | (go_at_call 37; refine hfr.mono ?_; rintro en w1 ⟨rfl, hb1⟩; have Y1 := X0.below hb1; have y1 := Y1.cell (i := 1) rfl; have y2 := Y1.cell (i := 2) rfl; have y4 := Y1.cell (i := 4) rfl; have y6 := Y1.cell (i := 6) rfl; have y7 := Y1.cell (i := 7) rfl; have y8 := Y1.cell (i := 8) rfl; have y10 := Y1.cell (i := 10) rfl)
        | (go_at_call 56; refine (surefKind_c p.sum _).mono ?_; rw [hkd]; rintro en wk ⟨rfl, rfl⟩)
        | (go_at_call 57; refine (rRight_c p.rpN p.rpS _).mono ?_; rw [hrp]; rintro en w2 ⟨rfl, hb2⟩; have Y2 := Y1.below hb2; have z8 := Y2.cell (i := 8) rfl; have z10 := Y2.cell (i := 10) rfl))
      go_ret
      exact ⟨by rw [HOK.out]; rfl, below_up hB (below_up hb1 hb2)⟩
    have hrp : decide (Dig.chkP p.rpN p.rpS = 0) = true := decide_eq_true h5
    by_cases h6 : p.time ≤ 4611686018427387903
    rotate_left
    · have HOK := Lib.hid (show Prm.okPr p = false from by unfold Prm.okPr; rw [hf, decide_eq_true h2, decide_eq_true h34, decide_eq_true h5, decide_eq_false (show ¬ (p.time ≤ 4611686018427387903 ∧ p.life ≤ 4611686018427387903) by omega)]; simp)
      have d6 : decide ((p.time : Int) ≤ 4611686018427387903) = false := decide_eq_false (by omega)
      have d6b : decide (p.time ≤ 4611686018427387903) = false := decide_eq_false (by omega)
      clear hf h2 h3 h4 h34 h5 h6
      go_enter Tryz.func24, Tryz.ntmps24
      go_wp2_with (first
        | (go_at_call 37; refine hfr.mono ?_; rintro en w1 ⟨rfl, hb1⟩; have Y1 := X0.below hb1; have y1 := Y1.cell (i := 1) rfl; have y2 := Y1.cell (i := 2) rfl; have y4 := Y1.cell (i := 4) rfl; have y6 := Y1.cell (i := 6) rfl; have y7 := Y1.cell (i := 7) rfl; have y8 := Y1.cell (i := 8) rfl; have y10 := Y1.cell (i := 10) rfl)
        | (go_at_call 56; refine (surefKind_c p.sum _).mono ?_; rw [hkd]; rintro en wk ⟨rfl, rfl⟩)
        | (go_at_call 57; refine (rRight_c p.rpN p.rpS _).mono ?_; rw [hrp]; rintro en w2 ⟨rfl, hb2⟩; have Y2 := Y1.below hb2; have z8 := Y2.cell (i := 8) rfl; have z10 := Y2.cell (i := 10) rfl))
      go_ret
      exact ⟨by rw [HOK.out]; rfl, below_up hB (below_up hb1 hb2)⟩
    have d6 : decide ((p.time : Int) ≤ 4611686018427387903) = true := decide_eq_true (by omega)
    have d6b : decide (p.time ≤ 4611686018427387903) = true := decide_eq_true (by omega)
    by_cases h7 : p.life ≤ 4611686018427387903
    rotate_left
    · have HOK := Lib.hid (show Prm.okPr p = false from by unfold Prm.okPr; rw [hf, decide_eq_true h2, decide_eq_true h34, decide_eq_true h5, decide_eq_false (show ¬ (p.time ≤ 4611686018427387903 ∧ p.life ≤ 4611686018427387903) by omega)]; simp)
      have d7 : decide ((p.life : Int) ≤ 4611686018427387903) = false := decide_eq_false (by omega)
      have d7b : decide (p.life ≤ 4611686018427387903) = false := decide_eq_false (by omega)
      clear hf h2 h3 h4 h34 h5 h6 h7
      go_enter Tryz.func24, Tryz.ntmps24
      go_wp2_with (first
        | (go_at_call 37; refine hfr.mono ?_; rintro en w1 ⟨rfl, hb1⟩; have Y1 := X0.below hb1; have y1 := Y1.cell (i := 1) rfl; have y2 := Y1.cell (i := 2) rfl; have y4 := Y1.cell (i := 4) rfl; have y6 := Y1.cell (i := 6) rfl; have y7 := Y1.cell (i := 7) rfl; have y8 := Y1.cell (i := 8) rfl; have y10 := Y1.cell (i := 10) rfl)
        | (go_at_call 56; refine (surefKind_c p.sum _).mono ?_; rw [hkd]; rintro en wk ⟨rfl, rfl⟩)
        | (go_at_call 57; refine (rRight_c p.rpN p.rpS _).mono ?_; rw [hrp]; rintro en w2 ⟨rfl, hb2⟩; have Y2 := Y1.below hb2; have z8 := Y2.cell (i := 8) rfl; have z10 := Y2.cell (i := 10) rfl))
      go_ret
      exact ⟨by rw [HOK.out]; rfl, below_up hB (below_up hb1 hb2)⟩
    have d7 : decide ((p.life : Int) ≤ 4611686018427387903) = true := decide_eq_true (by omega)
    have d7b : decide (p.life ≤ 4611686018427387903) = true := decide_eq_true (by omega)
    have HOK := Lib.hid (show Prm.okPr p = true from by unfold Prm.okPr; rw [hf, decide_eq_true h2, decide_eq_true h34, decide_eq_true h5, decide_eq_true (show p.time ≤ 4611686018427387903 ∧ p.life ≤ 4611686018427387903 from ⟨h6, h7⟩)]; rfl)
    clear hf h2 h3 h4 h34 h5 h6 h7
    go_enter Tryz.func24, Tryz.ntmps24
    go_wp2_with (first
      | (go_at_call 37; refine hfr.mono ?_; rintro en w1 ⟨rfl, hb1⟩; have Y1 := X0.below hb1; have y1 := Y1.cell (i := 1) rfl; have y2 := Y1.cell (i := 2) rfl; have y4 := Y1.cell (i := 4) rfl; have y6 := Y1.cell (i := 6) rfl; have y7 := Y1.cell (i := 7) rfl; have y8 := Y1.cell (i := 8) rfl; have y10 := Y1.cell (i := 10) rfl)
      | (go_at_call 56; refine (surefKind_c p.sum _).mono ?_; rw [hkd]; rintro en wk ⟨rfl, rfl⟩)
      | (go_at_call 57; refine (rRight_c p.rpN p.rpS _).mono ?_; rw [hrp]; rintro en w2 ⟨rfl, hb2⟩; have Y2 := Y1.below hb2; have z8 := Y2.cell (i := 8) rfl; have z10 := Y2.cell (i := 10) rfl))
    go_ret
    exact ⟨by rw [HOK.out]; rfl, below_up hB (below_up hb1 hb2)⟩
set_option maxRecDepth 100000 in
theorem prOct_c (a : Option Addr) (n c : Nat) (w : World) : Calls Tryz.prog 103 #[.slice a n c] w (Ret (rwV ⟨2, 0, .slice a n c, ⟨#[]⟩, .slice none 0 0⟩) w) := by
  go_enter Tryz.func103, Tryz.ntmps103
  go_wp2
  refine bodyPost_ret (v := rwV ⟨2, 0, .slice a n c, ⟨#[]⟩, .slice none 0 0⟩) (by simp [results, Tryz.results103, go_sem]) rfl ?_
  exact ⟨rfl, below_alloc _ _⟩
theorem Prm.chk_right {x : It} (h : chk x = 0) : rightB x = true := by
  cases hr : rightB x with
  | true => rfl
  | false => unfold chk at h; rw [hr] at h; simp at h
set_option maxHeartbeats 4000000 in
set_option maxRecDepth 100000 in
theorem rSealed1 (L : List It) (rows : List Rw) (la : Option Addr) (lc : Nat) (w : World) (hl : Sl w 5 (.slice la L.length lc) L.length (rows.flatMap rwC)) (hI : ItsR (fun j => j < w.heap.size) w L rows) (hL : L.length ≤ 100000)
    (hz : Prm.Wr (Prm.zeroIt 1 L)) (hs : Prm.Wr (Prm.sealIt 1 L)) : Calls Tryz.prog 62 #[.slice la L.length lc, .int .i64 1] w (ByE (bytesOf (Prm.sealIt 1 L)) w) := by
  obtain ⟨bl, hbl⟩ : ∃ bl, bl = Oct.putB (Sum.sumN 1 (bytesOf (Prm.zeroIt 1 L))) (Sum.wd 1) := ⟨_, rfl⟩
  have hpe : Oct.putE ((Sum.sumN 1 (bytesOf (Prm.zeroIt 1 L)) : Nat) : Int) 2 = 0 := by
    have h1 := Sum.put_all (k := 1) (by decide) (bytesOf (Prm.zeroIt 1 L))
    have h2 := Sum.sumN_in (k := 1) (by decide) (bytesOf (Prm.zeroIt 1 L))
    unfold Oct.putE
    rw [show Oct.okW (2 : Int) = true from rfl, show Oct.fitsB (2 : Int) ((Sum.sumN 1 (bytesOf (Prm.zeroIt 1 L)) : Nat) : Int) = true by
      unfold Oct.fitsB; rw [decide_eq_true_eq]; exact Sum.pow_up h2]
    rfl
  have hblen : bl.length = 2 := by rw [hbl]; exact Prm.put_len (k := 1) _ (by decide)
  have HSI := Lib.hid (show Prm.sealIt 1 L = lI (L ++ [Prm.bI bl]) by unfold Prm.sealIt; rw [if_neg (by decide), hbl])
  have hsum : Sum.sumN 1 (bytesOf (Prm.zeroIt 1 L)) < 4294967296 := by
    have h := Sum.sumN_in (k := 1) (by decide) (bytesOf (Prm.zeroIt 1 L))
    have e : 256 ^ Sum.wd 1 = 65536 := rfl
    omega
  have HSHP := Lib.hid hI.shp
  have HL := Lib.hid hl
  have HI := Lib.hid hI
  have HZ := Lib.hid hz
  have HS := Lib.hid hs
  have HBL := Lib.hid hbl
  have HPE := Lib.hid hpe
  have HLEN := Lib.hid hblen
  have HW0 := Lib.hid (World.ownsRow_lit w #[] 0 (size := 5) (e := 62) (Nat.le_refl _) (by decide) rfl)
  clear hl hI hz hs hbl hpe hblen
  obtain ⟨zb, hzb⟩ : ∃ zb, zb = bytesOf (Prm.zeroIt 1 L) := ⟨_, rfl⟩
  rw [← hzb] at HBL HPE hsum
  have HZB := Lib.hid hzb
  clear hzb
  obtain ⟨sn, hsn⟩ : ∃ sn, sn = Sum.sumN 1 zb := ⟨_, rfl⟩
  rw [← hsn] at HBL HPE hsum
  have HSN := Lib.hid hsn
  clear hsn
  have hwr : IntKind.u64.wrap (sn : Int) = sn := by rw [IntKind.wrap_u64]; omega
  have HSM := Lib.hid hsum
  clear hsum
  have HWD := Lib.hid (fun (W : World) => show Calls Tryz.prog 70 #[.int .i64 1] W (fun e w' => e = .returned (.int .i64 2) ∧ W = w') from surefWidth_c 1 (by decide) W)
  go_enter Tryz.func62, Tryz.ntmps62
  have hmk : ∀ w : World, (Instr.makeSlice 48 (.int .i64 2) (.int .i64 2)).run Tryz.prog w = .ok (.slice (some ⟨w.heap.size, 0, none⟩) 2 2) (w.alloc (.cells #[.int .u8 0, .int .u8 0] 5)) := fun _ => by kernel_rfl
  go_wp2_with (first
    | (at_builtin; refine wpList_app (n := 0) (m := L.length) rfl _ _ 59 rfl slT_items wi.heap.size rfl HW1.out rfl (HL.out.up (below_up Di (below_alloc _ _))) (one_shp HSHP.out) (by simp only [maxLen]; omega) (by omega) (by simp) ?_; intro va2 wj hown1 hgrow1 _; rw [Nat.zero_add, List.nil_append] at hown1; obtain ⟨pj, cj, rfl⟩ := own_slice hown1; have Dj : Below wi.heap.size wi wj := grown_below (below_alloc wi _) hgrow1 (fun k hk => (own_of_some HW1.out hk).1); have HO3 := Lib.hid hown1; clear hown1 hgrow1)
    | (at_builtin; refine wpList_app (n := L.length) (m := 1) rfl _ _ 59 rfl slT_items wi.heap.size rfl (own_up (own_up HO3.out hbk) (below_alloc wk (.cells (rwC ⟨2, 0, .slice pb 2 cb, ⟨#[]⟩, .slice none 0 0⟩).toArray 62))) rfl (sl_new5 wk ⟨2, 0, .slice pb 2 cb, ⟨#[]⟩, .slice none 0 0⟩) (one_rwS _ _ _ _ _ _ _ _ _) (by simp only [maxLen]; omega) (by omega) (Dk.alloc Dk.size _).size ?_; intro vl wl hown2 hgrow2 _; obtain ⟨pwl, cwl, rfl⟩ := own_slice hown2; have Dwl : Below wi.heap.size wi wl := grown_below (Dk.alloc Dk.size _) hgrow2 (fun k hk => (own_of_some (own_up HO3.out hbk) hk).1); have Uwl : Below w.heap.size w wl := below_up Di Dwl; have HZ4 := Lib.hid (((slS_of (S := fun q => q < wi.heap.size) (Sl.of_own HOI.out) (by decide) (fun _ h => h)).up Dwl).mono (fun q hq => Nat.lt_of_lt_of_le hq Dwl.size)); have HIT3 := Lib.hid (its_with (bl := bl) (S := fun k => k < wl.heap.size) ((HI.out.up Uwl).monoP (fun k e => Nat.lt_of_lt_of_le e Uwl.size)) (show SlS (fun k => k < wl.heap.size) wl 1 (.slice pb 2 cb) bl.length (by8 bl) by rw [HLEN.out]; exact HZ4.out) hown2 (fun k _ e => e)); clear hown2 hgrow2)
    | (go_at_call 103; refine (prOct_c _ _ _ _).mono ?_; rintro en wk ⟨rfl, hbk⟩; have Dk := below_up Dj hbk)
    | (go_at_call 28; refine (rList_c _ _ _ _).mono ?_; rintro en wm ⟨rfl, hbm⟩; have HF2 := Lib.hid (HIT3.out.up hbm); have Dm := below_up Uwl hbm)
    | (go_at_call 31; refine (bytesR_c _ _ _ wm HF2.out (by rw [← HSI.out]; exact HS.out.n) (Prm.chk_right (by rw [← HSI.out]; exact HS.out.c))).mono ?_; rintro en wo ⟨vo, rfl, hoo, hbo⟩; have Do := below_up Dm hbo)
    | (at_builtin; refine wpList_app (n := 0) (m := L.length) rfl _ _ 59 rfl slT_items w.heap.size rfl HW0.out rfl (HL.out.up (below_alloc _ _)) (one_shp HSHP.out) (by simp only [maxLen]; omega) (by omega) (by simp) ?_; intro va wa hown1 hgrow1 _; rw [Nat.zero_add, List.nil_append] at hown1; obtain ⟨pa, ca, rfl⟩ := own_slice hown1; have Da : Below w.heap.size w wa := grown_below (below_alloc w _) hgrow1 (fun k hk => (own_of_some HW0.out hk).1); have HO1 := Lib.hid hown1; clear hown1 hgrow1)
    | (go_at_call 70; refine (HWD.out _).mono ?_; rintro en wn ⟨rfl, rfl⟩)
    | (go_at_call 103; refine (prOct_c _ _ _ _).mono ?_; rintro en wc ⟨rfl, hbc⟩; have Dc := below_up (below_alloc wa (.cells #[.int .u8 0, .int .u8 0] 5)) hbc; have HZ1 := Lib.hid (show SlS (fun q => q = wa.heap.size) wc 1 (.slice (some ⟨wa.heap.size, 0, none⟩) 2 2) 2 (by8 (List.replicate 2 0)) from ⟨(Sl.of_own (World.ownsRow_lit wa #[.int .u8 0, .int .u8 0] 2 (size := 1) (e := 5) (Nat.le_refl _) (by decide) rfl)).up hbc, .inr fun k hk => (Option.some.inj hk).symm⟩))
    | (at_builtin; refine wpList_app (n := L.length) (m := 1) rfl _ _ 59 rfl slT_items w.heap.size rfl (own_up (own_up HO1.out Dc) (below_alloc wc (.cells (rwC ⟨2, 0, .slice (some ⟨wa.heap.size, 0, none⟩) 2 2, ⟨#[]⟩, .slice none 0 0⟩).toArray 62))) rfl (sl_new5 wc ⟨2, 0, .slice (some ⟨wa.heap.size, 0, none⟩) 2 2, ⟨#[]⟩, .slice none 0 0⟩) (one_rwS _ _ _ _ _ _ _ _ _) (by simp only [maxLen]; omega) (by omega) ((below_up Da Dc).alloc (below_up Da Dc).size _).size ?_; intro ve we hown2 hgrow2 _; obtain ⟨pwe, cwe, rfl⟩ := own_slice hown2; have Dwe : Below w.heap.size w we := grown_below ((below_up Da Dc).alloc (below_up Da Dc).size _) hgrow2 (fun k hk => (own_of_some (own_up HO1.out Dc) hk).1); have Uwe : Below w.heap.size w we := Dwe; have HZ2 := Lib.hid ((((HZ1.out.up (below_alloc wc (.cells (rwC ⟨2, 0, .slice (some ⟨wa.heap.size, 0, none⟩) 2 2, ⟨#[]⟩, .slice none 0 0⟩).toArray 62))).but (But.grown (O := fun k => (Value.slice pa L.length ca).ownBlock = some k) hgrow2 (fun r hr => .inl hr)) (fun q hq e => by have h9 := (own_of_some HO1.out e).2; omega)).mono (fun q hq => show q < we.heap.size by have h6 := (But.grown (O := fun _ => True) hgrow2 (fun r hr => .inl trivial)).size; have h7 := hbc.size; rw [World.size_alloc] at h6 h7; omega))); have HIT1 := Lib.hid (its_with (S := fun k => k < we.heap.size) ((HI.out.up Uwe).monoP (fun k e => Nat.lt_of_lt_of_le e Uwe.size)) HZ2.out hown2 (fun k _ e => e)); clear hown2 hgrow2)
    | (go_at_call 28; refine (rList_c _ _ _ _).mono ?_; rintro en wf ⟨rfl, hbf⟩; have HF := Lib.hid (HIT1.out.up hbf); have Df := below_up Dwe hbf)
    | (go_at_call 31; refine (bytesR_c _ _ _ wf HF.out HZ.out.n (Prm.chk_right HZ.out.c)).mono ?_; rintro en wg ⟨vg, rfl, hog, hbg⟩; have Dg := below_up Df hbg; have hog : wg.ownsRow wf.heap.size 5 1 vg zb.length (by8 zb) := (by rw [HZB.out]; exact hog); obtain ⟨pg, cg, rfl⟩ := own_slice hog; have hzl : zb.length ≤ 9000000 := (by have h1 := Prm.bytes_le (Prm.zeroIt 1 L); have h2 := HZ.out.n; rw [HZB.out]; omega); have HOG := Lib.hid hog; clear hog)
    | (go_at_call 102; refine (surefOf_c 1 (by decide) zb _ zb.length wg (Sl.of_own HOG.out) (by omega)).mono ?_; rw [← HSN.out]; rintro en wh ⟨rfl, hbh⟩; have Dh := below_up Dg hbh)
    | (go_at_call 104; refine (putR_c (sn : Int) 2 wh (by omega) (by have := HSM.out; omega)).mono ?_; rintro en wi ⟨vi, rfl, hoi, hbi⟩; have Di := below_up Dh hbi; have hoi : wi.ownsRow wh.heap.size 5 1 vi bl.length (by8 bl) := (by rw [HBL.out]; exact hoi); rw [HLEN.out] at hoi; obtain ⟨pb, cb, rfl⟩ := own_slice hoi; have HOI := Lib.hid hoi; have hpe := HPE.out; clear hoi; have HW1 := Lib.hid (World.ownsRow_lit wi #[] 0 (size := 5) (e := 62) (Nat.le_refl _) (by decide) rfl)))
  go_ret
  refine ⟨_, rfl, ?_, Do⟩
  rw [HSI.out]
  exact own_down hoo Dm.size
set_option maxHeartbeats 4000000 in
set_option maxRecDepth 100000 in
theorem rSealed2 (L : List It) (rows : List Rw) (la : Option Addr) (lc : Nat) (w : World) (hl : Sl w 5 (.slice la L.length lc) L.length (rows.flatMap rwC)) (hI : ItsR (fun j => j < w.heap.size) w L rows) (hL : L.length ≤ 100000)
    (hz : Prm.Wr (Prm.zeroIt 2 L)) (hs : Prm.Wr (Prm.sealIt 2 L)) : Calls Tryz.prog 62 #[.slice la L.length lc, .int .i64 2] w (ByE (bytesOf (Prm.sealIt 2 L)) w) := by
  obtain ⟨bl, hbl⟩ : ∃ bl, bl = Oct.putB (Sum.sumN 2 (bytesOf (Prm.zeroIt 2 L))) (Sum.wd 2) := ⟨_, rfl⟩
  have hpe : Oct.putE ((Sum.sumN 2 (bytesOf (Prm.zeroIt 2 L)) : Nat) : Int) 4 = 0 := by
    have h1 := Sum.put_all (k := 2) (by decide) (bytesOf (Prm.zeroIt 2 L))
    have h2 := Sum.sumN_in (k := 2) (by decide) (bytesOf (Prm.zeroIt 2 L))
    unfold Oct.putE
    rw [show Oct.okW (4 : Int) = true from rfl, show Oct.fitsB (4 : Int) ((Sum.sumN 2 (bytesOf (Prm.zeroIt 2 L)) : Nat) : Int) = true by
      unfold Oct.fitsB; rw [decide_eq_true_eq]; exact Sum.pow_up h2]
    rfl
  have hblen : bl.length = 4 := by rw [hbl]; exact Prm.put_len (k := 2) _ (by decide)
  have HSI := Lib.hid (show Prm.sealIt 2 L = lI (L ++ [Prm.bI bl]) by unfold Prm.sealIt; rw [if_neg (by decide), hbl])
  have hsum : Sum.sumN 2 (bytesOf (Prm.zeroIt 2 L)) < 4294967296 := by
    have h := Sum.sumN_in (k := 2) (by decide) (bytesOf (Prm.zeroIt 2 L))
    have e : 256 ^ Sum.wd 2 = 4294967296 := rfl
    omega
  have HSHP := Lib.hid hI.shp
  have HL := Lib.hid hl
  have HI := Lib.hid hI
  have HZ := Lib.hid hz
  have HS := Lib.hid hs
  have HBL := Lib.hid hbl
  have HPE := Lib.hid hpe
  have HLEN := Lib.hid hblen
  have HW0 := Lib.hid (World.ownsRow_lit w #[] 0 (size := 5) (e := 62) (Nat.le_refl _) (by decide) rfl)
  clear hl hI hz hs hbl hpe hblen
  obtain ⟨zb, hzb⟩ : ∃ zb, zb = bytesOf (Prm.zeroIt 2 L) := ⟨_, rfl⟩
  rw [← hzb] at HBL HPE hsum
  have HZB := Lib.hid hzb
  clear hzb
  obtain ⟨sn, hsn⟩ : ∃ sn, sn = Sum.sumN 2 zb := ⟨_, rfl⟩
  rw [← hsn] at HBL HPE hsum
  have HSN := Lib.hid hsn
  clear hsn
  have hwr : IntKind.u64.wrap (sn : Int) = sn := by rw [IntKind.wrap_u64]; omega
  have HSM := Lib.hid hsum
  clear hsum
  have HWD := Lib.hid (fun (W : World) => show Calls Tryz.prog 70 #[.int .i64 2] W (fun e w' => e = .returned (.int .i64 4) ∧ W = w') from surefWidth_c 2 (by decide) W)
  go_enter Tryz.func62, Tryz.ntmps62
  have hmk : ∀ w : World, (Instr.makeSlice 48 (.int .i64 4) (.int .i64 4)).run Tryz.prog w = .ok (.slice (some ⟨w.heap.size, 0, none⟩) 4 4) (w.alloc (.cells #[.int .u8 0, .int .u8 0, .int .u8 0, .int .u8 0] 5)) := fun _ => by kernel_rfl
  go_wp2_with (first
    | (at_builtin; refine wpList_app (n := 0) (m := L.length) rfl _ _ 59 rfl slT_items wi.heap.size rfl HW1.out rfl (HL.out.up (below_up Di (below_alloc _ _))) (one_shp HSHP.out) (by simp only [maxLen]; omega) (by omega) (by simp) ?_; intro va2 wj hown1 hgrow1 _; rw [Nat.zero_add, List.nil_append] at hown1; obtain ⟨pj, cj, rfl⟩ := own_slice hown1; have Dj : Below wi.heap.size wi wj := grown_below (below_alloc wi _) hgrow1 (fun k hk => (own_of_some HW1.out hk).1); have HO3 := Lib.hid hown1; clear hown1 hgrow1)
    | (at_builtin; refine wpList_app (n := L.length) (m := 1) rfl _ _ 59 rfl slT_items wi.heap.size rfl (own_up (own_up HO3.out hbk) (below_alloc wk (.cells (rwC ⟨2, 0, .slice pb 4 cb, ⟨#[]⟩, .slice none 0 0⟩).toArray 62))) rfl (sl_new5 wk ⟨2, 0, .slice pb 4 cb, ⟨#[]⟩, .slice none 0 0⟩) (one_rwS _ _ _ _ _ _ _ _ _) (by simp only [maxLen]; omega) (by omega) (Dk.alloc Dk.size _).size ?_; intro vl wl hown2 hgrow2 _; obtain ⟨pwl, cwl, rfl⟩ := own_slice hown2; have Dwl : Below wi.heap.size wi wl := grown_below (Dk.alloc Dk.size _) hgrow2 (fun k hk => (own_of_some (own_up HO3.out hbk) hk).1); have Uwl : Below w.heap.size w wl := below_up Di Dwl; have HZ4 := Lib.hid (((slS_of (S := fun q => q < wi.heap.size) (Sl.of_own HOI.out) (by decide) (fun _ h => h)).up Dwl).mono (fun q hq => Nat.lt_of_lt_of_le hq Dwl.size)); have HIT3 := Lib.hid (its_with (bl := bl) (S := fun k => k < wl.heap.size) ((HI.out.up Uwl).monoP (fun k e => Nat.lt_of_lt_of_le e Uwl.size)) (show SlS (fun k => k < wl.heap.size) wl 1 (.slice pb 4 cb) bl.length (by8 bl) by rw [HLEN.out]; exact HZ4.out) hown2 (fun k _ e => e)); clear hown2 hgrow2)
    | (go_at_call 103; refine (prOct_c _ _ _ _).mono ?_; rintro en wk ⟨rfl, hbk⟩; have Dk := below_up Dj hbk)
    | (go_at_call 28; refine (rList_c _ _ _ _).mono ?_; rintro en wm ⟨rfl, hbm⟩; have HF2 := Lib.hid (HIT3.out.up hbm); have Dm := below_up Uwl hbm)
    | (go_at_call 31; refine (bytesR_c _ _ _ wm HF2.out (by rw [← HSI.out]; exact HS.out.n) (Prm.chk_right (by rw [← HSI.out]; exact HS.out.c))).mono ?_; rintro en wo ⟨vo, rfl, hoo, hbo⟩; have Do := below_up Dm hbo)
    | (at_builtin; refine wpList_app (n := 0) (m := L.length) rfl _ _ 59 rfl slT_items w.heap.size rfl HW0.out rfl (HL.out.up (below_alloc _ _)) (one_shp HSHP.out) (by simp only [maxLen]; omega) (by omega) (by simp) ?_; intro va wa hown1 hgrow1 _; rw [Nat.zero_add, List.nil_append] at hown1; obtain ⟨pa, ca, rfl⟩ := own_slice hown1; have Da : Below w.heap.size w wa := grown_below (below_alloc w _) hgrow1 (fun k hk => (own_of_some HW0.out hk).1); have HO1 := Lib.hid hown1; clear hown1 hgrow1)
    | (go_at_call 70; refine (HWD.out _).mono ?_; rintro en wn ⟨rfl, rfl⟩)
    | (go_at_call 103; refine (prOct_c _ _ _ _).mono ?_; rintro en wc ⟨rfl, hbc⟩; have Dc := below_up (below_alloc wa (.cells #[.int .u8 0, .int .u8 0, .int .u8 0, .int .u8 0] 5)) hbc; have HZ1 := Lib.hid (show SlS (fun q => q = wa.heap.size) wc 1 (.slice (some ⟨wa.heap.size, 0, none⟩) 4 4) 4 (by8 (List.replicate 4 0)) from ⟨(Sl.of_own (World.ownsRow_lit wa #[.int .u8 0, .int .u8 0, .int .u8 0, .int .u8 0] 4 (size := 1) (e := 5) (Nat.le_refl _) (by decide) rfl)).up hbc, .inr fun k hk => (Option.some.inj hk).symm⟩))
    | (at_builtin; refine wpList_app (n := L.length) (m := 1) rfl _ _ 59 rfl slT_items w.heap.size rfl (own_up (own_up HO1.out Dc) (below_alloc wc (.cells (rwC ⟨2, 0, .slice (some ⟨wa.heap.size, 0, none⟩) 4 4, ⟨#[]⟩, .slice none 0 0⟩).toArray 62))) rfl (sl_new5 wc ⟨2, 0, .slice (some ⟨wa.heap.size, 0, none⟩) 4 4, ⟨#[]⟩, .slice none 0 0⟩) (one_rwS _ _ _ _ _ _ _ _ _) (by simp only [maxLen]; omega) (by omega) ((below_up Da Dc).alloc (below_up Da Dc).size _).size ?_; intro ve we hown2 hgrow2 _; obtain ⟨pwe, cwe, rfl⟩ := own_slice hown2; have Dwe : Below w.heap.size w we := grown_below ((below_up Da Dc).alloc (below_up Da Dc).size _) hgrow2 (fun k hk => (own_of_some (own_up HO1.out Dc) hk).1); have Uwe : Below w.heap.size w we := Dwe; have HZ2 := Lib.hid ((((HZ1.out.up (below_alloc wc (.cells (rwC ⟨2, 0, .slice (some ⟨wa.heap.size, 0, none⟩) 4 4, ⟨#[]⟩, .slice none 0 0⟩).toArray 62))).but (But.grown (O := fun k => (Value.slice pa L.length ca).ownBlock = some k) hgrow2 (fun r hr => .inl hr)) (fun q hq e => by have h9 := (own_of_some HO1.out e).2; omega)).mono (fun q hq => show q < we.heap.size by have h6 := (But.grown (O := fun _ => True) hgrow2 (fun r hr => .inl trivial)).size; have h7 := hbc.size; rw [World.size_alloc] at h6 h7; omega))); have HIT1 := Lib.hid (its_with (S := fun k => k < we.heap.size) ((HI.out.up Uwe).monoP (fun k e => Nat.lt_of_lt_of_le e Uwe.size)) HZ2.out hown2 (fun k _ e => e)); clear hown2 hgrow2)
    | (go_at_call 28; refine (rList_c _ _ _ _).mono ?_; rintro en wf ⟨rfl, hbf⟩; have HF := Lib.hid (HIT1.out.up hbf); have Df := below_up Dwe hbf)
    | (go_at_call 31; refine (bytesR_c _ _ _ wf HF.out HZ.out.n (Prm.chk_right HZ.out.c)).mono ?_; rintro en wg ⟨vg, rfl, hog, hbg⟩; have Dg := below_up Df hbg; have hog : wg.ownsRow wf.heap.size 5 1 vg zb.length (by8 zb) := (by rw [HZB.out]; exact hog); obtain ⟨pg, cg, rfl⟩ := own_slice hog; have hzl : zb.length ≤ 9000000 := (by have h1 := Prm.bytes_le (Prm.zeroIt 2 L); have h2 := HZ.out.n; rw [HZB.out]; omega); have HOG := Lib.hid hog; clear hog)
    | (go_at_call 102; refine (surefOf_c 2 (by decide) zb _ zb.length wg (Sl.of_own HOG.out) (by omega)).mono ?_; rw [← HSN.out]; rintro en wh ⟨rfl, hbh⟩; have Dh := below_up Dg hbh)
    | (go_at_call 104; refine (putR_c (sn : Int) 4 wh (by omega) (by have := HSM.out; omega)).mono ?_; rintro en wi ⟨vi, rfl, hoi, hbi⟩; have Di := below_up Dh hbi; have hoi : wi.ownsRow wh.heap.size 5 1 vi bl.length (by8 bl) := (by rw [HBL.out]; exact hoi); rw [HLEN.out] at hoi; obtain ⟨pb, cb, rfl⟩ := own_slice hoi; have HOI := Lib.hid hoi; have hpe := HPE.out; clear hoi; have HW1 := Lib.hid (World.ownsRow_lit wi #[] 0 (size := 5) (e := 62) (Nat.le_refl _) (by decide) rfl)))
  go_ret
  refine ⟨_, rfl, ?_, Do⟩
  rw [HSI.out]
  exact own_down hoo Dm.size
set_option maxHeartbeats 1000000 in
set_option maxRecDepth 100000 in
theorem rSealed0 (L : List It) (rows : List Rw) (la : Option Addr) (lc : Nat) (w : World) (hl : Sl w 5 (.slice la L.length lc) L.length (rows.flatMap rwC)) (hI : ItsR (fun j => j < w.heap.size) w L rows) (hs : Prm.Wr (lI L)) :
    Calls Tryz.prog 62 #[.slice la L.length lc, .int .i64 0] w (ByE (bytesOf (lI L)) w) := by
  have HIT := Lib.hid (it_list hl hI)
  have HS := Lib.hid hs
  clear hl hI hs
  go_enter Tryz.func62, Tryz.ntmps62
  go_wp2_with (first
    | (go_at_call 28; refine (rList_c _ _ _ _).mono ?_; rintro en w2 ⟨rfl, hb2⟩; have HF := Lib.hid (HIT.out.up hb2))
    | (go_at_call 31; refine (bytesR_c _ _ _ w2 HF.out HS.out.n (Prm.chk_right HS.out.c)).mono ?_; rintro en w3 ⟨v3, rfl, ho3, hb3⟩))
  go_ret
  exact ⟨_, rfl, own_down ho3 hb2.size, below_up hb2 hb3⟩
theorem rSealed_c (k : Nat) (hk : k ≤ 2) (L : List It) (rows : List Rw) (la : Option Addr) (lc : Nat) (w : World) (hl : Sl w 5 (.slice la L.length lc) L.length (rows.flatMap rwC)) (hI : ItsR (fun j => j < w.heap.size) w L rows) (hL : L.length ≤ 100000)
    (hz : Prm.Wr (Prm.zeroIt k L)) (hs : Prm.Wr (Prm.sealIt k L)) : Calls Tryz.prog 62 #[.slice la L.length lc, .int .i64 k] w (ByE (bytesOf (Prm.sealIt k L)) w) := by
  rcases (show k = 0 ∨ k = 1 ∨ k = 2 by omega) with rfl | rfl | rfl
  · exact rSealed0 L rows la lc w hl hI hs
  · exact rSealed1 L rows la lc w hl hI hL hz hs
  · exact rSealed2 L rows la lc w hl hI hL hz hs
set_option maxHeartbeats 1000000 in
set_option maxRecDepth 100000 in
theorem rEncode_c (p : Prm.Pr) (hp : p.Ok) (hk : Prm.okPr p = true) (w : World) : Calls Tryz.prog 26 #[prV p] w (ByE (Prm.encPr p) w) := by
  have hks := (Prm.okPr_parts hk).2.1
  obtain ⟨k, hkS⟩ : ∃ k : Nat, p.sum = (k : Int) := ⟨p.sum.toNat, by omega⟩
  have hk2 : k ≤ 2 := by omega
  have hkn : p.sum.toNat = k := by omega
  have h1 := Prm.chk_zeroPr hp hks.1 k
  have h2 := Prm.chk_sealPr hp hks.1 k
  have HWZ := Lib.hid (show Prm.Wr (Prm.zeroIt k (Prm.prL p)) from ⟨h1.1, by omega, h1.2.1.k⟩)
  have HWS := Lib.hid (show Prm.Wr (Prm.sealIt k (Prm.prL p)) from ⟨h2.1, by omega, h2.2.1.k⟩)
  have HEN := Lib.hid (show Prm.encPr p = bytesOf (Prm.sealIt k (Prm.prL p)) by unfold Prm.encPr; rw [hkn])
  have X0 := RowAt.new w (prC p).toArray 28
  have HD0 := Lib.hid (below_alloc w (.cells (prC p).toArray 28))
  have HP := Lib.hid hp
  have HK := Lib.hid hk
  have HK2 := Lib.hid hk2
  have HKS := Lib.hid hkS.symm
  clear hp hk hks hk2 hkn h1 h2 hkS
  go_enter Tryz.func26, Tryz.ntmps26
  go_wp2
  refine wp_region_ptL (fun _ => False) (.q 0 (.q 2 (.q 3 (.c 1 (.c 4 (.q 5 .done)))))) (by kernel_rfl) (by kernel_rfl) (by kernel_rfl) (by decide) (fun _ _ d _ _ h => by cases d <;> exact h) (fun OPS HOP Wd hBd => ?_)
  try simp only [Act.put, List.getElem_toArray, List.getElem_cons_zero, List.getElem_cons_succ, List.setIfInBounds_toArray, List.set_cons_zero, List.set_cons_succ]
  have X1 := X0.below hBd
  have PP : RowAt Wd w.heap.size (prC p).toArray 28 := X1
  have x1 := X1.cell (i := 1) (v := .int .i64 (k : Int)) (by rw [HKS.out]; rfl)
  refine pt_load (by rw [← HOP.out]; simp only [List.getElem?_toArray, List.getElem?_cons_zero, List.getElem?_cons_succ]; rfl) (by rw [← HOP.out]; kernel_rfl) 28 (.tmp 1) rfl w.heap.size 0 rfl (prC p) _ PP.range (fun h => h) Tryz.underlying28 rfl (by kernel_rfl) ?_
  try simp only [Act.put, List.getElem_toArray, List.getElem_cons_zero, List.getElem_cons_succ, List.setIfInBounds_toArray, List.set_cons_zero, List.set_cons_succ]
  refine pt_q (v := ?_) (by rw [← HOP.out]; simp only [List.getElem?_toArray, List.getElem?_cons_zero, List.getElem?_cons_succ]; rfl) (by rw [← HOP.out]; kernel_rfl) ?_ ?_
  rotate_left
  · intro w' hBw'
    first | (go_simp; done) | (go_simp; with_reducible rfl)
  try simp only [Act.put, List.getElem_toArray, List.getElem_cons_zero, List.getElem_cons_succ, List.setIfInBounds_toArray, List.set_cons_zero, List.set_cons_succ]
  refine pt_q (v := ?_) (by rw [← HOP.out]; simp only [List.getElem?_toArray, List.getElem?_cons_zero, List.getElem?_cons_succ]; rfl) (by rw [← HOP.out]; kernel_rfl) ?_ ?_
  rotate_left
  · intro w' hBw'
    have qL := hBw'.cell x1 (fun e => e)
    first | (go_simp; done) | (go_simp; with_reducible rfl)
  try simp only [Act.put, List.getElem_toArray, List.getElem_cons_zero, List.getElem_cons_succ, List.setIfInBounds_toArray, List.set_cons_zero, List.set_cons_succ]
  refine pt_c ?_
  refine pt_step (by rw [← HOP.out]; simp only [List.getElem?_toArray, List.getElem?_cons_zero, List.getElem?_cons_succ]; rfl) (by rw [← HOP.out]; kernel_rfl) (fun K hK => ?_)
  go_simp
  refine (rItems_c p HP.out HK.out Wd).mono ?_
  rintro en w1 ⟨v1, rows, rfl, ho1, hI1, hb1⟩
  obtain ⟨p1, c1, rfl⟩ := own_slice ho1
  refine hK.out _ _ (But.of_below hb1) ?_
  clear hK K
  try simp only [Act.put, List.getElem_toArray, List.getElem_cons_zero, List.getElem_cons_succ, List.setIfInBounds_toArray, List.set_cons_zero, List.set_cons_succ]
  refine pt_c ?_
  refine pt_step (by rw [← HOP.out]; simp only [List.getElem?_toArray, List.getElem?_cons_zero, List.getElem?_cons_succ]; rfl) (by rw [← HOP.out]; kernel_rfl) (fun K hK => ?_)
  go_simp
  refine (rSealed_c k HK2.out (Prm.prL p) rows p1 c1 w1 (Sl.of_own ho1) (hI1.monoP (fun k e => e.2)) (by show 8 ≤ 100000; decide) HWZ.out HWS.out).mono ?_
  rintro en w2 ⟨v2, rfl, ho2, hb2⟩
  refine hK.out _ _ (But.of_below hb2) ?_
  clear hK K
  try simp only [Act.put, List.getElem_toArray, List.getElem_cons_zero, List.getElem_cons_succ, List.setIfInBounds_toArray, List.set_cons_zero, List.set_cons_succ]
  refine pt_q (v := ?_) (by rw [← HOP.out]; simp only [List.getElem?_toArray, List.getElem?_cons_zero, List.getElem?_cons_succ]; rfl) (by rw [← HOP.out]; kernel_rfl) ?_ ?_
  rotate_left
  · intro w' hBw'
    first | (go_simp; done) | (go_simp; with_reducible rfl)
  try simp only [Act.put, List.getElem_toArray, List.getElem_cons_zero, List.getElem_cons_succ, List.setIfInBounds_toArray, List.set_cons_zero, List.set_cons_succ]
  refine pt_done ?_
  have HH := Lib.hid (And.intro ho2 (And.intro (below_up hBd hb1) hb2))
  clear ho2 hb1 hb2 hBd ho1 hI1 X1 PP x1
  go_wp2
  go_ret
  obtain ⟨ho2, hb1, hb2⟩ := HH.out
  have hd := below_up HD0.out hb1
  rw [HEN.out]
  exact ⟨_, rfl, own_down ho2 hd.size, below_up hd hb2⟩
end Go.Proofs.YtpkonagjnfphkaaGreatDoor

namespace Go.Proofs.YtpkonagjnfphkaaGreatDoor
open Go.RowKit Trc
set_option linter.unusedVariables false
theorem pr_nat32 {a : Int} (h : (Lit.int .u32 a).wf = true) : ∃ k : Nat, a = k ∧ k < 4294967296 := by
  simp [Lit.wf, IntKind.min, IntKind.max, IntKind.signed, IntKind.bits] at h
  exact ⟨a.toNat, by omega, by omega⟩
theorem pr_nat64 {a : Int} (h : (Lit.int .u64 a).wf = true) : ∃ k : Nat, a = k ∧ k < 18446744073709551616 := by
  simp [Lit.wf, IntKind.min, IntKind.max, IntKind.signed, IntKind.bits] at h
  exact ⟨a.toNat, by omega, by omega⟩
theorem pr_int {a : Int} (h : (Lit.int .i64 a).wf = true) : -9223372036854775808 ≤ a ∧ a ≤ 9223372036854775807 := by
  simp [Lit.wf, IntKind.min, IntKind.max, IntKind.signed, IntKind.bits] at h
  omega
theorem pr_of (a0 : Int) (h0 : (Lit.int .u32 a0).wf = true) (a1 : Int) (h1 : (Lit.int .i64 a1).wf = true) (a2 : Int) (h2 : (Lit.int .u32 a2).wf = true) (a3 : Int) (h3 : (Lit.int .u32 a3).wf = true) (a4 : Int) (h4 : (Lit.int .u32 a4).wf = true) (a5 : Int) (h5 : (Lit.int .u32 a5).wf = true) (a6 : Int) (h6 : (Lit.int .u32 a6).wf = true) (a7 : Int) (h7 : (Lit.int .u32 a7).wf = true) (a8 : Int) (h8 : (Lit.int .u64 a8).wf = true) (a9 : Int) (h9 : (Lit.int .u32 a9).wf = true) (a10 : Int) (h10 : (Lit.int .u64 a10).wf = true) :
    ∃ p : Prm.Pr, p.Ok ∧ (.agg #[.int .u32 a0, .int .i64 a1, .int .u32 a2, .int .u32 a3, .int .u32 a4, .int .u32 a5, .int .u32 a6, .int .u32 a7, .int .u64 a8, .int .u32 a9, .int .u64 a10] : Value) = prV p := by
  obtain ⟨k0, rfl, b0⟩ := pr_nat32 h0
  obtain ⟨b1, b1'⟩ := pr_int h1
  obtain ⟨k2, rfl, b2⟩ := pr_nat32 h2
  obtain ⟨k3, rfl, b3⟩ := pr_nat32 h3
  obtain ⟨k4, rfl, b4⟩ := pr_nat32 h4
  obtain ⟨k5, rfl, b5⟩ := pr_nat32 h5
  obtain ⟨k6, rfl, b6⟩ := pr_nat32 h6
  obtain ⟨k7, rfl, b7⟩ := pr_nat32 h7
  obtain ⟨k8, rfl, b8⟩ := pr_nat64 h8
  obtain ⟨k9, rfl, b9⟩ := pr_nat32 h9
  obtain ⟨k10, rfl, b10⟩ := pr_nat64 h10
  exact ⟨⟨k0, a1, k2, k3, k4, k5, k6, k7, k8, k9, k10⟩, ⟨b0, b1, b1', b2, b3, b4, b5, b6, b7, b8, b9, b10⟩, rfl⟩
end Go.Proofs.YtpkonagjnfphkaaGreatDoor
