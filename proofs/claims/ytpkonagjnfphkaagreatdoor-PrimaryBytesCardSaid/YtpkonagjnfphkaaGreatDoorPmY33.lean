/-
  CbRr, CbRb: several texts in one (bundle.py).
-/
import Derived.Test.YtpkonagjnfphkaaGreatDoorPmY22
import Derived.Test.YtpkonagjnfphkaaGreatDoorPmY08
import Derived.Test.YtpkonagjnfphkaaGreatDoorPmY32
import Derived.Test.YtpkonagjnfphkaaGreatDoorPmY12
import Derived.Test.YtpkonagjnfphkaaGreatDoorPmY07
import Derived.Lib.AppendStr
set_option linter.unusedSimpArgs false
set_option linter.unusedVariables false
set_option maxRecDepth 100000
set_option maxHeartbeats 8000000
namespace Go.Proofs.YtpkonagjnfphkaaGreatDoor
open Go.RowKit Cb
namespace Cb
end Cb
theorem wrapU {x : Int} (h0 : 0 ≤ x) (h1 : x ≤ 18446744073709551615) : IntKind.u64.wrap x = x := by
  have hs : IntKind.u64.signed = false := rfl; simp [IntKind.wrap, go_sem, hs]; omega
theorem enters_headR : Enters Tryz.prog 67 := enters_of Tryz.func67 (by kernel_rfl) rfl
section
variable {P : Program} {ops : Array Oper} {Q : Exit → Act → World → Prop} {O : Nat → Prop}
theorem pt_apps {i : Nat} {o : Oper} {R : Act → World → Prop} {a : Act} {w : World} (hi : ops[i]? = some o) (hw : Region.wanted o (yielded ops a.tmps) = true) (s x : Operand) (t u : TypeId)
    (ho : o.op = .call { callee := .builtin .append, args := #[s, x], argTypes := #[t, u] })
    {e : TypeId} (ht : P.underlying t = some (.slice e)) (hu : P.underlying u = some .string) (hinf : (P.info? e).map (fun i => (i.zero, i.size, i.bytes)) = some (some (.int .u8 0), 1, 1)) (base : Nat) {v : Value} {n : Nat} {xs : List Value} (hs : a.eval s = v) (hown : w.ownsRow base e 1 v n xs)
    (str : ByteArray) (hx : a.eval x = .string str)
    (h63 : n + str.size ≤ maxLen) (hbytes : n + str.size ≤ 140737488355328) (hbase : base ≤ w.heap.size) (hO : ∀ k, base ≤ k → O k)
    (h : ∀ v' w', w'.ownsRow base e 1 v' (n + str.size) (xs ++ by8 str.data.toList) → But (fun k => v.ownBlock = some k) w w' → R (a.put o.dst v') w') : ptStep P O ops Q i R a w :=
  ⟨o, hi, hw, by
    obtain ⟨ie, hi2, h1, h2, h3⟩ := info_parts hinf; obtain ⟨v', w', hr, h2, h3, h4⟩ := Lib.run_append_own_string (P := P) w base t u o.type e ie ht hu hi2 h1 h2 h3 v n xs hown str h63 hbytes hbase; have hb : But (fun k => v.ownBlock = some k) w w' := But.grown h3 (fun r hr => .inl hr); unfold Oper.wp execOp; simp only [ho, resolve, invoke, builtin, Sem.run_bind, Sem.run_pure, Result.andThen_ok, List.map_toArray, List.map_cons, List.map_nil, hs, hx, hr]
    exact ⟨hb.mono fun j _ e => hO j (own_of_some hown e).1, h v' w' h2 hb⟩⟩
end
theorem own_cast {w : World} {base : Nat} {e : TypeId} {sz : Nat} {v : Value} {n n' : Nat} {xs xs' : List Value} (h : w.ownsRow base e sz v n xs) (hn : n' = n) (hx : xs' = xs) : w.ownsRow base e sz v n' xs' := by subst hn; subst hx; exact h
abbrev ByE (bs : List UInt8) (w : World) (en : Ending) (w' : World) : Prop := ∃ v, en = .returned v ∧ w'.ownsRow w.heap.size 5 1 v bs.length (by8 bs) ∧ Below w.heap.size w w'
abbrev ByRC (S : Nat → Prop) (x : It) : Prop := ∀ (r : Rw) (w : World), ItR S w x r → cnt x ≤ 1000000 → rightB x = true → Calls Tryz.prog 31 #[rwV r] w (ByE (bytesOf x) w)
theorem bytesR_c (S : Nat → Prop) (x : It) : ByRC S x := by
  induction x using It.ind with
  | h x ih =>
    intro r w hr hcx hri; obtain ⟨rows, p⟩ := hr.parts; have hu := p.l; have hea := p.each; have hln := p.each.len; have hc := cntL_len x.l
    have hcy : ∀ z ∈ x.l, cnt z ≤ 1000000 := fun z hz => by have := cnt_mem hz; omega
    have SB := p.b.1; have hn0 : 0 ≤ x.n := p.lo; have hn9 : x.n ≤ 18446744073709551615 := p.hi; obtain ⟨k1, n1, ba1, bc1, s1, la1, lc1, rfl⟩ := hr.shape2
    have hll : x.l.length ≤ 1000000 := by have := cntL_len x.l; cases x; simp only [cnt, It.l] at *; omega
    have hbl : x.b.length ≤ 1000000 := by cases x; simp only [cnt, It.b] at *; omega
    have hss : s1.size ≤ 1000000 := by have h := p.s; simp only at h; subst h; cases x; simp only [cnt, It.s] at *; omega
    simp only at hu SB; have hB1 := below_alloc w (.cells (rwC ⟨k1, n1, .slice ba1 x.b.length bc1, s1, .slice la1 x.l.length lc1⟩).toArray 62); have e1 := rangeAt_new w (rwC ⟨k1, n1, .slice ba1 x.b.length bc1, s1, .slice la1 x.l.length lc1⟩) 62 (0, 0); have hk : x.k = k1 := p.k.symm; have hnn : x.n = n1 := p.n.symm; have hs : x.s = s1 := p.s.symm; have hby := bytesOf_eq x
    have hrl : ∀ z ∈ x.l, rightB z = true := fun z hz => by rw [rightB_eq, Bool.and_eq_true] at hri; exact rightL_mem hri.2 hz
    have how : (1 ≤ k1 ∧ k1 ≤ 6) ∧ (k1 = 5 → n1 ≤ 1) := by
      rw [rightB_eq, Bool.and_eq_true] at hri; have h1 := hri.1; simp only [ownB, Bool.and_eq_true, decide_eq_true_eq] at h1; rw [hk, hnn] at h1; exact ⟨h1.1, fun e => by have := h1.2.2.1; omega⟩
    have hbtl := bytesL_le x.l
    have hcl : cntL x.l ≤ 1000000 := by cases x; simp only [cnt, It.l] at *; omega
    rw [hk, hnn, hs] at hby; rw [hnn] at hn0 hn9; clear p hr hcx hri hk hnn hs; have b0 := e1 0 _ rfl; have b1 := e1 1 _ rfl; have b2 := e1 2 _ rfl; have b3 := e1 3 _ rfl; have b4 := e1 4 _ rfl; simp only [Nat.zero_add] at b0 b1 b2 b3 b4; have hz1 : (w.alloc (.cells (rwC ⟨k1, n1, .slice ba1 x.b.length bc1, s1, .slice la1 x.l.length lc1⟩).toArray 62)).heap.size = w.heap.size + 1 := World.size_alloc _ _; generalize hbs : x.b = bs at *; clear hbs; generalize hbn : bs.length = bn1 at *; have HBN := Lib.hid hbn; clear hbn; generalize hn : x.l.length = n at *; have Hn := Lib.hid hn; clear hn
    have hcs : k1 = 1 ∨ k1 = 2 ∨ k1 = 3 ∨ k1 = 4 ∨ k1 = 5 ∨ k1 = 6 := by omega
    rcases hcs with rfl | rfl | rfl | rfl | rfl | rfl
    · rw [if_pos rfl] at hby
      have HBY := Lib.hid hby; clear hby; go_enter Tryz.func31, Tryz.ntmps31
      go_wp2_with (go_at_call 67; refine (headR_c 0 n1 _ (by decide) (by decide) hn0 hn9).mono ?_; rintro en w2 ⟨v2, rfl, ho2, hb2⟩)
      go_ret; refine ⟨v2, rfl, ?_, below_up hB1 hb2⟩; rw [HBY.out]; exact own_down ho2 (by omega)
    · rw [if_neg (by decide), if_pos rfl] at hby
      have HBY := Lib.hid hby; clear hby; go_enter Tryz.func31, Tryz.ntmps31; go_wp2; refine wp_region_pt (fun q => w.heap.size + 1 ≤ q) (.q 0 (.q 1 (.q 2 (.q 3 (.q 5 (.q 6 (.c 4 (.c 7 (.q 8 .done))))))))) (by kernel_rfl) (by kernel_rfl) (by kernel_rfl) (by decide) (fun _ _ d _ _ h => by cases d <;> exact h) (fun Wd hBd => ?_)
      try simp only [zq]
      have hwu : IntKind.u64.wrap ((bn1 : Nat) : Int) = ((bn1 : Nat) : Int) := wrapU (by omega) (by omega); have Db2 := cell_up hBd b2; have hzd := hBd.size; have hhl := headB_len 2 bn1
      iterate 6
        refine ztg rfl (by rfl) (fun w' hBw' => hBw'.cell Db2 (fun e => by omega)) ?_
      refine pt_c ?_; refine pt_call rfl (by rfl) (headR_c 2 bn1 Wd (by decide) (by decide) (by omega) (by omega)) enters_headR (by rfl) (by kernel_rfl) ?_
      try simp only [zq]
      rintro en wN ⟨v3, rfl, ho3, hb3⟩; refine ⟨_, rfl, But.of_below hb3, ?_⟩; have hd3 := cell_up hb3 Db2; have hzN := hb3.size; refine pt_c ?_; refine pt_app2 rfl (by rfl) (.tmp 18) (.tmp 20) 48 rfl slT_u8 Wd.heap.size rfl ho3 rfl (SB.up (below_up (below_up hB1 hBd) hb3)) (one_by8 _) (by simp only [maxLen]; omega) (by omega) (by omega) (fun q hq => by omega) (fun v4 wA ho4 hb4 => ?_)
      try simp only [zq]
      obtain ⟨a4, c4, rfl⟩ := own_slice ho4; refine zt rfl (by rfl) ?_; refine pt_done ?_; have hsz0 : s1.data.toList.length = s1.size := Array.length_toList; go_wp2; go_ret; refine ⟨.slice a4 _ c4, rfl, ?_, ?_⟩
      · rw [HBY.out]
        have := own_down (base' := w.heap.size) ho4 (by omega); refine own_cast this ?_ ?_
        · simp [HBN.out, hsz0]
        · simp [by8]
      · exact ((below_up hB1 hBd).trans (hb3.mono (by omega))).trans (hb4.below (fun q e => by have := (own_of_some ho3 e).1; omega) (by omega))
    · rw [if_neg (by decide), if_neg (by decide), if_pos rfl] at hby
      have HBY := Lib.hid hby; have hsz : s1.data.toList.length = s1.size := Array.length_toList; clear hby; go_enter Tryz.func31, Tryz.ntmps31; go_wp2; refine wp_region_pt (fun q => w.heap.size + 1 ≤ q) (.q 0 (.q 1 (.q 2 (.q 3 (.q 5 (.q 6 (.c 4 (.c 7 (.q 8 .done))))))))) (by kernel_rfl) (by kernel_rfl) (by kernel_rfl) (by decide) (fun _ _ d _ _ h => by cases d <;> exact h) (fun Wd hBd => ?_)
      try simp only [zq]
      have hwu : IntKind.u64.wrap ((s1.size : Nat) : Int) = ((s1.size : Nat) : Int) := wrapU (by omega) (by omega); have Db3 := cell_up hBd b3; have hzd := hBd.size; have hhl := headB_len 3 s1.size
      iterate 6
        refine ztg rfl (by rfl) (fun w' hBw' => hBw'.cell Db3 (fun e => by omega)) ?_
      refine pt_c ?_; refine pt_call rfl (by rfl) (headR_c 3 s1.size Wd (by decide) (by decide) (by omega) (by omega)) enters_headR (by rfl) (by kernel_rfl) ?_
      try simp only [zq]
      rintro en wN ⟨v3, rfl, ho3, hb3⟩; refine ⟨_, rfl, But.of_below hb3, ?_⟩; have hd3 := cell_up hb3 Db3; have hzN := hb3.size; refine pt_c ?_; refine pt_apps rfl (by rfl) (.tmp 28) (.tmp 30) 48 9 rfl Tryz.underlying48 Tryz.underlying9 (by kernel_rfl) Wd.heap.size rfl ho3 s1 rfl (by simp only [maxLen]; omega) (by omega) (by omega) (fun q hq => by omega) (fun v4 wA ho4 hb4 => ?_)
      try simp only [zq]
      obtain ⟨a4, c4, rfl⟩ := own_slice ho4; refine zt rfl (by rfl) ?_; refine pt_done ?_; have hsz0 : s1.data.toList.length = s1.size := Array.length_toList; go_wp2; go_ret; refine ⟨.slice a4 _ c4, rfl, ?_, ?_⟩
      · rw [HBY.out]
        have := own_down (base' := w.heap.size) ho4 (by omega); refine own_cast this ?_ ?_
        · simp [HBN.out, hsz0]
        · simp [by8]
      · exact ((below_up hB1 hBd).trans (hb3.mono (by omega))).trans (hb4.below (fun q e => by have := (own_of_some ho3 e).1; omega) (by omega))
    · rw [if_neg (by decide), if_neg (by decide), if_neg (by decide), if_neg (by decide), if_neg (by decide)] at hby
      have HBY := Lib.hid hby; clear hby; have hhl := headB_len 4 n; go_enter Tryz.func31, Tryz.ntmps31
      go_wp2_with (go_at_call 67; refine (headR_c 4 n _ (by decide) (by decide) (by omega) (by omega)).mono ?_; rintro en w2 ⟨v2, rfl, ho2, hb2⟩)
      have hB2 := below_up hB1 hb2
      go_loopw [3, 4] (fun b i wr => ∃ j : Nat, j ≤ n ∧ i = .int .i64 j ∧ wr.ownsRow (w.heap.size + 1) 5 1 b (headB 4 n ++ bytesL (x.l.take j)).length (by8 (headB 4 n ++ bytesL (x.l.take j))) ∧ Below (w.heap.size + 1) w2 wr) (fun _ i _ => n - (intOf i).toNat)
      case atStart => exact ⟨0, Nat.zero_le _, rfl, by simp only [List.take_zero, bytesL, List.append_nil]; exact own_down ho2 (by omega), Below.refl _ _⟩
      case round =>
        obtain ⟨j, hj, rfl, hown, hB⟩ := hrel; have hBw : Below w.heap.size w wr := hB2.trans (hB.mono (by omega)); have hB1w := (hb2.mono (show w.heap.size + 1 ≤ _ by omega)).trans hB
        have hc1 : wr.cell? ⟨w.heap.size, 4, none⟩ = some (.slice la1 n lc1) := by
          have := rangeAt_up (by rw [hz1]; exact hB1w) e1 4 _ rfl
          simpa only [Nat.zero_add] using this
        have hzr := hBw.size; have hzr2 := hB1w.size; by_cases hlt : j < n
        · have hl' : j < x.l.length := by rw [Hn.out]; exact hlt
          have hr' : j < rows.length := by omega
          obtain ⟨b, off, rfl, hr⟩ := (hu.1.up hBw).rec_at (cells := rwC) (sz := 5) (fun _ => rfl) hlt hr'; have hs1 := Lib.hid (show headB 4 n ++ bytesL (x.l.take (j + 1)) = (headB 4 n ++ bytesL (x.l.take j)) ++ bytesOf x.l[j] by rw [List.take_succ_eq_append_getElem hl', bytesL_app]; simp [bytesL])
          have htl : (bytesL (x.l.take j)).length ≤ (bytesL x.l).length := by
            have := congrArg List.length (bytesL_app (x.l.take j) (x.l.drop j)); rw [List.take_append_drop, List.length_append] at this; omega
          have hxl := bytes_le x.l[j]; have hxc := hcy _ (List.getElem_mem hl'); have hcl2 := ih x.l[j] (List.getElem_mem hl') rows[j] wr ((hea.get hl' hr').up hBw) (hcy _ (List.getElem_mem hl')) (hrl _ (List.getElem_mem hl')); have hsx := (hea.get hl' hr').shape; generalize rows[j] = rx at *; obtain ⟨ka, na, baa, bna, bca, sa, laa, lna, lca, rfl⟩ := hsx; generalize hA : headB 4 n ++ bytesL (x.l.take j) = A at *
          have hAl : A.length ≤ 9000009 := by rw [← hA, List.length_append]; omega
          generalize hC : bytesOf x.l[j] = C at *; have HAC := Lib.hid (And.intro hA hC); clear hA hC; obtain ⟨al, hal⟩ : ∃ q, A.length = q := ⟨_, rfl⟩; obtain ⟨cl, hcl'⟩ : ∃ q, C.length = q := ⟨_, rfl⟩; have HALC := Lib.hid (And.intro hal hcl'); rw [hal] at hown hAl; rw [hcl'] at hxl; have hcl3 : Calls Tryz.prog 31 #[rwV ⟨ka, na, .slice baa bna bca, sa, .slice laa lna lca⟩] wr (fun en w' => ∃ v, en = .returned v ∧ w'.ownsRow wr.heap.size 5 1 v cl (by8 C) ∧ Below wr.heap.size wr w') := hcl2.mono (fun en w' h => by rw [← hcl']; exact h); clear hal hcl' hcl2; obtain ⟨ab, cb, hob⟩ := own_slice hown; subst hob
          go_wp2_with (first
            | (refine wpList_load_mid rfl 62 (.tmp 58) rfl b (off + j * 5) rfl (rwC ⟨ka, na, .slice baa bna bca, sa, .slice laa lna lca⟩) _ hr Tryz.underlying62 rfl (by kernel_rfl) ?_)
            | (go_at_call 31; refine hcl3.mono ?_; rintro en w4 ⟨v4, rfl, ho4, hb4⟩; obtain ⟨a4, c4, rfl⟩ := own_slice ho4)
            | (at_builtin; refine wpList_app rfl _ _ 48 rfl slT_u8 (w.heap.size + 1) rfl (own_up hown hb4) rfl (Sl.of_own ho4) (one_by8 _) (by simp only [maxLen]; omega) (by omega) (by have := hb4.size; omega) ?_; intro v5 w5 ho5 hg5 _))
          have hb5 : Below (w.heap.size + 1) w2 w5 := (hB.trans (hb4.mono (by omega))).trans ((But.grown hg5 (O := fun q => w.heap.size + 1 ≤ q) (fun q hq => .inl (own_of_some hown hq).1)).below (fun q e => e) (by have := hb4.size; omega))
          go_roundw
          case rel =>
            refine ⟨j + 1, by omega, by go_num, ?_, hb5⟩; rw [hs1.out]; refine own_cast ho5 ?_ (by simp [by8]); rw [List.length_append, HALC.out.1, HALC.out.2]
          case measure => simp [intOf]; omega
        · obtain rfl : j = n := by omega
          have Hall := Lib.hid (show x.l.take j = x.l from List.take_of_length_le (by rw [Hn.out]; exact Nat.le_refl _)); go_wp2; go_ret; refine ⟨_, rfl, ?_, hBw⟩; rw [HBY.out, ← Hall.out]; exact own_down hown (by omega)
    · rw [if_neg (by decide), if_neg (by decide), if_neg (by decide), if_pos rfl] at hby
      have HBY := Lib.hid hby; clear hby
      have hcs : n1 = 0 ∨ n1 = 1 := by omega
      rcases hcs with rfl | rfl
      · go_enter Tryz.func31, Tryz.ntmps31
        go_wp2; go_ret; refine ⟨_, rfl, ?_, hB1.alloc hB1.size _⟩; rw [HBY.out]; refine own_cast (xs := [.int .u8 244]) ?_ rfl rfl
        have hlit := fun W : World => World.ownsRow_lit W #[.int .u8 244] 1 (size := 1) (base := W.heap.size) (e := 5) (Nat.le_refl _) (by decide) rfl
        have hlit := own_down (base' := w.heap.size) (hlit (w.alloc (.cells (rwC ⟨5, 0, .slice ba1 bn1 bc1, s1, .slice la1 n lc1⟩).toArray 62))) (by rw [hz1]; omega); rw [hz1] at hlit; exact hlit
      · go_enter Tryz.func31, Tryz.ntmps31
        go_wp2; go_ret; refine ⟨_, rfl, ?_, hB1.alloc hB1.size _⟩; rw [HBY.out]; refine own_cast (xs := [.int .u8 245]) ?_ rfl rfl
        have hlit := fun W : World => World.ownsRow_lit W #[.int .u8 245] 1 (size := 1) (base := W.heap.size) (e := 5) (Nat.le_refl _) (by decide) rfl
        have hlit := own_down (base' := w.heap.size) (hlit (w.alloc (.cells (rwC ⟨5, 1, .slice ba1 bn1 bc1, s1, .slice la1 n lc1⟩).toArray 62))) (by rw [hz1]; omega); rw [hz1] at hlit; exact hlit
    · rw [if_neg (by decide), if_neg (by decide), if_neg (by decide), if_neg (by decide), if_pos rfl] at hby
      have HBY := Lib.hid hby; clear hby; go_enter Tryz.func31, Tryz.ntmps31; go_wp2; go_ret; refine ⟨_, rfl, ?_, hB1.alloc hB1.size _⟩; rw [HBY.out]; refine own_cast (xs := [.int .u8 246]) ?_ rfl rfl
      have hlit := fun W : World => World.ownsRow_lit W #[.int .u8 246] 1 (size := 1) (base := W.heap.size) (e := 5) (Nat.le_refl _) (by decide) rfl
      have hlit := own_down (base' := w.heap.size) (hlit (w.alloc (.cells (rwC ⟨6, n1, .slice ba1 bn1 bc1, s1, .slice la1 n lc1⟩).toArray 62))) (by rw [hz1]; omega); rw [hz1] at hlit; exact hlit
end Go.Proofs.YtpkonagjnfphkaaGreatDoor
