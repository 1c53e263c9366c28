/-
  Clone, DeleteFunc at spans; the stable sort of none.
-/
import Derived.Test.YtnccbeiaohmnpaaSpanB
namespace Go.Proofs.Ytnccbeiaohmnpaa
open Go.RowKit Srt
set_option linter.unusedSimpArgs false
set_option linter.unusedVariables false

theorem slSp : SlT Try.prog 41 24 2 16 := SlT.mk' Try.underlying41 (z := .agg #[.int .u64 0, .int .u64 0]) (by kernel_rfl) rfl (by decide)
theorem one_sp (l : List (Int × Int)) : ∀ u ∈ l.flatMap spC, u.oneCell' = true := fun u hu => by
  obtain ⟨p, _, h⟩ := List.mem_flatMap.1 hu
  simp [spC] at h
  rcases h with rfl | rfl <;> rfl
theorem sp_one (x : Int × Int) : (spC x).toArray.all (·.oneCell') = true := all_oneCell_toArray (fun u hu => one_sp [x] u (by simpa using hu))
/-- slices.Clone of spans. -/
theorem cloneS_c (l : List (Int × Int)) (v : Value) (n : Nat) (w : World) (hv : Sl w 2 v n (l.flatMap spC)) (hn : n * 16 ≤ 140737488351232) :
    Calls Try.prog 37 #[v] w fun e w' => ∃ v', e = .returned v' ∧ w'.ownsRow w.heap.size 24 2 v' n (l.flatMap spC) ∧ Below w.heap.size w w' := by
  obtain ⟨a, c, rfl⟩ := hv.len
  have he := fun (w : World) (a : Option Addr) (n c : Nat) => Lib.run_eql_slice_nil (P := Try.prog) w 41 24 a n c 0 0 Try.underlying41
  cases a with
  | none =>
    have h0 : n = 0 ∧ l.flatMap spC = [] := by
      obtain ⟨hl, ⟨a, c, h1, rfl⟩ | ⟨b, off, cap, h1, _⟩⟩ := hv
      · exact ⟨rfl, List.eq_nil_of_length_eq_zero (by omega)⟩
      · simp at h1
    rw [h0.2]
    obtain ⟨rfl, _⟩ := h0
    go_enter Try.func37, Try.ntmps37
    go_wp2
    go_ret
    exact ⟨_, rfl, World.ownsRow_nil _ _ _ _, Below.refl _ _⟩
  | some a =>
    go_enter Try.func37, Try.ntmps37
    go_wp2_with (at_builtin; refine wpList_app rfl _ _ 41 rfl slSp w.heap.size rfl (World.ownsRow_lit w #[] 0 (Nat.le_refl _) (by decide) rfl) rfl (hv.up ((Below.refl _ _).alloc (Nat.le_refl _) _)) (one_sp l) (by simp [maxLen]; omega) (by omega) (by simp) ?_; intro v' w1 hown hgrow _)
    go_ret
    exact ⟨v', rfl, by simpa using hown, grown_below ((Below.refl _ _).alloc (Nat.le_refl _) _) hgrow (fun k hk => by have : w.heap.size = k := Option.some.inj hk; omega)⟩
set_option maxRecDepth 100000 in
/-- The stable sort of none. -/
theorem sort0_c (a : Option Addr) (c : Nat) (w : World) : Calls Try.prog 39 #[.slice a 0 c, .func (.func 40) #[] #[]] w (Ret (.tuple #[]) w) := by
  have hI : ∀ w, Calls Try.prog 55 #[.slice a 0 c, .int .i64 0, .int .i64 0, .func (.func 40) #[] #[]] w (Ret (.tuple #[]) w) := fun w => by
    go_enter Try.func55, Try.ntmps55
    go_wp2
    refine wp_loop_rounds 1 ?_
    rw [rounds_succ]
    go_wp2
    go_end0
    exact ⟨rfl, Below.refl _ _⟩
  have hS : ∀ w, Calls Try.prog 51 #[.slice a 0 c, .int .i64 0, .func (.func 40) #[] #[]] w (Ret (.tuple #[]) w) := fun w => by
    go_enter Try.func51, Try.ntmps51
    go_wp2
    refine wp_loop_rounds 1 ?_
    rw [rounds_succ]
    go_wp2_with (go_at_call 55; refine (hI _).mono ?_; rintro en w1 ⟨rfl, hb⟩)
    refine wp_loop_rounds 1 ?_
    rw [rounds_succ]
    go_wp2
    go_end0
    exact ⟨rfl, hb⟩
  go_enter Try.func39, Try.ntmps39
  go_wp2_with (go_at_call 51; refine (hS _).mono ?_; rintro en w1 ⟨rfl, hb⟩)
  go_end0
  exact ⟨rfl, hb⟩
/-- clear of a slice of records, for the walk. -/
theorem wpList_clearS {P : Program} {w : World} {ops : Array Oper} {rest : List Oper} {o : Oper} {a : Act} {Q : Exit → Act → World → Prop} (hgd : o.guard = none) (s : Operand) (t : TypeId)
    (ho : o.op = .call { callee := .builtin .clear, args := #[s], argTypes := #[t] }) {vs : Value} (hs : a.eval s = vs) {w' : World} (hr : (Builtin.clear_ #[t] o.type #[vs]).run P w = .ok (.tuple #[]) w')
    (h : wpList P ops Q rest (a.put o.dst (.tuple #[])) w') : wpList P ops Q (o :: rest) a w :=
  wpList_plain hgd fun _ hK => by
    unfold Oper.wp execOp
    simp only [ho, resolve, invoke, builtin, Sem.run_bind, Sem.run_pure, Result.andThen_ok, List.map_toArray, List.map_cons, List.map_nil, hs, hr]
    exact hK _ _ h
theorem zeroCells_memS {z : Array Value} {n : Nat} {v : Value} (hz : ∀ u ∈ z.toList, u.oneCell' = true) (h0 : 0 < z.size) (h : v ∈ (Builtin.zeroCells z n).toList) : v.oneCell' = true := by
  simp only [Builtin.zeroCells, Array.toList_map, List.mem_map] at h
  obtain ⟨i, _, rfl⟩ := h
  have hlt : i % z.size < z.size := Nat.mod_lt _ h0
  rw [getElem!_pos z _ hlt]
  exact hz _ (by simp)
theorem run_clear_sp {w : World} {g n i : Nat} {cur : Array Value} (h : RowAt w g cur 24) (hi : i ≤ n) (hn : n * 2 ≤ cur.size) (c : Nat) (ty : TypeId) :
    ∃ zs, zs.length = (n - i) * 2 ∧ (Builtin.clear_ #[41] ty #[.slice (some ⟨g, i * 2, none⟩) (n - i) c]).run Try.prog w = .ok (.tuple #[]) (w.setCells g (i * 2) zs) := by
  by_cases h0 : n - i = 0
  · refine ⟨[], by rw [h0]; rfl, ?_⟩
    rw [h0]
    simp [Builtin.clear_, run_underlying Try.underlying41, World.setCells]
  · obtain ⟨m, hm⟩ : ∃ m, n - i = m + 1 := ⟨n - i - 1, by omega⟩
    obtain ⟨inf, hinf, hz, hsz, _⟩ := slSp.inf
    have hz5 : ∀ w, (zeroValue 24).run Try.prog w = .ok (.agg #[.int .u64 0, .int .u64 0]) w := fun w => by
      have : Try.t24.zero = some (.agg #[.int .u64 0, .int .u64 0]) := by kernel_rfl
      simp [go_sem, zeroValue, this]
    refine ⟨(Builtin.zeroCells #[.int .u64 0, .int .u64 0] (n - i)).toList, by rw [Array.length_toList, size_zeroCells]; rfl, ?_⟩
    have hst := run_storeCells_cells (P := Try.prog) g (i * 2) (Builtin.zeroCells #[.int .u64 0, .int .u64 0] (n - i)).toList 0 w
      (fun j hj => by
        rw [Array.length_toList, size_zeroCells] at hj
        have hlt : i * 2 + 0 + j < cur.size := by simp at hj; omega
        rw [h.cell (v := cur[i * 2 + 0 + j]) (by rw [Array.getElem?_eq_getElem hlt])]; rfl)
      (fun j hj => h.fz _)
      (fun v hv => zeroCells_memS (by intro u hu; simp at hu; subst hu; rfl) (by decide) hv)
    simp only [Nat.add_zero] at hst
    rw [hm] at hst ⊢
    simp [Builtin.clear_, run_underlying Try.underlying41, hz5, Value.cells, hst]
theorem arr_sl {w : World} {g cap n : Nat} {J : List Value} {M : List (Int × Int)} (h : Arr w g 24 J spC M) (hn : M.length = n) (hcap : n ≤ cap) (hmx : cap ≤ maxLen) : Sl w 2 (.slice (some ⟨g, 0, none⟩) n cap) n (M.flatMap spC) :=
  sl_of_rowG (cells := spC) (sz := 2) (fun _ => rfl) h hn hcap hmx (by
    have hl := arr_len (cells := spC) (sz := 2) (fun _ => rfl) M
    rw [hn] at hl
    rw [List.take_append_of_le_length (by omega), List.take_of_length_le (by omega)])
/-- What the loop of DeleteFunc has at hand. -/
structure DelS (base : Nat) (w wr : World) (g n i j : Nat) (l : List (Int × Int)) (p : Int × Int → Bool) (M : List (Int × Int)) (J : List Value) : Prop where
  row : Arr wr g 24 J spC M
  len : M.length = n
  head : M.take i = (l.take j).filter fun x => !p x
  tail : M.drop j = l.drop j
  below : Below base w wr

set_option maxHeartbeats 2000000 in
set_option maxRecDepth 100000 in
theorem delS_c (l : List (Int × Int)) (v : Value) (n base : Nat) (w : World) (hown : w.ownsRow base 24 2 v n (l.flatMap spC)) (hbase : base ≤ w.heap.size) (hn : n ≤ 100000) (f : FuncId) (hf : Enters Try.prog f) (caps : Array Value) (p : Int × Int → Bool)
    (hp : ∀ x ∈ l, ∀ w1, Below base w w1 → Calls Try.prog f (#[spV x] ++ caps) w1 (Ret (.bool (p x)) w1)) :
    Calls Try.prog 36 #[v, .func (.func f) #[] caps] w fun en w' => ∃ v' m, en = .returned v' ∧ m = (l.filter fun x => !p x).length ∧ w'.ownsRow base 24 2 v' m ((l.filter fun x => !p x).flatMap spC) ∧ Below base w w' := by
  have hsl := Sl.of_own hown
  have hlen : l.length = n := Sl.recs (cells := spC) (sz := 2) (fun _ => rfl) (by decide) hsl
  have hidx := indexS_c l v n w (by rw [spans_flat]; exact hsl) (by omega) f hf caps p (fun x hx w1 hb => hp x hx w1 (hb.mono hbase))
  cases hall : l.findIdx? p with
  | none =>
    have hno : ∀ x ∈ l, p x = false := fun x hx => by have := List.findIdx?_eq_none_iff.1 hall x hx; simpa using this
    have hi : Clk.idx p l = -1 := by unfold Clk.idx; rw [hall]
    have hfil : (l.filter fun x => !p x) = l := List.filter_eq_self.2 (fun x hx => by simp [hno x hx])
    rw [hfil]
    rw [hi] at hidx
    obtain ⟨av, cv, rfl⟩ := hsl.len
    go_enter Try.func36, Try.ntmps36
    go_wp2_with (go_at_call 50; refine hidx.mono ?_; rintro en w1 ⟨rfl, hb⟩)
    go_ret
    exact ⟨_, n, rfl, hlen.symm, own_but hown (But.of_below (O := fun _ => False) hb) (fun _ _ h => h), hb.mono hbase⟩
  | some i0 =>
    obtain ⟨hi0, hp0, hlt0⟩ := List.findIdx?_eq_some_iff_getElem.1 hall
    have hi : Clk.idx p l = (i0 : Int) := by unfold Clk.idx; rw [hall]
    rw [hi] at hidx
    rcases hown.2 with ⟨_, h0⟩ | ⟨g, cap, cur, rfl, hg, hrow, hnc, hcm, hcs, hct⟩
    · exfalso; omega
    obtain ⟨J, hJ⟩ : ∃ J, cur.toList.drop (n * 2) = J := ⟨_, rfl⟩
    have hcur : cur = (l.flatMap spC ++ J).toArray := by
      rw [← hct, ← hJ, List.take_append_drop]
    have hJl : n * 2 + J.length = cap * 2 := by rw [← hcs, ← hJ, List.length_drop, Array.length_toList, hcs]; omega
    subst hcur
    have hpre : (l.take i0).filter (fun x => !p x) = l.take i0 := List.filter_eq_self.2 (fun x hx => by
      obtain ⟨j, hj, rfl⟩ := List.mem_iff_getElem.1 hx
      rw [List.length_take] at hj
      have := hlt0 j (by omega)
      rw [List.getElem_take]; simpa using this)
    have hstart : (l.take (i0 + 1)).filter (fun x => !p x) = l.take i0 := by
      rw [List.take_succ_eq_append_getElem hi0, List.filter_append, hpre]
      simp [hp0]
    have D0 : DelS base w w g n i0 (i0 + 1) l p l J := ⟨hrow, hlen, hstart.symm, rfl, Below.refl _ _⟩
    have hi0n : i0 < n := by omega
    have HLEN := Lib.hid hlen
    have HP := Lib.hid hp
    have HF := Lib.hid hf
    have HJL := Lib.hid hJl
    clear hown hpre hstart hlt0 hp0 hall hlen hrow hp hsl hi hcs hct hJ hJl
    have hne : ((i0 : Int) == -1) = false := by rw [beq_eq_false_iff_ne]; omega
    go_enter Try.func36, Try.ntmps36
    go_wp2_with (go_at_call 50; refine hidx.mono ?_; rintro en w1 ⟨rfl, hb⟩)
    have D1 : DelS base w w1 g n i0 (i0 + 1) l p l J := ⟨D0.row.below hb, D0.len, D0.head, D0.tail, hb.mono hbase⟩
    clear D0 hb
    go_loopw [5, 6] (fun s t wr => ∃ (i j : Nat) (M : List (Int × Int)), s = .int .i64 i ∧ t = .int .i64 j ∧ i < j ∧ j ≤ n ∧ DelS base w wr g n i j l p M J) (fun _ t _ => n - (intOf t).toNat)
    case atStart => exact ⟨i0, i0 + 1, l, rfl, by go_num, by omega, by omega, D1⟩
    case round =>
      clear D1
      obtain ⟨i, j, M, rfl, rfl, hij, hjn, V⟩ := hrel
      by_cases hlt : j < n
      · have hjI : (j : Int) < (n : Int) := by omega
        have hiI : (i : Int) < (n : Int) := by omega
        have hjl : j < l.length := by rw [HLEN.out]; exact hlt
        have hjM : j < M.length := by rw [V.len]; exact hlt
        have hMj : M[j] = l[j] := by
          have h1 : (M.drop j)[0]? = (l.drop j)[0]? := by rw [V.tail]
          rw [List.getElem?_drop, List.getElem?_drop, Nat.add_zero, List.getElem?_eq_getElem hjM, List.getElem?_eq_getElem hjl] at h1
          exact Option.some.inj h1
        have hr := V.row.rec (sz := 2) (fun _ => rfl) hjM
        rw [hMj] at hr
        have HM := Lib.hid hMj
        have hcall := HP.out l[j] (List.getElem_mem hjl)
        have hts : (l.take (j + 1)).filter (fun x => !p x) = (l.take j).filter (fun x => !p x) ++ (if p l[j] then [] else [l[j]]) := by
          rw [List.take_succ_eq_append_getElem hjl, List.filter_append]
          cases hpj : p l[j] <;> simp [hpj]
        have HTS := Lib.hid hts
        have htail : M.drop (j + 1) = l.drop (j + 1) := by
          have := congrArg (List.drop 1) V.tail
          simpa [List.drop_drop, Nat.add_comm] using this
        have HTL := Lib.hid htail
        clear hMj hts htail
        have hB1 := V.below.alloc (Nat.le_trans hbase V.below.size) (.cells (spC l[j]).toArray 24)
        have hcl := hcall _ hB1
        have hal := below_alloc wr (.cells (spC l[j]).toArray 24)
        generalize l[j] = x at *
        have hent := HF.out
        unfold Enters at hent
        have V1 := V.row.alloc (.cells (spC x).toArray 24)
        cases hpx : p x with
        | true =>
          rw [hpx] at hcl
          have HT := Lib.hid (show (l.take (j + 1)).filter (fun x => !p x) = M.take i by rw [HTS.out, hpx, V.head]; simp)
          clear hpx
          go_wp2_with (first
            | (refine wpList_load_mid rfl 24 (.tmp 24) rfl g (j * 2) rfl (spC x) _ hr Try.underlying24 rfl (by kernel_rfl) ?_)
            | (refine hcl.mono ?_; rintro en w2 ⟨rfl, hb⟩))
          go_roundw
          case rel => exact ⟨i, j + 1, M, rfl, by go_num, by omega, by omega, V1.below hb, V.len, HT.out.symm, HTL.out, hB1.trans (hb.mono (Nat.le_trans hbase hB1.size))⟩
          case measure => simp [intOf]; omega
        | false =>
          rw [hpx] at hcl
          have hil : i < M.length := by rw [V.len]; omega
          have HT := Lib.hid (show (M.set i x).take (i + 1) = (l.take (j + 1)).filter (fun x => !p x) by
            rw [HTS.out, hpx, ← V.head]
            rw [List.take_succ_eq_append_getElem (by simpa using hil), List.getElem_set_self, List.take_set_of_le (Nat.le_refl _)]
            simp)
          have HD := Lib.hid (show (M.set i x).drop (j + 1) = l.drop (j + 1) by
            rw [List.drop_set_of_lt (by omega), HTL.out])
          clear hpx
          go_wp2_with (first
            | (refine wpList_load_mid rfl 24 (.tmp 24) rfl g (j * 2) rfl (spC x) _ hr Try.underlying24 rfl (by kernel_rfl) ?_)
            | (refine hcl.mono ?_; rintro en w2 ⟨rfl, hb⟩; have V2 : Arr w2 g 24 J spC M := V1.below hb; have hr7 := ((RowAt.new wr (spC x).toArray 24).below hb).range; have hth : w2.there g (i * 2) (spC x).toArray.size := V2.there (cells := spC) (sz := 2) (fun _ => rfl) hil; clear hcl)
            | (refine wpList_load_mid rfl 24 (.tmp 7) rfl wr.heap.size 0 rfl (spC x) _ hr7 Try.underlying24 rfl (by kernel_rfl) ?_)
            | (refine wpList_store_mid rfl 24 (.tmp 33) (.tmp 32) rfl g (i * 2) (spC x).toArray rfl rfl hth (by kernel_rfl) (sp_one x) ?_; go_loud (have V3 : Arr (w2.setCells g (i * 2) (spC x).toArray.toList) g 24 J spC (M.set i x) := V2.put (sz := 2) (fun _ => rfl) hil x; have hB3 : But (fun k => k = g) w2 (w2.setCells g (i * 2) (spC x).toArray.toList) := But.setCells (spC x) w2 (i * 2) rfl; obtain ⟨W3, hW3⟩ : ∃ W, W = w2.setCells g (i * 2) (spC x).toArray.toList := ⟨_, rfl⟩; rw [← hW3] at V3 hB3 ⊢; clear hW3 hr hr7 hth V2)))
          go_roundw
          case rel => exact ⟨i + 1, j + 1, M.set i x, by go_num, by go_num, by omega, by omega, V3, by rw [List.length_set]; exact V.len, HT.out, HD.out, (hB1.trans (hb.mono (Nat.le_trans hbase hB1.size))).trans (hB3.below (fun k hk => by omega) (Nat.le_trans hbase (hB1.trans (hb.mono (Nat.le_trans hbase hB1.size))).size))⟩
          case measure => simp [intOf]; omega
      · obtain rfl : j = n := by omega
        have hfil : l.filter (fun x => !p x) = M.take i := by
          rw [V.head, List.take_of_length_le (by rw [HLEN.out]; exact Nat.le_refl _)]
        have hs1 : ∀ (kl : IntKind) (w' : World), (Instr.slice 41 (.slice (some ⟨g, 0, none⟩) j cap) (some (.int kl (i : Int))) none none).run Try.prog w' = .ok (.slice (some ⟨g, i * 2, none⟩) (j - i) (cap - i)) w' := fun kl w' => by
          rw [run_cut_l slSp (some ⟨g, 0, none⟩) j cap i kl (by omega) w']
          have : ¬ cap = i := by omega
          simp [sliced, this, Addr.add_mid]
        have hs2 : ∀ (kl : IntKind) (w' : World), (Instr.slice 41 (.slice (some ⟨g, 0, none⟩) j cap) none (some (.int kl (i : Int))) none).run Try.prog w' = .ok (.slice (some ⟨g, 0, none⟩) i cap) w' := fun kl w' => by
          rw [run_cut_h slSp (some ⟨g, 0, none⟩) j cap i kl (by omega) w']
          simp [sliced, Addr.add_mid]
        have hML := arr_len (cells := spC) (sz := 2) (fun _ => rfl) M
        rw [V.len] at hML
        have hJl := HJL.out
        obtain ⟨cu, hcu⟩ : ∃ cu, (M.flatMap spC ++ J).toArray = cu := ⟨_, rfl⟩
        have hrow := V.row
        unfold Arr at hrow
        rw [hcu] at hrow
        have hsz : cu.size = cap * 2 := by rw [← hcu, List.size_toArray, List.length_append, hML]; exact hJl
        have htake : cu.toList.take (i * 2) = (M.take i).flatMap spC := by
          rw [← hcu, ← rec_take (cells := spC) (sz := 2) (fun _ => rfl)]
          show (M.flatMap spC ++ J).take (i * 2) = _
          rw [List.take_append_of_le_length (by omega)]
        obtain ⟨zs, hzl, hclr⟩ := run_clear_sp (n := j) (i := i) hrow (by omega) (by omega) (cap - i) 0
        have HFIL := Lib.hid hfil
        have HX := Lib.hid (And.intro hsz (And.intro htake (And.intro hzl (And.intro hML hJl))))
        clear hfil hcu hsz htake hML hJl
        go_wp2_with (at_builtin; refine wpList_clearS rfl (.tmp 38) 41 rfl rfl hclr ?_)
        go_ret
        obtain ⟨hsz, htake, hzl, hML, hJl⟩ := HX.out
        have hrow2 := RowAt.sets zs (i * 2) hrow
        have hlen : (M.take i).length = i := by rw [List.length_take, V.len]; omega
        have htk : (setAllA cu (i * 2) zs).toList.take (i * 2) = (M.take i).flatMap spC := by
          rw [← htake]
          refine List.ext_getElem? fun q => ?_
          by_cases hq : q < i * 2
          · rw [List.getElem?_take_of_lt hq, List.getElem?_take_of_lt hq, Array.getElem?_toList, Array.getElem?_toList, setAllA_get _ _ _ _ (by rw [hzl, hsz]; have : (j - i) * 2 = j * 2 - i * 2 := Nat.sub_mul _ _ _; omega), if_neg (by omega)]
          · rw [List.getElem?_eq_none (by rw [List.length_take]; omega), List.getElem?_eq_none (by rw [List.length_take]; omega)]
        rw [HFIL.out]
        have hfl := arr_len (cells := spC) (sz := 2) (fun _ => rfl) (M.take i)
        rw [hlen] at hfl
        exact ⟨_, i, rfl, hlen.symm, ⟨hfl, .inr ⟨g, cap, _, rfl, hg, hrow2, by omega, hcm, by rw [setAllA_size]; exact hsz, htk⟩⟩, V.below.trans ((But.setCells (O := fun k => k = g) zs wr (i * 2) rfl).below (fun k hk => by omega) (Nat.le_trans hbase V.below.size))⟩
end Go.Proofs.Ytnccbeiaohmnpaa
