/-
  Contracts of DeleteFunc and Prune.
-/
import Derived.Test.YtgbpdchdcbnoaaaConH
namespace Go.Proofs.Ytgbpdchdcbnoaaa
open Go.RowKit Vol
set_option linter.unusedSimpArgs false
set_option linter.unusedVariables false

/-- clear of a slice of records, for the walk. -/
theorem wpList_clear {P : Program} {w : World} {ops : Array Oper} {rest : List Oper} {o : Oper} {a : Act} {Q : Exit → Act → World → Prop} (hgd : o.guard = none) (s : Operand) (t : TypeId)
    (ho : o.op = .call { callee := .builtin .clear, args := #[s], argTypes := #[t] }) {vs : Value} (hs : a.eval s = vs) {w' : World} (hr : (Builtin.clear_ #[t] o.type #[vs]).run P w = .ok (.tuple #[]) w')
    (h : wpList P ops Q rest (a.put o.dst (.tuple #[])) w') : wpList P ops Q (o :: rest) a w :=
  wpList_plain hgd fun _ hK => by
    unfold Oper.wp execOp
    simp only [ho, resolve, invoke, builtin, Sem.run_bind, Sem.run_pure, Result.andThen_ok, List.map_toArray, List.map_cons, List.map_nil, hs, hr]
    exact hK _ _ h
theorem zeroCells_mem {z : Array Value} {n : Nat} {v : Value} (hz : ∀ u ∈ z.toList, u.oneCell' = true) (h0 : 0 < z.size) (h : v ∈ (Builtin.zeroCells z n).toList) : v.oneCell' = true := by
  simp only [Builtin.zeroCells, Array.toList_map, List.mem_map] at h
  obtain ⟨i, _, rfl⟩ := h
  have hlt : i % z.size < z.size := Nat.mod_lt _ h0
  rw [getElem!_pos z _ hlt]
  exact hz _ (by simp)
theorem run_clear_ct {w : World} {g n i : Nat} {cur : Array Value} (h : RowAt w g cur 27) (hi : i ≤ n) (hn : n * 5 ≤ cur.size) (c : Nat) (ty : TypeId) :
    ∃ zs, zs.length = (n - i) * 5 ∧ (Builtin.clear_ #[65] ty #[.slice (some ⟨g, i * 5, none⟩) (n - i) c]).run Try.prog w = .ok (.tuple #[]) (w.setCells g (i * 5) zs) := by
  by_cases h0 : n - i = 0
  · refine ⟨[], by rw [h0]; rfl, ?_⟩
    rw [h0]
    simp [Builtin.clear_, run_underlying Try.underlying65, World.setCells]
  · obtain ⟨m, hm⟩ : ∃ m, n - i = m + 1 := ⟨n - i - 1, by omega⟩
    obtain ⟨inf, hinf, hz, hsz, _⟩ := slC.inf
    have hz5 : ∀ w, (zeroValue 27).run Try.prog w = .ok (.agg #[.int .u32 0, .int .u32 0, .int .u64 0, .int .u64 0, .int .u64 0]) w := fun w => by
      have : Try.t27.zero = some (.agg #[.int .u32 0, .int .u32 0, .int .u64 0, .int .u64 0, .int .u64 0]) := by kernel_rfl
      simp [go_sem, zeroValue, this]
    refine ⟨(Builtin.zeroCells #[.int .u32 0, .int .u32 0, .int .u64 0, .int .u64 0, .int .u64 0] (n - i)).toList, by rw [Array.length_toList, size_zeroCells]; rfl, ?_⟩
    have hst := run_storeCells_cells (P := Try.prog) g (i * 5) (Builtin.zeroCells #[.int .u32 0, .int .u32 0, .int .u64 0, .int .u64 0, .int .u64 0] (n - i)).toList 0 w
      (fun j hj => by
        rw [Array.length_toList, size_zeroCells] at hj
        have hlt : i * 5 + 0 + j < cur.size := by simp at hj; omega
        rw [h.cell (v := cur[i * 5 + 0 + j]) (by rw [Array.getElem?_eq_getElem hlt])]; rfl)
      (fun j hj => h.fz _)
      (fun v hv => zeroCells_mem (by intro u hu; simp at hu; rcases hu with rfl | rfl | rfl <;> rfl) (by decide) hv)
    simp only [Nat.add_zero] at hst
    rw [hm] at hst ⊢
    simp [Builtin.clear_, run_underlying Try.underlying65, hz5, Value.cells, hst]

theorem set_rec {M : List Ct} {cur : Array Value} {i : Nat} (x : Ct) (hi : i < M.length) (hc : M.length * 5 ≤ cur.size) (h : cur.toList.take (M.length * 5) = M.flatMap ctC) :
    (setAllA cur (i * 5) (ctC x)).toList.take (M.length * 5) = (M.set i x).flatMap ctC := by
  refine List.ext_getElem? fun q => ?_
  by_cases hq : q < M.length * 5
  · have hj : q / 5 < M.length := by omega
    have hqe : q = q / 5 * 5 + q % 5 := by omega
    have hr : q % 5 < 5 := Nat.mod_lt _ (by decide)
    have hold : cur[q]? = (ctC M[q / 5])[q % 5]? := by
      have h1 : (cur.toList.take (M.length * 5))[q]? = cur[q]? := by rw [List.getElem?_take_of_lt hq, Array.getElem?_toList]
      rw [← h1, h]
      conv => lhs; rw [hqe]
      exact rec_get (cells := ctC) (sz := 5) (fun _ => rfl) M (q / 5) hj (q % 5) hr
    rw [List.getElem?_take_of_lt hq, Array.getElem?_toList, setAllA_get _ _ _ _ (by show i * 5 + 5 ≤ _; omega)]
    have hrhs : ((M.set i x).flatMap ctC)[q]? = (ctC ((M.set i x)[q / 5]'(by simpa using hj)))[q % 5]? := by
      conv => lhs; rw [hqe]
      exact rec_get (cells := ctC) (sz := 5) (fun _ => rfl) (M.set i x) (q / 5) (by simpa using hj) (q % 5) hr
    rw [hrhs]
    by_cases hji : q / 5 = i
    · rw [if_pos ⟨by omega, by show q < i * 5 + 5; omega⟩]
      have : (M.set i x)[q / 5]'(by simpa using hj) = x := by simp [hji]
      rw [this, show q - i * 5 = q % 5 by omega]
    · rw [if_neg (by show ¬ (i * 5 ≤ q ∧ q < i * 5 + 5); omega), hold]
      have : (M.set i x)[q / 5]'(by simpa using hj) = M[q / 5] := by rw [List.getElem_set_ne (fun e => hji e.symm)]
      rw [this]
  · rw [List.getElem?_eq_none (by rw [List.length_take]; omega), List.getElem?_eq_none (by rw [rec_len (cells := ctC) (sz := 5) (fun _ => rfl), List.length_set]; omega)]

theorem sl_of_row {w : World} {g cap n : Nat} {cur : Array Value} {M : List Ct} (h : RowAt w g cur 27) (hn : M.length = n) (hcap : n ≤ cap) (hmx : cap ≤ maxLen) (hc : cur.size = cap * 5) (ht : cur.toList.take (n * 5) = M.flatMap ctC) :
    Sl w 5 (.slice (some ⟨g, 0, none⟩) n cap) n (M.flatMap ctC) := by
  refine ⟨by rw [rec_len (cells := ctC) (sz := 5) (fun _ => rfl), hn], .inr ⟨g, 0, cap, rfl, hcap, hmx, fun j u hj => ?_⟩⟩
  have hlt : j < n * 5 := by
    have := (List.getElem?_eq_some_iff.1 hj).1
    rwa [rec_len (cells := ctC) (sz := 5) (fun _ => rfl), hn] at this
  rw [← ht, List.getElem?_take_of_lt hlt, Array.getElem?_toList] at hj
  rw [Nat.zero_add]
  exact h.cell hj

theorem ct_one (c : Ct) : (ctC c).toArray.all (·.oneCell') = true := all_oneCell_toArray (fun u hu => one_ct [c] u (by simpa using hu))
/-- What the loop of DeleteFunc has at hand. -/
structure DelW (base : Nat) (w wr : World) (g cap n i j : Nat) (l : List Ct) (p : Ct → Bool) (M : List Ct) (cur : Array Value) : Prop where
  row : RowAt wr g cur 27
  size : cur.size = cap * 5
  len : M.length = n
  take : cur.toList.take (n * 5) = M.flatMap ctC
  head : M.take i = (l.take j).filter fun x => !p x
  tail : M.drop j = l.drop j
  below : Below base w wr

set_option maxHeartbeats 2000000 in
set_option maxRecDepth 100000 in
theorem delL_c (l : List Ct) (v : Value) (n base : Nat) (w : World) (hown : w.ownsRow base 27 5 v n (l.flatMap ctC)) (hbase : base ≤ w.heap.size) (hn : n ≤ 100000) (f : FuncId) (hf : Enters Try.prog f) (caps : Array Value) (p : Ct → Bool)
    (hp : ∀ x ∈ l, ∀ w1, Below base w w1 → Calls Try.prog f (#[ctV x] ++ caps) w1 (Ret (.bool (p x)) w1)) :
    Calls Try.prog 57 #[v, .func (.func f) #[] caps] w fun en w' => ∃ v' m, en = .returned v' ∧ m = (l.filter fun x => !p x).length ∧ Sl w' 5 v' m ((l.filter fun x => !p x).flatMap ctC) ∧ Below base w w' ∧ (∀ k, v'.ownBlock = some k → base ≤ k) := by
  have hsl := Sl.of_own hown
  have hlen : l.length = n := Sl.recs (cells := ctC) (sz := 5) (fun _ => rfl) (by decide) hsl
  have hidx := indexL_c l v n w hsl hsl.n_max f hf caps p (fun x hx w1 hb => hp x hx w1 (hb.mono hbase))
  cases hall : l.findIdx? p with
  | none =>
    have hno : ∀ x ∈ l, p x = false := fun x hx => by have := List.findIdx?_eq_none_iff.1 hall x hx; simpa using this
    have hi : idx p l = -1 := by unfold idx; rw [hall]
    have hfil : (l.filter fun x => !p x) = l := List.filter_eq_self.2 (fun x hx => by simp [hno x hx])
    rw [hfil]
    rw [hi] at hidx
    obtain ⟨av, cv, rfl⟩ := hsl.len
    go_enter Try.func57, Try.ntmps57
    go_wp2_with (go_at_call 73; refine hidx.mono ?_; rintro en w1 ⟨rfl, hb⟩)
    go_ret
    exact ⟨_, n, rfl, hlen.symm, hsl.up hb, hb.mono hbase, fun k hk => (own_of_some hown hk).1⟩
  | some i0 =>
    obtain ⟨hi0, hp0, hlt0⟩ := List.findIdx?_eq_some_iff_getElem.1 hall
    have hi : idx p l = (i0 : Int) := by unfold idx; rw [hall]
    rw [hi] at hidx
    rcases hown.2 with ⟨_, h0⟩ | ⟨g, cap, cur, rfl, hg, hrow, hnc, hcm, hcs, hct⟩
    · exfalso; omega
    have hpre : (l.take i0).filter (fun x => !p x) = l.take i0 := List.filter_eq_self.2 (fun x hx => by
      obtain ⟨j, hj, rfl⟩ := List.mem_iff_getElem.1 hx
      rw [List.length_take] at hj
      have := hlt0 j (by omega)
      rw [List.getElem_take]; simpa using this)
    have hstart : (l.take (i0 + 1)).filter (fun x => !p x) = l.take i0 := by
      rw [List.take_succ_eq_append_getElem hi0, List.filter_append, hpre]
      simp [hp0]
    have D0 : DelW base w w g cap n i0 (i0 + 1) l p l cur := ⟨hrow, hcs, hlen, hct, hstart.symm, rfl, Below.refl _ _⟩
    have hi0n : i0 < n := by omega
    have HLEN := Lib.hid hlen
    have HP := Lib.hid hp
    have HF := Lib.hid hf
    clear hown hpre hstart hlt0 hp0 hall hlen hrow hp hsl hi hcs hct
    have hne : ((i0 : Int) == -1) = false := by rw [beq_eq_false_iff_ne]; omega
    go_enter Try.func57, Try.ntmps57
    go_wp2_with (go_at_call 73; refine hidx.mono ?_; rintro en w1 ⟨rfl, hb⟩)
    have D1 : DelW base w w1 g cap n i0 (i0 + 1) l p l cur := ⟨D0.row.below hb, D0.size, D0.len, D0.take, D0.head, D0.tail, hb.mono hbase⟩
    clear D0 hb
    go_loopw [5, 6] (fun s t wr => ∃ (i j : Nat) (M : List Ct) (cu : Array Value), s = .int .i64 i ∧ t = .int .i64 j ∧ i < j ∧ j ≤ n ∧ DelW base w wr g cap n i j l p M cu) (fun _ t _ => n - (intOf t).toNat)
    case atStart => exact ⟨i0, i0 + 1, l, cur, rfl, by go_num, by omega, by omega, D1⟩
    case round =>
      clear D1
      obtain ⟨i, j, M, cu, rfl, rfl, hij, hjn, V⟩ := hrel
      by_cases hlt : j < n
      · have hjI : (j : Int) < (n : Int) := by omega
        have hiI : (i : Int) < (n : Int) := by omega
        have hjl : j < l.length := by rw [HLEN.out]; exact hlt
        have hjM : j < M.length := by rw [V.len]; exact hlt
        have hMj : M[j] = l[j] := by
          have h1 : (M.drop j)[0]? = (l.drop j)[0]? := by rw [V.tail]
          rw [List.getElem?_drop, List.getElem?_drop, Nat.add_zero, List.getElem?_eq_getElem hjM, List.getElem?_eq_getElem hjl] at h1
          exact Option.some.inj h1
        have hslr := sl_of_row V.row V.len hnc hcm V.size V.take
        obtain ⟨b, off, hbe, hr⟩ := hslr.rec_at (cells := ctC) (sz := 5) (fun _ => rfl) hlt hjM
        obtain ⟨rfl, rfl⟩ : g = b ∧ 0 = off := by simpa using hbe
        rw [hMj] at hr
        simp only [Nat.zero_add] at hr
        have HM := Lib.hid hMj
        have hcall := HP.out l[j] (List.getElem_mem hjl)
        have hts : (l.take (j + 1)).filter (fun x => !p x) = (l.take j).filter (fun x => !p x) ++ (if p l[j] then [] else [l[j]]) := by
          rw [List.take_succ_eq_append_getElem hjl, List.filter_append]
          cases hpj : p l[j] <;> simp [hpj]
        have HTS := Lib.hid hts
        have htail : M.drop (j + 1) = l.drop (j + 1) := by
          have := congrArg (List.drop 1) V.tail
          simpa [List.drop_drop, Nat.add_comm] using this
        have HTL := Lib.hid htail
        clear hMj hts htail hslr
        have hB1 := V.below.alloc (Nat.le_trans hbase V.below.size) (.cells (ctC l[j]).toArray 27)
        have hcl := hcall _ hB1
        have hal := below_alloc wr (.cells (ctC l[j]).toArray 27)
        generalize l[j] = x at *
        have hent := HF.out
        unfold Enters at hent
        cases hpx : p x with
        | true =>
          rw [hpx] at hcl
          have HT := Lib.hid (show (l.take (j + 1)).filter (fun x => !p x) = M.take i by rw [HTS.out, hpx, V.head]; simp)
          clear hpx
          go_wp2_with (first
            | (refine wpList_load_mid rfl 27 (.tmp 24) rfl g (j * 5) rfl (ctC x) _ hr Try.underlying27 rfl (by kernel_rfl) ?_)
            | (refine hcl.mono ?_; rintro en w2 ⟨rfl, hb⟩))
          go_roundw
          case rel => exact ⟨i, j + 1, M, cu, rfl, by go_num, by omega, by omega, (V.row.below hal).below hb, V.size, V.len, V.take, HT.out.symm, HTL.out, hB1.trans (hb.mono (Nat.le_trans hbase hB1.size))⟩
          case measure => simp [intOf]; omega
        | false =>
          rw [hpx] at hcl
          have hil : i < M.length := by rw [V.len]; omega
          have HT := Lib.hid (show (M.set i x).take (i + 1) = (l.take (j + 1)).filter (fun x => !p x) by
            rw [HTS.out, hpx, ← V.head]
            rw [List.take_succ_eq_append_getElem (by simpa using hil), List.getElem_set_self, List.take_set_of_le (Nat.le_refl _)]
            simp)
          have HD := Lib.hid (show (M.set i x).drop (j + 1) = l.drop (j + 1) by
            rw [List.drop_set_of_lt (by omega), HTL.out])
          have HTK := Lib.hid (set_rec x hil (by rw [V.size, V.len]; omega) (by rw [V.len]; exact V.take))
          clear hpx
          go_wp2_with (first
            | (refine wpList_load_mid rfl 27 (.tmp 24) rfl g (j * 5) rfl (ctC x) _ hr Try.underlying27 rfl (by kernel_rfl) ?_)
            | (refine hcl.mono ?_; rintro en w2 ⟨rfl, hb⟩; have V2 := (V.row.below hal).below hb; have hr7 := ((RowAt.new wr (ctC x).toArray 27).below hb).range; have hth : w2.there g (i * 5) (ctC x).toArray.size := fun q hq => ⟨by rw [V2.cell (v := cu[i * 5 + q]'(by have := V.size; have : (ctC x).toArray.size = 5 := rfl; omega)) (Array.getElem?_eq_getElem _)]; rfl, V2.fz _⟩; clear hcl)
            | (refine wpList_load_mid rfl 27 (.tmp 7) rfl wr.heap.size 0 rfl (ctC x) _ hr7 Try.underlying27 rfl (by kernel_rfl) ?_)
            | (refine wpList_store_mid rfl 27 (.tmp 33) (.tmp 32) rfl g (i * 5) (ctC x).toArray rfl rfl hth (by kernel_rfl) (ct_one x) ?_; go_loud (have V3 : RowAt (w2.setCells g (i * 5) (ctC x).toArray.toList) g (setAllA cu (i * 5) (ctC x)) 27 := RowAt.sets (ctC x) (i * 5) V2; have hB3 : But (fun k => k = g) w2 (w2.setCells g (i * 5) (ctC x).toArray.toList) := But.setCells (ctC x) w2 (i * 5) rfl; obtain ⟨W3, hW3⟩ : ∃ W, W = w2.setCells g (i * 5) (ctC x).toArray.toList := ⟨_, rfl⟩; rw [← hW3] at V3 hB3 ⊢; clear hW3 hr hr7 hth V2)))
          go_roundw
          case rel => exact ⟨i + 1, j + 1, M.set i x, setAllA cu (i * 5) (ctC x), by go_num, by go_num, by omega, by omega, V3, by rw [setAllA_size]; exact V.size, by rw [List.length_set]; exact V.len, by have := HTK.out; rwa [V.len] at this, HT.out, HD.out, (hB1.trans (hb.mono (Nat.le_trans hbase hB1.size))).trans (hB3.below (fun k hk => by omega) (Nat.le_trans hbase (hB1.trans (hb.mono (Nat.le_trans hbase hB1.size))).size))⟩
          case measure => simp [intOf]; omega
      · obtain rfl : j = n := by omega
        have hfil : l.filter (fun x => !p x) = M.take i := by
          rw [V.head, List.take_of_length_le (by rw [HLEN.out]; exact Nat.le_refl _)]
        have hs1 : ∀ (kl : IntKind) (w' : World), (Instr.slice 65 (.slice (some ⟨g, 0, none⟩) j cap) (some (.int kl (i : Int))) none none).run Try.prog w' = .ok (.slice (some ⟨g, i * 5, none⟩) (j - i) (cap - i)) w' := fun kl w' => by
          rw [run_cut_l slL (some ⟨g, 0, none⟩) j cap i kl (by omega) w']
          have : ¬ cap = i := by omega
          simp [sliced, this, Addr.add_mid]
        have hs2 : ∀ (kl : IntKind) (w' : World), (Instr.slice 65 (.slice (some ⟨g, 0, none⟩) j cap) none (some (.int kl (i : Int))) none).run Try.prog w' = .ok (.slice (some ⟨g, 0, none⟩) i cap) w' := fun kl w' => by
          rw [run_cut_h slL (some ⟨g, 0, none⟩) j cap i kl (by omega) w']
          simp [sliced, Addr.add_mid]
        obtain ⟨zs, hzl, hclr⟩ := run_clear_ct (n := j) (i := i) V.row (by omega) (by rw [V.size]; omega) (cap - i) 0
        have HFIL := Lib.hid hfil
        clear hfil
        go_wp2_with (at_builtin; refine wpList_clear rfl (.tmp 38) 65 rfl rfl hclr ?_)
        go_ret
        have hrow := RowAt.sets zs (i * 5) V.row
        have hlen : (M.take i).length = i := by rw [List.length_take, V.len]; omega
        have htk : (setAllA cu (i * 5) zs).toList.take (i * 5) = (M.take i).flatMap ctC := by
          rw [← ct_take, ← V.take, List.take_take, Nat.min_eq_left (by omega)]
          refine List.ext_getElem? fun q => ?_
          by_cases hq : q < i * 5
          · rw [List.getElem?_take_of_lt hq, List.getElem?_take_of_lt hq, Array.getElem?_toList, Array.getElem?_toList, setAllA_get _ _ _ _ (by rw [hzl, V.size]; have : (j - i) * 5 = j * 5 - i * 5 := Nat.sub_mul _ _ _; omega), if_neg (by omega)]
          · rw [List.getElem?_eq_none (by rw [List.length_take]; omega), List.getElem?_eq_none (by rw [List.length_take]; omega)]
        rw [HFIL.out]
        refine ⟨_, i, rfl, hlen.symm, sl_of_row hrow hlen (by omega) hcm (by rw [setAllA_size]; exact V.size) htk, V.below.trans ((But.setCells (O := fun k => k = g) zs wr (i * 5) rfl).below (fun k hk => by omega) (Nat.le_trans hbase V.below.size)), fun k hk => ?_⟩
        have : g = k := Option.some.inj hk
        omega

theorem prune1_c (b : Nat) (c : Ct) (at_ : Int) (w : World) (h : w.cell? ⟨b, 0, none⟩ = some (.int .u64 at_)) : Calls Try.prog 58 #[ctV c, .pointer (some ⟨b, 0, none⟩)] w (Ret (.bool (decide (c.b ≤ at_))) w) := by
  have hB := below_alloc w (.cells (ctC c).toArray 27)
  have h1 := cell_up hB h
  go_enter Try.func58, Try.ntmps58
  go_wp2
  go_ret
  exact ⟨rfl, hB⟩
theorem enters_prune1 : Enters Try.prog 58 := enters_of Try.func58 (by kernel_rfl) rfl

namespace Vol
def pruneF (L : List Ct) (at_ : Int) : List Ct := L.filter fun c => !decide (c.b ≤ at_)
theorem pruneF_le (L : List Ct) (at_ : Int) : (pruneF L at_).length ≤ L.length := List.length_filter_le _ _
end Vol
set_option maxHeartbeats 2000000 in
set_option maxRecDepth 100000 in
theorem pPrune_c {B : Nat} {v : Value} {L : List Ct} (at_ : Int) (w : World) (h : PlanAt w B v L) (hL : L.length ≤ 100000) :
    Calls Try.prog 28 #[.pointer (some ⟨B, 0, none⟩), .int .u64 at_] w fun en w' => ∃ v', en = .returned (.tuple #[.int .i64 ((L.length : Int) - (pruneF L at_).length), .int .i64 0]) ∧ PlanAt w' B v' (pruneF L at_) ∧ But (· = B) w w' ∧ (∀ k, v'.ownBlock = some k → w.heap.size ≤ k) := by
  have hmf : ∀ (fn : Fn) (first cap : Array Value) (w : World), (Instr.makeFunc fn first cap).run Try.prog w = .ok (.func fn first cap) w := fun _ _ _ _ => rfl
  have hBl := h.var.lt
  have hB0 := below_alloc w (.cells #[.int .u64 at_] 23)
  have A0 := cell_new w (.int .u64 at_) 23
  have h1 := h.below hB0
  have hc0 := h1.var.cell (i := 0) rfl
  have hple := pruneF_le L at_
  obtain ⟨m, hm⟩ : ∃ m, m = (pruneF L at_).length := ⟨_, rfl⟩
  rw [← hm] at hple ⊢
  have HMm := Lib.hid hm
  clear hm
  have HB := Lib.hid hB0
  clear hB0
  go_enter Try.func28, Try.ntmps28
  go_wp2_with (first
    | (go_at_call 30; refine (pNone_c _ h1).mono ?_; rintro en w1 ⟨rfl, rfl⟩)
    | (go_at_call_of 37 v; refine (lLen_c v _ _ _ h1.sl).mono ?_; rintro en w1 ⟨rfl, rfl⟩)
    | (go_at_call 54; refine (cloneL_c L v _ _ h1.sl hL).mono ?_; rintro en w1 ⟨v1, rfl, hown, hb⟩; replace HB := Lib.hid (below_up HB.out hb); have A1 := cell_up hb A0; have h2 := h1.below hb; have hsz1 := hb.size; clear hb)
    | (go_at_call 57; go_loud (refine (delL_c L v1 L.length _ _ hown hsz1 hL _ enters_prune1 #[.pointer (some ⟨w.heap.size, 0, none⟩)] (fun c => decide (c.b ≤ at_)) (fun x hx w2 hb => Calls.cast rfl (prune1_c w.heap.size x at_ w2 ((hb.cell (p := ⟨w.heap.size, 0, none⟩) (by simp)).trans A1)))).mono ?_; rintro en w3 ⟨v3, m3, rfl, hm3, hsl3, hb3, hk3⟩; rw [World.size_alloc] at hb3 hk3; obtain rfl : m = m3 := HMm.out.trans hm3.symm; clear hm3; have V3 : RowAt w3 B #[v, .bool true] 67 := (hb3.block B (by omega)).trans h2.var; have hc3 := V3.cell (i := 0) rfl; have hf3 := V3.fz 0; obtain ⟨a3, c3, rfl⟩ := hsl3.len; have HB3 := Lib.hid (HB.out.trans (hb3.mono (by omega))); have hsB : But (· = B) w3 (w3.setCell ⟨B, 0, none⟩ (.slice a3 m c3)) := But.setCell _ _ _ (.inl rfl); obtain ⟨W4, hW4⟩ : ∃ W, W = w3.setCell ⟨B, 0, none⟩ (.slice a3 m c3) := ⟨_, rfl⟩; have V4 : RowAt W4 B #[.slice a3 m c3, .bool true] 67 := (by subst hW4; exact V3.set 0 _); rw [← hW4] at hsB; have hc4 := V4.cell (i := 0) rfl; have hS4 : Sl W4 5 (.slice a3 m c3) m ((L.filter fun x => !decide (x.b ≤ at_)).flatMap ctC) := hsl3.but hsB (.inr fun k hk => by have := hk3 k hk; omega)))
    | (go_at_call_of 37 (Value.slice a3 m c3); rw [← hW4]; refine (lLen_c _ _ _ _ hS4).mono ?_; rintro en w5 ⟨rfl, rfl⟩))
  subst hW4
  refine bodyPost_ret (v := .tuple #[.int .i64 ((L.length : Int) - m), .int .i64 0]) (by simp [results, Try.results28, go_sem]) rfl ⟨.slice a3 m c3, rfl, ⟨V4, by rw [← HMm.out]; exact hS4, .inr fun k hk => by have := hk3 k hk; omega⟩, (But.of_below HB3.out).trans hsB, fun k hk => by have := hk3 k hk; omega⟩
end Go.Proofs.Ytgbpdchdcbnoaaa
