/-
  slices.SortFunc at tellings; sorted.
-/
import Derived.Test.YteakpppabgbpeaaMemF
import Derived.Test.YteakpppabgbpeaaMemG
import Derived.Shelf.SlSortCmp.NoneTotal
namespace Go.Proofs.Yteakpppabgbpeaa
open Go.RowKit Mem
set_option linter.unusedSimpArgs false
set_option linter.unusedVariables false

theorem flatK_list {α : Type} [Inhabited α] {enc : α → List Value} {k : Nat} (hk : ∀ x, (enc x).length = k) (h0 : 0 < k) (d : Array α) : (Go.Sort.flatK enc k d).toList = d.toList.flatMap enc := by
  refine List.ext_getElem? fun t => ?_
  by_cases ht : t < d.size * k
  · have h1 : t / k < d.size := (Nat.div_lt_iff_lt_mul h0).2 ht
    have h2 : t % k < k := Nat.mod_lt _ h0
    have h3 := rec_get hk d.toList (t / k) (by simpa using h1) (t % k) h2
    rw [show t / k * k + t % k = t by rw [Nat.mul_comm]; exact Nat.div_add_mod t k] at h3
    rw [h3]
    have h4 := Go.Sort.get_flatK enc k d t ht
    rw [getElem!_pos _ _ (by simpa using ht), getElem!_pos d _ h1, getElem!_pos _ _ (by rw [hk]; exact h2)] at h4
    rw [List.getElem?_eq_getElem (by simpa using ht), List.getElem?_eq_getElem (by rw [hk]; exact h2)]
    simpa using h4
  · rw [List.getElem?_eq_none (by simpa using ht), List.getElem?_eq_none (by rw [rec_len hk]; simpa using ht)]
theorem putCells_take (F cur : Array Value) (h : F.size ≤ cur.size) : (Go.Sort.putCells id 0 F cur).toList.take F.size = F.toList := by
  refine List.ext_getElem? fun t => ?_
  by_cases ht : t < F.size
  · rw [List.getElem?_take_of_lt ht, List.getElem?_eq_getElem (by simp [Go.Sort.putCells]; omega), List.getElem?_eq_getElem (by simpa using ht)]
    simp [Go.Sort.putCells, ht]
  · rw [List.getElem?_eq_none (by simp; omega), List.getElem?_eq_none (by simpa using ht)]

instance : Inhabited Mb := ⟨zmb⟩
theorem swoM : Go.Sort.SWO (Go.Proofs.ltOf cmpM) where
  irrefl x := by
    unfold Go.Proofs.ltOf
    rw [decide_eq_false_iff_not, cmpM_lt]
    unfold ltM; omega
  trans x y z h1 h2 := by
    unfold Go.Proofs.ltOf at *
    rw [decide_eq_true_eq, cmpM_lt] at *
    unfold ltM at *; omega
  ntrans x y z h1 h2 := by
    unfold Go.Proofs.ltOf at *
    rw [decide_eq_false_iff_not, cmpM_lt] at *
    unfold ltM at *; omega

/-- What the sort leaves. -/
def Sorted (acc : List Mb) (v : Value) (base : Nat) (w : World) (en : Ending) (w' : World) : Prop :=
  en = .returned (.tuple #[]) ∧ ∃ acc' : List Mb, acc'.Perm acc ∧ acc'.Pairwise (fun a b => ¬ ltM b a) ∧ acc'.length = acc.length ∧ w'.ownsRow base 24 4 v acc.length (acc'.flatMap mbC) ∧ But (fun j => v.ownBlock = some j) w w'

theorem sortF_c (g : FuncId) (hg : ∀ args w, (callFunc g args).run Try.prog w = .ok (.enter g args) w) (hcmp : ∀ x y W, Calls Try.prog g #[mbV x, mbV y] W fun e w' => e = .returned (.int .i64 (cmpM x y)) ∧ ∃ q os', w' = Go.Sort.grow (W.drewN q) os')
    (acc : List Mb) (v : Value) (base : Nat) (w : World) (hown : w.ownsRow base 24 4 v acc.length (acc.flatMap mbC)) (hl : acc.length ≤ 100000) :
    Calls Try.prog 55 #[v, .func (.func g) #[] #[]] w (Sorted acc v base w) := by
  rcases id hown.2 with ⟨rfl, h0⟩ | ⟨b, cap, cur, rfl, hbase, hb, hnc, hcm, hs, ht⟩
  · have hnil : acc = [] := List.eq_nil_of_length_eq_zero h0
    subst hnil
    refine (AnyF.slices_SortFunc_none sortM none 0 (.func (.func g) #[] #[]) w).mono ?_
    rintro e w' ⟨rfl, rfl⟩
    exact ⟨rfl, [], List.Perm.nil, List.Pairwise.nil, rfl, hown, But.refl _ _⟩
  · have hlt : b < w.heap.size := lt_of_block hb
    have hR : RowAt w b cur 24 := hb
    have hfl : (Go.Sort.flatK mbC 4 acc.toArray).toList = acc.flatMap mbC := flatK_list (enc := mbC) (k := 4) (fun _ => rfl) (by decide) acc.toArray
    have hH : Go.Sort.HoldsK mbC 4 w b 0 acc.toArray := by
      intro j hj
      have hj' : j < acc.length * 4 := by simpa using hj
      refine ⟨?_, by rw [show (0 + j : Nat) = j by omega]; exact hR.fz j⟩
      have h1 : (acc.flatMap mbC)[j]? = some (id (Go.Sort.flatK mbC 4 acc.toArray)[j]!) := by
        rw [← hfl, getElem!_pos (Go.Sort.flatK mbC 4 acc.toArray) j hj]; simp [hj']
      have := World.ownsRow.cells hown (g := b) rfl j _ h1
      simpa [Addr.add_lit] using this
    have := AnyQ.slices_SortFunc (P := Try.prog) (ρ := sortM_ren) sortM 4 Try.isAgg24 Try.sizeOf24 mbC (fun _ => rfl) (by intro x v hv; simp only [List.mem_cons, List.mem_nil_iff, or_false] at hv; rcases hv with rfl | rfl | rfl | rfl <;> rfl) cmpM swoM g #[] b 0 cap acc.toArray w hg
      (fun m os dk hs x y => hcmp x y _) hH hlt (by simp; omega)
    refine this.mono ?_
    rintro e w' ⟨he, d', n, os, hP, hS, rfl⟩
    have hP2 : d'.toList.Perm acc := by
      have h1 := hP.2.2
      have h2 := hP.1
      rw [show acc.toArray.extract 0 acc.toArray.size = acc.toArray from Array.extract_size, ← h2, Array.extract_size] at h1
      exact h1
    have hsz : d'.size = acc.length := by have := hP.1; simpa using this
    refine ⟨he, d'.toList, hP2, ?_, by simpa using hsz, ?_, ?_⟩
    · rw [List.pairwise_iff_getElem]
      intro i j hi hj hij
      have h1 := hS i j (Nat.zero_le _) hij (by simp at hj ⊢; omega)
      rw [getElem!_pos d' _ (by simpa using hj), getElem!_pos d' _ (by simpa using hi)] at h1
      unfold Go.Proofs.ltOf at h1
      rw [decide_eq_false_iff_not, cmpM_lt] at h1
      simpa using h1
    · have hF : (Go.Sort.flatK mbC 4 d').toList = d'.toList.flatMap mbC := flatK_list (enc := mbC) (k := 4) (fun _ => rfl) (by decide) d'
      have hFs : (Go.Sort.flatK mbC 4 d').size = acc.length * 4 := by rw [Go.Sort.size_flatK, hsz]
      refine ⟨by rw [rec_len (sz := 4) (fun _ => rfl)]; simp [hsz], .inr ⟨b, cap, Go.Sort.putCells id 0 (Go.Sort.flatK mbC 4 d') cur, rfl, hbase, ?_, hnc, hcm, by simp [Go.Sort.putCells, hs], ?_⟩⟩
      · show ((Go.Sort.putRow id (Go.Sort.ahead w n) b 0 _).heap ++ os)[b]? = _
        rw [Array.getElem?_append_left (by simpa using hlt)]
        simp [Go.Sort.putRow, Go.Sort.mapBlock, Array.getElem?_modify, hb, Go.Sort.onCells]
      · have h1 := putCells_take (Go.Sort.flatK mbC 4 d') cur (by rw [hFs, hs]; exact Nat.mul_le_mul_right _ hnc)
        rw [hFs, hF] at h1
        exact h1
    · refine ⟨rfl, rfl, rfl, ?_, fun k hk hO => ?_⟩
      · show _ ≤ ((Go.Sort.putRow id (Go.Sort.ahead w n) b 0 _).heap ++ os).size
        simp
      · show ((Go.Sort.putRow id (Go.Sort.ahead w n) b 0 _).heap ++ os)[k]? = _
        rw [Array.getElem?_append_left (by simpa using hk)]
        have : ¬ b = k := fun e => hO (by simp [Value.ownBlock, e])
        simp [Go.Sort.putRow, Go.Sort.mapBlock, Array.getElem?_modify, this]

namespace Mem
/-- The tellings, in their order. -/
structure SrtOf (E L : List Mb) : Prop where
  perm : L.Perm E
  lt : L.Pairwise ltM
theorem pair_cases {α : Type} {R : α → α → Prop} : ∀ {L : List α}, L.Pairwise R → ∀ {a b : α}, a ∈ L → b ∈ L → a = b ∨ R a b ∨ R b a
  | x :: L, h, a, b, ha, hb => by
    rw [List.pairwise_cons] at h
    rcases List.mem_cons.1 ha with rfl | ha' <;> rcases List.mem_cons.1 hb with rfl | hb'
    · exact .inl rfl
    · exact .inr (.inl (h.1 b hb'))
    · exact .inr (.inr (h.1 a ha'))
    · exact pair_cases h.2 ha' hb'
theorem SrtOf.uniq {E L l : List Mb} (h : SrtOf E L) (hp : l.Perm E) (hs : l.Pairwise (fun a b => ¬ ltM b a)) : l = L := by
  refine List.Perm.eq_of_pairwise (le := fun a b => ¬ ltM b a) ?_ hs ?_ (hp.trans h.perm.symm)
  · intro a b ha hb h1 h2
    rcases pair_cases h.lt ((hp.trans h.perm.symm).mem_iff.1 ha) hb with h3 | h3 | h3
    · exact h3
    · exact (h2 h3).elim
    · exact (h1 h3).elim
  · refine h.lt.imp fun h1 h2 => ?_
    unfold ltM at *; omega
theorem SrtOf.len {E L : List Mb} (h : SrtOf E L) : L.length = E.length := h.perm.length_eq
end Mem
theorem slU32 : SlT Try.prog 73 22 1 4 := SlT.mk' Try.underlying73 (z := .int .u32 0) (by kernel_rfl) rfl (by decide)
theorem sl1 (w : World) (k : Nat) (hk : k = w.heap.size) (x : Value) (T : TypeId) : Sl (w.alloc (.cells #[x] T)) 1 (.slice (some ⟨k, 0, none⟩) 1 1) 1 [x] := by
  subst hk
  refine ⟨rfl, .inr ⟨w.heap.size, 0, 1, rfl, by decide, by decide, fun j u hj => ?_⟩⟩
  exact (RowAt.new w #[x] T).cell (i := 0 + j) (by simpa using hj)

/-- What sorted leaves. -/
def SrtU (L : List Mb) (val : Mb → Int) (p : Mb → Bool) (base : Nat) (w : World) (v : Value) (en : Ending) (w' : World) : Prop :=
  ∃ v' : Value, en = .returned v' ∧ w'.ownsRow base 22 1 v' (L.filter p).length (((L.filter p).map val).map (Value.int .u32)) ∧ But (fun j => v.ownBlock = some j) w w'
theorem enters_ucmp : Enters Try.prog 56 := enters_of Try.func56 (by kernel_rfl) rfl
set_option maxHeartbeats 4000000 in
set_option maxRecDepth 100000 in
theorem srtU_c (E L acc : List Mb) (val : Mb → Int) (p : Mb → Bool) (h : FuncId) (lb : Array Value) (v : Value) (base : Nat) (w : World) (hL : SrtOf E L) (hacc : acc.Perm E) (hown : w.ownsRow base 24 4 v acc.length (acc.flatMap mbC)) (hl : acc.length ≤ 100000) (hh : Enters Try.prog h)
    (hq : ∀ m ∈ E, ∀ w1, But (fun j => v.ownBlock = some j) w w1 → Calls Try.prog h (#[mbV m] ++ lb) w1 (Ret (.tuple #[.int .u32 (val m), .bool (p m)]) w1)) :
    Calls Try.prog 45 #[v, .func (.func h) #[] lb] w (SrtU L val p w.heap.size w v) := by
  have Hs := Lib.hid (fun w => sortF_c 56 enters_ucmp (fun x y W => sortU_c x y W) acc v base w)
  obtain ⟨av, cv, rfl⟩ := own_slice hown
  have HQ := Lib.hid hq
  unfold Enters at hh
  have Hown := Lib.hid hown
  clear hq hown
  go_enter Try.func45, Try.ntmps45
  go_wp2_with (go_at_call 55; refine (Hs.out w Hown.out hl).mono ?_; rintro en w1 ⟨rfl, acc', hp1, hs1, hn1, hown1, hb1⟩)
  obtain rfl : L = acc' := (hL.uniq (hp1.trans hacc) hs1).symm
  have hLl : L.length = acc.length := hn1
  have hsl := Sl.of_own hown1
  rw [← hLl] at hsl hl ⊢
  have hmem := Lib.hid (fun m (hm : m ∈ L) => hL.perm.mem_iff.1 hm)
  clear Hs Hown hp1 hs1 hn1 hown1
  obtain ⟨N, hN⟩ : ∃ N, L.length = N := ⟨_, rfl⟩
  have HN := Lib.hid hN
  rw [hN] at hsl hl ⊢
  clear hN hLl
  have hb1s := hb1.size
  go_loopw [4, 13] (fun o i wr => ∃ k : Nat, k ≤ N ∧ i = .int .i64 k ∧ wr.ownsRow w1.heap.size 22 1 o ((L.take k).filter p).length ((((L.take k).filter p).map val).map (Value.int .u32)) ∧ Sl wr 4 (.slice av N cv) N (L.flatMap mbC) ∧ Below w1.heap.size w1 wr) (fun _ i _ => N - (intOf i).toNat)
  case atStart => exact ⟨0, Nat.zero_le _, rfl, World.ownsRow_nil _ _ _ _, hsl, Below.refl _ _⟩
  case round =>
    obtain ⟨k, hk, rfl, hrow, hsr, hB⟩ := hrel
    by_cases hlt : k < N
    · have hlt' : k < L.length := by rw [HN.out]; exact hlt
      obtain ⟨b, off, rfl, hr⟩ := hsr.rec_at (cells := mbC) (sz := 4) (fun _ => rfl) hlt hlt'
      have hkN : (k : Int) < (N : Int) := by omega
      obtain ⟨m, hm⟩ : ∃ m, L[k] = m := ⟨_, rfl⟩
      have hmE := hmem.out m (hm ▸ List.getElem_mem hlt')
      have htk : L.take (k + 1) = L.take k ++ [m] := by rw [List.take_succ_eq_append_getElem hlt', hm]
      rw [hm] at hr
      clear hm
      have hcl := HQ.out m hmE _ (hb1.trans ((But.of_below hB).trans (But.alloc wr (.cells (mbC m).toArray 24))))
      have hFt : p m = true → (L.take (k + 1)).filter p = (L.take k).filter p ++ [m] := fun h => by rw [htk, List.filter_append]; simp [h]
      have hFf : p m = false → (L.take (k + 1)).filter p = (L.take k).filter p := fun h => by rw [htk, List.filter_append]; simp [h]
      have hfl := Nat.le_trans (List.length_filter_le p (L.take k)) (List.length_take_le k L)
      have HFt := Lib.hid hFt
      have HFf := Lib.hid hFf
      clear htk hFt hFf
      generalize (L.take k).filter p = F at *
      have E1 := RowAt.new wr (mbC m).toArray 24
      cases hpm : p m with
      | false =>
        rw [hpm] at hcl
        have HF := Lib.hid (HFf.out hpm)
        clear HFt HFf hpm
        go_wp2_with (first
          | (refine wpList_load_mid rfl 24 (.tmp 15) rfl b (off + k * 4) rfl (mbC m) _ hr Try.underlying24 rfl (by kernel_rfl) ?_)
          | (refine wpList_load_mid rfl 24 (.tmp 6) rfl wr.heap.size 0 rfl (mbC m) _ E1.range Try.underlying24 rfl (by kernel_rfl) ?_)
          | (refine hcl.mono ?_; rintro en w2 ⟨rfl, hb2⟩))
        have hB2 := below_up hB (below_new hb2)
        go_roundw
        case rel =>
          refine ⟨k + 1, by omega, by go_num, ?_, hsl.up hB2, hB2⟩
          rw [HF.out]
          exact (own_but (hrow.alloc (.cells (mbC m).toArray 24)) (But.of_below (O := fun _ => False) hb2) (fun _ _ h => h))
        case measure => simp [intOf]; omega
      | true =>
        rw [hpm] at hcl
        have HF := Lib.hid (HFt.out hpm)
        clear HFt HFf hpm
        obtain ⟨ao, co, rfl⟩ := own_slice hrow
        go_wp2_with (first
          | (refine wpList_load_mid rfl 24 (.tmp 15) rfl b (off + k * 4) rfl (mbC m) _ hr Try.underlying24 rfl (by kernel_rfl) ?_)
          | (refine wpList_load_mid rfl 24 (.tmp 6) rfl wr.heap.size 0 rfl (mbC m) _ E1.range Try.underlying24 rfl (by kernel_rfl) ?_)
          | (refine hcl.mono ?_; rintro en w2 ⟨rfl, hb2⟩; have hB2 := below_up hB (below_new hb2); have hrow2 := own_but (hrow.alloc (.cells (mbC m).toArray 24)) (But.of_below (O := fun _ => False) hb2) (fun _ _ h => h); have hs2 := hB2.size; clear hcl hrow hb2)
          | (at_builtin; refine wpList_app_at rfl _ _ 73 rfl slU32 w1.heap.size rfl (hrow2.alloc _) rfl (sl1 _ _ rfl _ _) (by simp [Value.oneCell']) (by simp [maxLen]; omega) (by omega) (by simp; omega) ?_; intro v' w3 hown' hgrow _ hat; have hB3 := grown_below (hB2.alloc hB2.size _) hgrow (fun q hq => (own_of_some hrow2 hq).1); obtain ⟨g', cap', rfl⟩ := ownsRow_succ hown'))
        go_roundw
        case rel =>
          refine ⟨k + 1, by omega, by go_num, ?_, hsl.up hB3, hB3⟩
          rw [HF.out]
          simpa using hown'
        case measure => simp [intOf]; omega
    · obtain rfl : k = N := by omega
      rw [List.take_of_length_le (by rw [HN.out]; exact Nat.le_refl _)] at hrow
      go_wp2
      go_ret
      exact ⟨_, rfl, own_down hrow hb1s, hb1.trans (But.of_below hB)⟩

/-- What sorted leaves. -/
def SrtM (L : List Mb) (p : Mb → Bool) (base : Nat) (w : World) (v : Value) (en : Ending) (w' : World) : Prop :=
  ∃ v' : Value, en = .returned v' ∧ w'.ownsRow base 24 4 v' (L.filter p).length ((L.filter p).flatMap mbC) ∧ But (fun j => v.ownBlock = some j) w w'
theorem enters_mcmp : Enters Try.prog 62 := enters_of Try.func62 (by kernel_rfl) rfl
set_option maxHeartbeats 4000000 in
set_option maxRecDepth 100000 in
theorem srtM_c (E L acc : List Mb) (p : Mb → Bool) (h : FuncId) (lb : Array Value) (v : Value) (base : Nat) (w : World) (hL : SrtOf E L) (hacc : acc.Perm E) (hown : w.ownsRow base 24 4 v acc.length (acc.flatMap mbC)) (hl : acc.length ≤ 100000) (hh : Enters Try.prog h)
    (hq : ∀ m ∈ E, ∀ w1, But (fun j => v.ownBlock = some j) w w1 → Calls Try.prog h (#[mbV m] ++ lb) w1 (Ret (.tuple #[mbV m, .bool (p m)]) w1)) :
    Calls Try.prog 51 #[v, .func (.func h) #[] lb] w (SrtM L p w.heap.size w v) := by
  have Hs := Lib.hid (fun w => sortF_c 62 enters_mcmp (fun x y W => sortMb_c x y W) acc v base w)
  obtain ⟨av, cv, rfl⟩ := own_slice hown
  have HQ := Lib.hid hq
  unfold Enters at hh
  have Hown := Lib.hid hown
  clear hq hown
  go_enter Try.func51, Try.ntmps51
  go_wp2_with (go_at_call 55; refine (Hs.out w Hown.out hl).mono ?_; rintro en w1 ⟨rfl, acc', hp1, hs1, hn1, hown1, hb1⟩)
  obtain rfl : L = acc' := (hL.uniq (hp1.trans hacc) hs1).symm
  have hLl : L.length = acc.length := hn1
  have hsl := Sl.of_own hown1
  rw [← hLl] at hsl hl ⊢
  have hmem := Lib.hid (fun m (hm : m ∈ L) => hL.perm.mem_iff.1 hm)
  clear Hs Hown hp1 hs1 hn1 hown1
  obtain ⟨N, hN⟩ : ∃ N, L.length = N := ⟨_, rfl⟩
  have HN := Lib.hid hN
  rw [hN] at hsl hl ⊢
  clear hN hLl
  have hb1s := hb1.size
  go_loopw [4, 13] (fun o i wr => ∃ k : Nat, k ≤ N ∧ i = .int .i64 k ∧ wr.ownsRow w1.heap.size 24 4 o ((L.take k).filter p).length (((L.take k).filter p).flatMap mbC) ∧ Sl wr 4 (.slice av N cv) N (L.flatMap mbC) ∧ Below w1.heap.size w1 wr) (fun _ i _ => N - (intOf i).toNat)
  case atStart => exact ⟨0, Nat.zero_le _, rfl, World.ownsRow_nil _ _ _ _, hsl, Below.refl _ _⟩
  case round =>
    obtain ⟨k, hk, rfl, hrow, hsr, hB⟩ := hrel
    by_cases hlt : k < N
    · have hlt' : k < L.length := by rw [HN.out]; exact hlt
      obtain ⟨b, off, rfl, hr⟩ := hsr.rec_at (cells := mbC) (sz := 4) (fun _ => rfl) hlt hlt'
      have hkN : (k : Int) < (N : Int) := by omega
      obtain ⟨m, hm⟩ : ∃ m, L[k] = m := ⟨_, rfl⟩
      have hmE := hmem.out m (hm ▸ List.getElem_mem hlt')
      have htk : L.take (k + 1) = L.take k ++ [m] := by rw [List.take_succ_eq_append_getElem hlt', hm]
      rw [hm] at hr
      clear hm
      have hcl := HQ.out m hmE _ (hb1.trans ((But.of_below hB).trans (But.alloc wr (.cells (mbC m).toArray 24))))
      have hFt : p m = true → (L.take (k + 1)).filter p = (L.take k).filter p ++ [m] := fun h => by rw [htk, List.filter_append]; simp [h]
      have hFf : p m = false → (L.take (k + 1)).filter p = (L.take k).filter p := fun h => by rw [htk, List.filter_append]; simp [h]
      have hfl := Nat.le_trans (List.length_filter_le p (L.take k)) (List.length_take_le k L)
      have HFt := Lib.hid hFt
      have HFf := Lib.hid hFf
      clear htk hFt hFf
      generalize (L.take k).filter p = F at *
      have E1 := RowAt.new wr (mbC m).toArray 24
      cases hpm : p m with
      | false =>
        rw [hpm] at hcl
        have HF := Lib.hid (HFf.out hpm)
        clear HFt HFf hpm
        go_wp2_with (first
          | (refine wpList_load_mid rfl 24 (.tmp 15) rfl b (off + k * 4) rfl (mbC m) _ hr Try.underlying24 rfl (by kernel_rfl) ?_)
          | (refine wpList_load_mid rfl 24 (.tmp 6) rfl wr.heap.size 0 rfl (mbC m) _ E1.range Try.underlying24 rfl (by kernel_rfl) ?_)
          | (refine hcl.mono ?_; rintro en w2 ⟨rfl, hb2⟩))
        have hB2 := below_up hB (below_new hb2)
        have hB2 := hB2.alloc hB2.size (.cells (mbC m).toArray 24)
        go_roundw
        case rel =>
          refine ⟨k + 1, by omega, by go_num, ?_, hsl.up hB2, hB2⟩
          rw [HF.out]
          exact (own_but (hrow.alloc (.cells (mbC m).toArray 24)) (But.of_below (O := fun _ => False) hb2) (fun _ _ h => h)).alloc _
        case measure => simp [intOf]; omega
      | true =>
        rw [hpm] at hcl
        have HF := Lib.hid (HFt.out hpm)
        clear HFt HFf hpm
        obtain ⟨ao, co, rfl⟩ := own_slice hrow
        go_wp2_with (first
          | (refine wpList_load_mid rfl 24 (.tmp 15) rfl b (off + k * 4) rfl (mbC m) _ hr Try.underlying24 rfl (by kernel_rfl) ?_)
          | (refine wpList_load_mid rfl 24 (.tmp 6) rfl wr.heap.size 0 rfl (mbC m) _ E1.range Try.underlying24 rfl (by kernel_rfl) ?_)
          | (refine hcl.mono ?_; rintro en w2 ⟨rfl, hb2⟩; have hB2 := below_up hB (below_new hb2); have hrow2 := own_but (hrow.alloc (.cells (mbC m).toArray 24)) (But.of_below (O := fun _ => False) hb2) (fun _ _ h => h); have hs2 := hB2.size; clear hcl hrow hb2; have E2 := RowAt.new w2 (mbC m).toArray 24)
          | (refine wpList_load_mid rfl 24 (.tmp 7) rfl w2.heap.size 0 rfl (mbC m) _ E2.range Try.underlying24 rfl (by kernel_rfl) ?_)
          | (at_builtin; refine wpList_app_at rfl _ _ 34 rfl slM w1.heap.size rfl ((hrow2.alloc _).alloc _) rfl (slM1 _ _ (by simp) _) (by simp [Value.oneCell']) (by simp [maxLen]; omega) (by omega) (by simp; omega) ?_; intro v' w3 hown' hgrow _ hat; have hB3 := grown_below (hB2.alloc hB2.size _ |>.alloc (by simp; omega) _) hgrow (fun q hq => (own_of_some hrow2 hq).1); obtain ⟨g', cap', rfl⟩ := ownsRow_succ hown'))
        go_roundw
        case rel =>
          refine ⟨k + 1, by omega, by go_num, ?_, hsl.up hB3, hB3⟩
          rw [HF.out]
          simpa [List.flatMap_append] using hown'
        case measure => simp [intOf]; omega
    · obtain rfl : k = N := by omega
      rw [List.take_of_length_le (by rw [HN.out]; exact Nat.le_refl _)] at hrow
      go_wp2
      go_ret
      exact ⟨_, rfl, own_down hrow hb1s, hb1.trans (But.of_below hB)⟩
end Go.Proofs.Yteakpppabgbpeaa
