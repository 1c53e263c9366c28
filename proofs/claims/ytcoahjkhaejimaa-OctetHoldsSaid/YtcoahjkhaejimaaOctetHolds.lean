/-
  The walk of OctetHolds: true, whatever the input; nothing that was there has turned.
-/
import Derived.Test.YtcoahjkhaejimaaOctetPuts
import Derived.IntWalk
namespace Go.Proofs.Ytcoahjkhaejimaa
open Go.RowKit
set_option linter.unusedSimpArgs false
set_option linter.unusedVariables false

namespace Oct
theorem leastF_cases (n : Int) : leastF n = 1 ∨ leastF n = 2 ∨ leastF n = 4 ∨ leastF n = 8 := by
  unfold leastF; split <;> (try split) <;> (try split) <;> simp
theorem least_fits {n : Int} (h1 : n ≤ 18446744073709551615) : putE n (leastF n) = 0 ∧ putE n ((leastF n).tdiv 2) ≠ 0 := by
  unfold leastF
  have e1 : ((1 : Int).tdiv 2) = 0 := by decide
  have e2 : ((2 : Int).tdiv 2) = 1 := by decide
  have e4 : ((4 : Int).tdiv 2) = 2 := by decide
  have e8 : ((8 : Int).tdiv 2) = 4 := by decide
  have k0 : okW 0 = false := by decide
  have k1 : okW 1 = true := by decide
  have k2 : okW 2 = true := by decide
  have k4 : okW 4 = true := by decide
  have k8 : okW 8 = true := by decide
  have p1 : (256 : Int) ^ (1 : Int).toNat = 256 := by decide
  have p2 : (256 : Int) ^ (2 : Int).toNat = 65536 := by decide
  have p4 : (256 : Int) ^ (4 : Int).toNat = 4294967296 := by decide
  have p8 : (256 : Int) ^ (8 : Int).toNat = 18446744073709551616 := by decide
  split
  · rw [e1]; unfold putE fitsB; rw [k0, k1, p1]; simp; omega
  split
  · rw [e2]; unfold putE fitsB; rw [k1, k2, p1, p2]; simp; omega
  split
  · rw [e4]; unfold putE fitsB; rw [k2, k4, p2, p4]; simp; omega
  · rw [e8]; unfold putE fitsB; rw [k4, k8, p4, p8]; simp; omega
theorem begins_app (x l : List UInt8) : beginsB (x ++ l) x = true := by
  unfold beginsB; simp
theorem two_ok {l : List UInt8} {x y : Int} (h : okAll l [x, y] = true) : 0 ≤ x ∧ x ≤ y ∧ y ≤ l.length := by
  have h0 : okAt l [x, y] 0 = true := by
    unfold okAll at h; exact List.all_eq_true.1 h 0 (by simp)
  have h1 : okAt l [x, y] 1 = true := by
    unfold okAll at h; exact List.all_eq_true.1 h 1 (by simp)
  simp [okAt, fr] at h0 h1
  omega
theorem two_split {l : List UInt8} {x y : Int} (h : okAll l [x, y] = true) :
    splitL l [x, y] = [l.take x.toNat, (l.drop x.toNat).take (y.toNat - x.toNat), l.drop y.toNat] := by
  rw [splitL_yes h]
  simp [pieces, piece, fr, List.range_succ]
theorem two_flat {l : List UInt8} {x y : Int} (h : okAll l [x, y] = true) : (splitL l [x, y]).flatten = l := by
  obtain ⟨h0, h1, h2⟩ := two_ok h
  rw [two_split h]
  simp only [List.flatten_cons, List.flatten_nil, List.append_nil]
  have e : l.drop y.toNat = (l.drop x.toNat).drop (y.toNat - x.toNat) := by rw [List.drop_drop]; congr 1; omega
  rw [e, List.take_append_drop, List.take_append_drop]
theorem splitE_cases (l : List UInt8) (p : List Int) : splitE l p = 0 ∨ splitE l p = 4 := by unfold splitE; split <;> simp
end Oct

/-- What is held through the walk: the two places' cells; the bytes; the world that there was. -/
structure H7 (w : World) (x y : Int) (v : Value) (n : Nat) (l : List UInt8) (w' : World) : Prop where
  c0 : w'.cell? ⟨w.heap.size, 0, none⟩ = some (.int .i64 x)
  c1 : w'.cell? ⟨w.heap.size, 1, none⟩ = some (.int .i64 y)
  hv : Sl w' 1 v n (by8 l)
  hB : Below w.heap.size w w'
theorem H7.up {w : World} {x y : Int} {v : Value} {n : Nat} {l : List UInt8} {w1 w2 : World} (h : H7 w x y v n l w1) (hb : Below w1.heap.size w1 w2) : H7 w x y v n l w2 :=
  ⟨cell_up hb h.c0, cell_up hb h.c1, h.hv.up hb, below_up h.hB hb⟩

theorem slB2 {w : World} (T : TypeId) (k : Nat) (hk : k = w.heap.size) {u v : Value} {l m : List UInt8} (hu : Sl w 1 u l.length (by8 l)) (hv : Sl w 1 v m.length (by8 m)) :
    SlB (w.alloc (.cells #[u, v] T)) (.slice (some ⟨k, 0, none⟩) 2 2) 2 [u, v] [l, m] := by
  subst hk
  refine ⟨?_, rfl, fun i u' l' h1 h2 => ?_⟩
  · exact Sl.of_own (World.ownsRow_lit w #[u, v] 2 (size := 1) (e := T) (Nat.le_refl _) (by decide) rfl)
  · match i with
    | 0 =>
      simp only [List.getElem?_cons_zero, Option.some.injEq] at h1 h2
      subst h1 h2
      exact hu.up (below_alloc _ _)
    | 1 =>
      simp only [List.getElem?_cons_succ, List.getElem?_cons_zero, Option.some.injEq] at h1 h2
      subst h1 h2
      exact hv.up (below_alloc _ _)
    | i + 2 => simp at h1

/-- The row of three pieces: where the first two lie, and how long they are. -/
theorem three_cells {base : Nat} {w' : World} {own v : Value} {N : Nat} {vs : List Value} {l : List UInt8} {x y : Int} (h : Split base w' own v 3 N vs l (Oct.splitL l [x, y])) (hok : Oct.okAll l [x, y] = true) :
    ∃ g cap a0 q0 a1 q1, v = .slice (some ⟨g, 0, none⟩) 3 cap ∧ w'.cell? ⟨g, 0, none⟩ = some (.slice a0 x.toNat q0) ∧ w'.cell? ⟨g, 1, none⟩ = some (.slice a1 (y.toNat - x.toNat) q1) := by
  have hB := h.slB
  obtain ⟨hx0, hxy, hyl⟩ := Oct.two_ok hok
  rw [Oct.two_split hok] at hB
  obtain ⟨b2, _, _, hr⟩ := h.row
  obtain ⟨g, cap, rfl, _⟩ := own_shape hr (by omega)
  obtain ⟨b, off, a0, q0, e, h1, _⟩ := hB.at_ (k := 0) (by omega) (by simp)
  obtain ⟨b', off', a1, q1, e', h2, _⟩ := hB.at_ (k := 1) (by omega) (by simp)
  simp only [Option.some.injEq, Addr.mk.injEq, and_true] at e e'
  obtain ⟨rfl, rfl⟩ := e
  obtain ⟨rfl, rfl⟩ := e'
  refine ⟨g, cap, a0, q0, a1, q1, rfl, ?_, ?_⟩
  · have e : (l.take x.toNat).length = x.toNat := by rw [List.length_take]; omega
    simpa [e] using h1
  · have e : ((l.drop x.toNat).take (y.toNat - x.toNat)).length = y.toNat - x.toNat := by rw [List.length_take, List.length_drop]; omega
    have h2' : w'.cell? ⟨g, 1, none⟩ = some (.slice a1 ((l.drop x.toNat).take (y.toNat - x.toNat)).length q1) := h2
    rw [e] at h2'
    exact h2'

/-- The condition of the worlds may be narrowed on the way. -/
theorem wpAnyH_sub {P : Program} {md : Region.Mode} {ops : Array Oper} {Q : Exit → Act → World → Prop} {S S2 : World → Prop} (hs : ∀ w, S2 w → S w) : ∀ (fuel : Nat) (listed : Array Bool) (a : Act) (w : World),
    wpAnyH P md ops Q S2 fuel listed a w → wpAnyH P md ops Q S fuel listed a w
  | 0, _, _, _, h => h
  | fuel + 1, _, _, _, h => ⟨h.1, fun i hi => wpOp_mono (fun a' w' h' => ⟨hs _ h'.1, wpAnyH_sub hs fuel _ a' w' h'.2⟩) (h.2 i hi)⟩

set_option maxHeartbeats 1000000 in
theorem octetHolds_big (n : Int) (l : List UInt8) (v : Value) (k : Nat) (x y : Int) (w : World) (hv : Sl w 1 v k (by8 l)) (hk : 2000 < k) :
    Calls Try.prog 7 #[.int .u64 n, v, .agg #[.int .i64 x, .int .i64 y]] w (Ret (.bool true) w) := by
  obtain ⟨a, c, rfl⟩ := hv.len
  have hg : (2000 : Int) < (k : Int) := by omega
  go_enter Try.func7, Try.ntmps7
  go_wp2_with (first
    | (go_at_call 13; refine (works_c _).mono ?_; rintro e w7 ⟨rfl, hb⟩))
  go_ret
  exact ⟨rfl, below_new hb⟩

set_option maxHeartbeats 8000000 in
set_option maxRecDepth 100000 in
theorem octetHolds_c (n : Int) (h0 : 0 ≤ n) (h1 : n ≤ 18446744073709551615) (l : List UInt8) (v : Value) (k : Nat) (x y : Int) (w : World) (hv : Sl w 1 v k (by8 l)) (hk : k ≤ 2000) :
    Calls Try.prog 7 #[.int .u64 n, v, .agg #[.int .i64 x, .int .i64 y]] w (Ret (.bool true) w) := by
  have hln := hv.n_len
  have Hln := Lib.hid hln; clear hln
  obtain ⟨a, c, rfl⟩ := hv.len
  have hg : ¬ (2000 : Int) < (k : Int) := by omega
  obtain ⟨f1, f2⟩ := Oct.least_fits h1
  have f3 := Oct.put_get h0 f1
  have hq : IntKind.i64.wrap ((Oct.leastF n).tdiv 2) = (Oct.leastF n).tdiv 2 := by
    rcases Oct.leastF_cases n with e | e | e | e <;> rw [e] <;> decide
  generalize hW : Oct.leastF n = wd at *
  generalize hH : wd.tdiv 2 = hf at *
  generalize hX : Oct.putB n wd = X at *
  generalize hG : Oct.putE n hf = G at *
  have HW := Lib.hid hW
  have HX := Lib.hid hX
  have HG := Lib.hid hG
  have F1 := Lib.hid f1
  have F3 := Lib.hid f3.1
  have F4 := Lib.hid f3.2
  have Hk := Lib.hid hk
  have hx8 : X.length ≤ 8 := by
    have h := f3.2
    unfold Oct.getE at h
    split at h
    · rename_i hw
      have := Oct.okW_cases hw
      omega
    · cases h
  have hfl : [X, l].flatten.length ≤ 140737488351232 := by simp only [List.flatten_cons, List.flatten_nil, List.append_nil, List.length_append]; have := Hln.out; omega
  have hfb : Oct.beginsB [X, l].flatten X = true := by simpa using Oct.begins_app X l
  generalize hJ : [X, l].flatten = J at *
  have HJ := Lib.hid hJ
  have FL := Lib.hid hfl
  have FB := Lib.hid hfb
  clear hfl hfb hJ
  clear hW hX hG f1 f3 hk hx8
  have H0 := Lib.hid h0
  have H1 := Lib.hid h1
  clear h0 h1
  have hs : H7 w x y (.slice a k c) k l (w.alloc (.cells #[.int .i64 x, .int .i64 y] 51)) := ⟨by simp [go_sem], by simp [go_sem], hv.up (below_alloc _ _), below_alloc _ _⟩
  clear hv
  go_enter Try.func7, Try.ntmps7
  go_wp2_with fail
  refine (least_c n _ H0.out H1.out).mono ?_
  rw [HW.out]
  rintro e w1 ⟨rfl, hb⟩
  have hs := hs.up hb
  clear hb
  go_wp2_with fail
  refine (put_c n wd _ H0.out H1.out).mono ?_
  rw [HX.out, F1.out]
  rintro e w2 ⟨v2, rfl, ho2, hb⟩
  have s2 := Sl.of_own ho2
  obtain ⟨p2, c2, rfl⟩ := s2.len
  have hs := hs.up hb
  clear hb ho2
  go_wp2_with fail
  refine (get_c X _ _ _ s2).mono ?_
  rw [F3.out, F4.out]
  rintro e w3 ⟨rfl, hb⟩
  have hs := hs.up hb
  have s2 := s2.up hb
  clear hb
  go_wp2_with fail
  refine (put_c n hf _ H0.out H1.out).mono ?_
  rw [HG.out]
  rintro e w4 ⟨v4, rfl, _, hb⟩
  have hs := hs.up hb
  have s2 := s2.up hb
  clear hb
  have f2' : (G == 0) = false := by simpa using f2
  go_wp2_with (first
    | (go_at_call 10; refine (num_c _ _).mono ?_; rintro e w7 ⟨rfl, rfl⟩))
  refine (join_c [X, l] _ _ 2 _ (slB2 _ _ rfl s2 (by rw [Hln.out]; exact hs.hv)) (by decide) (by rw [HJ.out]; have := FL.out; omega)).mono ?_
  rw [HJ.out]
  rintro e w5 ⟨v5, rfl, ho5, hb⟩
  have s5 := Sl.of_own ho5
  have hb := below_new hb
  have hs := hs.up hb
  have s2 := s2.up hb
  clear hb ho5
  obtain ⟨p5, c5, rfl⟩ := s5.len
  go_wp2_with fail
  refine (begins_c J X _ _ _ _ _ s5 s2 (by have := FL.out; omega)).mono ?_
  rw [FB.out]
  rintro e w6 ⟨rfl, hb⟩
  have hs := hs.up hb
  clear hb s2 s5
  have c0 := hs.c0
  have c1 := hs.c1
  go_wp2_with fail
  refine (split_c l [x, y] _ _ k 2 _ (hs.hv.up (below_alloc _ _)) (slInts _ x y _ _ (by simp)) (by have := Hk.out; omega) (by decide)).mono ?_
  rintro e w8 ⟨hb, h⟩
  have hb := below_new hb
  have hs := hs.up hb
  clear hb c0 c1
  rcases h with ⟨hok, v8, vs, own, rfl, hS⟩ | ⟨_, rfl⟩
  case inr =>
    go_wp2_with (first
      | (go_at_call 10; refine (num_c _ _).mono ?_; rintro e w7 ⟨rfl, rfl⟩)
      | (go_at_call 13; refine (works_c _).mono ?_; rintro e w7 ⟨rfl, hb⟩; have hs := hs.up hb))
    go_ret
    exact ⟨rfl, hs.hB⟩
  obtain ⟨hx0, hxy, hyl⟩ := Oct.two_ok hok
  have hfl := Oct.two_flat hok
  have hsB := hS.slB
  obtain ⟨g, cap, a0, q0, a1, q1, rfl, k0, k1⟩ := three_cells hS hok
  generalize Oct.splitL l [x, y] = LL at *
  have HF := Lib.hid hfl
  clear hS hok hfl
  have hkk := Hk.out
  rw [Hln.out] at hyl
  obtain ⟨xn, rfl⟩ : ∃ m : Nat, x = m := ⟨x.toNat, by omega⟩
  obtain ⟨d, rfl⟩ : ∃ m : Nat, y = (xn : Int) + (m : Int) := ⟨y.toNat - xn, by omega⟩
  have hxn : ((xn : Nat) : Int).toNat = xn := by omega
  have hdn : ((xn : Int) + (d : Int)).toNat - xn = d := by omega
  rw [hxn] at k0 k1
  rw [hdn] at k1
  have hwr : IntKind.i64.wrap ((xn : Int) + (d : Int)) = (xn : Int) + (d : Int) := IntWalk.i64_in _ (by omega)
  have c0 := hs.c0
  have c1 := hs.c1
  have hv := hs.hv
  have hB := hs.hB
  have hb0 : Below w8.heap.size w8 w8.drew := (Below.refl _ _).drew
  have kstr : ∀ w', Sl w' 1 (.slice a k c) k (by8 l) → (convert 23 9 (.slice a k c)).run Try.prog w' = .ok (.string ⟨l.toArray⟩) w' := fun w' h => run_str Try.underlying23 Try.underlying5 Try.underlying9 h
  clear hs hxn hdn hx0 hxy hyl hkk
  go_wp2_with (first
    | (go_at_call 10; refine (num_c _ _).mono ?_; rintro e w7 ⟨rfl, rfl⟩))
  have d0 := cell_up hb0 c0
  have d1 := cell_up hb0 c1
  have e0 := cell_up hb0 k0
  have e1 := cell_up hb0 k1
  have hB := below_up hB hb0
  have hv := hv.up hb0
  have hsB := hsB.up hb0
  have tk := kstr _ hv
  clear H0 H1 HW HX HG F1 F3 F4 FL FB HJ hq f2 f2' hH hg c0 c1 k0 k1 hb0
  refine wp_region_held_drew (S := fun w' => w'.cell? ⟨w.heap.size, 0, none⟩ = some (.int .i64 (xn : Int)) ∧ w'.cell? ⟨w.heap.size, 1, none⟩ = some (.int .i64 ((xn : Int) + (d : Int))) ∧ w'.cell? ⟨g, 0, none⟩ = some (.slice a0 xn q0) ∧ w'.cell? ⟨g, 1, none⟩ = some (.slice a1 d q1) ∧
      ((convert 23 9 (.slice a k c)).run Try.prog w' = .ok (.string ⟨l.toArray⟩) w') ∧ Below w.heap.size w w') (by kernel_rfl) ?_ (fun hHeld => ?_)
  · exact ⟨d0, d1, e0, e1, kstr _ hv, hB⟩
  refine wpAnyH_take (i := 0) (v := ?_) rfl (by kernel_rfl) (by kernel_rfl) (by kernel_rfl) (fun _ _ _ h => h) (Or.inl ⟨by rfl, ?_⟩) (by assumption) ?_
  rotate_left
  · intro w' hSw
    obtain ⟨z1, z2, z3, z4, z5, z6⟩ := hSw
    first | (go_simp; done) | (go_simp; with_reducible rfl)
  try simp only [Act.put, List.getElem_toArray, List.getElem_cons_zero, List.getElem_cons_succ, List.setIfInBounds_toArray, List.set_cons_zero, List.set_cons_succ]
  refine wpAnyH_take (i := 1) (v := ?_) rfl (by kernel_rfl) (by kernel_rfl) (by kernel_rfl) (fun _ _ _ h => h) (Or.inl ⟨by rfl, ?_⟩) (by assumption) ?_
  rotate_left
  · intro w' hSw
    obtain ⟨z1, z2, z3, z4, z5, z6⟩ := hSw
    first | (go_simp; done) | (go_simp; with_reducible rfl)
  try simp only [Act.put, List.getElem_toArray, List.getElem_cons_zero, List.getElem_cons_succ, List.setIfInBounds_toArray, List.set_cons_zero, List.set_cons_succ]
  refine wpAnyH_take (i := 2) (v := ?_) rfl (by kernel_rfl) (by kernel_rfl) (by kernel_rfl) (fun _ _ _ h => h) (Or.inl ⟨by rfl, ?_⟩) (by assumption) ?_
  rotate_left
  · intro w' hSw
    obtain ⟨z1, z2, z3, z4, z5, z6⟩ := hSw
    first | (go_simp; done) | (go_simp; with_reducible rfl)
  try simp only [Act.put, List.getElem_toArray, List.getElem_cons_zero, List.getElem_cons_succ, List.setIfInBounds_toArray, List.set_cons_zero, List.set_cons_succ]
  refine wpAnyH_take (i := 3) (v := ?_) rfl (by kernel_rfl) (by kernel_rfl) (by kernel_rfl) (fun _ _ _ h => h) (Or.inl ⟨by rfl, ?_⟩) (by assumption) ?_
  rotate_left
  · intro w' hSw
    obtain ⟨z1, z2, z3, z4, z5, z6⟩ := hSw
    first | (go_simp; done) | (go_simp; with_reducible rfl)
  try simp only [Act.put, List.getElem_toArray, List.getElem_cons_zero, List.getElem_cons_succ, List.setIfInBounds_toArray, List.set_cons_zero, List.set_cons_succ]
  refine wpAnyH_take (i := 4) (v := ?_) rfl (by kernel_rfl) (by kernel_rfl) (by kernel_rfl) (fun _ _ _ h => h) (Or.inl ⟨by rfl, ?_⟩) (by assumption) ?_
  rotate_left
  · intro w' hSw
    obtain ⟨z1, z2, z3, z4, z5, z6⟩ := hSw
    first | (go_simp; done) | (go_simp; with_reducible rfl)
  try simp only [Act.put, List.getElem_toArray, List.getElem_cons_zero, List.getElem_cons_succ, List.setIfInBounds_toArray, List.set_cons_zero, List.set_cons_succ]
  refine wpAnyH_take (i := 7) (v := ?_) rfl (by kernel_rfl) (by kernel_rfl) (by kernel_rfl) (fun _ _ _ h => h) (Or.inl ⟨by rfl, ?_⟩) (by assumption) ?_
  rotate_left
  · intro w' hSw
    obtain ⟨z1, z2, z3, z4, z5, z6⟩ := hSw
    first | (go_simp; done) | (go_simp; with_reducible rfl)
  try simp only [Act.put, List.getElem_toArray, List.getElem_cons_zero, List.getElem_cons_succ, List.setIfInBounds_toArray, List.set_cons_zero, List.set_cons_succ]
  refine wpAnyH_take (i := 8) (v := ?_) rfl (by kernel_rfl) (by kernel_rfl) (by kernel_rfl) (fun _ _ _ h => h) (Or.inl ⟨by rfl, ?_⟩) (by assumption) ?_
  rotate_left
  · intro w' hSw
    obtain ⟨z1, z2, z3, z4, z5, z6⟩ := hSw
    first | (go_simp; done) | (go_simp; with_reducible rfl)
  try simp only [Act.put, List.getElem_toArray, List.getElem_cons_zero, List.getElem_cons_succ, List.setIfInBounds_toArray, List.set_cons_zero, List.set_cons_succ]
  refine wpAnyH_ready (rs := [5]) (by kernel_rfl) (by simp) ?_
  refine AllReadyH.cons rfl (fun K hK => ?_) ?_
  rotate_left
  · exact AllReadyH.nil
  go_simp
  refine (join_c LL vs _ 3 _ hsB (by decide) (by rw [HF.out, Hln.out]; have := Hk.out; omega)).mono ?_
  rw [HF.out, Hln.out]
  rintro e w5 ⟨v5, rfl, ho5, hb⟩
  have s5 := Sl.of_own ho5
  obtain ⟨p5, c5, rfl⟩ := s5.len
  have t5 : ∀ w', Below w5.heap.size w5 w' → (convert 23 9 (.slice p5 k c5)).run Try.prog w' = .ok (.string ⟨l.toArray⟩) w' := fun w' h => run_str Try.underlying23 Try.underlying5 Try.underlying9 (s5.up h)
  have b0 := cell_up hb d0
  have b1 := cell_up hb d1
  have b2 := cell_up hb e0
  have b3 := cell_up hb e1
  have hB5 := below_up hB hb
  have hv5 := hv.up hb
  go_wp2_with fail
  refine hK.out _ _ ⟨b0, b1, b2, b3, kstr _ hv5, hB5⟩ (fun hHeld5 => ?_)
  clear hK K hHeld tk d0 d1 e0 e1 hB hv ho5 hsB
  try simp only [Act.put, List.getElem_toArray, List.getElem_cons_zero, List.getElem_cons_succ, List.setIfInBounds_toArray, List.set_cons_zero, List.set_cons_succ]
  refine wpAnyH_sub (S2 := fun w' => w'.cell? ⟨w.heap.size, 0, none⟩ = some (.int .i64 (xn : Int)) ∧ w'.cell? ⟨w.heap.size, 1, none⟩ = some (.int .i64 ((xn : Int) + (d : Int))) ∧ w'.cell? ⟨g, 0, none⟩ = some (.slice a0 xn q0) ∧ w'.cell? ⟨g, 1, none⟩ = some (.slice a1 d q1) ∧
      ((convert 23 9 (.slice p5 k c5)).run Try.prog w' = .ok (.string ⟨l.toArray⟩) w') ∧ Below w5.heap.size w5 w') (fun w' h => ⟨h.1, h.2.1, h.2.2.1, h.2.2.2.1, kstr _ (hv5.up h.2.2.2.2.2), below_up hB5 h.2.2.2.2.2⟩) _ _ _ _ ?_
  have hH2 : (w5.cell? ⟨w.heap.size, 0, none⟩ = some (.int .i64 (xn : Int)) ∧ w5.cell? ⟨w.heap.size, 1, none⟩ = some (.int .i64 ((xn : Int) + (d : Int))) ∧ w5.cell? ⟨g, 0, none⟩ = some (.slice a0 xn q0) ∧ w5.cell? ⟨g, 1, none⟩ = some (.slice a1 d q1) ∧
      ((convert 23 9 (.slice p5 k c5)).run Try.prog w5 = .ok (.string ⟨l.toArray⟩) w5) ∧ Below w5.heap.size w5 w5) := ⟨b0, b1, b2, b3, t5 _ (Below.refl _ _), Below.refl _ _⟩
  clear hHeld5 hb s5 kstr
  refine wpAnyH_take (i := 6) (v := ?_) rfl (by kernel_rfl) (by kernel_rfl) (by kernel_rfl) (fun _ _ _ h => h) (Or.inl ⟨by rfl, ?_⟩) (by assumption) ?_
  rotate_left
  · intro w' hSw
    obtain ⟨z1, z2, z3, z4, z5, z6⟩ := hSw
    first | (go_simp; done) | (go_simp; with_reducible rfl)
  try simp only [Act.put, List.getElem_toArray, List.getElem_cons_zero, List.getElem_cons_succ, List.setIfInBounds_toArray, List.set_cons_zero, List.set_cons_succ]
  refine wpAnyH_take (i := 9) (v := ?_) rfl (by kernel_rfl) (by kernel_rfl) (by kernel_rfl) (fun _ _ _ h => h) (Or.inl ⟨by rfl, ?_⟩) (by assumption) ?_
  rotate_left
  · intro w' hSw
    obtain ⟨z1, z2, z3, z4, z5, z6⟩ := hSw
    first | (go_simp; done) | (go_simp; with_reducible rfl)
  try simp only [Act.put, List.getElem_toArray, List.getElem_cons_zero, List.getElem_cons_succ, List.setIfInBounds_toArray, List.set_cons_zero, List.set_cons_succ]
  refine wpAnyH_take (i := 10) (v := ?_) rfl (by kernel_rfl) (by kernel_rfl) (by kernel_rfl) (fun _ _ _ h => h) (Or.inl ⟨by rfl, ?_⟩) (by assumption) ?_
  rotate_left
  · intro w' hSw
    obtain ⟨z1, z2, z3, z4, z5, z6⟩ := hSw
    first | (go_simp; done) | (go_simp; with_reducible rfl)
  try simp only [Act.put, List.getElem_toArray, List.getElem_cons_zero, List.getElem_cons_succ, List.setIfInBounds_toArray, List.set_cons_zero, List.set_cons_succ]
  refine wpAnyH_take (i := 11) (v := ?_) rfl (by kernel_rfl) (by kernel_rfl) (by kernel_rfl) (fun _ _ _ h => h) (Or.inl ⟨by rfl, ?_⟩) (by assumption) ?_
  rotate_left
  · intro w' hSw
    obtain ⟨z1, z2, z3, z4, z5, z6⟩ := hSw
    first | (go_simp; done) | (go_simp; with_reducible rfl)
  try simp only [Act.put, List.getElem_toArray, List.getElem_cons_zero, List.getElem_cons_succ, List.setIfInBounds_toArray, List.set_cons_zero, List.set_cons_succ]
  refine wpAnyH_take (i := 12) (v := ?_) rfl (by kernel_rfl) (by kernel_rfl) (by kernel_rfl) (fun _ _ _ h => h) (Or.inl ⟨by rfl, ?_⟩) (by assumption) ?_
  rotate_left
  · intro w' hSw
    obtain ⟨z1, z2, z3, z4, z5, z6⟩ := hSw
    first | (go_simp; done) | (go_simp; with_reducible rfl)
  try simp only [Act.put, List.getElem_toArray, List.getElem_cons_zero, List.getElem_cons_succ, List.setIfInBounds_toArray, List.set_cons_zero, List.set_cons_succ]
  refine wpAnyH_take (i := 13) (v := ?_) rfl (by kernel_rfl) (by kernel_rfl) (by kernel_rfl) (fun _ _ _ h => h) (Or.inl ⟨by rfl, ?_⟩) (by assumption) ?_
  rotate_left
  · intro w' hSw
    obtain ⟨z1, z2, z3, z4, z5, z6⟩ := hSw
    first | (go_simp; done) | (go_simp; with_reducible rfl)
  try simp only [Act.put, List.getElem_toArray, List.getElem_cons_zero, List.getElem_cons_succ, List.setIfInBounds_toArray, List.set_cons_zero, List.set_cons_succ]
  refine wpAnyH_take (i := 14) (v := ?_) rfl (by kernel_rfl) (by kernel_rfl) (by kernel_rfl) (fun _ _ _ h => h) (Or.inl ⟨by rfl, ?_⟩) (by assumption) ?_
  rotate_left
  · intro w' hSw
    obtain ⟨z1, z2, z3, z4, z5, z6⟩ := hSw
    first | (go_simp; done) | (go_simp; with_reducible rfl)
  try simp only [Act.put, List.getElem_toArray, List.getElem_cons_zero, List.getElem_cons_succ, List.setIfInBounds_toArray, List.set_cons_zero, List.set_cons_succ]
  refine wpAnyH_take (i := 15) (v := ?_) rfl (by kernel_rfl) (by kernel_rfl) (by kernel_rfl) (fun _ _ _ h => h) (Or.inl ⟨by rfl, ?_⟩) (by assumption) ?_
  rotate_left
  · intro w' hSw
    obtain ⟨z1, z2, z3, z4, z5, z6⟩ := hSw
    first | (go_simp; done) | (go_simp; with_reducible rfl)
  try simp only [Act.put, List.getElem_toArray, List.getElem_cons_zero, List.getElem_cons_succ, List.setIfInBounds_toArray, List.set_cons_zero, List.set_cons_succ]
  refine wpAnyH_take (i := 16) (v := ?_) rfl (by kernel_rfl) (by kernel_rfl) (by kernel_rfl) (fun _ _ _ h => h) (Or.inl ⟨by rfl, ?_⟩) (by assumption) ?_
  rotate_left
  · intro w' hSw
    obtain ⟨z1, z2, z3, z4, z5, z6⟩ := hSw
    first | (go_simp; done) | (go_simp; with_reducible rfl)
  try simp only [Act.put, List.getElem_toArray, List.getElem_cons_zero, List.getElem_cons_succ, List.setIfInBounds_toArray, List.set_cons_zero, List.set_cons_succ]
  refine wpAnyH_take (i := 17) (v := ?_) rfl (by kernel_rfl) (by kernel_rfl) (by kernel_rfl) (fun _ _ _ h => h) (Or.inl ⟨by rfl, ?_⟩) (by assumption) ?_
  rotate_left
  · intro w' hSw
    obtain ⟨z1, z2, z3, z4, z5, z6⟩ := hSw
    first | (go_simp; done) | (go_simp; with_reducible rfl)
  try simp only [Act.put, List.getElem_toArray, List.getElem_cons_zero, List.getElem_cons_succ, List.setIfInBounds_toArray, List.set_cons_zero, List.set_cons_succ]
  refine wpAnyH_take (i := 18) (v := ?_) rfl (by kernel_rfl) (by kernel_rfl) (by kernel_rfl) (fun _ _ _ h => h) (Or.inl ⟨by rfl, ?_⟩) (by assumption) ?_
  rotate_left
  · intro w' hSw
    obtain ⟨z1, z2, z3, z4, z5, z6⟩ := hSw
    first | (go_simp; done) | (go_simp; with_reducible rfl)
  try simp only [Act.put, List.getElem_toArray, List.getElem_cons_zero, List.getElem_cons_succ, List.setIfInBounds_toArray, List.set_cons_zero, List.set_cons_succ]
  refine wpAnyH_take (i := 19) (v := ?_) rfl (by kernel_rfl) (by kernel_rfl) (by kernel_rfl) (fun _ _ _ h => h) (Or.inl ⟨by rfl, ?_⟩) (by assumption) ?_
  rotate_left
  · intro w' hSw
    obtain ⟨z1, z2, z3, z4, z5, z6⟩ := hSw
    first | (go_simp; done) | (go_simp; with_reducible rfl)
  try simp only [Act.put, List.getElem_toArray, List.getElem_cons_zero, List.getElem_cons_succ, List.setIfInBounds_toArray, List.set_cons_zero, List.set_cons_succ]
  refine wpAnyH_take (i := 20) (v := ?_) rfl (by kernel_rfl) (by kernel_rfl) (by kernel_rfl) (fun _ _ _ h => h) (Or.inl ⟨by rfl, ?_⟩) (by assumption) ?_
  rotate_left
  · intro w' hSw
    obtain ⟨z1, z2, z3, z4, z5, z6⟩ := hSw
    first | (go_simp; done) | (go_simp; with_reducible rfl)
  try simp only [Act.put, List.getElem_toArray, List.getElem_cons_zero, List.getElem_cons_succ, List.setIfInBounds_toArray, List.set_cons_zero, List.set_cons_succ]
  refine wpAnyH_take (i := 21) (v := ?_) rfl (by kernel_rfl) (by kernel_rfl) (by kernel_rfl) (fun _ _ _ h => h) (Or.inl ⟨by rfl, ?_⟩) (by assumption) ?_
  rotate_left
  · intro w' hSw
    obtain ⟨z1, z2, z3, z4, z5, z6⟩ := hSw
    first | (go_simp; done) | (go_simp; with_reducible rfl)
  try simp only [Act.put, List.getElem_toArray, List.getElem_cons_zero, List.getElem_cons_succ, List.setIfInBounds_toArray, List.set_cons_zero, List.set_cons_succ]
  refine wpAnyH_take (i := 22) (v := ?_) rfl (by kernel_rfl) (by kernel_rfl) (by kernel_rfl) (fun _ _ _ h => h) (Or.inl ⟨by rfl, ?_⟩) (by assumption) ?_
  rotate_left
  · intro w' hSw
    obtain ⟨z1, z2, z3, z4, z5, z6⟩ := hSw
    first | (go_simp; done) | (go_simp; with_reducible rfl)
  try simp only [Act.put, List.getElem_toArray, List.getElem_cons_zero, List.getElem_cons_succ, List.setIfInBounds_toArray, List.set_cons_zero, List.set_cons_succ]
  refine wpAnyH_take (i := 23) (v := ?_) rfl (by kernel_rfl) (by kernel_rfl) (by kernel_rfl) (fun _ _ _ h => h) (Or.inl ⟨by rfl, ?_⟩) (by assumption) ?_
  rotate_left
  · intro w' hSw
    obtain ⟨z1, z2, z3, z4, z5, z6⟩ := hSw
    first | (go_simp; done) | (go_simp; with_reducible rfl)
  try simp only [Act.put, List.getElem_toArray, List.getElem_cons_zero, List.getElem_cons_succ, List.setIfInBounds_toArray, List.set_cons_zero, List.set_cons_succ]
  refine wpAnyH_take (i := 24) (v := ?_) rfl (by kernel_rfl) (by kernel_rfl) (by kernel_rfl) (fun _ _ _ h => h) (Or.inl ⟨by rfl, ?_⟩) (by assumption) ?_
  rotate_left
  · intro w' hSw
    obtain ⟨z1, z2, z3, z4, z5, z6⟩ := hSw
    first | (go_simp; done) | (go_simp; with_reducible rfl)
  try simp only [Act.put, List.getElem_toArray, List.getElem_cons_zero, List.getElem_cons_succ, List.setIfInBounds_toArray, List.set_cons_zero, List.set_cons_succ]
  refine wpAnyH_take (i := 25) (v := ?_) rfl (by kernel_rfl) (by kernel_rfl) (by kernel_rfl) (fun _ _ _ h => h) (Or.inl ⟨by rfl, ?_⟩) (by assumption) ?_
  rotate_left
  · intro w' hSw
    obtain ⟨z1, z2, z3, z4, z5, z6⟩ := hSw
    first | (go_simp; done) | (go_simp; with_reducible rfl)
  try simp only [Act.put, List.getElem_toArray, List.getElem_cons_zero, List.getElem_cons_succ, List.setIfInBounds_toArray, List.set_cons_zero, List.set_cons_succ]
  refine wpAnyH_take (i := 26) (v := ?_) rfl (by kernel_rfl) (by kernel_rfl) (by kernel_rfl) (fun _ _ _ h => h) (Or.inl ⟨by rfl, ?_⟩) (by assumption) ?_
  rotate_left
  · intro w' hSw
    obtain ⟨z1, z2, z3, z4, z5, z6⟩ := hSw
    first | (go_simp; done) | (go_simp; with_reducible rfl)
  try simp only [Act.put, List.getElem_toArray, List.getElem_cons_zero, List.getElem_cons_succ, List.setIfInBounds_toArray, List.set_cons_zero, List.set_cons_succ]
  refine wpAnyH_take (i := 27) (v := ?_) rfl (by kernel_rfl) (by kernel_rfl) (by kernel_rfl) (fun _ _ _ h => h) (Or.inl ⟨by rfl, ?_⟩) (by assumption) ?_
  rotate_left
  · intro w' hSw
    obtain ⟨z1, z2, z3, z4, z5, z6⟩ := hSw
    first | (go_simp; done) | (go_simp; with_reducible rfl)
  try simp only [Act.put, List.getElem_toArray, List.getElem_cons_zero, List.getElem_cons_succ, List.setIfInBounds_toArray, List.set_cons_zero, List.set_cons_succ]
  refine wpAnyH_take (i := 28) (v := ?_) rfl (by kernel_rfl) (by kernel_rfl) (by kernel_rfl) (fun _ _ _ h => h) (Or.inl ⟨by rfl, ?_⟩) (by assumption) ?_
  rotate_left
  · intro w' hSw
    obtain ⟨z1, z2, z3, z4, z5, z6⟩ := hSw
    first | (go_simp; done) | (go_simp; with_reducible rfl)
  try simp only [Act.put, List.getElem_toArray, List.getElem_cons_zero, List.getElem_cons_succ, List.setIfInBounds_toArray, List.set_cons_zero, List.set_cons_succ]
  refine wpAnyH_take (i := 29) (v := ?_) rfl (by kernel_rfl) (by kernel_rfl) (by kernel_rfl) (fun _ _ _ h => h) (Or.inl ⟨by rfl, ?_⟩) (by assumption) ?_
  rotate_left
  · intro w' hSw
    obtain ⟨z1, z2, z3, z4, z5, z6⟩ := hSw
    first | (go_simp; done) | (go_simp; with_reducible rfl)
  try simp only [Act.put, List.getElem_toArray, List.getElem_cons_zero, List.getElem_cons_succ, List.setIfInBounds_toArray, List.set_cons_zero, List.set_cons_succ]
  refine wpAnyH_take (i := 30) (v := ?_) rfl (by kernel_rfl) (by kernel_rfl) (by kernel_rfl) (fun _ _ _ h => h) (Or.inl ⟨by rfl, ?_⟩) (by assumption) ?_
  rotate_left
  · intro w' hSw
    obtain ⟨z1, z2, z3, z4, z5, z6⟩ := hSw
    first | (go_simp; done) | (go_simp; with_reducible rfl)
  try simp only [Act.put, List.getElem_toArray, List.getElem_cons_zero, List.getElem_cons_succ, List.setIfInBounds_toArray, List.set_cons_zero, List.set_cons_succ]
  refine wpAnyH_take (i := 31) (v := ?_) rfl (by kernel_rfl) (by kernel_rfl) (by kernel_rfl) (fun _ _ _ h => h) (Or.inl ⟨by rfl, ?_⟩) (by assumption) ?_
  rotate_left
  · intro w' hSw
    obtain ⟨z1, z2, z3, z4, z5, z6⟩ := hSw
    first | (go_simp; done) | (go_simp; with_reducible rfl)
  try simp only [Act.put, List.getElem_toArray, List.getElem_cons_zero, List.getElem_cons_succ, List.setIfInBounds_toArray, List.set_cons_zero, List.set_cons_succ]
  refine wpAnyH_take (i := 32) (v := ?_) rfl (by kernel_rfl) (by kernel_rfl) (by kernel_rfl) (fun _ _ _ h => h) (Or.inl ⟨by rfl, ?_⟩) (by assumption) ?_
  rotate_left
  · intro w' hSw
    obtain ⟨z1, z2, z3, z4, z5, z6⟩ := hSw
    first | (go_simp; done) | (go_simp; with_reducible rfl)
  try simp only [Act.put, List.getElem_toArray, List.getElem_cons_zero, List.getElem_cons_succ, List.setIfInBounds_toArray, List.set_cons_zero, List.set_cons_succ]
  refine wpAnyH_take (i := 33) (v := ?_) rfl (by kernel_rfl) (by kernel_rfl) (by kernel_rfl) (fun _ _ _ h => h) (Or.inl ⟨by rfl, ?_⟩) (by assumption) ?_
  rotate_left
  · intro w' hSw
    obtain ⟨z1, z2, z3, z4, z5, z6⟩ := hSw
    first | (go_simp; done) | (go_simp; with_reducible rfl)
  try simp only [Act.put, List.getElem_toArray, List.getElem_cons_zero, List.getElem_cons_succ, List.setIfInBounds_toArray, List.set_cons_zero, List.set_cons_succ]
  refine wpAnyH_take (i := 34) (v := ?_) rfl (by kernel_rfl) (by kernel_rfl) (by kernel_rfl) (fun _ _ _ h => h) (Or.inl ⟨by rfl, ?_⟩) (by assumption) ?_
  rotate_left
  · intro w' hSw
    obtain ⟨z1, z2, z3, z4, z5, z6⟩ := hSw
    first | (go_simp; done) | (go_simp; with_reducible rfl)
  try simp only [Act.put, List.getElem_toArray, List.getElem_cons_zero, List.getElem_cons_succ, List.setIfInBounds_toArray, List.set_cons_zero, List.set_cons_succ]
  refine wpAnyH_ready (rs := [35]) (by kernel_rfl) (by simp) ?_
  refine AllReadyH.cons rfl (fun K hK => ?_) ?_
  rotate_left
  · exact AllReadyH.nil
  go_simp
  refine (works_c _).mono ?_
  rintro e w7 ⟨rfl, hb7⟩
  go_wp2_with fail
  have hH7 : (w7.cell? ⟨w.heap.size, 0, none⟩ = some (.int .i64 (xn : Int)) ∧ w7.cell? ⟨w.heap.size, 1, none⟩ = some (.int .i64 ((xn : Int) + (d : Int))) ∧ w7.cell? ⟨g, 0, none⟩ = some (.slice a0 xn q0) ∧ w7.cell? ⟨g, 1, none⟩ = some (.slice a1 d q1) ∧
      ((convert 23 9 (.slice p5 k c5)).run Try.prog w7 = .ok (.string ⟨l.toArray⟩) w7) ∧ Below w5.heap.size w5 w7) := ⟨cell_up hb7 b0, cell_up hb7 b1, cell_up hb7 b2, cell_up hb7 b3, t5 _ hb7, hb7⟩
  refine hK.out _ _ hH7 (fun _ => ?_)
  have hB7 := below_up hB5 hb7
  clear hK K hH2
  try simp only [Act.put, List.getElem_toArray, List.getElem_cons_zero, List.getElem_cons_succ, List.setIfInBounds_toArray, List.set_cons_zero, List.set_cons_succ]
  refine wpAnyH_take (i := 36) (v := ?_) rfl (by kernel_rfl) (by kernel_rfl) (by kernel_rfl) (fun _ _ _ h => h) (Or.inl ⟨by rfl, ?_⟩) (by assumption) ?_
  rotate_left
  · intro w' hSw
    obtain ⟨z1, z2, z3, z4, z5, z6⟩ := hSw
    first | (go_simp; done) | (go_simp; with_reducible rfl)
  try simp only [Act.put, List.getElem_toArray, List.getElem_cons_zero, List.getElem_cons_succ, List.setIfInBounds_toArray, List.set_cons_zero, List.set_cons_succ]
  refine wpAnyH_take (i := 37) (v := ?_) rfl (by kernel_rfl) (by kernel_rfl) (by kernel_rfl) (fun _ _ _ h => h) (Or.inl ⟨by rfl, ?_⟩) (by assumption) ?_
  rotate_left
  · intro w' hSw
    obtain ⟨z1, z2, z3, z4, z5, z6⟩ := hSw
    first | (go_simp; done) | (go_simp; with_reducible rfl)
  try simp only [Act.put, List.getElem_toArray, List.getElem_cons_zero, List.getElem_cons_succ, List.setIfInBounds_toArray, List.set_cons_zero, List.set_cons_succ]
  refine wpAnyH_done (by kernel_rfl) ?_ _
  go_wp2
  go_ret
  exact ⟨rfl, hB7⟩

theorem octetHolds_all (n : Int) (h0 : 0 ≤ n) (h1 : n ≤ 18446744073709551615) (l : List UInt8) (v : Value) (k : Nat) (x y : Int) (w : World) (hv : Sl w 1 v k (by8 l)) :
    Calls Try.prog 7 #[.int .u64 n, v, .agg #[.int .i64 x, .int .i64 y]] w (Ret (.bool true) w) := by
  rcases Nat.lt_or_ge 2000 k with hk | hk
  · exact octetHolds_big n l v k x y w hv hk
  · exact octetHolds_c n h0 h1 l v k x y w hv hk
end Go.Proofs.Ytcoahjkhaejimaa
