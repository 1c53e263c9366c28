/-
  NmRe: several texts in one (bundle.py).
-/
import Derived.Test.YtpkonagjnfphkaaGreatDoorPmY18
import Derived.Test.YtpkonagjnfphkaaGreatDoorPmY19
set_option linter.unusedSimpArgs false
set_option linter.unusedVariables false
set_option maxRecDepth 100000
set_option maxHeartbeats 1000000
namespace Go.Proofs.YtpkonagjnfphkaaGreatDoor
open Go.RowKit Trc Cb
theorem un5 : ∃ i, Tryz.prog.info? 26 = some i ∧ i.zero = some (.int .u64 0) ∧ i.size = 1 ∧ i.bytes = 8 := by
  obtain ⟨i, hi, h1, h2, h3⟩ := info_parts (P := Tryz.prog) (e := 26) (z := .int .u64 0) (size := 1) (bytes := 8) (by kernel_rfl); exact ⟨i, hi, h1, h2, h3⟩
theorem RdI.zero {W : World} {base C : Nat} (h : W.heap[C]? = some (.cells #[.slice none 0 0] 112 (0, 0))) (hb : base ≤ C) : RdI W base C [] W :=
  ⟨⟨.slice none 0 0, ⟨h, World.ownsRow_nil W base 26 1, hb⟩, fun k hk => by simp [Value.ownBlock] at hk⟩, But.refl _ _⟩
theorem slU5 {w : World} {base : Nat} {v : Value} {U : List Int} (h : w.ownsRow base 26 1 v (U.length + 5) (uC U ++ zer5)) : Sl w 1 v (U.length + 5) (uC (U ++ [0, 0, 0, 0, 0])) := by
  have := Sl.of_own h
  have e : uC (U ++ [0, 0, 0, 0, 0]) = uC U ++ zer5 := by simp
  rw [e]; exact this
def ofA (x : It) : Nat := if g5 (readU x) 0 = 2 then g5 (readU x) 1 % 4294967296 else 0
def ofB (x : It) : Nat := if g5 (readU x) 0 = 2 then g5 (readU x) 2 % 4294967296 else 0
def okE (x : It) : Bool := decide (Dig.chkP (ofA x) (ofB x) = 0) && sameB x (epI (ofA x) (ofB x))
theorem cnt_ep (n m : Nat) : Cb.cnt (epI n m) ≤ 1000000 := by unfold epI; have h0 : (⟨#[]⟩ : ByteArray).size = 0 := rfl; split <;> simp [Cb.cnt, Cb.cntL, h0]
theorem usT_hi {S : Nat → Prop} {w : World} {x : It} {r : Rw} (h : ItR S w x r) : ∀ u ∈ usT x, u ≤ 18446744073709551615 := by
  intro u hu; obtain ⟨rows, p⟩ := h.parts; unfold usT at hu; split at hu
  · obtain ⟨y, hy, rfl⟩ := List.mem_map.1 hu
    obtain ⟨i, hi, rfl⟩ := List.getElem_of_mem (List.mem_filter.1 hy).1; obtain ⟨rows2, q⟩ := (p.each.get hi (by rw [p.each.len]; exact hi)).parts; exact q.hi
  · simp at hu
theorem readU_hi {S : Nat → Prop} {w : World} {x : It} {r : Rw} (h : ItR S w x r) : ∀ u ∈ readU x, u ≤ 18446744073709551615 := by
  intro u hu; unfold readU at hu; rcases List.mem_append.1 hu with hu | hu
  · exact usT_hi h u hu
  · obtain ⟨y, hy, hu⟩ := List.mem_flatMap.1 hu
    obtain ⟨t, ht⟩ := kid h hy; unfold usK at hu; rcases List.mem_append.1 hu with hu | hu
    · exact usT_hi ht u hu
    · obtain ⟨z, hz, hu⟩ := List.mem_flatMap.1 hu
      obtain ⟨s, hs⟩ := kid ht hz; exact usT_hi hs u hu
theorem g5_lt {S : Nat → Prop} {w : World} {x : It} {r : Rw} (h : ItR S w x r) (j : Nat) : g5 (readU x) j < 18446744073709551616 := by
  have hh := readU_hi h; unfold g5; rw [List.getD_eq_getElem?_getD]
  cases hc : (readU x)[j]? with
  | none => simp
  | some u =>
    have := hh u (List.mem_of_getElem? hc); simp; omega
theorem readE_c (x : It) (r : Rw) (w : World) (hx : ItR (fun k => k < w.heap.size) w x r) (hcx : Cb.cnt x ≤ 1000000) :
    Calls Tryz.prog 148 #[rwV r, .func (.func 113) #[] #[], .func (.func 149) #[] #[]] w (Ret (.tuple #[epV (if okE x then ofA x else 0) (if okE x then ofB x else 0), .int .i64 (if okE x then 0 else 130)]) w) := by
  have hnn := readU_nn hx
  have hg5 := fun j => g5_lt hx j
  obtain ⟨k1, n1, ba1, bn1, bc1, s1, la1, ln1, lc1, rfl⟩ := hx.shape; obtain ⟨rows, p⟩ := hx.parts; obtain ⟨R5, hR5⟩ := five_of (readU x) hnn; have HR5 := Lib.hid hR5; have HRU := Lib.hid (show readU x = usT x ++ x.l.flatMap usK from rfl); have hrl := readU_len x
  have hul : (usT x).length + (x.l.flatMap usK).length ≤ 1000000 := by rw [HRU.out, List.length_append] at hrl; omega
  have Hln := Lib.hid (show rows.length = x.l.length from p.each.len); obtain ⟨m1, hm1⟩ : ∃ m, m = x.l.length := ⟨_, rfl⟩; have HM1 := Lib.hid hm1
  have hll : ln1 = m1 := by have := p.l.1.len; obtain ⟨a, c, h⟩ := this; simp at h; omega
  subst hll
  have hlm : (ln1 : Nat) ≤ 1000000 := by have := (cnt_l x).1; have := HM1.out; omega
  obtain ⟨W0, hW0⟩ : ∃ W, W = (((w.alloc (.cells (rwC ⟨k1, n1, .slice ba1 bn1 bc1, s1, .slice la1 ln1 lc1⟩).toArray 62)).alloc (.cells #[.int .u32 0, .int .u32 0] 25)).alloc (.cells #[.slice none 0 0] 112)) := ⟨_, rfl⟩
  have hb0 : Below w.heap.size w W0 := by rw [hW0]; exact ((below_alloc w _).alloc (by simp) _).alloc (by simp only [World.size_alloc]; omega) _
  have hs0 : W0.heap.size = w.heap.size + 3 := by rw [hW0]; simp
  have X0 : RowAt W0 w.heap.size (rwC ⟨k1, n1, .slice ba1 bn1 bc1, s1, .slice la1 ln1 lc1⟩).toArray 62 := by
    rw [hW0]; exact ((RowAt.new w _ _).below (below_alloc _ _)).below (below_alloc _ _)
  have Z0 : RowAt W0 (w.heap.size + 1) #[.int .u32 0, .int .u32 0] 25 := by
    rw [hW0]; have := (RowAt.new (w.alloc (.cells (rwC ⟨k1, n1, .slice ba1 bn1 bc1, s1, .slice la1 ln1 lc1⟩).toArray 62)) #[.int .u32 0, .int .u32 0] 25).below (below_alloc _ (.cells #[.slice none 0 0] 112))
    rwa [World.size_alloc] at this
  have I0 : RdI W0 w.heap.size (w.heap.size + 2) [] W0 := by
    refine RdI.zero ?_ (by omega); rw [hW0]; have := RowAt.new ((w.alloc (.cells (rwC ⟨k1, n1, .slice ba1 bn1 bc1, s1, .slice la1 ln1 lc1⟩).toArray 62)).alloc (.cells #[.int .u32 0, .int .u32 0] 25)) #[.slice none 0 0] 112; simp only [World.size_alloc] at this; exact this
  have p0 : Parts (fun k => k < w.heap.size) W0 x ⟨k1, n1, .slice ba1 bn1 bc1, s1, .slice la1 ln1 lc1⟩ rows := p.but (But.of_below (O := fun _ => False) hb0) (fun _ _ e => e); have hadd := rdE_c W0 W0 W0 _ _ [] x _ rows I0 (Below.refl _ _) (by omega) (by omega) p0 (by simp; omega) ⟨_, _, _, _, _, _, _, _, _, rfl⟩; rw [List.nil_append] at hadd
  have hadd2 : ∀ W, W = W0 → Calls Tryz.prog 166 #[rwV ⟨k1, n1, .slice ba1 bn1 bc1, s1, .slice la1 ln1 lc1⟩, .pointer (some ⟨w.heap.size + 2, 0, none⟩)] W (RdE W0 w.heap.size (w.heap.size + 2) W0.heap.size (usT x) W0) := fun W e => by rw [e]; exact hadd
  have H166 := Lib.hid hadd2; have HI0 := Lib.hid I0; have HX := Lib.hid hx; have HNN := Lib.hid hnn; have HG5 := Lib.hid hg5; have HP := Lib.hid p0; have b0 := X0.cell (i := 0) rfl; have b1 := X0.cell (i := 1) rfl; have b2 := X0.cell (i := 2) rfl; have b3 := X0.cell (i := 3) rfl; have b4 := X0.cell (i := 4) rfl; have HX0 := Lib.hid X0; have HZ0 := Lib.hid Z0; have HB0 := Lib.hid hb0; have HCX := Lib.hid hcx; rw [hW0] at b0 b1 b2 b3 b4; obtain ⟨RV, hRV⟩ : ∃ v : Value, v = .tuple #[epV (if okE x then ofA x else 0) (if okE x then ofB x else 0), .int .i64 (if okE x then 0 else 130)] := ⟨_, rfl⟩; rw [← hRV]; have HRV := Lib.hid hRV; clear hRV hm1 hadd hadd2 I0 hx hnn p0 p X0 Z0 hb0 hrl hR5 hcx hg5; go_enter Tryz.func148, Tryz.ntmps148; have HW0 := Lib.hid hW0
  clear hW0
  go_wp2_with fail
  refine (H166.out _ HW0.out.symm).mono ?_; rintro en W1 ⟨rfl, hI1, hz1, hr1⟩; have HI1 := Lib.hid hI1; have X1 : RowAt W1 w.heap.size (rwC ⟨k1, n1, .slice ba1 bn1 bc1, s1, .slice la1 ln1 lc1⟩).toArray 62 := hI1.but.obj HX0.out (by omega); have x4 : W1.cell? ⟨w.heap.size, 0 + 4, none⟩ = some (.slice la1 ln1 lc1) := X1.cell (i := 4) rfl; have HZ1 := Lib.hid hz1; clear hI1 hr1 X1 b0 b1 b2 b3 b4 hz1
  go_wp2_with fail
  go_loopw [24] (fun i wr => ∃ j : Nat, j ≤ ln1 ∧ i = .int .i64 j ∧ RdI W0 w.heap.size (w.heap.size + 2) (usT x ++ (x.l.take j).flatMap usK) wr) (fun i _ => ln1 - (intOf i).toNat)
  case atStart => exact ⟨0, Nat.zero_le _, rfl, by rw [List.take_zero, List.flatMap_nil, List.append_nil]; exact HI1.out⟩
  case round =>
    obtain ⟨j, hj, rfl, hI⟩ := hrel; have HI := Lib.hid hI; by_cases hlt : j < ln1
    · have hl' : j < x.l.length := by rw [← HM1.out]; exact hlt
      have hr' : j < rows.length := by rw [Hln.out]; exact hl'
      have p1 := HP.out.but hI.but (fun k hk e => by omega)
      have hsl : Sl wr 5 (.slice la1 ln1 lc1) ln1 (rows.flatMap rwC) := by have := p1.l.1; rw [← HM1.out] at this; exact this
      obtain ⟨b, off, rfl, hr⟩ := hsl.rec_at (cells := rwC) (sz := 5) (fun _ => rfl) hlt hr'; have hk := HP.out.each.get hl' hr'; obtain ⟨rows2, q⟩ := hk.parts; have hlA := flat_take usK x.l (j + 1); have HA := Lib.hid (flat_one usK x.l hl'); rw [HA.out, List.length_append] at hlA
      have hcy : Cb.cnt x.l[j] ≤ 1000000 := by have := cnt_mem (List.getElem_mem hl'); have := HCX.out; omega
      have hsy := hk.shape; generalize rows[j] = ry at *; obtain ⟨k2, n2, ba2, bn2, bc2, s2, la2, ln2, lc2, rfl⟩ := hsy; generalize x.l[j] = y at *; obtain ⟨A, hA⟩ : ∃ A, A = usT x ++ (x.l.take j).flatMap usK := ⟨_, rfl⟩
      have hAl : A.length + (usK y).length ≤ 1000000 := by rw [hA, List.length_append]; omega
      rw [← hA] at HI hI; have hUK := Lib.hid (show usK y = usT y ++ y.l.flatMap usT from rfl); rw [hUK.out, List.length_append] at hAl
      have hadd := fun B (hb : Below wr.heap.size wr B) => rdE_c W0 wr B _ _ A y _ rows2 hI hb (by omega) (by omega) q (by omega) ⟨_, _, _, _, _, _, _, _, _, rfl⟩
      have H1662 := Lib.hid hadd; have HQ := Lib.hid q; have HAE := Lib.hid hA; have HAL := Lib.hid hAl; have Hl2 := Lib.hid (show rows2.length = y.l.length from q.each.len); obtain ⟨m2, hm2⟩ : ∃ m, m = y.l.length := ⟨_, rfl⟩; have HM2 := Lib.hid hm2
      have hl2 : ln2 = m2 := by have := q.l.1.len; obtain ⟨a, c, h⟩ := this; simp at h; omega
      subst hl2
      have hlm2 : (ln2 : Nat) ≤ 1000000 := by have := (cnt_l y).1; omega
      clear hadd q hA p1 hI hk hlA hAl hm2 hsl
      go_wp2_with (first
        | (refine wpList_load_mid rfl 62 (.tmp 26) rfl b (off + j * 5) rfl (rwC ⟨k2, n2, .slice ba2 bn2 bc2, s2, .slice la2 ln2 lc2⟩) _ hr Tryz.underlying62 rfl (by kernel_rfl) ?_)
        | (go_at_call 166; refine (H1662.out _ (below_alloc _ _)).mono ?_; rintro en W2 ⟨rfl, hI2, hz2, hr2⟩; have HI2 := Lib.hid hI2; have Y4 := (hr2 _ _ _ (Nat.le_refl _) (RowAt.new wr (rwC ⟨k2, n2, .slice ba2 bn2 bc2, s2, .slice la2 ln2 lc2⟩).toArray 62)).cell (i := 4) rfl; have y4 : W2.cell? ⟨wr.heap.size, 0 + 4, none⟩ = some (.slice la2 ln2 lc2) := Y4; have HZ2 := Lib.hid hz2; clear hI2 hr2 Y4 hz2 hr))
      go_loopw [34] (fun i wq => ∃ q : Nat, q ≤ ln2 ∧ i = .int .i64 q ∧ RdI W0 w.heap.size (w.heap.size + 2) (A ++ usT y ++ (y.l.take q).flatMap usT) wq) (fun i _ => ln2 - (intOf i).toNat)
      case atStart => exact ⟨0, Nat.zero_le _, rfl, by rw [List.take_zero, List.flatMap_nil, List.append_nil]; exact HI2.out⟩
      case round =>
        obtain ⟨q, hq, rfl, hI3⟩ := hrel; have HI3 := Lib.hid hI3; by_cases hlt2 : q < ln2
        · have hl2' : q < y.l.length := by rw [← HM2.out]; exact hlt2
          have hr2' : q < rows2.length := by rw [Hl2.out]; exact hl2'
          have q1 := HQ.out.but hI3.but (fun k hk e => by omega)
          have hsl2 : Sl wr 5 (.slice la2 ln2 lc2) ln2 (rows2.flatMap rwC) := by have := q1.l.1; rw [← HM2.out] at this; exact this
          obtain ⟨b2, off2, rfl, hr3⟩ := hsl2.rec_at (cells := rwC) (sz := 5) (fun _ => rfl) hlt2 hr2'; have hk2 := HQ.out.each.get hl2' hr2'; obtain ⟨rows3, q3⟩ := hk2.parts; have hlB := flat_take usT y.l (q + 1); have HB := Lib.hid (flat_one usT y.l hl2'); rw [HB.out, List.length_append] at hlB; have hsz := hk2.shape; generalize rows2[q] = rz at *; obtain ⟨k3, n3, ba3, bn3, bc3, s3, la3, ln3, lc3, rfl⟩ := hsz; generalize y.l[q] = z at *; obtain ⟨B, hB⟩ : ∃ B, B = A ++ usT y ++ (y.l.take q).flatMap usT := ⟨_, rfl⟩
          have hBl : B.length + (usT z).length ≤ 1000000 := by have := HAL.out; rw [hB, List.length_append, List.length_append]; omega
          rw [← hB] at HI3 hI3
          have hadd := fun D (hb : Below wr.heap.size wr D) => rdE_c W0 wr D _ _ B z _ rows3 hI3 hb (by omega) (by omega) q3 hBl ⟨_, _, _, _, _, _, _, _, _, rfl⟩
          have H1663 := Lib.hid hadd; have HBE := Lib.hid hB; clear hadd hB hsl2 hI3 hk2 q3 hlB hBl q1
          go_wp2_with (first
            | (refine wpList_load_mid rfl 62 (.tmp 36) rfl b2 (off2 + q * 5) rfl (rwC ⟨k3, n3, .slice ba3 bn3 bc3, s3, .slice la3 ln3 lc3⟩) _ hr3 Tryz.underlying62 rfl (by kernel_rfl) ?_)
            | (go_at_call 166; refine (H1663.out _ (below_alloc _ _)).mono ?_; rintro en W3 ⟨rfl, hI4, hz3, hr4⟩; have HI4 := Lib.hid hI4; clear hI4 hr4 hz3 hr3))
          go_roundw
          case rel => exact ⟨q + 1, by omega, by go_num, by rw [HB.out, ← List.append_assoc, ← HBE.out]; exact HI4.out⟩
          case measure => simp [intOf]; omega
        · obtain rfl : q = ln2 := by omega
          go_wp2_with fail
          go_roundw
          case rel =>
            refine ⟨j + 1, by omega, by go_num, ?_⟩; have h := HI3.out; rw [List.take_of_length_le (by rw [HM2.out]; exact Nat.le_refl _), List.append_assoc, ← hUK.out, HAE.out, List.append_assoc, ← HA.out] at h; exact h
          case measure => simp [intOf]; omega
    · obtain rfl : j = ln1 := by omega
      have hfull : usT x ++ (x.l.take j).flatMap usK = readU x := by rw [HRU.out, List.take_of_length_le (by rw [HM1.out]; exact Nat.le_refl _)]
      rw [hfull] at hI; clear hfull HI; obtain ⟨v, hv, hv2⟩ := hI.acc; have cl := hv.box.cell; have hro := hv.row; have hCs := hI.but.size; have hbut := hI.but; obtain ⟨av, cv, rfl⟩ := own_slice hro; obtain ⟨i5, hi5, hz5, hs5, hb5⟩ := un5
      have hr6 : (readU x).length ≤ 1000000 := by have := readU_len x; have := HCX.out; omega
      obtain ⟨U, hU⟩ : ∃ U, U = readU x := ⟨_, rfl⟩; rw [← hU] at hro hr6 hv cl hv2
      have hof : ∀ v5 n5 w5, Sl w5 1 v5 n5 (uC (U ++ [0, 0, 0, 0, 0])) → Calls Tryz.prog 149 #[v5] w5 (Ret (epV (ofA x) (ofB x)) w5) := fun v5 n5 w5 h => by
        rw [hU, HR5.out] at h; exact of1_c _ _ _ _ _ R5 v5 n5 w5 h
      have hRV := HRV.out; unfold okE at hRV
      have haB : ofA x < 4294967296 := by unfold ofA; split <;> omega
      have hbB : ofB x < 4294967296 := by unfold ofB; split <;> omega
      have hx0 : True := trivial; generalize ofA x = a at *; generalize ofB x = b at *; have H149 := Lib.hid hof; have HRO := Lib.hid hro; have HV2 := Lib.hid hv2; have HB112 := Lib.hid hbut; have HUE := Lib.hid hU; clear hof hv2 hU hI hv hbut hx0; by_cases hchk : Dig.chkP a b = 0
      · have hback := fun W => nmItem_c a b haB hbB W
        rw [if_pos hchk, hchk] at hback; rw [decide_eq_true hchk] at hRV; have HBA := Lib.hid hback; clear hchk hback; obtain ⟨sm, hsm⟩ : ∃ q, sameB x (epI a b) = q := ⟨_, rfl⟩; rw [hsm] at hRV; have HSM := Lib.hid hsm; have hit0 : Cb.cnt (epI a b) ≤ 1000000 := cnt_ep a b; have HCN := Lib.hid hit0; clear hsm hit0; obtain ⟨itm, hitm⟩ : ∃ i, epI a b = i := ⟨_, rfl⟩; rw [hitm] at HBA HSM HCN; clear hitm; cases sm
        · simp only [Bool.true_and, Bool.false_eq_true, if_false] at hRV
          have HRV2 := Lib.hid hRV; clear hRV
          go_wp2_with (first
          | (at_builtin; refine wpList_app_zeros rfl (.tmp 44) _ 112 _ rfl slU.und (Tryz.underlying3) i5 hi5 hz5 hs5 hb5 w.heap.size rfl HRO.out rfl hr6 (by omega) ?_; intro v5 w5 hown5 hgrow hat; have HSL := Lib.hid (slU5 hown5); obtain ⟨g', cap', rfl⟩ := ownsRow_succ hown5; have HB5 := Lib.hid ((HB112.out.then (But.grown (O := fun k => W0.heap.size ≤ k) hgrow (fun r e => .inl (HV2.out r e))) (fun k hk e => by omega) : But (fun k => k = w.heap.size + 2) W0 w5)); clear hown5 hgrow hat cl hro)
          | (go_at_call 149; refine (H149.out _ _ _ HSL.out).mono ?_; rintro en w6 ⟨rfl, hb6⟩; have HB6 := Lib.hid hb6; clear hb6)
          | (go_at_call 113; refine (HBA.out _).mono ?_; rintro en w8 ⟨hb8, r8, rfl, hi8⟩; have hsh8 := hi8.shape; obtain ⟨k8, n8, ba8, bn8, bc8, s8, la8, ln8, lc8, rfl⟩ := hsh8; have HB8 := Lib.hid hb8; have Z9 := ((((show RowAt w5 (w.heap.size + 1) #[.int .u32 0, .int .u32 0] 25 from HB5.out.obj HZ0.out (by omega)).below HB6.out).below (below_alloc w6 (.cells #[.int .u32 a, .int .u32 b] 25))).below HB8.out).below (below_alloc w8 (.cells (rwC ⟨k8, n8, .slice ba8 bn8 bc8, s8, .slice la8 ln8 lc8⟩).toArray 62)); have X9 := ((((show RowAt w5 w.heap.size (rwC ⟨k1, n1, .slice ba1 bn1 bc1, s1, .slice la1 j lc1⟩).toArray 62 from HB5.out.obj HX0.out (by omega)).below HB6.out).below (below_alloc w6 (.cells #[.int .u32 a, .int .u32 b] 25))).below HB8.out).below (below_alloc w8 (.cells (rwC ⟨k8, n8, .slice ba8 bn8 bc8, s8, .slice la8 ln8 lc8⟩).toArray 62)); have T9 := ((RowAt.new w6 #[.int .u32 a, .int .u32 b] 25).below HB8.out).below (below_alloc w8 (.cells (rwC ⟨k8, n8, .slice ba8 bn8 bc8, s8, .slice la8 ln8 lc8⟩).toArray 62)); have x0 := X9.cell (i := 0) rfl; have x1 := X9.cell (i := 1) rfl; have x2 := X9.cell (i := 2) rfl; have x3 := X9.cell (i := 3) rfl; have x5 := X9.cell (i := 4) rfl; have hsz8 := hb8.size; have hit9 := (hi8.up (below_alloc w8 (.cells (rwC ⟨k8, n8, .slice ba8 bn8 bc8, s8, .slice la8 ln8 lc8⟩).toArray 62))).mono (S' := fun k => k < w8.heap.size) (fun k e => e.2); have hx9 := (((((HX.out.up HB0.out).but HB5.out (fun k hk e => by omega)).up HB6.out).up (below_alloc w6 (.cells #[.int .u32 a, .int .u32 b] 25))).up HB8.out).up (below_alloc w8 (.cells (rwC ⟨k8, n8, .slice ba8 bn8 bc8, s8, .slice la8 ln8 lc8⟩).toArray 62)); have hss := HB0.out.size; have hs5 := HB5.out.size; have hs6 := HB6.out.size; have hs8 : w6.heap.size + 1 ≤ w8.heap.size := (by have := HB8.out.size; simpa using this); have hsame := cbSame_c (fun k => k < w8.heap.size) x itm _ _ _ (hx9.mono (S' := fun k => k < w8.heap.size) (fun k e => by omega)) hit9 HCX.out HCN.out; rw [HSM.out] at hsame; have HSA := Lib.hid (fun (_ : Unit) => hsame); have HZ9 := Lib.hid Z9; have HT9 := Lib.hid T9; clear hb8 hi8 Z9 T9 X9 hsz8 hit9 hx9 hss hs5 hs6 hs8 hsame)
          | (go_at_call 156; refine (HSA.out ()).mono ?_; rintro en w10 ⟨rfl, hb10⟩; have HB10 := Lib.hid hb10; have Z10 := HZ9.out.below hb10; have T10 := HT9.out.below hb10; have z0 := Z10.cell (i := 0) rfl; have f0 := Z10.fz 0; have z1 := Z10.cell (i := 1) rfl; have f1 := Z10.fz 1; have t0 := T10.cell (i := 0) rfl; have t1 := T10.cell (i := 1) rfl; have HZ10 := Lib.hid Z10; clear hb10 Z10 T10)
          | fail)
          have hZ := (HZ10.out.set 0 (.int .u32 0)).set 1 (.int .u32 0); have g0 := RowAt.cell hZ (i := 0) (v := .int .u32 0) rfl; have g1 := RowAt.cell hZ (i := 1) (v := .int .u32 0) rfl; refine bodyPost_ret (v := .tuple #[epV 0 0, .int .i64 130]) (by simp [results, Tryz.results148, go_sem, g0, g1]) rfl ?_; exact ⟨by rw [HRV2.out], But.below (O := fun k => w.heap.size ≤ k) ((But.of_below HB0.out).trans ((HB5.out.mono (fun k _ e => by omega)).trans ((But.of_below HB6.out).trans ((But.of_below (below_alloc _ _)).trans ((But.of_below HB8.out).trans ((But.of_below (below_alloc _ _)).trans ((But.of_below HB10.out).trans ((But.setCell _ _ _ (by simp)).trans ((But.setCell _ _ _ (by simp))))))))))) (fun k e => e) (Nat.le_refl _)⟩
        · simp only [Bool.true_and, if_true] at hRV
          have HRV2 := Lib.hid hRV; clear hRV
          go_wp2_with (first
          | (at_builtin; refine wpList_app_zeros rfl (.tmp 44) _ 112 _ rfl slU.und (Tryz.underlying3) i5 hi5 hz5 hs5 hb5 w.heap.size rfl HRO.out rfl hr6 (by omega) ?_; intro v5 w5 hown5 hgrow hat; have HSL := Lib.hid (slU5 hown5); obtain ⟨g', cap', rfl⟩ := ownsRow_succ hown5; have HB5 := Lib.hid ((HB112.out.then (But.grown (O := fun k => W0.heap.size ≤ k) hgrow (fun r e => .inl (HV2.out r e))) (fun k hk e => by omega) : But (fun k => k = w.heap.size + 2) W0 w5)); clear hown5 hgrow hat cl hro)
          | (go_at_call 149; refine (H149.out _ _ _ HSL.out).mono ?_; rintro en w6 ⟨rfl, hb6⟩; have HB6 := Lib.hid hb6; clear hb6)
          | (go_at_call 113; refine (HBA.out _).mono ?_; rintro en w8 ⟨hb8, r8, rfl, hi8⟩; have hsh8 := hi8.shape; obtain ⟨k8, n8, ba8, bn8, bc8, s8, la8, ln8, lc8, rfl⟩ := hsh8; have HB8 := Lib.hid hb8; have Z9 := ((((show RowAt w5 (w.heap.size + 1) #[.int .u32 0, .int .u32 0] 25 from HB5.out.obj HZ0.out (by omega)).below HB6.out).below (below_alloc w6 (.cells #[.int .u32 a, .int .u32 b] 25))).below HB8.out).below (below_alloc w8 (.cells (rwC ⟨k8, n8, .slice ba8 bn8 bc8, s8, .slice la8 ln8 lc8⟩).toArray 62)); have X9 := ((((show RowAt w5 w.heap.size (rwC ⟨k1, n1, .slice ba1 bn1 bc1, s1, .slice la1 j lc1⟩).toArray 62 from HB5.out.obj HX0.out (by omega)).below HB6.out).below (below_alloc w6 (.cells #[.int .u32 a, .int .u32 b] 25))).below HB8.out).below (below_alloc w8 (.cells (rwC ⟨k8, n8, .slice ba8 bn8 bc8, s8, .slice la8 ln8 lc8⟩).toArray 62)); have T9 := ((RowAt.new w6 #[.int .u32 a, .int .u32 b] 25).below HB8.out).below (below_alloc w8 (.cells (rwC ⟨k8, n8, .slice ba8 bn8 bc8, s8, .slice la8 ln8 lc8⟩).toArray 62)); have x0 := X9.cell (i := 0) rfl; have x1 := X9.cell (i := 1) rfl; have x2 := X9.cell (i := 2) rfl; have x3 := X9.cell (i := 3) rfl; have x5 := X9.cell (i := 4) rfl; have hsz8 := hb8.size; have hit9 := (hi8.up (below_alloc w8 (.cells (rwC ⟨k8, n8, .slice ba8 bn8 bc8, s8, .slice la8 ln8 lc8⟩).toArray 62))).mono (S' := fun k => k < w8.heap.size) (fun k e => e.2); have hx9 := (((((HX.out.up HB0.out).but HB5.out (fun k hk e => by omega)).up HB6.out).up (below_alloc w6 (.cells #[.int .u32 a, .int .u32 b] 25))).up HB8.out).up (below_alloc w8 (.cells (rwC ⟨k8, n8, .slice ba8 bn8 bc8, s8, .slice la8 ln8 lc8⟩).toArray 62)); have hss := HB0.out.size; have hs5 := HB5.out.size; have hs6 := HB6.out.size; have hs8 : w6.heap.size + 1 ≤ w8.heap.size := (by have := HB8.out.size; simpa using this); have hsame := cbSame_c (fun k => k < w8.heap.size) x itm _ _ _ (hx9.mono (S' := fun k => k < w8.heap.size) (fun k e => by omega)) hit9 HCX.out HCN.out; rw [HSM.out] at hsame; have HSA := Lib.hid (fun (_ : Unit) => hsame); have HZ9 := Lib.hid Z9; have HT9 := Lib.hid T9; clear hb8 hi8 Z9 T9 X9 hsz8 hit9 hx9 hss hs5 hs6 hs8 hsame)
          | (go_at_call 156; refine (HSA.out ()).mono ?_; rintro en w10 ⟨rfl, hb10⟩; have HB10 := Lib.hid hb10; have Z10 := HZ9.out.below hb10; have T10 := HT9.out.below hb10; have z0 := Z10.cell (i := 0) rfl; have f0 := Z10.fz 0; have z1 := Z10.cell (i := 1) rfl; have f1 := Z10.fz 1; have t0 := T10.cell (i := 0) rfl; have t1 := T10.cell (i := 1) rfl; have HZ10 := Lib.hid Z10; clear hb10 Z10 T10)
          | fail)
          have hZ := (HZ10.out.set 0 (.int .u32 a)).set 1 (.int .u32 b); have g0 := RowAt.cell hZ (i := 0) (v := .int .u32 a) rfl; have g1 := RowAt.cell hZ (i := 1) (v := .int .u32 b) rfl; refine bodyPost_ret (v := .tuple #[epV a b, .int .i64 0]) (by simp [results, Tryz.results148, go_sem, g0, g1]) rfl ?_; exact ⟨by rw [HRV2.out], But.below (O := fun k => w.heap.size ≤ k) ((But.of_below HB0.out).trans ((HB5.out.mono (fun k _ e => by omega)).trans ((But.of_below HB6.out).trans ((But.of_below (below_alloc _ _)).trans ((But.of_below HB8.out).trans ((But.of_below (below_alloc _ _)).trans ((But.of_below HB10.out).trans ((But.setCell _ _ _ (by simp)).trans ((But.setCell _ _ _ (by simp))))))))))) (fun k e => e) (Nat.le_refl _)⟩
      · have hback := fun W => nmItem_c a b haB hbB W
        rw [if_neg hchk] at hback; rw [decide_eq_false hchk] at hRV; obtain ⟨e, he⟩ : ∃ e, Dig.chkP a b = e := ⟨_, rfl⟩; rw [he] at hback hchk; have HBA := Lib.hid hback
        have hne : (e == 0) = false := by simpa using hchk
        clear hback he; simp only [Bool.false_and, Bool.false_eq_true, if_false] at hRV; have HRV2 := Lib.hid hRV; clear hRV
        go_wp2_with (first
          | (at_builtin; refine wpList_app_zeros rfl (.tmp 44) _ 112 _ rfl slU.und (Tryz.underlying3) i5 hi5 hz5 hs5 hb5 w.heap.size rfl HRO.out rfl hr6 (by omega) ?_; intro v5 w5 hown5 hgrow hat; have HSL := Lib.hid (slU5 hown5); obtain ⟨g', cap', rfl⟩ := ownsRow_succ hown5; have HB5 := Lib.hid ((HB112.out.then (But.grown (O := fun k => W0.heap.size ≤ k) hgrow (fun r e => .inl (HV2.out r e))) (fun k hk e => by omega) : But (fun k => k = w.heap.size + 2) W0 w5)); clear hown5 hgrow hat cl hro)
          | (go_at_call 149; refine (H149.out _ _ _ HSL.out).mono ?_; rintro en w6 ⟨rfl, hb6⟩; have HB6 := Lib.hid hb6; clear hb6)
          | (go_at_call 113; refine (HBA.out _).mono ?_; rintro en w8 ⟨hb8, r8, rfl, hi8⟩; have hsh8 := hi8.shape; obtain ⟨k8, n8, ba8, bn8, bc8, s8, la8, ln8, lc8, rfl⟩ := hsh8; have HB8 := Lib.hid hb8; have Z9 := ((((show RowAt w5 (w.heap.size + 1) #[.int .u32 0, .int .u32 0] 25 from HB5.out.obj HZ0.out (by omega)).below HB6.out).below (below_alloc w6 (.cells #[.int .u32 a, .int .u32 b] 25))).below HB8.out).below (below_alloc w8 (.cells (rwC ⟨k8, n8, .slice ba8 bn8 bc8, s8, .slice la8 ln8 lc8⟩).toArray 62)); have z0 := Z9.cell (i := 0) rfl; have f0 := Z9.fz 0; have z1 := Z9.cell (i := 1) rfl; have f1 := Z9.fz 1; have HZ9 := Lib.hid Z9; clear hb8 hi8 Z9)
          | fail)
        have hZ := (HZ9.out.set 0 (.int .u32 0)).set 1 (.int .u32 0); have g0 := RowAt.cell hZ (i := 0) (v := .int .u32 0) rfl; have g1 := RowAt.cell hZ (i := 1) (v := .int .u32 0) rfl; refine bodyPost_ret (v := .tuple #[epV 0 0, .int .i64 130]) (by simp [results, Tryz.results148, go_sem, g0, g1]) rfl ?_; exact ⟨by rw [HRV2.out], But.below (O := fun k => w.heap.size ≤ k) ((But.of_below HB0.out).trans ((HB5.out.mono (fun k _ e => by omega)).trans ((But.of_below HB6.out).trans ((But.of_below (below_alloc _ _)).trans ((But.of_below HB8.out).trans ((But.of_below (below_alloc _ _)).trans ((But.setCell _ _ _ (by simp)).trans ((But.setCell _ _ _ (by simp)))))))))) (fun k e => e) (Nat.le_refl _)⟩
end Go.Proofs.YtpkonagjnfphkaaGreatDoor
