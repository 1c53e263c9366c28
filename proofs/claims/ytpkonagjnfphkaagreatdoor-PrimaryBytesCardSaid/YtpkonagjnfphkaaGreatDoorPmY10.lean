/-
  CbIq, CbRg, CbHg, CbS, RangeP: several texts in one (bundle.py).
-/
import Derived.Test.YtpkonagjnfphkaaGreatDoorPmY08
import Derived.Test.YtpkonagjnfphkaaGreatDoorPmY09
import Derived.Test.YtpkonagjnfphkaaGreatDoorPmY07
import Derived.Test.YtpkonagjnfphkaaGreatDoorPmY04
import Derived.Test.YtpkonagjnfphkaaGreatDoorPmY05
import Derived.RangeFuncLeaves
set_option linter.unusedSimpArgs false
set_option linter.unusedVariables false
set_option maxRecDepth 100000
set_option maxHeartbeats 2000000
namespace Go.Proofs.YtpkonagjnfphkaaGreatDoor
open Go.RowKit Cb
namespace Cb
theorem headOk_take {b : List UInt8} {m n : Int} {k : Nat} (h : headOk b m n k = true) : b.take k = headB m n ∧ (headB m n).length = k ∧ k ≤ b.length := by
  unfold headOk Oct.beginsB at h; simp only [Bool.and_eq_true, decide_eq_true_eq] at h; obtain ⟨⟨h1, h2⟩, h3⟩ := h; rw [h3] at h1 h2; exact ⟨h2, h3, h1⟩
theorem headP_some {b : List UInt8} {m n : Int} {k : Nat} (h : headP b = some (m, n, k)) : (0 ≤ m ∧ m ≤ 7) ∧ (0 ≤ n ∧ n ≤ 18446744073709551615) ∧ 1 ≤ k ∧ k ≤ b.length ∧ b.take k = headB m n ∧ (headB m n).length = k := by
  unfold headP at h
  cases b with
  | nil => simp at h
  | cons f r =>
    simp only at h; have hF := f.toNat_lt
    cases hn : headN (f.toNat % 32) r with
    | none => rw [hn] at h; simp at h
    | some p =>
      obtain ⟨n', k'⟩ := p; rw [hn] at h; simp only at h; split at h
      · rename_i ho
        simp only [Option.some.injEq, Prod.mk.injEq] at h; obtain ⟨rfl, rfl, rfl⟩ := h; obtain ⟨h1, h2, h3⟩ := headOk_take ho; have := headB_len ((f.toNat / 32 : Nat) : Int) n'; refine ⟨⟨by omega, by omega⟩, ?_, by omega, h3, h1, h2⟩; unfold headN at hn; split at hn
        · simp only [Option.some.injEq, Prod.mk.injEq] at hn
          omega
        · split at hn
          · cases hn
          · split at hn
            · cases hn
            · rename_i hw hx hl
              simp only [Option.some.injEq, Prod.mk.injEq] at hn; obtain ⟨hn1, hn2⟩ := hn; have hp : 2 ^ (f.toNat % 32 - 24) ≤ 2 ^ 3 := Nat.pow_le_pow_right (by decide) (by omega); have hb := getV_b (r.take (2 ^ (f.toNat % 32 - 24))) (by rw [List.length_take]; omega); rw [← hn1]; exact hb
      · cases h
theorem listP_some {f : List UInt8 → Except Int (It × Nat)} (hf : ∀ b x k, f b = .ok (x, k) → 1 ≤ k ∧ k ≤ b.length) : ∀ (n : Nat) (b : List UInt8) (l : List It) (c : Nat), listP f n b = .ok (l, c) → l.length = n ∧ n ≤ c ∧ c ≤ b.length := by
  intro n
  induction n with
  | zero => intro b l c h; simp only [listP, Except.ok.injEq, Prod.mk.injEq] at h; obtain ⟨rfl, rfl⟩ := h; simp
  | succ n ih =>
    intro b l c h; simp only [listP] at h
    cases hx : f b with
    | error e => rw [hx] at h; cases h
    | ok p =>
      obtain ⟨x, k⟩ := p; rw [hx] at h; simp only at h
      cases hy : listP f n (b.drop k) with
      | error e => rw [hy] at h; cases h
      | ok q =>
        obtain ⟨l', j⟩ := q; rw [hy] at h; simp only [Except.ok.injEq, Prod.mk.injEq] at h; obtain ⟨rfl, rfl⟩ := h; have h1 := hf _ _ _ hx; have h2 := ih _ _ _ hy; rw [List.length_drop] at h2; rw [List.length_cons]; omega
theorem simpleP_some {b : List UInt8} {x : It} (h : simpleP b = some x) : 1 ≤ b.length := by
  cases b with
  | nil => cases h
  | cons f r => simp
theorem bodyP_some {f : List UInt8 → Except Int (It × Nat)} (hf : ∀ b x k, f b = .ok (x, k) → 1 ≤ k ∧ k ≤ b.length) {m n : Int} {k : Nat} {r : List UInt8} (h0 : 0 ≤ n) {x : It} {j : Nat} (h : bodyP f m n k r = .ok (x, j)) : k ≤ j ∧ j ≤ k + r.length := by
  unfold bodyP at h; split at h
  · simp only [Except.ok.injEq, Prod.mk.injEq] at h; omega
  · split at h
    · split at h
      · simp only [Except.ok.injEq, Prod.mk.injEq] at h; omega
      · cases h
    · split at h
      · split at h
        · simp only [Except.ok.injEq, Prod.mk.injEq] at h; omega
        · cases h
      · split at h
        · cases hl : listP f n.toNat r with
          | error e => rw [hl] at h; cases h
          | ok q =>
            obtain ⟨l, c⟩ := q; rw [hl] at h; simp only [Except.ok.injEq, Prod.mk.injEq] at h; have := listP_some hf _ _ _ _ hl; omega
        · cases h
theorem itemP_some : ∀ (d : Nat) (b : List UInt8) (x : It) (k : Nat), itemP d b = .ok (x, k) → 1 ≤ k ∧ k ≤ b.length := by
  intro d
  induction d with
  | zero => intro b x k h; cases h
  | succ d ih =>
    intro b x k h; simp only [itemP] at h
    cases hs : simpleP b with
    | some y =>
      rw [hs] at h; have := simpleP_some hs; simp only [Except.ok.injEq, Prod.mk.injEq] at h; omega
    | none =>
      rw [hs] at h; simp only at h
      cases hh : headP b with
      | none => rw [hh] at h; cases h
      | some p =>
        obtain ⟨m, n, j⟩ := p; rw [hh] at h; simp only at h; have h1 := headP_some hh; have h2 := bodyP_some ih h1.2.1.1 h; rw [List.length_drop] at h2; omega
theorem listP_snoc {f : List UInt8 → Except Int (It × Nat)} : ∀ (n : Nat) (b : List UInt8) (l : List It) (c : Nat) (x : It) (k : Nat), listP f n b = .ok (l, c) → f (b.drop c) = .ok (x, k) → listP f (n + 1) b = .ok (l ++ [x], c + k) := by
  intro n
  induction n with
  | zero =>
    intro b l c x k h hx; simp only [listP, Except.ok.injEq, Prod.mk.injEq] at h; obtain ⟨rfl, rfl⟩ := h; rw [List.drop_zero] at hx; simp [listP, hx]
  | succ n ih =>
    intro b l c x k h hx; rw [listP] at h
    cases hy : f b with
    | error e => rw [hy] at h; cases h
    | ok p =>
      obtain ⟨y, j⟩ := p; rw [hy] at h; simp only at h
      cases hz : listP f n (b.drop j) with
      | error e => rw [hz] at h; cases h
      | ok q =>
        obtain ⟨l', i⟩ := q; rw [hz] at h; simp only [Except.ok.injEq, Prod.mk.injEq] at h; obtain ⟨rfl, rfl⟩ := h; have := ih (b.drop j) l' i x k hz (by rw [List.drop_drop]; exact hx); rw [listP, hy]; simp only; rw [this]; simp [Nat.add_assoc]
theorem listP_err {f : List UInt8 → Except Int (It × Nat)} : ∀ (n m : Nat) (b : List UInt8) (l : List It) (c : Nat) (e : Int), listP f n b = .ok (l, c) → f (b.drop c) = .error e → n < m → listP f m b = .error e := by
  intro n
  induction n with
  | zero =>
    intro m b l c e h hx hm; simp only [listP, Except.ok.injEq, Prod.mk.injEq] at h; obtain ⟨rfl, rfl⟩ := h; rw [List.drop_zero] at hx; obtain ⟨m, rfl⟩ : ∃ j, m = j + 1 := ⟨m - 1, by omega⟩; simp [listP, hx]
  | succ n ih =>
    intro m b l c e h hx hm; obtain ⟨m, rfl⟩ : ∃ j, m = j + 1 := ⟨m - 1, by omega⟩; rw [listP] at h
    cases hy : f b with
    | error e => rw [hy] at h; cases h
    | ok p =>
      obtain ⟨y, j⟩ := p; rw [hy] at h; simp only at h
      cases hz : listP f n (b.drop j) with
      | error e => rw [hz] at h; cases h
      | ok q =>
        obtain ⟨l', i⟩ := q; rw [hz] at h; simp only [Except.ok.injEq, Prod.mk.injEq] at h; obtain ⟨rfl, rfl⟩ := h; have := ih m (b.drop j) l' i e hz (by rw [List.drop_drop]; exact hx) (by omega); rw [listP, hy]; simp only; rw [this]
theorem begins_one (b : List UInt8) (c : UInt8) : Oct.beginsB b [c] = true ↔ ∃ r, b = c :: r := by
  unfold Oct.beginsB
  cases b with
  | nil => simp
  | cons f r => simp
theorem simpleP_none {b : List UInt8} (h : ∀ j : Nat, j < 3 → Oct.beginsB b [UInt8.ofNat (244 + j)] = false) : simpleP b = none := by
  cases b with
  | nil => rfl
  | cons f r =>
    have h0 := h 0 (by decide); have h1 := h 1 (by decide); have h2 := h 2 (by decide); rw [Bool.eq_false_iff, Ne, begins_one] at h0 h1 h2; simp only [simpleP]; rw [if_neg (fun e : f = 244 => h0 ⟨r, by rw [e]; rfl⟩), if_neg (fun e : f = 245 => h1 ⟨r, by rw [e]; rfl⟩), if_neg (fun e : f = 246 => h2 ⟨r, by rw [e]; rfl⟩)]
theorem simpleP_at (b : List UInt8) (k : Nat) (hk : k < 3) (h : Oct.beginsB b [UInt8.ofNat (244 + k)] = true) : simpleP b = some (if k = 0 then .mk 5 0 [] noS [] else if k = 1 then .mk 5 1 [] noS [] else .mk 6 0 [] noS []) := by
  rw [begins_one] at h; obtain ⟨r, rfl⟩ := h
  have : k = 0 ∨ k = 1 ∨ k = 2 := by omega
  rcases this with rfl | rfl | rfl <;> simp [simpleP] <;> decide
end Cb
theorem headOk_low (f : UInt8) (r : List UInt8) (hl : f.toNat % 32 < 24) : headP (f :: r) = some (((f.toNat / 32 : Nat) : Int), ((f.toNat % 32 : Nat) : Int), 1) := by
  have hF := f.toNat_lt
  have hone : headB ((f.toNat / 32 : Nat) : Int) ((f.toNat % 32 : Nat) : Int) = [f] := by
    rw [headB_small (by omega), show (((f.toNat / 32 : Nat) : Int) * 32 + ((f.toNat % 32 : Nat) : Int)).toNat = f.toNat by omega]; simp
  have hok : headOk (f :: r) ((f.toNat / 32 : Nat) : Int) ((f.toNat % 32 : Nat) : Int) 1 = true := by unfold headOk; rw [hone]; simp [Oct.beginsB]
  simp only [headP, headN, if_pos hl, hok, if_true]
theorem headOk_iff {b : List UInt8} {m n : Int} {k : Nat} (hk : k ≤ b.length) : headOk b m n k = decide (headB m n = b.take k) := by
  rw [Bool.eq_iff_iff, decide_eq_true_eq]; constructor
  · intro h; exact (headOk_take h).1.symm
  · intro h
    have hl : (headB m n).length = k := by rw [h, List.length_take]; omega
    unfold headOk Oct.beginsB; simp only [Bool.and_eq_true, decide_eq_true_eq]; exact ⟨⟨by omega, by rw [hl]; exact h.symm⟩, hl⟩
theorem readHead_c (w : World) (D : Nat) (v : Value) (b : List UInt8) (h : RdAt w D v b) (hbl : b.length ≤ 1000000) :
    Calls Tryz.prog 146 #[.pointer (some ⟨D, 0, none⟩)] w (HdE b w D) := by
  cases b with
  | nil => exact hd_nil w D v h
  | cons f r =>
    by_cases h1 : f.toNat % 32 < 24
    · exact hd_low w D v f r h hbl h1
    · by_cases h2 : 28 ≤ f.toNat % 32
      · exact hd_far w D v f r h hbl h2
      · have hc : f.toNat % 32 = 24 ∨ f.toNat % 32 = 25 ∨ f.toNat % 32 = 26 ∨ f.toNat % 32 = 27 := by omega
        rcases hc with e | e | e | e
        · by_cases hs : r.length < 1
          · exact hd_short0 w D v f r h hbl e hs
          · exact hd_big0 w D v f r h hbl e (by omega)
        · by_cases hs : r.length < 2
          · exact hd_short1 w D v f r h hbl e hs
          · exact hd_big1 w D v f r h hbl e (by omega)
        · by_cases hs : r.length < 4
          · exact hd_short2 w D v f r h hbl e hs
          · exact hd_big2 w D v f r h hbl e (by omega)
        · by_cases hs : r.length < 8
          · exact hd_short3 w D v f r h hbl e hs
          · exact hd_big3 w D v f r h hbl e (by omega)
namespace Cb
mutual
def sameB : It → It → Bool
  | .mk k n b s l, .mk k' n' b' s' l' => (k == k') && ((n == n') && (decide (b = b') && (decide (s = s') && sameL l l')))
def sameL : List It → List It → Bool
  | [], [] => true
  | x :: l, y :: m => sameB x y && sameL l m
  | [], _ :: _ => false
  | _ :: _, [] => false
end
theorem sameL_iff : ∀ (l m : List It), (∀ x ∈ l, ∀ y, sameB x y = true ↔ x = y) → (sameL l m = true ↔ l = m)
  | [], [], _ => by simp [sameL]
  | x :: l, y :: m, h => by
    have h1 := h x (by simp) y; have h2 := sameL_iff l m (fun z hz => h z (by simp [hz])); simp only [sameL, Bool.and_eq_true, h1, h2, List.cons.injEq]
  | [], _ :: _, _ => by simp [sameL]
  | _ :: _, [], _ => by simp [sameL]
theorem sameB_iff (x : It) : ∀ y, sameB x y = true ↔ x = y := by
  induction x using It.ind with
  | h x ih =>
    intro y
    cases x with
    | mk k n b s l =>
      cases y with
      | mk k' n' b' s' l' =>
        have := sameL_iff l l' ih; simp only [sameB, Bool.and_eq_true, beq_iff_eq, decide_eq_true_eq, this, It.mk.injEq]
theorem sameB_refl (x : It) : sameB x x = true := (sameB_iff x x).2 rfl
theorem sameB_parts (x y : It) : sameB x y = ((x.k == y.k) && ((x.n == y.n) && (decide (x.b = y.b) && (decide (x.s = y.s) && sameL x.l y.l)))) := by
  cases x; cases y; rfl
theorem sameL_len {l m : List It} (h : l.length ≠ m.length) : sameL l m = false := by
  cases hs : sameL l m with
  | false => rfl
  | true => exact absurd (congrArg List.length ((sameL_iff l m (fun x _ y => sameB_iff x y)).1 hs)) h
end Cb
theorem ItR.shape {S : Nat → Prop} {w : World} {x : It} {r : Rw} (h : ItR S w x r) : ∃ k n ba bn bc s la ln lc, r = ⟨k, n, .slice ba bn bc, s, .slice la ln lc⟩ := by
  obtain ⟨rows, p⟩ := h.parts; obtain ⟨a, c, hb⟩ := p.b.cell; obtain ⟨a2, c2, hl⟩ := p.l.cell; obtain ⟨k, n, b, s, l⟩ := r; subst hb; subst hl; exact ⟨_, _, _, _, _, _, _, _, _, rfl⟩
abbrev SameC (S : Nat → Prop) (x : It) : Prop := ∀ (y : It) (r t : Rw) (w : World), ItR S w x r → ItR S w y t → cnt x ≤ 1000000 → cnt y ≤ 1000000 → Calls Tryz.prog 156 #[rwV r, rwV t] w (Ret (.bool (sameB x y)) w)
theorem equalFI_c (S : Nat → Prop) (l m : List It) (hp : ∀ x ∈ l, SameC S x) (u v : Value) (n k : Nat) (rows rows2 : List Rw) (w : World) (hu : SlS S w 5 u n (rows.flatMap rwC)) (hv : SlS S w 5 v k (rows2.flatMap rwC)) (hl : ItsR S w l rows) (hm : ItsR S w m rows2) (hcl : cntL l ≤ 1000000) (hcm : cntL m ≤ 1000000) :
    Calls Tryz.prog 177 #[u, v, .func (.func 156) #[] #[]] w (Ret (.bool (sameL l m)) w) := by
  have Hrn := Lib.hid (show rows.length = n from Sl.recs (cells := rwC) (sz := 5) (fun _ => rfl) (by decide) hu.1); have Hrk := Lib.hid (show rows2.length = k from Sl.recs (cells := rwC) (sz := 5) (fun _ => rfl) (by decide) hv.1); have Hln := Lib.hid (show l.length = n by rw [← hl.len]; exact Hrn.out); have Hmk := Lib.hid (show m.length = k by rw [← hm.len]; exact Hrk.out)
  have hn : n ≤ 1000000 := by have := cntL_len l; have := Hln.out; omega
  have hk : k ≤ 1000000 := by have := cntL_len m; have := Hmk.out; omega
  obtain ⟨a, c, rfl⟩ := hu.1.len; obtain ⟨a2, c2, rfl⟩ := hv.1.len; obtain ⟨R, hR⟩ : ∃ R, R = sameL l m := ⟨_, rfl⟩; rw [← hR]; have hlm := sameL_iff l m (fun x _ y => sameB_iff x y); have HR := Lib.hid hR; have HLM := Lib.hid hlm; clear hR hlm; by_cases hnk : n = k
  · subst hnk
    go_enter Tryz.func177, Tryz.ntmps177; go_wp2
    go_loopw [17] (fun i wr => ∃ j : Nat, j ≤ n ∧ i = .int .i64 j ∧ RowKit.Hid (l.take j = m.take j) ∧ Below w.heap.size w wr) (fun i _ => n - (intOf i).toNat)
    case atStart => exact ⟨0, Nat.zero_le _, rfl, Lib.hid rfl, Below.refl _ _⟩
    case round =>
      obtain ⟨j, hj, rfl, Hsame, hB⟩ := hrel; have HB := Lib.hid hB; by_cases hlt : j < n
      · have hl' : j < l.length := by rw [Hln.out]; exact hlt
        have hm' : j < m.length := by rw [Hmk.out]; exact hlt
        have hr' : j < rows.length := by rw [Hrn.out]; exact hlt
        have hq' : j < rows2.length := by rw [Hrk.out]; exact hlt
        obtain ⟨b, off, rfl, hr⟩ := (hu.1.up hB).rec_at (cells := rwC) (sz := 5) (fun _ => rfl) hlt hr'; obtain ⟨b2, off2, rfl, hr2⟩ := (hv.1.up hB).rec_at (cells := rwC) (sz := 5) (fun _ => rfl) hlt hq'; have hs1 : l.take (j + 1) = l.take j ++ [l[j]] := List.take_succ_eq_append_getElem hl'; have hs2 : m.take (j + 1) = m.take j ++ [m[j]] := List.take_succ_eq_append_getElem hm'; have Hs := Lib.hid (fun h : l[j] = m[j] => show l.take (j + 1) = m.take (j + 1) by rw [hs1, hs2, h, Hsame.out])
        have Hno := Lib.hid (fun h : ¬ l[j] = m[j] => show R = false by
          rw [HR.out, Bool.eq_false_iff]; intro e; have := HLM.out.1 e; subst this
          exact h rfl)
        clear hs1 hs2 hB
        have hc1 : cnt l[j] ≤ 1000000 := by have := cntL_mem (List.getElem_mem hl'); omega
        have hc2 : cnt m[j] ≤ 1000000 := by have := cntL_mem (List.getElem_mem hm'); omega
        have hr2' := rangeAt_up (below_alloc wr (.cells (rwC rows[j]).toArray 62)) hr2; have hbq : Below w.heap.size w ((wr.alloc (.cells (rwC rows[j]).toArray 62)).alloc (.cells (rwC rows2[j]).toArray 62)) := (HB.out.alloc HB.out.size _).alloc (by have := HB.out.size; simp; omega) _; have hcl := hp l[j] (List.getElem_mem hl') m[j] rows[j] rows2[j] _ ((hl.get hl' hr').up hbq) ((hm.get hm' hq').up hbq) hc1 hc2; have Hbq := Lib.hid hbq; clear hbq hc1 hc2; have hxe := sameB_iff l[j] m[j]; generalize sameB l[j] m[j] = z at hcl hxe; have hsx := (hl.get hl' hr').shape; have hsy := (hm.get hm' hq').shape; generalize rows[j] = rx at *; generalize rows2[j] = ry at *; obtain ⟨k1, n1, ba1, bn1, bc1, s1, la1, ln1, lc1, rfl⟩ := hsx; obtain ⟨k2, n2, ba2, bn2, bc2, s2, la2, ln2, lc2, rfl⟩ := hsy; generalize l[j] = x at *; generalize m[j] = y at *
        cases z
        · have HRf := Lib.hid (Hno.out (fun h => by simpa using hxe.2 h))
          clear hxe Hs Hno
          go_wp2_with (first
            | (refine wpList_load_mid rfl 62 (.tmp 20) rfl b (off + j * 5) rfl (rwC ⟨k1, n1, .slice ba1 bn1 bc1, s1, .slice la1 ln1 lc1⟩) _ hr Tryz.underlying62 rfl (by kernel_rfl) ?_)
            | (refine wpList_load_mid rfl 62 (.tmp 24) rfl b2 (off2 + j * 5) rfl (rwC ⟨k2, n2, .slice ba2 bn2 bc2, s2, .slice la2 ln2 lc2⟩) _ hr2' Tryz.underlying62 rfl (by kernel_rfl) ?_)
            | (go_at_call 156; refine hcl.mono ?_; rintro en w1 ⟨rfl, hb⟩))
          go_ret; exact ⟨retB HRf.out.symm, below_up Hbq.out hb⟩
        · have Hst := Lib.hid (Hs.out (hxe.1 rfl))
          clear hxe Hs Hno
          go_wp2_with (first
            | (refine wpList_load_mid rfl 62 (.tmp 20) rfl b (off + j * 5) rfl (rwC ⟨k1, n1, .slice ba1 bn1 bc1, s1, .slice la1 ln1 lc1⟩) _ hr Tryz.underlying62 rfl (by kernel_rfl) ?_)
            | (refine wpList_load_mid rfl 62 (.tmp 24) rfl b2 (off2 + j * 5) rfl (rwC ⟨k2, n2, .slice ba2 bn2 bc2, s2, .slice la2 ln2 lc2⟩) _ hr2' Tryz.underlying62 rfl (by kernel_rfl) ?_)
            | (go_at_call 156; refine hcl.mono ?_; rintro en w1 ⟨rfl, hb⟩))
          go_roundw
          case rel => exact ⟨j + 1, by omega, by go_num, Hst, below_up Hbq.out hb⟩
          case measure => simp [intOf]; omega
      · obtain rfl : j = n := by omega
        have HRt : R = true := by
          rw [HR.out, HLM.out]; have := Hsame.out
          rwa [List.take_of_length_le (by rw [Hln.out]; exact Nat.le_refl _), List.take_of_length_le (by rw [Hmk.out]; exact Nat.le_refl _)] at this
        go_wp2; go_ret; exact ⟨retB HRt.symm, HB.out⟩
  · have hne : ¬ ((n : Int) = (k : Int)) := by omega
    have HRf : R = false := by
      rw [HR.out]; exact sameL_len (by rw [Hln.out, Hmk.out]; exact hnk)
    go_enter Tryz.func177, Tryz.ntmps177; go_wp2; go_ret; exact ⟨retB HRf.symm, Below.refl _ _⟩
theorem cbSame_c (S : Nat → Prop) (x : It) : SameC S x := by
  induction x using It.ind with
  | h x ih =>
    intro y r t w hr ht hcx hcy; obtain ⟨k1, n1, ba1, bn1, bc1, s1, la1, ln1, lc1, rfl⟩ := hr.shape; obtain ⟨k2, n2, ba2, bn2, bc2, s2, la2, ln2, lc2, rfl⟩ := ht.shape; obtain ⟨rows, p⟩ := hr.parts; obtain ⟨rows2, q⟩ := ht.parts; have hB2 : Below w.heap.size w ((w.alloc (.cells (rwC ⟨k1, n1, .slice ba1 bn1 bc1, s1, .slice la1 ln1 lc1⟩).toArray 62)).alloc (.cells (rwC ⟨k2, n2, .slice ba2 bn2 bc2, s2, .slice la2 ln2 lc2⟩).toArray 62)) := (below_alloc w _).alloc (by simp) _
    have hcb : x.b.length ≤ 140737488351233 := by cases x; simp only [cnt, It.b] at *; omega
    have he1 := equalB_c x.b y.b _ _ _ _ _ (p.b.up hB2).1 (q.b.up hB2).1 hcb
    have he2 := fun w' (hb : Below w.heap.size w w') => equalFI_c S x.l y.l ih _ _ _ _ rows rows2 w' (p.l.up hb) (q.l.up hb) (p.each.up hb) (q.each.up hb) (by cases x; simp only [cnt, It.l] at *; omega) (by cases y; simp only [cnt, It.l] at *; omega)
    have hk1 := p.k; have hk2 := q.k; have hn1 := p.n; have hn2 := q.n; have hs1 := p.s; have hs2 := q.s; simp only at hk1 hk2 hn1 hn2 hs1 hs2; have HB2 := Lib.hid hB2; rw [sameB_parts, ← hk1, ← hk2, ← hn1, ← hn2, ← hs1, ← hs2]; clear p q hr ht hk1 hk2 hn1 hn2 hs1 hs2 hcx hcy ih hcb hB2
    have hcc : ∀ w1, Below ((w.alloc (.cells (rwC ⟨k1, n1, .slice ba1 bn1 bc1, s1, .slice la1 ln1 lc1⟩).toArray 62)).alloc (.cells (rwC ⟨k2, n2, .slice ba2 bn2 bc2, s2, .slice la2 ln2 lc2⟩).toArray 62)).heap.size ((w.alloc (.cells (rwC ⟨k1, n1, .slice ba1 bn1 bc1, s1, .slice la1 ln1 lc1⟩).toArray 62)).alloc (.cells (rwC ⟨k2, n2, .slice ba2 bn2 bc2, s2, .slice la2 ln2 lc2⟩).toArray 62)) w1 →
        w1.cell? ⟨w.heap.size, 0 + 3, none⟩ = some (.string s1) ∧ w1.cell? ⟨w.heap.size + 1, 0 + 3, none⟩ = some (.string s2) ∧ w1.cell? ⟨w.heap.size, 0 + 4, none⟩ = some (.slice la1 ln1 lc1) ∧ w1.cell? ⟨w.heap.size + 1, 0 + 4, none⟩ = some (.slice la2 ln2 lc2) := by
      intro w1 hb; have e1 := rangeAt_up (below_alloc (w.alloc (.cells (rwC ⟨k1, n1, .slice ba1 bn1 bc1, s1, .slice la1 ln1 lc1⟩).toArray 62)) (.cells (rwC ⟨k2, n2, .slice ba2 bn2 bc2, s2, .slice la2 ln2 lc2⟩).toArray 62)) (rangeAt_new w (rwC ⟨k1, n1, .slice ba1 bn1 bc1, s1, .slice la1 ln1 lc1⟩) 62 _); have e2 := rangeAt_new (w.alloc (.cells (rwC ⟨k1, n1, .slice ba1 bn1 bc1, s1, .slice la1 ln1 lc1⟩).toArray 62)) (rwC ⟨k2, n2, .slice ba2 bn2 bc2, s2, .slice la2 ln2 lc2⟩) 62 (0, 0); have e1 := rangeAt_up hb e1; have e2 := rangeAt_up hb e2; simp only [World.alloc, Array.size_push] at e2; exact ⟨e1 3 _ rfl, e2 3 _ rfl, e1 4 _ rfl, e2 4 _ rfl⟩
    generalize decide (x.b = y.b) = z1 at he1 ⊢; generalize sameL x.l y.l = z2 at he2 ⊢; by_cases hk : k1 = k2
    · subst hk
      by_cases hn : n1 = n2
      · subst hn
        cases z1
        · go_enter Tryz.func156, Tryz.ntmps156
          go_wp2_with (go_at_call 61; refine he1.mono ?_; rintro en w1 ⟨rfl, hb⟩)
          go_ret; exact ⟨retB (by simp), below_up HB2.out hb⟩
        · by_cases hs : s1 = s2
          · subst hs
            go_enter Tryz.func156, Tryz.ntmps156
            go_wp2_with (first
              | (go_at_call 61; refine he1.mono ?_; rintro en w1 ⟨rfl, hb⟩; obtain ⟨c1, c2, c3, c4⟩ := hcc w1 hb; have hB1 := below_up HB2.out hb)
              | (go_at_call 177; refine (he2 _ hB1).mono ?_; rintro en w2 ⟨rfl, hb2⟩))
            go_ret; exact ⟨retB (by simp), below_up hB1 hb2⟩
          · have hs' : ¬ s1.toList = s2.toList := fun h => by rw [ByteArray.toList_eq, ByteArray.toList_eq] at h; exact hs (ByteArray.ext (Array.toList_inj.1 h))
            go_enter Tryz.func156, Tryz.ntmps156
            go_wp2_with (first
              | (go_at_call 61; refine he1.mono ?_; rintro en w1 ⟨rfl, hb⟩; obtain ⟨c1, c2, c3, c4⟩ := hcc w1 hb; have hB1 := below_up HB2.out hb))
            go_ret; exact ⟨retB (by simp [hs]), hB1⟩
      · go_enter Tryz.func156, Tryz.ntmps156
        go_wp2; go_ret; exact ⟨retB (by simp [hn]), HB2.out⟩
    · go_enter Tryz.func156, Tryz.ntmps156
      go_wp2; go_ret; exact ⟨retB (by simp [hk]), HB2.out⟩
end Go.Proofs.YtpkonagjnfphkaaGreatDoor
namespace Go.Proofs.YtpkonagjnfphkaaGreatDoor
open Go.RowKit
section
variable {P : Program} {n : Nat} {Q : Exit → Act → World → Prop} {a : Act} {w : World}
def wpK (P : Program) (c : Code) (Q : Exit → Act → World → Prop) (a : Act) (w : World) : Prop :=
  ∀ (b : Frame) (k : List Item) (cs : List Frame), b.roundOf = none → (P.funcs[b.fn]?).isSome = true →
    ∃ e a' w', Q e a' w' ∧ ArrivesIn (Machine.fenced P Fence.wide) P (lone (b.atR a (.code c :: k)) cs w) b k cs e a' w'
theorem wpK_seq {x y : Code} (h : x.wp P (Exit.then (wpK P y Q) Q) a w) : wpK P (Code.seq x y) Q a w := by
  intro b k cs hro hb; have h0 : (lone (b.atR a (.code (.seq x y) :: k)) cs w).fenced P Fence.wide := fenced_calm (n := 0) (fr := b.atR a (.code (.seq x y) :: k)) trivial (room_wide _) rfl; obtain ⟨e, a₁, w₁, hq, harr⟩ := (wpIn_wide (n := 0)).2 h b (.code y :: k) cs hro trivial (room_wide _)
  cases e with
  | normal =>
    obtain ⟨e₂, a₂, w₂, hq₂, harr₂⟩ := hq b k cs hro hb; exact ⟨e₂, a₂, w₂, hq₂, .of_steps (.head h0 stepR_seq harr) harr₂⟩
  | exit id => exact ⟨_, a₁, w₁, hq, .of_steps (.one h0 stepR_seq) (.pass (x := .code y) rfl (fun _ _ => .inl (by simp)) harr)⟩
  | goto l => exact ⟨_, a₁, w₁, hq, .of_steps (.one h0 stepR_seq) (.pass (x := .code y) rfl (fun _ _ => .inl (by simp)) harr)⟩
  | ret => exact ⟨_, a₁, w₁, hq, .of_steps (.one h0 stepR_seq) (.pass (x := .code y) rfl (fun _ _ => .inl (by simp)) harr)⟩
  | panic ch => exact ⟨_, a₁, w₁, hq, .of_steps (.one h0 stepR_seq) (.pass (x := .code y) rfl (fun _ _ => .inl (by simp)) harr)⟩
  | outgrown => exact ⟨_, a₁, w₁, hq, .of_steps (.one h0 stepR_seq) (.pass (x := .code y) rfl (fun _ _ => .inl (by simp)) harr)⟩
theorem wpK_seq_k {x y : Code} (h : ∀ K : Act → World → Prop, (∀ a w, wpK P y Q a w → K a w) → x.wp P (Exit.then K Q) a w) : wpK P (Code.seq x y) Q a w := wpK_seq (h _ fun _ _ h => h)
theorem wpK_block {id : Nat} {c : Code} (h : wpK P c (Exit.inBlock id Q) a w) : wpK P (Code.block id c) Q a w := by
  intro b k cs hro hb; have h0 : (lone (b.atR a (.code (.block id c) :: k)) cs w).fenced P Fence.wide := fenced_calm (n := 0) (fr := b.atR a (.code (.block id c) :: k)) trivial (room_wide _) rfl; obtain ⟨e, a₁, w₁, hq, harr⟩ := h b (.inBlock id :: k) cs hro hb
  cases e with
  | normal => exact ⟨.normal, a₁, w₁, hq, .head h0 stepR_block (StepsIn.trans harr (.one (fenced_calm (n := 0) (fr := b.atR a₁ (.inBlock id :: k)) trivial (room_wide _) rfl) stepR_inBlock))⟩
  | exit id' =>
    by_cases hid : id' = id
    · simp only [Exit.inBlock, hid, if_true] at hq
      exact ⟨.normal, a₁, w₁, hq, .head h0 stepR_block (harr.1 k (by simp [exitTo, hid]))⟩
    · simp only [Exit.inBlock, hid, if_false] at hq
      have this : (id == id') = false := by simp; exact fun h => hid h.symm
      have hx : exitTo id' (.inBlock id :: k) = exitTo id' k := by simp [exitTo, this]
      exact ⟨.exit id', a₁, w₁, hq, fun k' hk => .head h0 stepR_block (harr.1 k' (by rw [hx]; exact hk)),
        fun hr' hk => let ⟨k₁, h1, h2⟩ := harr.2 hr' (by rw [hx]; exact hk); ⟨k₁, h1, .head h0 stepR_block h2⟩⟩
  | goto l =>
    have hx : gotoIn l (.inBlock id :: k) = gotoIn l k := by simp [gotoIn]
    exact ⟨_, a₁, w₁, hq, fun k' hk => .head h0 stepR_block (harr.1 k' (by rw [hx]; exact hk)),
      fun hr' hk => let ⟨k₁, h1, h2⟩ := harr.2 hr' (by rw [hx]; exact hk); ⟨k₁, h1, .head h0 stepR_block h2⟩⟩
  | ret => exact ⟨_, a₁, w₁, hq, .of_steps (.one h0 stepR_block) harr⟩
  | panic ch => exact ⟨_, a₁, w₁, hq, .of_steps (.one h0 stepR_block) harr⟩
  | outgrown => exact ⟨_, a₁, w₁, hq, .of_steps (.one h0 stepR_block) harr⟩
theorem calls_of_wpK {f : FuncId} {fn : Func} {c : Code} {args : Array Value} {w : World} {R : Ending → World → Prop}
    (hf : P.funcs[f]? = some fn) (hb : fn.body = some c)
    (h : wpK P c (bodyPostM Fence.wide 0 P fn R) { tmps := args ++ Array.replicate (fn.ntmps - args.size) undef, defers := [] } w) : Calls P f args w R := by
  refine (callsIn_wide (n := 0)).1 ⟨trivial, fun cs hr => ?_⟩
  let b : Frame := { (default : Frame) with fn := f, kind := .normal, roundOf := none }
  have henter : Frame.enter P f args .normal =
      b.atR { tmps := args ++ Array.replicate (fn.ntmps - args.size) undef, defers := [] } [.code c] := by
    simp [Frame.enter, Frame.atR, hf, hb, b]
  obtain ⟨e, a', w', hq, harr⟩ := h b [] cs rfl (by show (P.funcs[f]?).isSome = true; rw [hf]; rfl); rw [← henter] at harr
  cases e with
  | normal =>
    obtain ⟨e', w'', fr', hR, hs, hfn, hl⟩ := leaves_stepsInM (F := Fence.wide) (n := 0) a'.defers .returning w' { b.atR a' [] with mode := .returning } cs rfl rfl rfl hf rfl trivial hr hq; exact ⟨e', w'', fr', hR, ComesIn.of_steps (StepsIn.trans harr (.one (fenced_calm (fr := b.atR a' []) trivial hr rfl) (stepR_end rfl))) hs, hfn, hl⟩
  | ret =>
    obtain ⟨todo, hs₀⟩ := harr.1 rfl; obtain ⟨e', w'', fr', hR, hs, hfn, hl⟩ := leaves_stepsInM (F := Fence.wide) (n := 0) a'.defers .returning w' { b.atR a' todo with mode := .returning } cs rfl rfl rfl hf rfl trivial hr hq; exact ⟨e', w'', fr', hR, ComesIn.of_steps hs₀ hs, hfn, hl⟩
  | panic chain =>
    obtain ⟨todo, hs₀⟩ := harr; obtain ⟨e', w'', fr', hR, hs, hfn, hl⟩ := leaves_stepsInM (F := Fence.wide) (n := 0) a'.defers (.panicking chain) w' { b.atR a' todo with mode := .panicking chain } cs rfl rfl rfl hf rfl trivial hr hq; exact ⟨e', w'', fr', hR, ComesIn.of_steps hs₀ hs, hfn, hl⟩
  | exit id => exact hq.elim
  | goto l => exact hq.elim
  | outgrown => exact ⟨.outgrown, w', b, hq, harr.resolve_left (by simp [b]), rfl, trivial⟩
theorem wpK_rangeFunc {g : Operand} {ps : Array Tmp} {assign body : Code}
    (h : ∀ fn, (P.funcs[fn]?).isSome = true → ∃ (l : Nat) (mark : List Deferred) (w₁ : World) (d : Deferred) (w₁' : World) (f : FuncId) (args : Array Value) (w₂ : World),
      (Instr.enterLoop fn a.tmps ps assign body none).run P w = .ok (l, mark) w₁ ∧
      (resolve a.eval (rangeCall g l) 0).run P w₁ = .ok d w₁' ∧
      (invoke d.target d.args).run P w₁' = .ok (.enter f args) w₂ ∧
      CallsIn Fence.wide 0 P f args w₂ (rangePost Fence.wide 0 P l Q { a with defers := mark ++ a.defers })) :
    wpK P (Code.rangeFunc g ps assign body) Q a w := by
  intro b k cs hro hb; obtain ⟨l, mark, w₁, d, w₁', f, args, w₂, he, hres, hinv, hF, hcall⟩ := h b.fn hb; rw [← hro] at he; have h0 : (lone (b.atR a (.code (.rangeFunc g ps assign body) :: k)) cs w).fenced P Fence.wide := fenced_lone (.inl trivial) (fun f' hf' => trivial) (room_wide _); have henter := stepR_rangeFunc (P := P) (b := b) (a := a) (k := k) (cs := cs) (w := w) he hres hinv; obtain ⟨e, w₃, fr, hR, hsteps, hfn, hleave⟩ := hcall (b.atR { a with defers := mark ++ a.defers } (.inRangeFunc l :: k) :: cs) (room_wide _)
  cases e with
  | outgrown =>
    obtain ⟨a₀, w₀, hq⟩ := hR; exact ⟨.outgrown, a₀, w₀, hq, .inr (Outgrown.of_steps (.one henter) hsteps)⟩
  | returned v =>
    have hl : (lone fr (b.atR { a with defers := mark ++ a.defers } (.inRangeFunc l :: k) :: cs) w₃).fenced P Fence.wide := fenced_leaving (n := 0) trivial (room_wide _) hleave; obtain ⟨jump, w₄, hend, hj⟩ := hR
    have sback : StepsIn (Machine.fenced P Fence.wide) P (lone (b.atR a (.code (.rangeFunc g ps assign body) :: k)) cs w) (lone (b.atR { a with defers := mark ++ a.defers } ((jump.map Item.code).toList ++ k)) cs w₄) := by
      refine .head h0 henter (StepsIn.trans hsteps (.head hl ?_ (.one (fenced_calm (n := 0) (fr := b.atR { a with defers := mark ++ a.defers } (.endRangeFunc l :: k)) trivial (room_wide _) rfl) (stepR_endRangeFunc hend)))); rw [← finish_atR_inRangeFunc l v]; exact step_leave_returned hleave
    cases jump with
    | none => exact ⟨.normal, _, w₄, hj, sback⟩
    | some c =>
      obtain ⟨e', a'', w₅, hq, harr⟩ := hj b k cs hro trivial (room_wide _); exact ⟨e', a'', w₅, hq, .of_steps sback harr⟩
  | panicked chain =>
    have hl : (lone fr (b.atR { a with defers := mark ++ a.defers } (.inRangeFunc l :: k) :: cs) w₃).fenced P Fence.wide := fenced_leaving (n := 0) trivial (room_wide _) hleave; refine ⟨.panic chain, _, w₃, hR, .inRangeFunc l :: k, .head h0 henter (StepsIn.trans hsteps (.one hl ?_))⟩; rw [← Frame.raise_atR]; exact step_leave_panicked hleave
def roundPostP (P : Program) (l : Nat) (R : Ending → World → Prop) : Exit → Act → World → Prop
  | .panic ch, a, w => a.defers = [] ∧ R (.panicked ch) w
  | e, a, w => roundPost P l R e a w
theorem roundIn_panic {l : Nat} {f : FuncId} {tmps : Array Value} {assign body : Code} {w : World} {R : Ending → World → Prop} (hf : (P.funcs[f]?).isSome = true)
    (h : assign.wpIn (Fence.wide.inRound l) n P (Exit.then (fun a₁ w₁ => ∃ w₂, (Instr.beginRound l).run P w₁ = .ok () w₂ ∧ body.wpIn (Fence.wide.inRound l) n P (roundPostP P l R) a₁ w₂) (fun _ _ _ => False))
      { tmps := tmps, defers := [] } w) :
    RoundIn Fence.wide n P l f tmps assign body w R := by
  refine ⟨trivial, fun c cs hr => ?_⟩
  let b : Frame := { (default : Frame) with fn := f, kind := .normal, roundOf := some l }
  have hb0 : Frame.round l f tmps assign body .normal = b.atR { tmps := tmps, defers := [] } [.code assign, .beginRound, .code body] := by
    simp [Frame.round, Frame.atR, b]
  have hr' : (Fence.wide.inRound l).room ((c :: cs).length + 1 + n) := hr; have hF' : (Fence.wide.inRound l).fn b.fn := trivial; obtain ⟨e, a₁, w₁, hq, harr⟩ := h b [.beginRound, .code body] (c :: cs) rfl hF' hr'; rw [← hb0] at harr
  cases e with
  | normal =>
    obtain ⟨w₂, hbr, hbody⟩ := hq
    have s1 : StepsIn (Machine.fenced P (Fence.wide.inRound l)) P (lone (b.atR a₁ [.beginRound, .code body]) (c :: cs) w₁) (lone (b.atR a₁ [.code body]) (c :: cs) w₂) :=
      .one (fenced_calm (fr := b.atR a₁ [.beginRound, .code body]) hF' hr' rfl) (stepR_beginRound rfl hbr)
    obtain ⟨e₂, a₂, w₃, hq₂, harr₂⟩ := hbody b [] (c :: cs) rfl hF' hr'
    cases e₂ with
    | normal =>
      obtain ⟨v, w₄, hend, hR⟩ := hq₂; exact ⟨.returned v, w₄, hR, (StepsIn.trans harr s1).trans (StepsIn.trans harr₂ (.one (fenced_calm (fr := b.atR a₂ []) hF' hr' rfl) (stepR_round_end rfl rfl hend)))⟩
    | ret =>
      obtain ⟨v, w₄, hend, hR⟩ := hq₂; obtain ⟨k₁, hs⟩ := harr₂.2 rfl; exact ⟨.returned v, w₄, hR, (StepsIn.trans harr s1).trans (StepsIn.trans hs (.one (fenced_calm (fr := b.atR a₂ (.code .ret :: k₁)) hF' hr' rfl) (stepR_round_ret rfl rfl hend)))⟩
    | exit id =>
      obtain ⟨v, w₄, hend, hR⟩ := hq₂; obtain ⟨k₁, hk, hs⟩ := harr₂.2 rfl rfl; exact ⟨.returned v, w₄, hR, (StepsIn.trans harr s1).trans (StepsIn.trans hs (.one (fenced_calm (fr := b.atR a₂ (.code (.exit id) :: k₁)) hF' hr' rfl) (stepR_round_exit rfl rfl hk hend)))⟩
    | goto t =>
      obtain ⟨v, w₄, hend, hR⟩ := hq₂; obtain ⟨k₁, hk, hs⟩ := harr₂.2 rfl rfl; exact ⟨.returned v, w₄, hR, (StepsIn.trans harr s1).trans (StepsIn.trans hs (.one (fenced_calm (fr := b.atR a₂ (.code (.goto t) :: k₁)) hF' hr' rfl) (stepR_round_goto rfl rfl hk hend)))⟩
    | panic chain =>
      obtain ⟨hd, hR⟩ := hq₂; obtain ⟨todo, hs⟩ := harr₂; obtain ⟨fn, hfn⟩ := Option.isSome_iff_exists.1 hf; have hlv : ({ b.atR a₂ todo with mode := .panicking chain } : Frame).leaving P w₃ (.panicked chain) := ⟨rfl, hd, fn, hfn⟩; exact ⟨.panicked chain, w₃, hR, (StepsIn.trans harr s1).trans (StepsIn.trans hs (.one (fenced_leaving (n := n) hF' hr' hlv) (step_leave_panicked hlv)))⟩
    | outgrown => exact hq₂.elim
  | exit id => exact hq.elim
  | goto t => exact hq.elim
  | ret => exact hq.elim
  | panic chain => exact hq.elim
  | outgrown => exact hq.elim
end
def SeqZ (P : Program) (gf : Nat) (lb : Array Value) (args : Nat → Array Value) (N : Nat) (S : Nat → Prop) (w : World) : Prop :=
  ∀ (l : Nat) (G : Nat → Prop) (J Jx : Nat → (Nat → Prop) → World → Prop) (Jp : List PanicEntry → World → Prop) (W : World), Below w.heap.size w W → (∀ k, S k → k < W.heap.size ∧ ¬ G k) → (∀ k, G k → k < W.heap.size) → (∀ k, Abide W.heap.size (J k)) → (∀ k, Abide W.heap.size (Jx k)) →
    (∀ k G W1, k < N → J k G W1 → YieldAt Fence.wide 0 P l (args k) W1 (fun e W' => wentPost J Jx k G W1 e W' ∨ ∃ ch, e = .panicked ch ∧ Jp ch W')) →
    J 0 G W → Calls P gf (#[.func (.yield l) #[] #[]] ++ lb) W fun e W' => ((∃ v, e = .returned v) ∧ ∃ G, (J N G W' ∨ ∃ k, k < N ∧ Jx (k + 1) G W')) ∨ ∃ ch, e = .panicked ch ∧ Jp ch W'
def endZ (I : Nat → (Nat → Prop) → World → Prop) (Ix : Code → Nat → (Nat → Prop) → World → Prop) (Ip : List PanicEntry → World → Prop) (k : Nat) (G : Nat → Prop) (W : World) : Exit → Act → World → Prop
  | .panic ch, a, W' => a.defers = [] ∧ But G W W' ∧ Ip ch W'
  | e, a, W' => endX I Ix k G W e a W'
variable {P : Program}
theorem round_lawP {fn : FuncId} {n : Nat} {a : Act} {ps : Array Tmp} {assign body : Code} {l D B : Nat} {rec : LoopState → Option Code → Loop} {args : Array Value} {k : Nat}
    {I : Nat → (Nat → Prop) → World → Prop} {Ix : Code → Nat → (Nat → Prop) → World → Prop} {Im : Act → (Nat → Prop) → World → Prop} (hrec : rec = fun st pe => { state := st, pending := pe, fn, tmps := a.tmps, params := ps, assign, body, defers := D })
    (hfn : (P.funcs[fn]?).isSome = true) {Ip : List PanicEntry → World → Prop} (hps : args.size = ps.size) (hBl : B ≤ l) (hI : ∀ k, Abide B (I k)) (hIx : ∀ c k, Abide B (Ix c k)) (hIm : ∀ a', Abide B (Im a'))
    (hassign : ∀ (G : Nat → Prop) (W : World) (K : Act → World → Prop), I k G W → (∀ a' W', But G W W' → Im a' (newG G W W') W' → K a' W') →
      assign.wpIn (Fence.wide.inRound l) n P (Exit.then K (fun _ _ _ => False)) { tmps := (ps.zip args).foldl (fun t (p, v) => t.setIfInBounds p v) a.tmps, defers := [] } W)
    (hbody : ∀ (a' : Act) (G : Nat → Prop) (W : World), (∃ r, W.heap[l]? = some (.loop r)) → ¬ G l → Im a' G W → body.wpIn (Fence.wide.inRound l) n P (endZ I Ix Ip (k + 1) G W) a' W)
    (G : Nat → Prop) (W : World) (hi : I k G W) (hl : W.heap[l]? = some (.loop (rec .ready none))) (hG : ¬ G l) :
    YieldAt Fence.wide 0 P l args W fun e W' => (∃ ch, e = .panicked ch ∧ But (fun j => G j ∨ j = l) W W' ∧ Ip ch W') ∨ ∃ g, e = .returned (.bool g) ∧ But (fun j => G j ∨ j = l) W W' ∧
      ((g = true ∧ I (k + 1) (newG G W W') W' ∧ W'.heap[l]? = some (.loop (rec .ready none))) ∨ (g = false ∧ ∃ c, Ix c (k + 1) (newG G W W') W' ∧ W'.heap[l]? = some (.loop (rec .done (some c))))) := by
  have hy := run_yield (P := P) (args := args) hl (by rw [hrec]; exact hps); rw [hrec] at hy; refine yieldAt_wide (m := n) ⟨fn, _, assign, body, hy, roundIn_panic hfn (hassign G W _ hi ?_)⟩; clear hy; intro a' Wa hba hma; have hla := hba.obj hl hG; have hlW : l < W.heap.size := (Array.getElem?_eq_some_iff.1 hl).1; have hlt : l < Wa.heap.size := (Array.getElem?_eq_some_iff.1 hla).1; refine ⟨_, run_beginRound hla (by rw [hrec]), ?_⟩; obtain ⟨Wb, hWb⟩ : ∃ Wb, Wa.putObj l (.loop { rec .ready none with state := .busy }) = Wb := ⟨_, rfl⟩
  have hsb : Wb.heap.size = Wa.heap.size := by rw [← hWb]; simp
  have hlb : Wb.heap[l]? = some (.loop { rec .ready none with state := .busy }) := by rw [← hWb]; exact World.putObj_heap_same hlt
  have hGa : ¬ newG G W Wa l := newG_not hG hlW
  have hbb : But (fun j => G j ∨ j = l) Wa Wb := by rw [← hWb]; exact But.putObj _ _ _ (.inl (.inr rfl))
  have hmb : Im a' (newG G W Wa) Wb := by rw [← hWb]; exact (hIm a').putObj _ hma hBl hGa
  rw [hWb]; refine wpIn_mono (hbody a' _ Wb ⟨_, hlb⟩ hGa hmb) ?_
  have fin : ∀ (jump : Option Code) (W3 : World), But (newG G W Wa) Wb W3 →
      (Instr.endRound l jump).run P W3 = .ok (.bool jump.isNone) (W3.putObj l (.loop (rec (if jump.isNone then .ready else .done) jump))) ∧
      (W3.putObj l (.loop (rec (if jump.isNone then .ready else .done) jump))).heap[l]? = some (.loop (rec (if jump.isNone then .ready else .done) jump)) ∧
      But (fun j => G j ∨ j = l) W (W3.putObj l (.loop (rec (if jump.isNone then .ready else .done) jump))) ∧
      newG (newG G W Wa) Wb W3 = newG G W (W3.putObj l (.loop (rec (if jump.isNone then .ready else .done) jump))) ∧ ¬ newG (newG G W Wa) Wb W3 l := fun jump W3 hb3 => by
    have hl3 := hb3.obj hlb hGa; have := run_endRound (P := P) jump hl3; rw [hrec] at this ⊢; refine ⟨this, World.putObj_heap_same (Array.getElem?_eq_some_iff.1 hl3).1, ?_, newG_trans hba.size hsb (by simp) hb3.size, newG_not hGa (by omega)⟩
    refine ((hba.mono fun _ _ h => .inl h).trans hbb).then ((hb3.mono (O' := fun j => newG G W Wa j ∨ j = l) (fun _ _ h => .inl h)).trans (But.putObj _ _ _ (.inl (.inr rfl)))) ?_
    rintro j hj ((h | h) | h)
    · exact .inl h
    · omega
    · exact .inr h
  rintro e a3 W3 hp
  cases e with
  | normal =>
    obtain ⟨hb3, hi3⟩ := hp; obtain ⟨hr, hl4, hb4, hn4, hg4⟩ := fin none W3 hb3; rw [hn4] at hi3 hg4; exact ⟨_, _, hr, .inr ⟨true, rfl, hb4, .inl ⟨rfl, (hI _).putObj _ hi3 hBl hg4, hl4⟩⟩⟩
  | ret =>
    obtain ⟨hb3, hi3⟩ := hp; obtain ⟨hr, hl4, hb4, hn4, hg4⟩ := fin (some .ret) W3 hb3; rw [hn4] at hi3 hg4; exact ⟨_, _, hr, .inr ⟨false, rfl, hb4, .inr ⟨rfl, .ret, (hIx _ _).putObj _ hi3 hBl hg4, hl4⟩⟩⟩
  | exit id =>
    obtain ⟨hb3, hi3⟩ := hp; obtain ⟨hr, hl4, hb4, hn4, hg4⟩ := fin (some (.exit id)) W3 hb3; rw [hn4] at hi3 hg4; exact ⟨_, _, hr, .inr ⟨false, rfl, hb4, .inr ⟨rfl, .exit id, (hIx _ _).putObj _ hi3 hBl hg4, hl4⟩⟩⟩
  | goto t =>
    obtain ⟨hb3, hi3⟩ := hp; obtain ⟨hr, hl4, hb4, hn4, hg4⟩ := fin (some (.goto t)) W3 hb3; rw [hn4] at hi3 hg4; exact ⟨_, _, hr, .inr ⟨false, rfl, hb4, .inr ⟨rfl, .goto t, (hIx _ _).putObj _ hi3 hBl hg4, hl4⟩⟩⟩
  | panic ch =>
    obtain ⟨hd, hb3, hi3⟩ := hp; refine ⟨hd, .inl ⟨ch, rfl, ?_, hi3⟩⟩
    refine ((hba.mono fun _ _ h => .inl h).trans hbb).then (hb3.mono (O' := fun j => newG G W Wa j ∨ j = l) (fun _ _ h => .inl h)) ?_
    rintro j hj ((h | h) | h)
    · exact .inl h
    · omega
    · exact .inr h
  | outgrown => exact hp.elim
theorem wp_rangeP {n : Nat} {g : Operand} {ps : Array Tmp} {assign body : Code} {Q : Exit → Act → World → Prop} {a : Act} {w : World}
    {gf : Nat} {lb : Array Value} (hg : a.eval g = .func (.func gf) #[] lb) (eg : ∀ args w, (callFunc gf args).run P w = .ok (.enter gf args) w)
    {args : Nat → Array Value} {N : Nat} {S : Nat → Prop} {w0 : World} (hseq : SeqZ P gf lb args N S w0) (hb0 : Below w0.heap.size w0 w) (hps : ∀ k, (args k).size = ps.size)
    (G0 : Nat → Prop) (hG0 : ∀ k, G0 k → k < w.heap.size) (hS : ∀ k, S k → k < w.heap.size ∧ ¬ G0 k)
    (I : Nat → (Nat → Prop) → World → Prop) (Im : Nat → Act → (Nat → Prop) → World → Prop) (Ix : Code → Nat → (Nat → Prop) → World → Prop) (Ip : List PanicEntry → World → Prop) (hI : ∀ k, Abide w.heap.size (I k)) (hIm : ∀ k a', Abide w.heap.size (Im k a')) (hIx : ∀ c k, Abide w.heap.size (Ix c k)) (h0 : I 0 G0 w)
    (hassign : ∀ (l k : Nat) (G : Nat → Prop) (W : World) (K : Act → World → Prop), k < N → I k G W → (∀ a' W', But G W W' → Im k a' (newG G W W') W' → K a' W') →
      assign.wpIn (Fence.wide.inRound l) n P (Exit.then K (fun _ _ _ => False)) { tmps := (ps.zip (args k)).foldl (fun t (p, v) => t.setIfInBounds p v) a.tmps, defers := [] } W)
    (hbody : ∀ (l k : Nat) (a' : Act) (G : Nat → Prop) (W : World), k < N → w.heap.size ≤ l → (∃ r, W.heap[l]? = some (.loop r)) → ¬ G l → Im k a' G W → body.wpIn (Fence.wide.inRound l) n P (endZ I Ix Ip (k + 1) G W) a' W)
    (hpanic : ∀ (D : Nat) (ch : List PanicEntry) (W : World), w.heap.size ≤ D → Ip ch W → W.heap[D]? = some (.deferred (some [])) → Q (.panic ch) { a with defers := { target := .collected D, args := #[] } :: a.defers } W)
    (hdone : ∀ (D : Nat) (G : Nat → Prop) (W : World), w.heap.size ≤ D → ¬ G D → I N G W → W.heap[D]? = some (.deferred (some [])) → Q .normal { a with defers := { target := .collected D, args := #[] } :: a.defers } W)
    (hstop : ∀ (D : Nat) (c : Code) (k : Nat) (G : Nat → Prop) (W : World), w.heap.size ≤ D → ¬ G D → k < N → Ix c (k + 1) G W → W.heap[D]? = some (.deferred (some [])) → c.wpIn Fence.wide 0 P Q { a with defers := { target := .collected D, args := #[] } :: a.defers } W) :
    wpK P (Code.rangeFunc g ps assign body) Q a w := by
  refine wpK_rangeFunc ?_; intro fn hfn
  obtain ⟨rec, hrec⟩ : ∃ rec : LoopState → Option Code → Loop, rec = fun st pe => { state := st, pending := pe, fn, tmps := a.tmps, params := ps, assign, body, defers := w.heap.size } := ⟨_, rfl⟩
  obtain ⟨W1, hW1⟩ : ∃ W1, (w.alloc (.deferred (some []))).alloc (.loop (rec .ready none)) = W1 := ⟨_, rfl⟩
  have hsz : W1.heap.size = w.heap.size + 2 := by rw [← hW1]; simp
  have hL1 : W1.heap[w.heap.size + 1]? = some (.loop (rec .ready none)) := by
    rw [← hW1]; have := World.alloc_heap_new (w.alloc (.deferred (some []))) (.loop (rec .ready none)); rwa [World.size_alloc] at this
  have hK1 : W1.heap[w.heap.size]? = some (.deferred (some [])) := by
    rw [← hW1]; exact (Below.heap_alloc _ _ _ (by simp)).trans (World.alloc_heap_new w _)
  have hI1 : I 0 G0 W1 := by rw [← hW1]; exact (hI 0).alloc _ ((hI 0).alloc _ h0)
  have hb1 : Below w0.heap.size w0 W1 := by
    rw [← hW1]; exact hb0.trans ((((Below.refl _ w).alloc (Nat.le_refl _) _).alloc (by simp) _).mono hb0.size)
  refine ⟨w.heap.size + 1, [{ target := .collected w.heap.size, args := #[] }], W1, { target := .fn (.func gf) lb, args := #[.func (.yield (w.heap.size + 1)) #[] #[]] }, W1, gf,
    #[.func (.yield (w.heap.size + 1)) #[] #[]] ++ lb, W1, ?_, ?_, ?_, ?_⟩
  · rw [← hW1, hrec]; exact run_enterLoop_outer _ _ _ _ _
  · simp only [resolve, hg]
    simp [go_sem]
  · simp [invoke, go_sem, eg]
  · have hD : ∀ {I : (Nat → Prop) → World → Prop}, Abide w.heap.size I → Abide (w.heap.size + 1) (fun G W => I G W ∧ ¬ G w.heap.size ∧ W.heap[w.heap.size]? = some (.deferred (some []))) := fun h => abide_rec h (Nat.le_succ _) (Nat.lt_succ_self _) _
    refine callsIn_wide.2 ((hseq (w.heap.size + 1) (fun j => G0 j ∨ j = w.heap.size + 1)
      (fun k G W => ∃ G', (∀ j, G' j → G j) ∧ ¬ G' (w.heap.size + 1) ∧ G (w.heap.size + 1) ∧ (I k G' W ∧ ¬ G' w.heap.size ∧ W.heap[w.heap.size]? = some (.deferred (some []))) ∧ W.heap[w.heap.size + 1]? = some (.loop (rec .ready none)))
      (fun k G W => ∃ G' c, (∀ j, G' j → G j) ∧ ¬ G' (w.heap.size + 1) ∧ (Ix c k G' W ∧ ¬ G' w.heap.size ∧ W.heap[w.heap.size]? = some (.deferred (some []))) ∧ W.heap[w.heap.size + 1]? = some (.loop (rec .done (some c))))
      (fun ch W => Ip ch W ∧ W.heap[w.heap.size]? = some (.deferred (some [])))
      W1 hb1 ?_ ?_ ?_ ?_ ?_ ⟨G0, fun _ h => .inl h, (fun h => by have := hG0 _ h; omega), .inr rfl, ⟨hI1, (fun h => by have := hG0 _ h; omega), hK1⟩, hL1⟩).mono ?_)
    · exact fun k h => ⟨by have := (hS k h).1; omega, fun e => by rcases e with e | e; exact (hS k h).2 e; have := (hS k h).1; omega⟩
    · rintro k (h | rfl)
      · have := hG0 k h; omega
      · omega
    · rintro k G A B ⟨G', h1, h2, h3, h4, h5⟩ hb
      exact ⟨G', h1, h2, h3, (hD (hI k)) G' A B h4 (hb.mono fun j _ e => ⟨by omega, fun e' => e.2 (h1 j e')⟩), hb.obj h5 (fun e => by omega)⟩
    · rintro k G A B ⟨G', c, h1, h2, h4, h5⟩ hb
      exact ⟨G', c, h1, h2, (hD (hIx c k)) G' A B h4 (hb.mono fun j _ e => ⟨by omega, fun e' => e.2 (h1 j e')⟩), hb.obj h5 (fun e => by omega)⟩
    · rintro k G W hk ⟨G', h1, h2, h3, h4, h5⟩
      have hlW : w.heap.size + 1 < W.heap.size := (Array.getElem?_eq_some_iff.1 h5).1
      have hY := round_lawP (P := P) (Ip := fun ch W => Ip ch W ∧ W.heap[w.heap.size]? = some (.deferred (some []))) (B := w.heap.size + 1) (D := w.heap.size) (I := fun k G W => I k G W ∧ ¬ G w.heap.size ∧ W.heap[w.heap.size]? = some (.deferred (some []))) (Ix := fun c k G W => Ix c k G W ∧ ¬ G w.heap.size ∧ W.heap[w.heap.size]? = some (.deferred (some []))) (Im := fun a' G W => Im k a' G W ∧ ¬ G w.heap.size ∧ W.heap[w.heap.size]? = some (.deferred (some []))) (n := n) (k := k) hrec hfn (hps k) (l := w.heap.size + 1) (Nat.le_refl _)
        (fun k => hD (hI k)) (fun c k => hD (hIx c k)) (fun a' => hD (hIm k a'))
        (fun G W K hi hK => hassign _ k G W K hk hi.1 (fun a' W' hb hm => hK a' W' hb ⟨hm, newG_not hi.2.1 (Array.getElem?_eq_some_iff.1 hi.2.2).1, hb.obj hi.2.2 hi.2.1⟩))
        (fun a' G W hr hl hm => wpIn_mono (hbody _ k a' G W hk (by omega) hr hl hm.1) (fun e a3 W3 hp => by
          have hg : ¬ newG G W W3 w.heap.size := newG_not hm.2.1 (Array.getElem?_eq_some_iff.1 hm.2.2).1
          cases e with
          | normal => exact ⟨hp.1, hp.2, hg, hp.1.obj hm.2.2 hm.2.1⟩
          | ret => exact ⟨hp.1, hp.2, hg, hp.1.obj hm.2.2 hm.2.1⟩
          | exit id => exact ⟨hp.1, hp.2, hg, hp.1.obj hm.2.2 hm.2.1⟩
          | goto t => exact ⟨hp.1, hp.2, hg, hp.1.obj hm.2.2 hm.2.1⟩
          | panic ch => exact ⟨hp.1, hp.2.1, hp.2.2, hp.2.1.obj hm.2.2 hm.2.1⟩
          | outgrown => exact hp)) G' W h4 h5 h2
      refine hY.mono ?_; rintro e W' (⟨ch, rfl, hb, h⟩ | ⟨g, rfl, hb, h⟩)
      · exact .inr ⟨ch, rfl, h⟩
      refine .inl ?_
      have hb' : But G W W' := hb.mono fun j _ e => by rcases e with e | rfl; exact h1 j e; exact h3
      have hsub : ∀ j, newG G' W W' j → newG G W W' j := fun j e => by rcases e with e | e; exact .inl (h1 j e); exact .inr e
      refine ⟨g, rfl, hb', ?_, ?_⟩
      · rintro rfl
        obtain ⟨_, hi, hl⟩ | ⟨h, _⟩ := h
        · exact ⟨_, hsub, newG_not h2 hlW, .inl h3, hi, hl⟩
        · cases h
      · rintro rfl
        obtain ⟨h, _⟩ | ⟨_, c, hi, hl⟩ := h
        · cases h
        · exact ⟨_, c, hsub, newG_not h2 hlW, hi, hl⟩
    · rintro e W2 (⟨⟨v, rfl⟩, G, (⟨G', h1, h2, h3, ⟨hi, hd, hk⟩, hl⟩ | ⟨k, hkN, G', c, h1, h2, ⟨hi, hd, hk⟩, hl⟩)⟩ | ⟨ch, rfl, hi, hk⟩)
      · exact ⟨none, _, by have := run_endLoop (P := P) hl (by rw [hrec]; simp); rw [hrec] at this; exact this, hdone _ G' _ (Nat.le_refl _) hd ((hI N).putObj _ hi (by omega) h2) ((World.putObj_heap_other (by omega)).trans hk)⟩
      · exact ⟨some c, _, by have := run_endLoop (P := P) hl (by rw [hrec]; simp); rw [hrec] at this; exact this, hstop _ c k G' _ (Nat.le_refl _) hd hkN ((hIx c _).putObj _ hi (by omega) h2) ((World.putObj_heap_other (by omega)).trans hk)⟩
      · exact hpanic _ ch _ (Nat.le_refl _) hi hk
end Go.Proofs.YtpkonagjnfphkaaGreatDoor
