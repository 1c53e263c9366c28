/-
  CbIq, CbRg, CbHg, CbRt, MapB, CbW, OctetH, CbM: several texts in one (bundle.py).
-/
import Derived.Test.YtpkonagjnfphkaaGreatDoorPmT21
import Derived.Test.YtpkonagjnfphkaaGreatDoorPmT22
import Derived.Test.YtpkonagjnfphkaaGreatDoorPmT17
import Derived.Test.YtpkonagjnfphkaaGreatDoorPmT02
import Derived.Test.YtpkonagjnfphkaaGreatDoorPmT07
import Derived.Test.YtpkonagjnfphkaaGreatDoorPmT20
import Derived.Test.YtpkonagjnfphkaaGreatDoorPmT16
import Derived.Test.YtpkonagjnfphkaaGreatDoorPmT12
namespace Go.Proofs.YtpkonagjnfphkaaGreatDoor
open Go.RowKit Cb
set_option linter.unusedSimpArgs false
set_option linter.unusedVariables false
namespace Cb
theorem headOk_take {b : List UInt8} {m n : Int} {k : Nat} (h : headOk b m n k = true) : b.take k = headB m n ∧ (headB m n).length = k ∧ k ≤ b.length := by
  unfold headOk Oct.beginsB at h
  simp only [Bool.and_eq_true, decide_eq_true_eq] at h
  obtain ⟨⟨h1, h2⟩, h3⟩ := h
  rw [h3] at h1 h2
  exact ⟨h2, h3, h1⟩
theorem headP_some {b : List UInt8} {m n : Int} {k : Nat} (h : headP b = some (m, n, k)) : (0 ≤ m ∧ m ≤ 7) ∧ (0 ≤ n ∧ n ≤ 18446744073709551615) ∧ 1 ≤ k ∧ k ≤ b.length ∧ b.take k = headB m n ∧ (headB m n).length = k := by
  unfold headP at h
  cases b with
  | nil => simp at h
  | cons f r =>
    simp only at h
    have hF := f.toNat_lt
    cases hn : headN (f.toNat % 32) r with
    | none => rw [hn] at h; simp at h
    | some p =>
      obtain ⟨n', k'⟩ := p
      rw [hn] at h
      simp only at h
      split at h
      · rename_i ho
        simp only [Option.some.injEq, Prod.mk.injEq] at h
        obtain ⟨rfl, rfl, rfl⟩ := h
        obtain ⟨h1, h2, h3⟩ := headOk_take ho
        have := headB_len ((f.toNat / 32 : Nat) : Int) n'
        refine ⟨⟨by omega, by omega⟩, ?_, by omega, h3, h1, h2⟩
        unfold headN at hn
        split at hn
        · simp only [Option.some.injEq, Prod.mk.injEq] at hn
          omega
        · split at hn
          · cases hn
          · split at hn
            · cases hn
            · rename_i hw hx hl
              simp only [Option.some.injEq, Prod.mk.injEq] at hn
              obtain ⟨hn1, hn2⟩ := hn
              have hp : 2 ^ (f.toNat % 32 - 24) ≤ 2 ^ 3 := Nat.pow_le_pow_right (by decide) (by omega)
              have hb := getV_b (r.take (2 ^ (f.toNat % 32 - 24))) (by rw [List.length_take]; omega)
              rw [← hn1]
              exact hb
      · cases h
theorem listP_some {f : List UInt8 → Except Int (It × Nat)} (hf : ∀ b x k, f b = .ok (x, k) → 1 ≤ k ∧ k ≤ b.length) : ∀ (n : Nat) (b : List UInt8) (l : List It) (c : Nat), listP f n b = .ok (l, c) → l.length = n ∧ n ≤ c ∧ c ≤ b.length := by
  intro n
  induction n with
  | zero => intro b l c h; simp only [listP, Except.ok.injEq, Prod.mk.injEq] at h; obtain ⟨rfl, rfl⟩ := h; simp
  | succ n ih =>
    intro b l c h
    simp only [listP] at h
    cases hx : f b with
    | error e => rw [hx] at h; cases h
    | ok p =>
      obtain ⟨x, k⟩ := p
      rw [hx] at h
      simp only at h
      cases hy : listP f n (b.drop k) with
      | error e => rw [hy] at h; cases h
      | ok q =>
        obtain ⟨l', j⟩ := q
        rw [hy] at h
        simp only [Except.ok.injEq, Prod.mk.injEq] at h
        obtain ⟨rfl, rfl⟩ := h
        have h1 := hf _ _ _ hx
        have h2 := ih _ _ _ hy
        rw [List.length_drop] at h2
        rw [List.length_cons]
        omega
theorem simpleP_some {b : List UInt8} {x : It} (h : simpleP b = some x) : 1 ≤ b.length := by
  cases b with
  | nil => cases h
  | cons f r => simp
theorem bodyP_some {f : List UInt8 → Except Int (It × Nat)} (hf : ∀ b x k, f b = .ok (x, k) → 1 ≤ k ∧ k ≤ b.length) {m n : Int} {k : Nat} {r : List UInt8} (h0 : 0 ≤ n) {x : It} {j : Nat} (h : bodyP f m n k r = .ok (x, j)) : k ≤ j ∧ j ≤ k + r.length := by
  unfold bodyP at h
  split at h
  · simp only [Except.ok.injEq, Prod.mk.injEq] at h; omega
  · split at h
    · split at h
      · simp only [Except.ok.injEq, Prod.mk.injEq] at h; omega
      · cases h
    · split at h
      · split at h
        · simp only [Except.ok.injEq, Prod.mk.injEq] at h; omega
        · cases h
      · split at h
        · cases hl : listP f n.toNat r with
          | error e => rw [hl] at h; cases h
          | ok q =>
            obtain ⟨l, c⟩ := q
            rw [hl] at h
            simp only [Except.ok.injEq, Prod.mk.injEq] at h
            have := listP_some hf _ _ _ _ hl
            omega
        · cases h
theorem itemP_some : ∀ (d : Nat) (b : List UInt8) (x : It) (k : Nat), itemP d b = .ok (x, k) → 1 ≤ k ∧ k ≤ b.length := by
  intro d
  induction d with
  | zero => intro b x k h; cases h
  | succ d ih =>
    intro b x k h
    simp only [itemP] at h
    cases hs : simpleP b with
    | some y =>
      rw [hs] at h
      have := simpleP_some hs
      simp only [Except.ok.injEq, Prod.mk.injEq] at h
      omega
    | none =>
      rw [hs] at h
      simp only at h
      cases hh : headP b with
      | none => rw [hh] at h; cases h
      | some p =>
        obtain ⟨m, n, j⟩ := p
        rw [hh] at h
        simp only at h
        have h1 := headP_some hh
        have h2 := bodyP_some ih h1.2.1.1 h
        rw [List.length_drop] at h2
        omega
/-- One item more. -/
theorem listP_snoc {f : List UInt8 → Except Int (It × Nat)} : ∀ (n : Nat) (b : List UInt8) (l : List It) (c : Nat) (x : It) (k : Nat), listP f n b = .ok (l, c) → f (b.drop c) = .ok (x, k) → listP f (n + 1) b = .ok (l ++ [x], c + k) := by
  intro n
  induction n with
  | zero =>
    intro b l c x k h hx
    simp only [listP, Except.ok.injEq, Prod.mk.injEq] at h
    obtain ⟨rfl, rfl⟩ := h
    rw [List.drop_zero] at hx
    simp [listP, hx]
  | succ n ih =>
    intro b l c x k h hx
    rw [listP] at h
    cases hy : f b with
    | error e => rw [hy] at h; cases h
    | ok p =>
      obtain ⟨y, j⟩ := p
      rw [hy] at h
      simp only at h
      cases hz : listP f n (b.drop j) with
      | error e => rw [hz] at h; cases h
      | ok q =>
        obtain ⟨l', i⟩ := q
        rw [hz] at h
        simp only [Except.ok.injEq, Prod.mk.injEq] at h
        obtain ⟨rfl, rfl⟩ := h
        have := ih (b.drop j) l' i x k hz (by rw [List.drop_drop]; exact hx)
        rw [listP, hy]
        simp only
        rw [this]
        simp [Nat.add_assoc]
/-- Where one is none, so many are none. -/
theorem listP_err {f : List UInt8 → Except Int (It × Nat)} : ∀ (n m : Nat) (b : List UInt8) (l : List It) (c : Nat) (e : Int), listP f n b = .ok (l, c) → f (b.drop c) = .error e → n < m → listP f m b = .error e := by
  intro n
  induction n with
  | zero =>
    intro m b l c e h hx hm
    simp only [listP, Except.ok.injEq, Prod.mk.injEq] at h
    obtain ⟨rfl, rfl⟩ := h
    rw [List.drop_zero] at hx
    obtain ⟨m, rfl⟩ : ∃ j, m = j + 1 := ⟨m - 1, by omega⟩
    simp [listP, hx]
  | succ n ih =>
    intro m b l c e h hx hm
    obtain ⟨m, rfl⟩ : ∃ j, m = j + 1 := ⟨m - 1, by omega⟩
    rw [listP] at h
    cases hy : f b with
    | error e => rw [hy] at h; cases h
    | ok p =>
      obtain ⟨y, j⟩ := p
      rw [hy] at h
      simp only at h
      cases hz : listP f n (b.drop j) with
      | error e => rw [hz] at h; cases h
      | ok q =>
        obtain ⟨l', i⟩ := q
        rw [hz] at h
        simp only [Except.ok.injEq, Prod.mk.injEq] at h
        obtain ⟨rfl, rfl⟩ := h
        have := ih m (b.drop j) l' i e hz (by rw [List.drop_drop]; exact hx) (by omega)
        rw [listP, hy]
        simp only
        rw [this]
theorem begins_one (b : List UInt8) (c : UInt8) : Oct.beginsB b [c] = true ↔ ∃ r, b = c :: r := by
  unfold Oct.beginsB
  cases b with
  | nil => simp
  | cons f r => simp
theorem simpleP_none {b : List UInt8} (h : ∀ j : Nat, j < 3 → Oct.beginsB b [UInt8.ofNat (244 + j)] = false) : simpleP b = none := by
  cases b with
  | nil => rfl
  | cons f r =>
    have h0 := h 0 (by decide)
    have h1 := h 1 (by decide)
    have h2 := h 2 (by decide)
    rw [Bool.eq_false_iff, Ne, begins_one] at h0 h1 h2
    simp only [simpleP]
    rw [if_neg (fun e : f = 244 => h0 ⟨r, by rw [e]; rfl⟩), if_neg (fun e : f = 245 => h1 ⟨r, by rw [e]; rfl⟩), if_neg (fun e : f = 246 => h2 ⟨r, by rw [e]; rfl⟩)]
theorem simpleP_at (b : List UInt8) (k : Nat) (hk : k < 3) (h : Oct.beginsB b [UInt8.ofNat (244 + k)] = true) : simpleP b = some (if k = 0 then .mk 5 0 [] noS [] else if k = 1 then .mk 5 1 [] noS [] else .mk 6 0 [] noS []) := by
  rw [begins_one] at h
  obtain ⟨r, rfl⟩ := h
  have : k = 0 ∨ k = 1 ∨ k = 2 := by omega
  rcases this with rfl | rfl | rfl <;> simp [simpleP] <;> decide
end Cb
end Go.Proofs.YtpkonagjnfphkaaGreatDoor

namespace Go.Proofs.YtpkonagjnfphkaaGreatDoor
open Go.RowKit Cb
set_option linter.unusedSimpArgs false
set_option linter.unusedVariables false
theorem headOk_low (f : UInt8) (r : List UInt8) (hl : f.toNat % 32 < 24) : headP (f :: r) = some (((f.toNat / 32 : Nat) : Int), ((f.toNat % 32 : Nat) : Int), 1) := by
  have hF := f.toNat_lt
  have hone : headB ((f.toNat / 32 : Nat) : Int) ((f.toNat % 32 : Nat) : Int) = [f] := by
    rw [headB_small (by omega), show (((f.toNat / 32 : Nat) : Int) * 32 + ((f.toNat % 32 : Nat) : Int)).toNat = f.toNat by omega]
    simp
  have hok : headOk (f :: r) ((f.toNat / 32 : Nat) : Int) ((f.toNat % 32 : Nat) : Int) 1 = true := by unfold headOk; rw [hone]; simp [Oct.beginsB]
  simp only [headP, headN, if_pos hl, hok, if_true]
theorem headOk_iff {b : List UInt8} {m n : Int} {k : Nat} (hk : k ≤ b.length) : headOk b m n k = decide (headB m n = b.take k) := by
  rw [Bool.eq_iff_iff, decide_eq_true_eq]
  constructor
  · intro h; exact (headOk_take h).1.symm
  · intro h
    have hl : (headB m n).length = k := by rw [h, List.length_take]; omega
    unfold headOk Oct.beginsB
    simp only [Bool.and_eq_true, decide_eq_true_eq]
    exact ⟨⟨by omega, by rw [hl]; exact h.symm⟩, hl⟩
end Go.Proofs.YtpkonagjnfphkaaGreatDoor

namespace Go.Proofs.YtpkonagjnfphkaaGreatDoor
open Go.RowKit Cb
set_option linter.unusedSimpArgs false
set_option linter.unusedVariables false
theorem readHead_c (w : World) (D : Nat) (v : Value) (b : List UInt8) (h : RdAt w D v b) (hbl : b.length ≤ 1000000) :
    Calls Tryz.prog 146 #[.pointer (some ⟨D, 0, none⟩)] w (HdE b w D) := by
  cases b with
  | nil => exact hd_nil w D v h
  | cons f r =>
    by_cases h1 : f.toNat % 32 < 24
    · exact hd_low w D v f r h hbl h1
    · by_cases h2 : 28 ≤ f.toNat % 32
      · exact hd_far w D v f r h hbl h2
      · have hc : f.toNat % 32 = 24 ∨ f.toNat % 32 = 25 ∨ f.toNat % 32 = 26 ∨ f.toNat % 32 = 27 := by omega
        rcases hc with e | e | e | e
        · by_cases hs : r.length < 1
          · exact hd_short0 w D v f r h hbl e hs
          · exact hd_big0 w D v f r h hbl e (by omega)
        · by_cases hs : r.length < 2
          · exact hd_short1 w D v f r h hbl e hs
          · exact hd_big1 w D v f r h hbl e (by omega)
        · by_cases hs : r.length < 4
          · exact hd_short2 w D v f r h hbl e hs
          · exact hd_big2 w D v f r h hbl e (by omega)
        · by_cases hs : r.length < 8
          · exact hd_short3 w D v f r h hbl e hs
          · exact hd_big3 w D v f r h hbl e (by omega)
end Go.Proofs.YtpkonagjnfphkaaGreatDoor

namespace Go.Proofs.YtpkonagjnfphkaaGreatDoor
open Go.RowKit Cb
set_option linter.unusedSimpArgs false
set_option linter.unusedVariables false
attribute [local go_sem] Oper.semAt_some
def seqTail : Nat → Code → Code
  | 0, c => c
  | n + 1, .seq _ b => seqTail n b
  | _, c => c
namespace Cb
theorem kw_right (x : It) : rightB x = true → kwB x := by
  induction x using It.ind with
  | h x ih =>
    intro h
    rw [rightB_eq, Bool.and_eq_true] at h
    obtain ⟨h1, h2⟩ := h
    simp only [ownB, Bool.and_eq_true, decide_eq_true_eq] at h1
    exact (kwB_eq x).2 ⟨⟨by omega, by omega⟩, kwL_all fun y hy => ih y hy (rightL_mem h2 hy)⟩
end Cb
abbrev RiE (ok : Bool) (w : World) (en : Ending) (w' : World) : Prop := Below w.heap.size w w' ∧ en = if ok then .returned (.tuple #[]) else .panicked (gup 2)
abbrev RiC (S : Nat → Prop) (x : It) : Prop := ∀ (r : Rw) (w : World), ItR S w x r → cnt x ≤ 1000000 → kwB x → Tabs w → (∀ k, S k → k < w.heap.size) → Calls Tryz.prog 135 #[rwV r] w (RiE (rightB x) w)
def rwAt (L : List Rw) (k : Nat) : Rw := L.getD k ⟨0, 0, .slice none 0 0, ⟨#[]⟩, .slice none 0 0⟩
theorem rwAt_eq {L : List Rw} {k : Nat} (hk : k < L.length) : rwAt L k = L[k] := by unfold rwAt; rw [List.getD_eq_getElem?_getD, List.getElem?_eq_getElem hk]; rfl
theorem leaves_mark_panic {P : Program} {fn : Func} {tmps : Array Value} {R : Ending → World → Prop} {D : Nat} {w : World} {ch : List PanicEntry} (hD : w.heap[D]? = some (.deferred (some []))) (h : R (.panicked ch) (w.putObj D (.deferred none))) :
    LeavesInM Fence.wide 0 P fn tmps R [{ target := .collected D, args := #[] }] (.panicking ch) w :=
  ⟨by simp, .inl ⟨_, _, rfl, run_takeDeferred hD, by simpa [LeavesInM, LeavesIn] using h⟩⟩
set_option maxHeartbeats 4000000 in
set_option maxRecDepth 100000 in
theorem right_tail (S : Nat → Prop) (l : List It) (hp : ∀ x ∈ l, RiC S x) (hc : cntL l ≤ 1000000) (hkw : kwL l) (w0 w : World) (hw0 : Below w0.heap.size w0 w) (hSk : ∀ k, S k → k < w.heap.size) (B : Nat) (k1 n1 : Int) (vb : Value) (s1 : ByteArray) (la1 : Option Addr) (ln1 lc1 : Nat) (rows : List Rw)
    (hT : Tabs w) (hr : w.cell? ⟨B, 0 + 4, none⟩ = some (.slice la1 ln1 lc1)) (hu : SlS S w 5 (.slice la1 ln1 lc1) l.length (rows.flatMap rwC)) (hl : ItsR S w l rows) (u0 u2 u3 u4 u5 u6 u7 u8 u9 u10 u11 u12 u13 u14 u15 u16 u17 u18 u19 u20 u21 u22 u23 u24 u25 u26 u27 u28 u29 u30 u31 u32 u33 u34 u35 u36 u37 u38 u39 u40 u41 u42 u43 u44 u45 u46 u47 u48 u49 u50 u51 u52 u53 u54 u55 u56 u57 u58 u59 u60 u61 u62 u63 u64 u65 u66 u67 u68 u69 u70 u71 u72 : Value) :
    wpK Tryz.prog (seqTail 6 (Tryz.f135.body.getD .skip)) (bodyPostM Fence.wide 0 Tryz.prog Tryz.f135 (RiE (rightL l) w0)) { tmps := #[u0, .pointer (some ⟨B, 0, none⟩), u2, u3, u4, u5, u6, u7, u8, u9, u10, u11, u12, u13, u14, u15, u16, u17, u18, u19, u20, u21, u22, u23, u24, u25, u26, u27, u28, u29, u30, u31, u32, u33, u34, u35, u36, u37, u38, u39, u40, u41, u42, u43, u44, u45, u46, u47, u48, u49, u50, u51, u52, u53, u54, u55, u56, u57, u58, u59, u60, u61, u62, u63, u64, u65, u66, u67, u68, u69, u70, u71, u72], defers := [] } w := by
  obtain ⟨Q, hQ⟩ : ∃ Q, bodyPostM Fence.wide 0 Tryz.prog Tryz.f135 (RiE (rightL l) w0) = Q := ⟨_, rfl⟩
  rw [hQ]
  simp only [Tryz.f135, Option.getD, seqTail]
  subst hQ
  have hlr := hl.len
  have hll : ln1 = l.length := by obtain ⟨a, c, h⟩ := hu.1.len; simp at h; exact h.2.1
  subst hll
  refine wpK_seq_k fun K hK => ?_
  go_wp2_with (go_at_call 157; refine (valuesI_c la1 l.length lc1 _).mono ?_; rintro en w1 ⟨rfl, rfl⟩)
  refine wpK_block ?_
  have hb1 := below_alloc w (.cells #[.slice la1 l.length lc1] 59)
  have hz1 : (w.alloc (.cells #[.slice la1 l.length lc1] 59)).heap.size = w.heap.size + 1 := by simp
  have hRo : RoAt (w.alloc (.cells #[.slice la1 l.length lc1] 59)) w.heap.size (.slice la1 l.length lc1) l.length rows := ⟨(RowAt.new w #[.slice la1 l.length lc1] 59).cell (i := 0) rfl, (hu.up hb1).1⟩
  obtain ⟨w1, hw1⟩ : ∃ w1, w.alloc (.cells #[.slice la1 l.length lc1] 59) = w1 := ⟨_, rfl⟩
  rw [hw1] at hb1 hz1 hRo ⊢
  clear hw1
  have hln := cntL_len l
  have hl1 := hl.up hb1
  have hT1 := hT.up hb1
  refine wp_rangeP (n := 3) (S := fun q => q = w.heap.size ∨ S q) (gf := 178) (lb := #[.pointer (some ⟨w.heap.size, 0, none⟩)]) rfl enters_valI1 (args := fun k => #[rwV (rwAt rows k)]) (N := l.length)
    (valI1_z rows w.heap.size l.length _ _ w1 hRo hl.shp ⟨.inl rfl, hu.2.imp id fun h k hk => .inr (h k hk)⟩) (Below.refl _ _) (fun _ => rfl)
    (fun _ => False) (fun k h => h.elim) ?hS
    (fun k G W => Below w1.heap.size w1 W ∧ RowKit.Hid (∀ (i : Nat) (hi : i < l.length), i < k → rightB l[i] = true))
    (fun k a' G W => (∃ b, a' = { tmps := #[u0, .pointer (some ⟨B, 0, none⟩), u2, u3, u4, u5, u6, .pointer (some ⟨b, 0, none⟩), u8, u9, u10, u11, u12, u13, u14, u15, u16, u17, u18, u19, u20, u21, u22, u23, u24, u25, u26, u27, u28, u29, u30, u31, u32, u33, u34, u35, u36, u37, u38, u39, u40, u41, u42, u43, u44, u45, u46, u47, u48, u49, u50, u51, u52, u53, u54, u55, u56, u57, u58, u59, u60, u61, u62, u63, u64, u65, u66, .pointer (some ⟨B, 4, none⟩), .slice la1 l.length lc1, .func (.func 178) #[] #[.pointer (some ⟨w.heap.size, 0, none⟩)], rwV (rwAt rows k), u71, u72], defers := [] } ∧ G b ∧ W.rangeAt b 0 (rwC (rwAt rows k))) ∧ Below w1.heap.size w1 W ∧ RowKit.Hid (∀ (i : Nat) (hi : i < l.length), i < k → rightB l[i] = true))
    (fun c k G W => False)
    (fun ch W => ch = gup 2 ∧ Below w1.heap.size w1 W ∧ rightL l = false)
    ?abI ?abM ?abX ⟨Below.refl _ _, Lib.hid (fun i hi h => by omega)⟩ ?assign ?body ?pan ?done ?stop
  case hS =>
    rintro q (rfl | hq)
    · exact ⟨by omega, fun h => h⟩
    · have := hSk q hq; exact ⟨by omega, fun h => h⟩
  case abI =>
    rintro k G A B ⟨h1, h2⟩ hb
    exact ⟨h1.trans (hb.below (fun k e => e.1) h1.size), h2⟩
  case abM =>
    rintro k a' G A B' ⟨⟨b, rfl, hG, h1⟩, h2, h3⟩ hb
    exact ⟨⟨b, rfl, hG, fun j v hj => hb.cell (h1 j v hj) (fun e => e.2 hG)⟩, h2.trans (hb.below (fun k e => e.1) h2.size), h3⟩
  case abX => exact fun c k G A B h => h.elim
  case assign =>
    rintro l2 k G W K hk ⟨h1, h2⟩ hK
    obtain ⟨ka, na, ba, bna, bca, sa, la, lna, lca, he⟩ : Shp (rwAt rows k) := by rw [rwAt_eq (by omega)]; exact hl.shp _ (List.getElem_mem _)
    have hrw : rwV (rwAt rows k) = rwV ⟨ka, na, .slice ba bna bca, sa, .slice la lna lca⟩ := by rw [he]
    rw [hrw]
    gi_wp2
    refine hK _ _ (But.alloc W _) ⟨⟨W.heap.size, by rw [hrw], .inr ⟨Nat.le_refl _, by simp⟩, ?_⟩, h1.alloc h1.size _, h2⟩
    rw [he]
    exact rangeAt_new W (rwC ⟨ka, na, .slice ba bna bca, sa, .slice la lna lca⟩) 62 (0, 0)
  case body =>
    rintro l2 k a' G W hk hl2 _ hGl ⟨⟨b, rfl, hG, hrg⟩, h2, h3⟩
    have hkr : k < rows.length := by omega
    have hcl := hp l[k] (List.getElem_mem hk) (rwAt rows k) W (by rw [rwAt_eq hkr]; exact (hl1.get hk hkr).up h2) (by have := cntL_mem (List.getElem_mem hk); omega) (kwL_mem hkw (List.getElem_mem hk)) (hT1.up h2) (fun q hq => by have := hSk q hq; have := h2.size; omega)
    have hnx := Lib.hid (fun (e : rightB l[k] = true) => show ∀ (i : Nat) (hi : i < l.length), i < k + 1 → rightB l[i] = true from fun i hi h => by
      by_cases hik : i < k
      · exact h3.out i hi hik
      · obtain rfl : i = k := by omega
        exact e)
    have hbad := Lib.hid (fun (e : rightB l[k] = false) => show rightL l = false from by
      rw [Bool.eq_false_iff]
      intro h
      have := rightL_mem h (List.getElem_mem hk)
      rw [e] at this; cases this)
    generalize rightB l[k] = z at hcl hnx hbad
    cases z
    · gi_wp2_with (first
        | (refine wpListIn_loadr rfl 62 (.tmp 7) rfl b 0 rfl (rwC (rwAt rows k)) _ hrg Tryz.underlying62 rfl (by kernel_rfl) ?_)
        | ((try refine ⟨trivial, ?_⟩); gi_at_call 135; refine (CallsIn.inRound l2 (callsIn_wide.2 hcl)).mono ?_; rintro en w3 ⟨hb3, rfl⟩))
      exact ⟨rfl, But.of_below hb3, rfl, below_up h2 hb3, hbad.out trivial⟩
    · gi_wp2_with (first
        | (refine wpListIn_loadr rfl 62 (.tmp 7) rfl b 0 rfl (rwC (rwAt rows k)) _ hrg Tryz.underlying62 rfl (by kernel_rfl) ?_)
        | ((try refine ⟨trivial, ?_⟩); gi_at_call 135; refine (CallsIn.inRound l2 (callsIn_wide.2 hcl)).mono ?_; rintro en w3 ⟨hb3, rfl⟩))
      exact ⟨But.of_below hb3, below_up h2 hb3, Lib.hid (hnx.out trivial)⟩
  case pan =>
    rintro D ch W hD ⟨rfl, hb, hrf⟩ hK
    have hp2 : But (· = D) W (W.putObj D (.deferred none)) := But.putObj _ _ _ (.inl rfl)
    have hbw := below_up (below_up hw0 hb1) hb
    have hwz := hw0.size
    refine leaves_mark_panic hK ⟨hbw.trans (hp2.below (fun j e => by omega) hbw.size), by rw [hrf]; rfl⟩
  case done =>
    rintro D G W hD hGD ⟨h1, h2⟩ hK
    have hp2 : But (· = D) W (W.putObj D (.deferred none)) := But.putObj _ _ _ (.inl rfl)
    have hbw := below_up (below_up hw0 hb1) h1
    have hwz := hw0.size
    have hrt : rightL l = true := by
      rw [rightL_all, List.all_eq_true]
      intro x hx
      obtain ⟨i, hi, rfl⟩ := List.getElem_of_mem hx
      exact h2.out i hi hi
    refine ⟨by simp, .inl ⟨_, _, rfl, run_takeDeferred hK, ?_⟩⟩
    exact ⟨.tuple #[], by simp [results, Tryz.results135, go_sem], hbw.trans (hp2.below (fun j e => by omega) hbw.size), by rw [hrt]; rfl⟩
  case stop => exact fun D c k G W hD hG hk h => h.elim
end Go.Proofs.YtpkonagjnfphkaaGreatDoor

namespace Go.Proofs.YtpkonagjnfphkaaGreatDoor
open Go.RowKit Go.Maps
set_option linter.unusedVariables false

section
variable {P : Program} {k : TypeId}

theorem erase_map {α β : Type} (f : α → β) : ∀ (l : List α) (j : Nat), (l.eraseIdx j).map f = (l.map f).eraseIdx j
  | [], _ => rfl
  | _ :: _, 0 => rfl
  | x :: l, j + 1 => by rw [List.eraseIdx_cons_succ, List.map_cons, List.map_cons, List.eraseIdx_cons_succ, erase_map f l j]
theorem at_once {α β : Type} {es0 bs : List (α × β)} {p q : α × β} {j : Nat} (hn : ((es0 ++ p :: bs).map (·.1)).Nodup) (hj : (es0 ++ p :: bs)[j]? = some q) (hq : q.1 = p.1) : j = es0.length := by
  rw [List.map_append, List.map_cons, List.nodup_append] at hn
  obtain ⟨h1, h2, h3⟩ := hn
  rcases Nat.lt_trichotomy j es0.length with h | h | h
  · rw [List.getElem?_append_left h] at hj
    exact absurd hq (h3 _ (List.mem_map.2 ⟨q, List.mem_of_getElem? hj, rfl⟩) _ (by simp))
  · exact h
  · rw [List.getElem?_append_right (by omega), show j - es0.length = (j - es0.length - 1) + 1 by omega, List.getElem?_cons_succ] at hj
    rw [List.nodup_cons] at h2
    exact absurd (List.mem_map.2 ⟨q, List.mem_of_getElem? hj, hq⟩) h2.1

theorem MapAt.put_old {w : World} {B : Nat} {es0 bs : List (Value × Value)} {x v0 : Value} (h : MapAt P k w B (es0 ++ (x, v0) :: bs)) (K : Keyed P k) {t e : TypeId} (ht : P.underlying t = some (.map k e)) {v : Value} {l : Lit} (hx : keyOf P k x = some l) :
    ∃ w', (Instr.mapUpdate t (.map (some B)) x v).run P w = .ok () w' ∧ MapAt P k w' B (es0 ++ (x, v) :: bs) ∧ But (· = B) w w' := by
  obtain ⟨es, clock, hb, he, hbn⟩ := h.ex
  have hks : ∀ e ∈ es.toList, ∃ l, keyOf P k e.key = some l := fun e hm => h.keys (e.key, e.val) (by rw [← he]; exact List.mem_map.2 ⟨e, hm, rfl⟩)
  rcases K.find w hx es.toList hks with ⟨h1, h2⟩ | ⟨j, e0, h1, h2, h3⟩
  · have : (x, v0) ∈ es.toList.map (fun e => (e.key, e.val)) := by rw [he]; simp
    obtain ⟨e1, hm1, e2⟩ := List.mem_map.1 this
    exact absurd (congrArg Prod.fst e2) (h2 e1 hm1)
  · have hj : (es0 ++ (x, v0) :: bs)[j]? = some (e0.key, e0.val) := by rw [← he, List.getElem?_map, h2]; rfl
    have hja := at_once h.one hj h3
    have h2' : es[j]? = some e0 := by simpa using h2
    have hs := K.stays w hx
    refine ⟨{ w with heap := w.heap.setIfInBounds B (.map (es.modify j fun e => { e with key := x, val := v }) clock) }, ?_, ⟨⟨_, clock, Array.getElem?_setIfInBounds_self_of_lt h.lt, ?_, hbn.modify j x v⟩, ?_, ?_⟩, ?_⟩
    · simp [Instr.mapUpdate, run_underlying ht, MapKept.run_getObj_map hb, K.check w false hx, h1, h2', h3, hs, MapKept.run_setObj_map _ hb, Result.andThen]
    · refine List.ext_getElem? fun i => ?_
      rw [List.getElem?_map, Array.getElem?_toList, Array.getElem?_modify]
      have hi : (es0 ++ (x, v0) :: bs)[i]? = es[i]?.map (fun e => (e.key, e.val)) := by rw [← he, List.getElem?_map, Array.getElem?_toList]
      by_cases hij : j = i
      · rw [if_pos hij, ← hij, h2']
        rw [List.getElem?_append_right (by omega), show j - es0.length = 0 by omega]
        rfl
      · rw [if_neg hij, ← hi]
        rcases Nat.lt_or_ge i es0.length with h4 | h4
        · rw [List.getElem?_append_left h4, List.getElem?_append_left h4]
        · rw [List.getElem?_append_right h4, List.getElem?_append_right h4, show i - es0.length = (i - es0.length - 1) + 1 by omega]
          rfl
    · intro p hp
      rcases List.mem_append.1 hp with hp | hp
      · exact h.keys p (by simp [hp])
      · rcases List.mem_cons.1 hp with rfl | hp
        · exact ⟨l, hx⟩
        · exact h.keys p (by simp [hp])
    · have := h.one
      rw [List.map_append, List.map_cons] at this ⊢
      exact this
    · exact ⟨rfl, rfl, rfl, by simp, fun i hi hne => Array.getElem?_setIfInBounds_ne (fun e => hne e.symm)⟩

theorem MapAt.del {w : World} {B : Nat} {es0 bs : List (Value × Value)} {x v0 : Value} (h : MapAt P k w B (es0 ++ (x, v0) :: bs)) (K : Keyed P k) {t e : TypeId} (ht : P.underlying t = some (.map k e)) {l : Lit} (hx : keyOf P k x = some l) (kt ty : TypeId) :
    ∃ w', (Builtin.delete_ #[t, kt] ty #[.map (some B), x]).run P w = .ok (.tuple #[]) w' ∧ MapAt P k w' B (es0 ++ bs) ∧ But (· = B) w w' := by
  obtain ⟨es, clock, hb, he, hbn⟩ := h.ex
  have hks : ∀ e ∈ es.toList, ∃ l, keyOf P k e.key = some l := fun e hm => h.keys (e.key, e.val) (by rw [← he]; exact List.mem_map.2 ⟨e, hm, rfl⟩)
  rcases K.find w hx es.toList hks with ⟨h1, h2⟩ | ⟨j, e0, h1, h2, h3⟩
  · have : (x, v0) ∈ es.toList.map (fun e => (e.key, e.val)) := by rw [he]; simp
    obtain ⟨e1, hm1, e2⟩ := List.mem_map.1 this
    exact absurd (congrArg Prod.fst e2) (h2 e1 hm1)
  · have hj : (es0 ++ (x, v0) :: bs)[j]? = some (e0.key, e0.val) := by rw [← he, List.getElem?_map, h2]; rfl
    have hja := at_once h.one hj h3
    refine ⟨{ w with heap := w.heap.setIfInBounds B (.map (es.eraseIdxIfInBounds j) clock) }, ?_, ⟨⟨_, clock, Array.getElem?_setIfInBounds_self_of_lt h.lt, ?_, hbn.erase j⟩, ?_, ?_⟩, ?_⟩
    · simp [Builtin.delete_, run_underlying ht, MapKept.run_getObj_map hb, K.check w _ hx, h1, MapKept.run_setObj_map _ hb, Result.andThen]
    · rw [Array.toList_eraseIdxIfInBounds, erase_map, he, hja]
      rw [List.eraseIdx_append_of_length_le (Nat.le_refl _), Nat.sub_self]; rfl
    · intro p hp
      exact h.keys p (by rcases List.mem_append.1 hp with hp | hp <;> simp [hp])
    · have := h.one
      rw [List.map_append, List.map_cons, List.nodup_append, List.nodup_cons] at this
      rw [List.map_append, List.nodup_append]
      exact ⟨this.1, this.2.1.2, fun a ha b hb' => this.2.2 a ha b (by simp [hb'])⟩
    · exact ⟨rfl, rfl, rfl, by simp, fun i hi hne => Array.getElem?_setIfInBounds_ne (fun e => hne e.symm)⟩

theorem MapAt.len {w : World} {B : Nat} {ents : List (Value × Value)} (h : MapAt P k w B ents) {t e : TypeId} (ht : P.underlying t = some (.map k e)) (ty : TypeId) :
    (Builtin.len_ #[t] ty #[.map (some B)]).run P w = .ok (.int .i64 ents.length) w := by
  obtain ⟨es, clock, hb, he, hbn⟩ := h.ex
  have : es.size = ents.length := by rw [← he]; simp
  simp [Builtin.len_, run_underlying ht, MapKept.run_getObj_map hb, goInt, this]
end
end Go.Proofs.YtpkonagjnfphkaaGreatDoor

namespace Go.Proofs.YtpkonagjnfphkaaGreatDoor
open Go.RowKit Go.Maps Cb
set_option linter.unusedSimpArgs false
set_option linter.unusedVariables false
section
variable {P : Program}
theorem cb_ins {ops : Array Oper} {rest : List Oper} {o : Oper} {a : Act} {w w' : World} {Q : Exit → Act → World → Prop} (hgd : o.guard = none) (t : TypeId) (m x y : Operand) (ho : o.op = .insert t m x y) {mv xv yv : Value} (hm : a.eval m = mv) (hx : a.eval x = xv) (hy : a.eval y = yv)
    (hr : (Instr.mapUpdate t mv xv yv).run P w = .ok () w') (h : wpList P ops Q rest (a.put o.dst undef) w') : wpList P ops Q (o :: rest) a w :=
  wpList_plain hgd fun K hK => by
    unfold Oper.wp execOp
    simp only [ho, hm, hx, hy, Sem.run_bind, Sem.run_pure, Result.andThen_ok, hr]
    exact hK _ _ h
end
abbrev wEnts : List (Value × Value) := [(.int .i64 1, .func (.func 169) #[] #[]), (.int .i64 2, .func (.func 170) #[] #[]), (.int .i64 3, .func (.func 172) #[] #[]), (.int .i64 4, .func (.func 173) #[] #[]), (.int .i64 5, .func (.func 175) #[] #[]), (.int .i64 6, .func (.func 176) #[] #[])]
abbrev WMap (w : World) (M : Nat) : Prop := MapAt Tryz.prog 60 w M wEnts
set_option maxRecDepth 100000 in
theorem writes_c (w : World) : Calls Tryz.prog 155 #[] w fun en w' => en = .returned (.map (some w.heap.size)) ∧ WMap w' w.heap.size ∧ Below w.heap.size w w' := by
  have hmk := run_makeMap (P := Tryz.prog) 192 w
  have K : Keyed Tryz.prog 60 := int_keyed Tryz.underlying60
  have hB := below_alloc w (.map #[] 0)
  have hm0 := MapAt.new (P := Tryz.prog) (k := 60) w
  obtain ⟨w1, hr1, hm1, hb1⟩ := hm0.put_new K Tryz.underlying192 (v := .func (.func 169) #[] #[]) (keyOf_int_mk (a := 1) Tryz.underlying60 (by decide)) (fun p hp e => by simp at hp; try rcases hp with rfl <;> simp at e)
  obtain ⟨w2, hr2, hm2, hb2⟩ := hm1.put_new K Tryz.underlying192 (v := .func (.func 170) #[] #[]) (keyOf_int_mk (a := 2) Tryz.underlying60 (by decide)) (fun p hp e => by simp at hp; try rcases hp with rfl <;> simp at e)
  obtain ⟨w3, hr3, hm3, hb3⟩ := hm2.put_new K Tryz.underlying192 (v := .func (.func 172) #[] #[]) (keyOf_int_mk (a := 3) Tryz.underlying60 (by decide)) (fun p hp e => by simp at hp; try rcases hp with rfl | rfl <;> simp at e)
  obtain ⟨w4, hr4, hm4, hb4⟩ := hm3.put_new K Tryz.underlying192 (v := .func (.func 173) #[] #[]) (keyOf_int_mk (a := 4) Tryz.underlying60 (by decide)) (fun p hp e => by simp at hp; try rcases hp with rfl | rfl | rfl <;> simp at e)
  obtain ⟨w5, hr5, hm5, hb5⟩ := hm4.put_new K Tryz.underlying192 (v := .func (.func 175) #[] #[]) (keyOf_int_mk (a := 5) Tryz.underlying60 (by decide)) (fun p hp e => by simp at hp; try rcases hp with rfl | rfl | rfl | rfl <;> simp at e)
  obtain ⟨w6, hr6, hm6, hb6⟩ := hm5.put_new K Tryz.underlying192 (v := .func (.func 176) #[] #[]) (keyOf_int_mk (a := 6) Tryz.underlying60 (by decide)) (fun p hp e => by simp at hp; try rcases hp with rfl | rfl | rfl | rfl | rfl <;> simp at e)
  have hB2 := hB.trans (((((((hb1.trans hb2).trans hb3).trans hb4).trans hb5).trans hb6)).below (fun q e => by omega) hB.size)
  go_enter Tryz.func155, Tryz.ntmps155
  go_wp2_with (first
    | (refine cb_ins rfl 192 (.tmp 1) (.const (.int .i64 1)) (.func 169) rfl rfl rfl rfl hr1 ?_)
    | (refine cb_ins rfl 192 (.tmp 1) (.const (.int .i64 2)) (.func 170) rfl rfl rfl rfl hr2 ?_)
    | (refine cb_ins rfl 192 (.tmp 1) (.const (.int .i64 3)) (.func 172) rfl rfl rfl rfl hr3 ?_)
    | (refine cb_ins rfl 192 (.tmp 1) (.const (.int .i64 4)) (.func 173) rfl rfl rfl rfl hr4 ?_)
    | (refine cb_ins rfl 192 (.tmp 1) (.const (.int .i64 5)) (.func 175) rfl rfl rfl rfl hr5 ?_)
    | (refine cb_ins rfl 192 (.tmp 1) (.const (.int .i64 6)) (.func 176) rfl rfl rfl rfl hr6 ?_))
  go_ret
  exact ⟨rfl, hm6, hB2⟩
end Go.Proofs.YtpkonagjnfphkaaGreatDoor

namespace Go.Proofs.YtpkonagjnfphkaaGreatDoor
open Go.RowKit
set_option linter.unusedSimpArgs false
set_option linter.unusedVariables false

/-- The block of the slice v holds elements of type e. -/
def Ty (w : World) (v : Value) (e : TypeId) : Prop := ∀ k, v.ownBlock = some k → ∃ cur f, w.heap[k]? = some (.cells cur e f)
theorem own_ty {w : World} {base : Nat} {e : TypeId} {sz : Nat} {v : Value} {n : Nat} {xs : List Value} (h : w.ownsRow base e sz v n xs) : Ty w v e := by
  intro k hk
  rcases h.2 with ⟨rfl, _⟩ | ⟨g, cap, cur, rfl, _, hc, _⟩
  · cases hk
  · cases hk; exact ⟨_, _, hc⟩
theorem Ty.ne {w : World} {base : Nat} {e e' : TypeId} {sz : Nat} {u v : Value} {n : Nat} {xs : List Value} (h : Ty w u e) (ho : w.ownsRow base e' sz v n xs) (hne : e ≠ e') : ∀ k, u.ownBlock = some k → v.ownBlock ≠ some k := by
  intro k hk hv
  obtain ⟨cur, f, h1⟩ := h k hk
  obtain ⟨cur', f', h2⟩ := own_ty ho k hv
  rw [h1] at h2
  simp only [Option.some.injEq, Obj.cells.injEq] at h2
  exact hne h2.2.1
theorem Ty.up {w w' : World} {u : Value} {e : TypeId} (h : Ty w u e) (hb : Below w.heap.size w w') : Ty w' u e := by
  intro k hk
  obtain ⟨cur, f, h1⟩ := h k hk
  exact ⟨cur, f, by rw [hb.block k (lt_of_block h1)]; exact h1⟩
theorem Ty.grown {w w' : World} {u : Value} {e : TypeId} {row : Option Nat} (h : Ty w u e) (hg : w.grownBy w' row) (hn : ∀ k, u.ownBlock = some k → row ≠ some k) : Ty w' u e := by
  intro k hk
  obtain ⟨cur, f, h1⟩ := h k hk
  exact ⟨cur, f, by rw [hg.block k (lt_of_block h1) (fun e => hn k hk e.symm)]; exact h1⟩
theorem Sl.grown {w w' : World} {sz : Nat} {u : Value} {m : Nat} {cs : List Value} {row : Option Nat} (h : Sl w sz u m cs) (hg : w.grownBy w' row) (hn : ∀ k, u.ownBlock = some k → row ≠ some k) : Sl w' sz u m cs := by
  obtain ⟨hl, ⟨a, c, rfl, rfl⟩ | ⟨b, off, cap, rfl, hn', hm, hc⟩⟩ := h
  · exact ⟨hl, .inl ⟨a, c, rfl, rfl⟩⟩
  · exact ⟨hl, .inr ⟨b, off, cap, rfl, hn', hm, fun j u hj => hg.cell (hc j u hj) (fun e => hn b rfl e.symm)⟩⟩

theorem each_snocT {w w' : World} {e : TypeId} {vs : List Value} {ls : List (List UInt8)} {u : Value} {p : List UInt8} (hl : vs.length = ls.length)
    (h : ∀ (i : Nat) (u : Value) (l' : List UInt8), vs[i]? = some u → ls[i]? = some l' → Sl w 1 u l'.length (by8 l') ∧ Ty w u e)
    (hu : Sl w 1 u p.length (by8 p)) (hr : Ty w u e) (hk : ∀ (u : Value) (m : Nat) (cs : List Value), Sl w 1 u m cs → Ty w u e → Sl w' 1 u m cs ∧ Ty w' u e) :
    ∀ (i : Nat) (u' : Value) (l' : List UInt8), (vs ++ [u])[i]? = some u' → (ls ++ [p])[i]? = some l' → Sl w' 1 u' l'.length (by8 l') ∧ Ty w' u' e := by
  intro i u' l' h1 h2
  rcases Nat.lt_or_ge i vs.length with hi | hi
  · rw [List.getElem?_append_left hi] at h1
    rw [List.getElem?_append_left (by omega)] at h2
    obtain ⟨h3, h4⟩ := h i u' l' h1 h2
    exact hk _ _ _ h3 h4
  · rw [List.getElem?_append_right hi] at h1
    rw [List.getElem?_append_right (by omega)] at h2
    have e : i - vs.length = 0 := by
      rcases Nat.eq_zero_or_pos (i - vs.length) with h | h
      · exact h
      · rw [List.getElem?_eq_none (by simp; omega)] at h1; cases h1
    rw [e] at h1
    rw [← hl, e] at h2
    simp at h1 h2
    subst h1 h2
    exact hk _ _ _ hu hr

/-- What the reference's Split answers. -/
def SplitPostR (l : List UInt8) (at_ : List Int) (w : World) (e : Ending) (w' : World) : Prop :=
  Below w.heap.size w w' ∧ ∃ v vs, e = .returned (.tuple #[v, .int .i64 (Oct.splitE l at_)]) ∧ SlB w' v (Oct.splitL l at_).length vs (Oct.splitL l at_)

end Go.Proofs.YtpkonagjnfphkaaGreatDoor

namespace Go.Proofs.YtpkonagjnfphkaaGreatDoor
open Go.RowKit Cb
set_option linter.unusedSimpArgs false
set_option linter.unusedVariables false
theorem own_grown {w w' : World} {base : Nat} {e : TypeId} {sz : Nat} {v : Value} {n : Nat} {xs : List Value} {row : Option Nat} (h : w.ownsRow base e sz v n xs) (hg : w.grownBy w' row) (hn : ∀ k, v.ownBlock = some k → row ≠ some k) : w'.ownsRow base e sz v n xs :=
  own_but (O := fun k => row = some k) h (But.grown hg (fun r e => .inl e)) (fun k hk => hn k hk)
/-- Slices of bytes, each in a block of its own. -/
structure EB (w : World) (vs : List Value) (ls : List (List UInt8)) : Prop where
  len : vs.length = ls.length
  each : ∀ (i : Nat) (u : Value) (l : List UInt8), vs[i]? = some u → ls[i]? = some l → ∃ base, w.ownsRow base 5 1 u l.length (by8 l)
theorem EB.nil (w : World) : EB w [] [] := ⟨rfl, fun i u l h => by simp at h⟩
theorem EB.up {w w' : World} {vs : List Value} {ls : List (List UInt8)} (h : EB w vs ls) (hb : Below w.heap.size w w') : EB w' vs ls :=
  ⟨h.len, fun i u l h1 h2 => by obtain ⟨b, h3⟩ := h.each i u l h1 h2; exact ⟨b, own_up h3 hb⟩⟩
theorem EB.grown {w w' : World} {vs : List Value} {ls : List (List UInt8)} (h : EB w vs ls) {e : TypeId} {base sz : Nat} {v : Value} {n : Nat} {xs : List Value} (ho : w.ownsRow base e sz v n xs) (hne : 5 ≠ e) (hg : w.grownBy w' v.ownBlock) : EB w' vs ls :=
  ⟨h.len, fun i u l h1 h2 => by
    obtain ⟨b, h3⟩ := h.each i u l h1 h2
    exact ⟨b, own_grown h3 hg ((own_ty h3).ne ho hne)⟩⟩
theorem EB.snoc {w : World} {vs : List Value} {ls : List (List UInt8)} (h : EB w vs ls) {u : Value} {p : List UInt8} {base : Nat} (hu : w.ownsRow base 5 1 u p.length (by8 p)) : EB w (vs ++ [u]) (ls ++ [p]) := by
  refine ⟨by simp [h.len], fun i u' l' h1 h2 => ?_⟩
  have hl := h.len
  rcases Nat.lt_or_ge i vs.length with hi | hi
  · rw [List.getElem?_append_left hi] at h1
    rw [List.getElem?_append_left (by omega)] at h2
    exact h.each i u' l' h1 h2
  · rw [List.getElem?_append_right hi] at h1
    rw [List.getElem?_append_right (by omega)] at h2
    have e : i - vs.length = 0 := by
      rcases Nat.eq_zero_or_pos (i - vs.length) with h | h
      · exact h
      · rw [List.getElem?_eq_none (by simp; omega)] at h1; cases h1
    rw [e] at h1
    rw [← hl, e] at h2
    simp at h1 h2
    subst h1 h2
    exact ⟨base, hu⟩
theorem EB.slB {w : World} {vs : List Value} {ls : List (List UInt8)} (h : EB w vs ls) {v : Value} {n : Nat} (hv : Sl w 1 v n vs) : SlB w v n vs ls :=
  ⟨hv, h.len, fun i u l h1 h2 => by obtain ⟨b, h3⟩ := h.each i u l h1 h2; exact Sl.of_own h3⟩
abbrev WrC (S : Nat → Prop) (x : It) : Prop := ∀ (r : Rw) (w : World), ItR S w x r → cnt x ≤ 1000000 → rightB x = true → Calls Tryz.prog 137 #[rwV r] w fun en w' => ∃ v, en = .returned v ∧ w'.ownsRow w.heap.size 5 1 v (bytesOf x).length (by8 (bytesOf x)) ∧ Below w.heap.size w w'
set_option maxHeartbeats 2000000 in
set_option maxRecDepth 100000 in
theorem madeB_c (S : Nat → Prop) (l : List It) (hp : ∀ x ∈ l, WrC S x) (hri : rightL l = true) (hc : cntL l ≤ 1000000) (u : Value) (n : Nat) (rows : List Rw) (w : World) (hu : SlS S w 5 u n (rows.flatMap rwC)) (hl : ItsR S w l rows) :
    Calls Tryz.prog 174 #[u, .func (.func 137) #[] #[]] w fun en w' => ∃ v vs, en = .returned v ∧ w'.ownsRow w.heap.size 48 1 v n vs ∧ EB w' vs (l.map bytesOf) ∧ Below w.heap.size w w' := by
  have Hrn := Lib.hid (show rows.length = n from Sl.recs (cells := rwC) (sz := 5) (fun _ => rfl) (by decide) hu.1)
  have Hln := Lib.hid (show l.length = n by rw [← hl.len]; exact Hrn.out)
  have hn : n ≤ 1000000 := by have := cntL_len l; have := Hln.out; omega
  obtain ⟨a, c, rfl⟩ := hu.1.len
  go_enter Tryz.func174, Tryz.ntmps174
  go_wp2
  go_loopw [4, 9] (fun o i wr => ∃ (j : Nat) (vs : List Value), j ≤ n ∧ i = .int .i64 j ∧ wr.ownsRow w.heap.size 48 1 o j vs ∧ EB wr vs ((l.take j).map bytesOf) ∧ Below w.heap.size w wr) (fun _ i _ => n - (intOf i).toNat)
  case atStart => exact ⟨0, [], Nat.zero_le _, rfl, World.ownsRow_nil _ _ _ _, EB.nil _, Below.refl _ _⟩
  case round =>
    obtain ⟨j, vs, hj, rfl, ho, hE, hB⟩ := hrel
    have HE := Lib.hid hE
    by_cases hlt : j < n
    · have hl' : j < l.length := by rw [Hln.out]; exact hlt
      have hr' : j < rows.length := by rw [Hrn.out]; exact hlt
      obtain ⟨b, off, rfl, hr⟩ := (hu.1.up hB).rec_at (cells := rwC) (sz := 5) (fun _ => rfl) hlt hr'
      have hs1 := Lib.hid (show (l.take (j + 1)).map bytesOf = (l.take j).map bytesOf ++ [bytesOf l[j]] by rw [List.take_succ_eq_append_getElem hl', List.map_append]; rfl)
      have hbq : Below w.heap.size w (wr.alloc (.cells (rwC rows[j]).toArray 62)) := hB.alloc hB.size _
      have hcl := hp l[j] (List.getElem_mem hl') rows[j] _ ((hl.get hl' hr').up hbq) (by have := cntL_mem (List.getElem_mem hl'); omega) (rightL_mem hri (List.getElem_mem hl'))
      have Hbq := Lib.hid hbq
      have Ho := Lib.hid ho
      have HB := Lib.hid hB
      have hsx := (hl.get hl' hr').shape
      clear hbq ho hE
      generalize rows[j] = rx at *
      obtain ⟨k1, n1, ba1, bn1, bc1, s1, la1, ln1, lc1, rfl⟩ := hsx
      generalize l[j] = x at *
      generalize bytesOf x = bs at *
      obtain ⟨ao, co, rfl⟩ := own_slice Ho.out
      go_wp2_with (first
        | (refine wpList_load_mid rfl 62 (.tmp 11) rfl b (off + j * 5) rfl (rwC ⟨k1, n1, .slice ba1 bn1 bc1, s1, .slice la1 ln1 lc1⟩) _ hr Tryz.underlying62 rfl (by kernel_rfl) ?_)
        | (go_at_call 137; refine hcl.mono ?_; rintro en w1 ⟨v1, rfl, ho1, hb1⟩; obtain ⟨a1, c1, rfl⟩ := own_slice ho1)
        | (at_builtin; refine wpList_app rfl _ _ 150 rfl slT_bb w.heap.size rfl ((own_up (own_up Ho.out (below_alloc _ _)) hb1).alloc _) rfl (sl1 _ _ rfl (.slice a1 bs.length c1) _) (by intro u hu; simp at hu; subst hu; rfl) (by simp only [maxLen]; omega) (by omega) (by have := Hbq.out.size; have := hb1.size; simp at *; omega) ?_; intro o' w3 ho' hg' _))
      have hE1 := (HE.out.up (below_alloc _ _)).up hb1
      have hz : w1.heap.size ≤ (w1.alloc (.cells #[.slice a1 bs.length c1] 48)).heap.size := by simp
      have hE3 := ((hE1.up (below_alloc w1 (.cells #[.slice a1 bs.length c1] 48))).snoc (own_up ho1 (below_alloc _ _))).grown ((own_up (own_up Ho.out (below_alloc _ _)) hb1).alloc _) (by decide) hg'
      have hB3 := grown_below (below_up (below_up Hbq.out hb1) (below_alloc w1 (.cells #[.slice a1 bs.length c1] 48))) hg' (fun q hq => (own_of_some Ho.out hq).1)
      go_roundw
      case rel => exact ⟨j + 1, _, by omega, by go_num, ho', by rw [hs1.out]; exact hE3, hB3⟩
      case measure => simp [intOf]; omega
    · obtain rfl : j = n := by omega
      have hall : l.take j = l := List.take_of_length_le (by rw [Hln.out]; exact Nat.le_refl _)
      have Hall := Lib.hid hall
      clear hall hE
      obtain ⟨ao, co, rfl⟩ := own_slice ho
      go_wp2
      go_ret
      exact ⟨_, vs, rfl, ho, by rw [← Hall.out]; exact HE.out, hB⟩
end Go.Proofs.YtpkonagjnfphkaaGreatDoor
