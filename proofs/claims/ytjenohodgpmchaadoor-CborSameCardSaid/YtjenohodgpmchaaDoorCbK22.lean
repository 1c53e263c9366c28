/-
  CbRr, PtApp: several texts in one (bundle.py).
-/
import Derived.Test.YtjenohodgpmchaaDoorCbK20
import Derived.Test.YtjenohodgpmchaaDoorCbK21
import Derived.Test.YtjenohodgpmchaaDoorCbK15
import Derived.Test.YtjenohodgpmchaaDoorCbK02
import Derived.Test.YtjenohodgpmchaaDoorCbK05
namespace Go.Proofs.YtjenohodgpmchaaDoor
open Go.RowKit Cb
set_option linter.unusedSimpArgs false
set_option linter.unusedVariables false
namespace Cb
def ownQ (k n : Int) (bare fine : Bool) : Bool := decide (1 ≤ k ∧ k ≤ 6) && (bare && (decide (k ≠ 5 ∨ n ≤ 1) && fine))
end Cb
abbrev RiRC (S : Nat → Prop) (x : It) : Prop := ∀ (r : Rw) (w : World), ItR S w x r → cnt x ≤ 1000000 → Calls Tryd.prog 40 #[rwV r] w (Ret (.bool (rightB x)) w)
set_option maxHeartbeats 8000000 in
set_option maxRecDepth 100000 in
theorem rightR_c (S : Nat → Prop) (x : It) : RiRC S x := by
  induction x using It.ind with
  | h x ih =>
    intro r w hr hcx
    obtain ⟨rows, p⟩ := hr.parts
    have hu := p.l
    have hea := p.each
    have hln := p.each.len
    have hc := cntL_len x.l
    have hcy : ∀ z ∈ x.l, cnt z ≤ 1000000 := fun z hz => by have := cnt_mem hz; omega
    obtain ⟨k1, n1, ba1, bc1, s1, la1, lc1, rfl⟩ := hr.shape2
    have hll : x.l.length ≤ 1000000 := by have := cntL_len x.l; cases x; simp only [cnt, It.l] at *; omega
    have hss : s1.size ≤ 1000000 := by have h := p.s; simp only at h; subst h; cases x; simp only [cnt, It.s] at *; omega
    simp only at hu
    have hB1 := below_alloc w (.cells (rwC ⟨k1, n1, .slice ba1 x.b.length bc1, s1, .slice la1 x.l.length lc1⟩).toArray 28)
    have e1 := rangeAt_new w (rwC ⟨k1, n1, .slice ba1 x.b.length bc1, s1, .slice la1 x.l.length lc1⟩) 28 (0, 0)
    have hru := (runesR_c s1 (w.alloc (.cells (rwC ⟨k1, n1, .slice ba1 x.b.length bc1, s1, .slice la1 x.l.length lc1⟩).toArray 28)) (by omega)).mono (fun en w' h => show Ret _ _ en w' from ⟨h.1, by rw [← h.2]; exact Below.refl _ _⟩)
    have hba := Lib.hid (fun w2 (hb : Below (w.alloc (.cells (rwC ⟨k1, n1, .slice ba1 x.b.length bc1, s1, .slice la1 x.l.length lc1⟩).toArray 28)).heap.size (w.alloc (.cells (rwC ⟨k1, n1, .slice ba1 x.b.length bc1, s1, .slice la1 x.l.length lc1⟩).toArray 28)) w2) => bareR_c S x _ w2 ((hr.up hB1).up hb) hcx)
    obtain ⟨bare, hbare⟩ : ∃ v, bareB x = v := ⟨_, rfl⟩
    obtain ⟨⟨rn, rf⟩, hrf⟩ : ∃ v, runes s1 = v := ⟨_, rfl⟩
    have HR := Lib.hid (show rightB x = (ownQ k1 n1 bare rf && rightL x.l) by
      have h1 := p.k; have h2 := p.n; have h3 := p.s
      simp only at h1 h2 h3
      rw [rightB_eq]
      unfold ownB ownQ
      rw [← h1, ← h2, ← h3, hbare, hrf])
    rw [hbare] at hba
    rw [hrf] at hru
    clear hbare hrf p hr hcx
    generalize hn : x.l.length = n at *
    have Hn := Lib.hid hn
    clear hn
    have a0 := e1 0 _ rfl
    have a1 := e1 1 _ rfl
    have a2 := e1 2 _ rfl
    have a3 := e1 3 _ rfl
    have a4 := e1 4 _ rfl
    simp only [Nat.zero_add] at a0 a1 a2 a3 a4
    by_cases hk1 : k1 < 1
    · have hd : decide (k1 < 1) = true := decide_eq_true hk1
      have hf : ¬ 1 ≤ k1 := by omega
      go_enter Tryd.func40, Tryd.ntmps40
      go_wp2_with (first
        | (go_at_call 48; refine hru.mono ?_; rintro en w2 ⟨rfl, hb2⟩; have hB2 := below_up hB1 hb2; have q1 := rangeAt_up hb2 e1; have b0 := q1 0 _ rfl; have b1 := q1 1 _ rfl; have b2 := q1 2 _ rfl; have b3 := q1 3 _ rfl; have b4 := q1 4 _ rfl; simp only [Nat.zero_add] at b0 b1 b2 b3 b4))
      go_ret
      exact ⟨by rw [HR.out]; first | (simp [ownQ, hf]; done) | (simp [ownQ]; intros; omega), hB2⟩
    have hd1 : decide (k1 < 1) = false := decide_eq_false hk1
    by_cases hk6 : 6 < k1
    · have hd : decide (6 < k1) = true := decide_eq_true hk6
      have hd' : decide (k1 > 6) = true := decide_eq_true hk6
      have hf : ¬ k1 ≤ 6 := by omega
      go_enter Tryd.func40, Tryd.ntmps40
      go_wp2_with (first
        | (go_at_call 48; refine hru.mono ?_; rintro en w2 ⟨rfl, hb2⟩; have hB2 := below_up hB1 hb2; have q1 := rangeAt_up hb2 e1; have b0 := q1 0 _ rfl; have b1 := q1 1 _ rfl; have b2 := q1 2 _ rfl; have b3 := q1 3 _ rfl; have b4 := q1 4 _ rfl; simp only [Nat.zero_add] at b0 b1 b2 b3 b4))
      go_ret
      exact ⟨by rw [HR.out]; first | (simp [ownQ, hf]; done) | (simp [ownQ]; intros; omega), hB2⟩
    have hd6 : decide (6 < k1) = false := decide_eq_false hk6
    have hd6' : decide (k1 > 6) = false := decide_eq_false hk6
    have hin : (1 ≤ k1 ∧ k1 ≤ 6) := by omega
    cases bare
    · go_enter Tryd.func40, Tryd.ntmps40
      go_wp2_with (first
        | (go_at_call 48; refine hru.mono ?_; rintro en w2 ⟨rfl, hb2⟩; have hB2 := below_up hB1 hb2; have q1 := rangeAt_up hb2 e1; have b0 := q1 0 _ rfl; have b1 := q1 1 _ rfl; have b2 := q1 2 _ rfl; have b3 := q1 3 _ rfl; have b4 := q1 4 _ rfl; simp only [Nat.zero_add] at b0 b1 b2 b3 b4)
        | (go_at_call 53; refine (hba.out w2 hb2).mono ?_; rintro en w3 ⟨rfl, hb3⟩; have hB3 := below_up hB2 hb3; have r1 := rangeAt_up hb3 q1; have c0 := r1 0 _ rfl; have c1 := r1 1 _ rfl; have c4 := r1 4 _ rfl; simp only [Nat.zero_add] at c0 c1 c4))
      go_ret
      exact ⟨by rw [HR.out]; first | (simp [ownQ, hin]; done) | (simp [ownQ]; intros; omega), hB3⟩
    by_cases hk5 : k1 = 5
    · subst hk5
      by_cases hn1 : n1 ≤ 1
      · have hd : decide (1 < n1) = false := decide_eq_false (by omega)
        have hd' : decide (n1 > 1) = false := decide_eq_false (by omega)
        cases rf
        · go_enter Tryd.func40, Tryd.ntmps40
          go_wp2_with (first
        | (go_at_call 48; refine hru.mono ?_; rintro en w2 ⟨rfl, hb2⟩; have hB2 := below_up hB1 hb2; have q1 := rangeAt_up hb2 e1; have b0 := q1 0 _ rfl; have b1 := q1 1 _ rfl; have b2 := q1 2 _ rfl; have b3 := q1 3 _ rfl; have b4 := q1 4 _ rfl; simp only [Nat.zero_add] at b0 b1 b2 b3 b4)
        | (go_at_call 53; refine (hba.out w2 hb2).mono ?_; rintro en w3 ⟨rfl, hb3⟩; have hB3 := below_up hB2 hb3; have r1 := rangeAt_up hb3 q1; have c0 := r1 0 _ rfl; have c1 := r1 1 _ rfl; have c4 := r1 4 _ rfl; simp only [Nat.zero_add] at c0 c1 c4))
          go_ret
          exact ⟨by rw [HR.out]; first | (simp [ownQ, hn1]; done) | (simp [ownQ]; intros; omega), hB3⟩
        · go_enter Tryd.func40, Tryd.ntmps40
          go_wp2_with (first
                  | (go_at_call 48; refine hru.mono ?_; rintro en w2 ⟨rfl, hb2⟩; have hB2 := below_up hB1 hb2; have q1 := rangeAt_up hb2 e1; have b0 := q1 0 _ rfl; have b1 := q1 1 _ rfl; have b2 := q1 2 _ rfl; have b3 := q1 3 _ rfl; have b4 := q1 4 _ rfl; simp only [Nat.zero_add] at b0 b1 b2 b3 b4)
                  | (go_at_call 53; refine (hba.out w2 hb2).mono ?_; rintro en w3 ⟨rfl, hb3⟩; have hB3 := below_up hB2 hb3; have r1 := rangeAt_up hb3 q1; have c0 := r1 0 _ rfl; have c1 := r1 1 _ rfl; have c4 := r1 4 _ rfl; simp only [Nat.zero_add] at c0 c1 c4))
          go_loopw [6] (fun i wr => ∃ j : Nat, j ≤ n ∧ i = .int .i64 j ∧ RowKit.Hid (rightL (x.l.take j) = true) ∧ Below w3.heap.size w3 wr) (fun i _ => n - (intOf i).toNat)
          case atStart => exact ⟨0, Nat.zero_le _, rfl, Lib.hid (by simp [rightL]), Below.refl _ _⟩
          case round =>
            clear b0 b1 b2 b3 b4 c0 c1 c4
            obtain ⟨j, hj, rfl, Hok, hB⟩ := hrel
            have hBw := below_up hB3 hB
            have hc1 := rangeAt_up hB r1 4 _ rfl
            simp only [Nat.zero_add] at hc1
            by_cases hlt : j < n
            · have hl' : j < x.l.length := by rw [Hn.out]; exact hlt
              have hr' : j < rows.length := by omega
              obtain ⟨b, off, rfl, hr⟩ := (hu.1.up hBw).rec_at (cells := rwC) (sz := 5) (fun _ => rfl) hlt hr'
              have hs1 := Lib.hid (show rightL (x.l.take (j + 1)) = (rightL (x.l.take j) && rightB x.l[j]) by rw [List.take_succ_eq_append_getElem hl', rightL_all, rightL_all, List.all_append]; simp)
              have hcl := ih x.l[j] (List.getElem_mem hl') rows[j] wr ((hea.get hl' hr').up hBw) (hcy _ (List.getElem_mem hl'))
              have hsx := (hea.get hl' hr').shape
              have hbad := Lib.hid (fun h : rightB x.l[j] = false => show rightL x.l = false by rw [rightL_all, List.all_eq_false]; exact ⟨_, List.getElem_mem hl', by simp [h]⟩)
              generalize rows[j] = rx at *
              obtain ⟨ka, na, baa, bna, bca, sa, laa, lna, lca, rfl⟩ := hsx
              obtain ⟨R, hR⟩ : ∃ R, rightB x.l[j] = R := ⟨_, rfl⟩
              rw [hR] at hcl
              have HRR := Lib.hid hR
              clear hR
              cases R
              · go_wp2_with (first
                  | (refine wpList_load_mid rfl 28 (.tmp 49) rfl b (off + j * 5) rfl (rwC ⟨ka, na, .slice baa bna bca, sa, .slice laa lna lca⟩) _ hr Tryd.underlying28 rfl (by kernel_rfl) ?_)
                  | (go_at_call 40; refine hcl.mono ?_; rintro en w4 ⟨rfl, hb4⟩))
                go_ret
                exact ⟨by rw [HR.out, hbad.out HRR.out, Bool.and_false]; rfl, below_up hBw hb4⟩
              · go_wp2_with (first
                  | (refine wpList_load_mid rfl 28 (.tmp 49) rfl b (off + j * 5) rfl (rwC ⟨ka, na, .slice baa bna bca, sa, .slice laa lna lca⟩) _ hr Tryd.underlying28 rfl (by kernel_rfl) ?_)
                  | (go_at_call 40; refine hcl.mono ?_; rintro en w4 ⟨rfl, hb4⟩))
                go_roundw
                case rel => exact ⟨j + 1, by omega, by go_num, Lib.hid (by rw [hs1.out, Hok.out, HRR.out]; rfl), below_up hB hb4⟩
                case measure => simp [intOf]; omega
            · obtain rfl : j = n := by omega
              have Hall := Lib.hid (show x.l.take j = x.l from List.take_of_length_le (by rw [Hn.out]; exact Nat.le_refl _))
              go_wp2
              go_ret
              exact ⟨by rw [HR.out, ← Hall.out, Hok.out]; simp [ownQ, hn1], hBw⟩
      · have hd : decide (1 < n1) = true := decide_eq_true (by omega)
        have hd' : decide (n1 > 1) = true := decide_eq_true (by omega)
        go_enter Tryd.func40, Tryd.ntmps40
        go_wp2_with (first
        | (go_at_call 48; refine hru.mono ?_; rintro en w2 ⟨rfl, hb2⟩; have hB2 := below_up hB1 hb2; have q1 := rangeAt_up hb2 e1; have b0 := q1 0 _ rfl; have b1 := q1 1 _ rfl; have b2 := q1 2 _ rfl; have b3 := q1 3 _ rfl; have b4 := q1 4 _ rfl; simp only [Nat.zero_add] at b0 b1 b2 b3 b4)
        | (go_at_call 53; refine (hba.out w2 hb2).mono ?_; rintro en w3 ⟨rfl, hb3⟩; have hB3 := below_up hB2 hb3; have r1 := rangeAt_up hb3 q1; have c0 := r1 0 _ rfl; have c1 := r1 1 _ rfl; have c4 := r1 4 _ rfl; simp only [Nat.zero_add] at c0 c1 c4))
        go_ret
        exact ⟨by rw [HR.out]; first | (simp [ownQ, hn1]; done) | (simp [ownQ]; intros; omega), hB3⟩
    · have hne : (k1 == 5) = false := by rw [beq_eq_false_iff_ne]; exact hk5
      cases rf
      · go_enter Tryd.func40, Tryd.ntmps40
        go_wp2_with (first
        | (go_at_call 48; refine hru.mono ?_; rintro en w2 ⟨rfl, hb2⟩; have hB2 := below_up hB1 hb2; have q1 := rangeAt_up hb2 e1; have b0 := q1 0 _ rfl; have b1 := q1 1 _ rfl; have b2 := q1 2 _ rfl; have b3 := q1 3 _ rfl; have b4 := q1 4 _ rfl; simp only [Nat.zero_add] at b0 b1 b2 b3 b4)
        | (go_at_call 53; refine (hba.out w2 hb2).mono ?_; rintro en w3 ⟨rfl, hb3⟩; have hB3 := below_up hB2 hb3; have r1 := rangeAt_up hb3 q1; have c0 := r1 0 _ rfl; have c1 := r1 1 _ rfl; have c4 := r1 4 _ rfl; simp only [Nat.zero_add] at c0 c1 c4))
        go_ret
        exact ⟨by rw [HR.out]; first | (simp [ownQ, hin, hk5]; done) | (simp [ownQ]; intros; omega), hB3⟩
      · go_enter Tryd.func40, Tryd.ntmps40
        go_wp2_with (first
                | (go_at_call 48; refine hru.mono ?_; rintro en w2 ⟨rfl, hb2⟩; have hB2 := below_up hB1 hb2; have q1 := rangeAt_up hb2 e1; have b0 := q1 0 _ rfl; have b1 := q1 1 _ rfl; have b2 := q1 2 _ rfl; have b3 := q1 3 _ rfl; have b4 := q1 4 _ rfl; simp only [Nat.zero_add] at b0 b1 b2 b3 b4)
                | (go_at_call 53; refine (hba.out w2 hb2).mono ?_; rintro en w3 ⟨rfl, hb3⟩; have hB3 := below_up hB2 hb3; have r1 := rangeAt_up hb3 q1; have c0 := r1 0 _ rfl; have c1 := r1 1 _ rfl; have c4 := r1 4 _ rfl; simp only [Nat.zero_add] at c0 c1 c4))
        go_loopw [6] (fun i wr => ∃ j : Nat, j ≤ n ∧ i = .int .i64 j ∧ RowKit.Hid (rightL (x.l.take j) = true) ∧ Below w3.heap.size w3 wr) (fun i _ => n - (intOf i).toNat)
        case atStart => exact ⟨0, Nat.zero_le _, rfl, Lib.hid (by simp [rightL]), Below.refl _ _⟩
        case round =>
          clear b0 b1 b2 b3 b4 c0 c1 c4
          obtain ⟨j, hj, rfl, Hok, hB⟩ := hrel
          have hBw := below_up hB3 hB
          have hc1 := rangeAt_up hB r1 4 _ rfl
          simp only [Nat.zero_add] at hc1
          by_cases hlt : j < n
          · have hl' : j < x.l.length := by rw [Hn.out]; exact hlt
            have hr' : j < rows.length := by omega
            obtain ⟨b, off, rfl, hr⟩ := (hu.1.up hBw).rec_at (cells := rwC) (sz := 5) (fun _ => rfl) hlt hr'
            have hs1 := Lib.hid (show rightL (x.l.take (j + 1)) = (rightL (x.l.take j) && rightB x.l[j]) by rw [List.take_succ_eq_append_getElem hl', rightL_all, rightL_all, List.all_append]; simp)
            have hcl := ih x.l[j] (List.getElem_mem hl') rows[j] wr ((hea.get hl' hr').up hBw) (hcy _ (List.getElem_mem hl'))
            have hsx := (hea.get hl' hr').shape
            have hbad := Lib.hid (fun h : rightB x.l[j] = false => show rightL x.l = false by rw [rightL_all, List.all_eq_false]; exact ⟨_, List.getElem_mem hl', by simp [h]⟩)
            generalize rows[j] = rx at *
            obtain ⟨ka, na, baa, bna, bca, sa, laa, lna, lca, rfl⟩ := hsx
            obtain ⟨R, hR⟩ : ∃ R, rightB x.l[j] = R := ⟨_, rfl⟩
            rw [hR] at hcl
            have HRR := Lib.hid hR
            clear hR
            cases R
            · go_wp2_with (first
                | (refine wpList_load_mid rfl 28 (.tmp 49) rfl b (off + j * 5) rfl (rwC ⟨ka, na, .slice baa bna bca, sa, .slice laa lna lca⟩) _ hr Tryd.underlying28 rfl (by kernel_rfl) ?_)
                | (go_at_call 40; refine hcl.mono ?_; rintro en w4 ⟨rfl, hb4⟩))
              go_ret
              exact ⟨by rw [HR.out, hbad.out HRR.out, Bool.and_false]; rfl, below_up hBw hb4⟩
            · go_wp2_with (first
                | (refine wpList_load_mid rfl 28 (.tmp 49) rfl b (off + j * 5) rfl (rwC ⟨ka, na, .slice baa bna bca, sa, .slice laa lna lca⟩) _ hr Tryd.underlying28 rfl (by kernel_rfl) ?_)
                | (go_at_call 40; refine hcl.mono ?_; rintro en w4 ⟨rfl, hb4⟩))
              go_roundw
              case rel => exact ⟨j + 1, by omega, by go_num, Lib.hid (by rw [hs1.out, Hok.out, HRR.out]; rfl), below_up hB hb4⟩
              case measure => simp [intOf]; omega
          · obtain rfl : j = n := by omega
            have Hall := Lib.hid (show x.l.take j = x.l from List.take_of_length_le (by rw [Hn.out]; exact Nat.le_refl _))
            go_wp2
            go_ret
            exact ⟨by rw [HR.out, ← Hall.out, Hok.out]; simp [ownQ, hin, hk5], hBw⟩

end Go.Proofs.YtjenohodgpmchaaDoor

namespace Go.Proofs.YtjenohodgpmchaaDoor
open Go.RowKit
set_option linter.unusedSimpArgs false
set_option linter.unusedVariables false

section
variable {P : Program} {ops : Array Oper} {Q : Exit → Act → World → Prop} {O : Nat → Prop}
theorem pt_app2 {i : Nat} {o : Oper} {R : Act → World → Prop} {a : Act} {w : World} (hi : ops[i]? = some o) (hw : Region.wanted o (yielded ops a.tmps) = true) (s x : Operand) (t : TypeId)
    (ho : o.op = .call { callee := .builtin .append, args := #[s, x], argTypes := #[t, t] })
    {e : TypeId} {sz bytes : Nat} (T : SlT P t e sz bytes) (base : Nat) {v : Value} {n : Nat} {xs : List Value} (hs : a.eval s = v) (hown : w.ownsRow base e sz v n xs)
    {xv : Value} {m : Nat} {news : List Value} (hx : a.eval x = xv) (hsl : Sl w sz xv m news) (h1 : ∀ u ∈ news, u.oneCell' = true)
    (h63 : n + m ≤ maxLen) (hbytes : (n + m) * bytes ≤ 140737488355328) (hbase : base ≤ w.heap.size) (hO : ∀ k, base ≤ k → O k)
    (h : ∀ v' w', w'.ownsRow base e sz v' (n + m) (xs ++ news) → But (fun k => v.ownBlock = some k) w w' → R (a.put o.dst v') w') : ptStep P O ops Q i R a w :=
  ⟨o, hi, hw, by
    obtain ⟨v', w', hr, h2, h3, h4, h5⟩ := run_app_at T o.type w base v n xs hown xv m news hsl h1 h63 hbytes hbase
    have hb : But (fun k => v.ownBlock = some k) w w' := But.grown h3 (fun r hr => .inl hr)
    unfold Oper.wp execOp
    simp only [ho, resolve, invoke, builtin, Sem.run_bind, Sem.run_pure, Result.andThen_ok, List.map_toArray, List.map_cons, List.map_nil, hs, hx, hr]
    exact ⟨hb.mono fun j _ e => hO j (own_of_some hown e).1, h v' w' h2 hb⟩⟩
end

section
variable {α : Type} {cells : α → List Value} {sz : Nat}
theorem blk_of (k j t : Nat) (hk : 0 < k) : (j * k ≤ t ∧ t < j * k + k) ↔ t / k = j := by
  constructor
  · rintro ⟨h1, h2⟩
    exact Nat.div_eq_of_lt_le h1 (by rw [Nat.add_mul, Nat.one_mul]; exact h2)
  · rintro rfl
    have a := Nat.div_mul_le_self t k
    have b := Nat.lt_mul_div_succ t hk
    rw [Nat.mul_add, Nat.mul_one, Nat.mul_comm] at b
    exact ⟨a, b⟩
theorem set_recG (hsz : ∀ x, (cells x).length = sz) (h0 : 0 < sz) {M : List α} {cur : Array Value} {i : Nat} (x : α) (hi : i < M.length) (hc : M.length * sz ≤ cur.size) (h : cur.toList.take (M.length * sz) = M.flatMap cells) :
    (setAllA cur (i * sz) (cells x)).toList.take (M.length * sz) = (M.set i x).flatMap cells := by
  have hil : i * sz + (cells x).length ≤ cur.size := by
    rw [hsz]
    have := Nat.mul_le_mul_right sz (show i + 1 ≤ M.length from hi)
    rw [Nat.add_mul, Nat.one_mul] at this; omega
  refine List.ext_getElem? fun q => ?_
  by_cases hq : q < M.length * sz
  · have hj : q / sz < M.length := (Nat.div_lt_iff_lt_mul h0).2 hq
    have hqe : q / sz * sz + q % sz = q := by rw [Nat.mul_comm]; exact Nat.div_add_mod q sz
    have hr : q % sz < sz := Nat.mod_lt _ h0
    have hold : cur[q]? = (cells M[q / sz])[q % sz]? := by
      have h1 : (cur.toList.take (M.length * sz))[q]? = cur[q]? := by rw [List.getElem?_take_of_lt hq, Array.getElem?_toList]
      rw [← h1, h]
      have := rec_get hsz M (q / sz) hj (q % sz) hr
      rwa [hqe] at this
    rw [List.getElem?_take_of_lt hq, Array.getElem?_toList, setAllA_get _ _ _ _ hil, hsz]
    have hrhs := rec_get hsz (M.set i x) (q / sz) (by simpa using hj) (q % sz) hr
    rw [hqe] at hrhs
    rw [hrhs]
    by_cases hji : q / sz = i
    · rw [if_pos ((blk_of sz i q h0).2 hji)]
      have : (M.set i x)[q / sz]'(by simpa using hj) = x := by simp [hji]
      rw [this, show q - i * sz = q % sz by rw [← hji]; omega]
    · rw [if_neg (fun e => hji ((blk_of sz i q h0).1 e)), hold]
      have : (M.set i x)[q / sz]'(by simpa using hj) = M[q / sz] := by rw [List.getElem_set_ne (fun e => hji e.symm)]
      rw [this]
  · rw [List.getElem?_eq_none (by rw [List.length_take]; omega), List.getElem?_eq_none (by rw [rec_len hsz, List.length_set]; omega)]
theorem sl_of_rowG (hsz : ∀ x, (cells x).length = sz) {w : World} {T : TypeId} {g cap n : Nat} {cur : Array Value} {M : List α} (h : RowAt w g cur T) (hn : M.length = n) (hcap : n ≤ cap) (hmx : cap ≤ maxLen) (ht : cur.toList.take (n * sz) = M.flatMap cells) :
    Sl w sz (.slice (some ⟨g, 0, none⟩) n cap) n (M.flatMap cells) := by
  refine ⟨by rw [rec_len hsz, hn], .inr ⟨g, 0, cap, rfl, hcap, hmx, fun j u hj => ?_⟩⟩
  have hlt : j < n * sz := by
    have := (List.getElem?_eq_some_iff.1 hj).1
    rwa [rec_len hsz, hn] at this
  rw [← ht, List.getElem?_take_of_lt hlt, Array.getElem?_toList] at hj
  rw [Nat.zero_add]
  exact h.cell hj
/-- What owns a row: its block. -/
theorem own_row {w : World} {base : Nat} {T : TypeId} {v : Value} {n : Nat} {xs : List Value} (h : w.ownsRow base T sz v n xs) (hn : 0 < n) :
    ∃ g cap cur, v = .slice (some ⟨g, 0, none⟩) n cap ∧ base ≤ g ∧ RowAt w g cur T ∧ n ≤ cap ∧ cap ≤ maxLen ∧ cur.size = cap * sz ∧ cur.toList.take (n * sz) = xs := by
  rcases h.2 with ⟨_, h0⟩ | ⟨g, cap, cur, h1, h2, h3, h4, h5, h6, h7⟩
  · omega
  · exact ⟨g, cap, cur, h1, h2, h3, h4, h5, h6, h7⟩
end
end Go.Proofs.YtjenohodgpmchaaDoor
