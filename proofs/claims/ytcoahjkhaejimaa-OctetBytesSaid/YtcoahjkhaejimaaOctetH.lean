/-
  The contract of the reference's Split; the chapter's rows (works): true.
-/
import Derived.Test.YtcoahjkhaejimaaOctetG
namespace Go.Proofs.Ytcoahjkhaejimaa
open Go.RowKit
set_option linter.unusedSimpArgs false
set_option linter.unusedVariables false

/-- The block of the slice v holds elements of type e. -/
def Ty (w : World) (v : Value) (e : TypeId) : Prop := ∀ k, v.ownBlock = some k → ∃ cur f, w.heap[k]? = some (.cells cur e f)
theorem own_ty {w : World} {base : Nat} {e : TypeId} {sz : Nat} {v : Value} {n : Nat} {xs : List Value} (h : w.ownsRow base e sz v n xs) : Ty w v e := by
  intro k hk
  rcases h.2 with ⟨rfl, _⟩ | ⟨g, cap, cur, rfl, _, hc, _⟩
  · cases hk
  · cases hk; exact ⟨_, _, hc⟩
theorem Ty.ne {w : World} {base : Nat} {e e' : TypeId} {sz : Nat} {u v : Value} {n : Nat} {xs : List Value} (h : Ty w u e) (ho : w.ownsRow base e' sz v n xs) (hne : e ≠ e') : ∀ k, u.ownBlock = some k → v.ownBlock ≠ some k := by
  intro k hk hv
  obtain ⟨cur, f, h1⟩ := h k hk
  obtain ⟨cur', f', h2⟩ := own_ty ho k hv
  rw [h1] at h2
  simp only [Option.some.injEq, Obj.cells.injEq] at h2
  exact hne h2.2.1
theorem Ty.up {w w' : World} {u : Value} {e : TypeId} (h : Ty w u e) (hb : Below w.heap.size w w') : Ty w' u e := by
  intro k hk
  obtain ⟨cur, f, h1⟩ := h k hk
  exact ⟨cur, f, by rw [hb.block k (lt_of_block h1)]; exact h1⟩
theorem Ty.grown {w w' : World} {u : Value} {e : TypeId} {row : Option Nat} (h : Ty w u e) (hg : w.grownBy w' row) (hn : ∀ k, u.ownBlock = some k → row ≠ some k) : Ty w' u e := by
  intro k hk
  obtain ⟨cur, f, h1⟩ := h k hk
  exact ⟨cur, f, by rw [hg.block k (lt_of_block h1) (fun e => hn k hk e.symm)]; exact h1⟩
theorem Sl.grown {w w' : World} {sz : Nat} {u : Value} {m : Nat} {cs : List Value} {row : Option Nat} (h : Sl w sz u m cs) (hg : w.grownBy w' row) (hn : ∀ k, u.ownBlock = some k → row ≠ some k) : Sl w' sz u m cs := by
  obtain ⟨hl, ⟨a, c, rfl, rfl⟩ | ⟨b, off, cap, rfl, hn', hm, hc⟩⟩ := h
  · exact ⟨hl, .inl ⟨a, c, rfl, rfl⟩⟩
  · exact ⟨hl, .inr ⟨b, off, cap, rfl, hn', hm, fun j u hj => hg.cell (hc j u hj) (fun e => hn b rfl e.symm)⟩⟩

theorem each_snocT {w w' : World} {e : TypeId} {vs : List Value} {ls : List (List UInt8)} {u : Value} {p : List UInt8} (hl : vs.length = ls.length)
    (h : ∀ (i : Nat) (u : Value) (l' : List UInt8), vs[i]? = some u → ls[i]? = some l' → Sl w 1 u l'.length (by8 l') ∧ Ty w u e)
    (hu : Sl w 1 u p.length (by8 p)) (hr : Ty w u e) (hk : ∀ (u : Value) (m : Nat) (cs : List Value), Sl w 1 u m cs → Ty w u e → Sl w' 1 u m cs ∧ Ty w' u e) :
    ∀ (i : Nat) (u' : Value) (l' : List UInt8), (vs ++ [u])[i]? = some u' → (ls ++ [p])[i]? = some l' → Sl w' 1 u' l'.length (by8 l') ∧ Ty w' u' e := by
  intro i u' l' h1 h2
  rcases Nat.lt_or_ge i vs.length with hi | hi
  · rw [List.getElem?_append_left hi] at h1
    rw [List.getElem?_append_left (by omega)] at h2
    obtain ⟨h3, h4⟩ := h i u' l' h1 h2
    exact hk _ _ _ h3 h4
  · rw [List.getElem?_append_right hi] at h1
    rw [List.getElem?_append_right (by omega)] at h2
    have e : i - vs.length = 0 := by
      rcases Nat.eq_zero_or_pos (i - vs.length) with h | h
      · exact h
      · rw [List.getElem?_eq_none (by simp; omega)] at h1; cases h1
    rw [e] at h1
    rw [← hl, e] at h2
    simp at h1 h2
    subst h1 h2
    exact hk _ _ _ hu hr

/-- What the reference's Split answers. -/
def SplitPostR (l : List UInt8) (at_ : List Int) (w : World) (e : Ending) (w' : World) : Prop :=
  Below w.heap.size w w' ∧ ∃ v vs, e = .returned (.tuple #[v, .int .i64 (Oct.splitE l at_)]) ∧ SlB w' v (Oct.splitL l at_).length vs (Oct.splitL l at_)

set_option maxHeartbeats 2000000 in
theorem splitR_c (l : List UInt8) (at_ : List Int) (v u : Value) (n m : Nat) (w : World) (hv : Sl w 1 v n (by8 l)) (hu : Sl w 1 u m (at_.map (.int .i64))) (hn : n ≤ 140737488351233) (hm : m * 24 + 24 ≤ 140737488355328) :
    Calls Try.prog 19 #[v, u] w (SplitPostR l at_ w) := by
  have hln := hv.n_len
  have Hln := Lib.hid hln; clear hln
  have ham : at_.length = m := by have := hu.1; simpa using this
  have Ham := Lib.hid ham; clear ham
  obtain ⟨a1, c1, rfl⟩ := hv.len
  obtain ⟨a2, c2, rfl⟩ := hu.len
  go_enter Try.func19, Try.ntmps19
  go_wp2
  go_loopw [6, 7, 8] (fun f o i wr => ∃ (k lo : Nat) (vs : List Value), k ≤ m ∧ i = .int .i64 k ∧ f = .int .i64 lo ∧ (lo : Int) = Oct.fr at_ k ∧ (∀ j, j < k → Oct.okAt l at_ j = true) ∧ Below w.heap.size w wr ∧
      wr.ownsRow w.heap.size 23 1 o k vs ∧ (∀ (i : Nat) (u : Value) (l' : List UInt8), vs[i]? = some u → (Oct.pieces l at_ k)[i]? = some l' → Sl wr 1 u l'.length (by8 l') ∧ Ty wr u 5)) (fun _ _ i _ => m - (intOf i).toNat)
  case atStart => exact ⟨0, 0, [], Nat.zero_le _, rfl, rfl, by simp [Oct.fr], by intro j hj; omega, Below.refl _ _, World.ownsRow_nil _ _ _ _, by intro i u l' h; simp at h⟩
  case round =>
    obtain ⟨k, lo, vs, hk, rfl, rfl, hlo, hok, hB, ho, heach⟩ := hrel
    have hvl : vs.length = k := by have := ho.1; omega
    have Hvl := Lib.hid hvl
    have hfb := Oct.fr_b hok
    rw [Hln.out, ← hlo] at hfb
    have hlon : lo ≤ n := by omega
    have Hlo := Lib.hid hlo
    have Hok := Lib.hid hok
    have Heach := Lib.hid heach
    clear hlo hok heach hvl hfb
    have hv' := hv.up hB
    by_cases hlt : k < m
    · have hlt' : k < at_.length := by rw [Ham.out]; exact hlt
      obtain ⟨b, off, rfl, hc0⟩ := hu.cellAt (k := k) (by omega) (by omega)
      have Hg := Lib.hid (getD_getElem hlt')
      replace hc0 : w.cell? ⟨b, off + k, none⟩ = some (.int .i64 at_[k]) := by simpa [hlt'] using hc0
      have hc := cell_up hB hc0
      by_cases hbad : at_[k] < (lo : Int) ∨ (n : Int) < at_[k]
      · have Hno := Lib.hid (Oct.okAt_no (l := l) (at_ := at_) (k := k) (by rw [Hg.out, ← Hlo.out, Hln.out]; exact hbad))
        generalize hT : at_[k] = T at *
        clear hT
        have fin : ∀ (wx : World), Below w.heap.size w wx → SplitPostR l at_ w (.returned (.tuple #[.slice none 0 0, .int .i64 4])) wx := fun wx hwx => by
          have h0 := Oct.okAll_no hlt' Hno.out
          have hL : Oct.splitL l at_ = [] := by unfold Oct.splitL; rw [h0]; rfl
          have hE : Oct.splitE l at_ = 4 := by unfold Oct.splitE; rw [h0]; rfl
          refine ⟨hwx, .slice none 0 0, [], by rw [hE], ?_⟩
          rw [hL]
          exact ⟨Sl.nil _ _, rfl, fun i u l' h => by simp at h⟩
        by_cases h1 : T < (lo : Int)
        · clear hbad
          go_wp2
          go_ret2
          exact fin _ hB
        · have h2 : (n : Int) < T := by omega
          clear hbad
          go_wp2
          go_ret2
          exact fin _ hB
      · obtain ⟨hi, hhi⟩ : ∃ hi : Nat, at_[k] = (hi : Int) := ⟨at_[k].toNat, by omega⟩
        have Hhi := Lib.hid hhi
        rw [hhi] at hc hc0 hbad
        clear hhi
        have h1 : lo ≤ hi := by omega
        have h2 : hi ≤ n := by omega
        have h3 : ¬ (hi : Int) < (lo : Int) := by omega
        have h4 : ¬ (n : Int) < (hi : Int) := by omega
        obtain ⟨a', hsl, hs⟩ := cut_lh slT_u8 hv' lo hi h1 h2
        rw [Nat.mul_one, Nat.mul_one, ← by8_drop, ← by8_take] at hs
        have Hp := Lib.hid (show Oct.piece l at_ k = (l.drop lo).take (hi - lo) by unfold Oct.piece; rw [Hg.out, ← Hlo.out, Hhi.out]; rfl)
        have Hpl := Lib.hid (show (Oct.piece l at_ k).length = hi - lo by rw [Hp.out, List.length_take, List.length_drop, Hln.out]; omega)
        clear hbad
        have Hc0 := Lib.hid hc0
        clear hc0
        go_wp2_with (first
          | (at_builtin; refine wpList_app rfl (.tmp 31) (.tmp 38) 23 rfl slT_u8 wr.heap.size rfl (World.ownsRow_lit wr #[] 0 (Nat.le_refl _) (by decide) rfl) rfl (hs.up (below_alloc _ _)) (one_by8 _) (by simp only [maxLen]; omega) (by omega) (by simp) ?_; intro p w2 hp hgp _; have hB2 := grown_below (below_alloc _ _) hgp (fun q hq => by have : wr.heap.size = q := Option.some.inj hq; omega); simp only [Nat.zero_add, List.nil_append] at hp; have hc := cell_up (below_up hB hB2) Hc0.out; have ho2 : w2.ownsRow w.heap.size 23 1 _ k vs := (ho.alloc (.cells #[] 5)).kept hgp (.inr (fun e => by have := (ho.lt wr.heap.size e).2; omega)); obtain ⟨ap, cp, rfl⟩ := (Sl.of_own hp).len)
          | (at_builtin; refine wpList_app rfl (.tmp 30) (.tmp 40) 41 rfl slT_bb w.heap.size rfl (ho2.alloc _) rfl (sl1 _ _ rfl (.slice ap (hi - lo) cp) _) (by intro u hu; simp at hu; subst hu; rfl) (by simp only [maxLen]; omega) (by omega) (by have := hB.size; have := hB2.size; simp; omega) ?_; intro o' w3 ho' hg' _; have hB3 := grown_below ((below_up hB hB2).alloc (below_up hB hB2).size _) hg' (fun q hq => (ho2.lt q hq).1); have hc := cell_up hB3 Hc0.out))
        go_roundw
        case rel =>
          refine ⟨k + 1, hi, vs ++ [.slice ap (hi - lo) cp], by omega, by go_num, rfl, by rw [Oct.fr_succ, Hg.out, Hhi.out], fun j hj => ?_, hB3, ho', ?_⟩
          · rcases Nat.lt_or_ge j k with h | h
            · exact Hok.out j h
            · obtain rfl : j = k := by omega
              exact Oct.okAt_yes (by rw [Hg.out, Hhi.out, ← Hlo.out]; omega) (by rw [Hg.out, Hhi.out, Hln.out]; omega)
          · rw [Oct.pieces_succ]
            have step : ∀ (u : Value) (m : Nat) (cs : List Value), Sl w2 1 u m cs → Ty w2 u 5 → Sl w3 1 u m cs ∧ Ty w3 u 5 := fun u m cs h1 h2 => by
              have g1 := h1.up (below_alloc w2 (.cells #[.slice ap (hi - lo) cp] 23))
              have g2 := h2.up (below_alloc w2 (.cells #[.slice ap (hi - lo) cp] 23))
              have g3 := Ty.ne g2 (ho2.alloc (.cells #[.slice ap (hi - lo) cp] 23)) (by decide)
              exact ⟨g1.grown hg' g3, g2.grown hg' g3⟩
            refine each_snocT (w := w2) (by rw [Hvl.out, Oct.pieces_len]) (fun i u l' h1 h2 => ?_) (by rw [Hpl.out, Hp.out]; exact Sl.of_own hp) (own_ty hp) step
            obtain ⟨g1, g2⟩ := Heach.out i u l' h1 h2
            exact ⟨g1.up hB2, g2.up hB2⟩
        case measure => simp [intOf]; omega
    · obtain rfl : k = m := by omega
      obtain ⟨a', hsl, hs⟩ := cut_l slT_u8 hv' lo hlon
      rw [Nat.mul_one, ← by8_drop] at hs
      have Hpl := Lib.hid (show (l.drop lo).length = n - lo by rw [List.length_drop, Hln.out])
      have Hall := Lib.hid (Oct.okAll_yes (l := l) (at_ := at_) (fun j hj => Hok.out j (by rw [← Ham.out]; exact hj)))
      have Hdl := Lib.hid (show (Oct.fr at_ at_.length).toNat = lo by rw [Ham.out, ← Hlo.out]; rfl)
      go_wp2_with (first
        | (at_builtin; refine wpList_app rfl (.tmp 47) (.tmp 50) 23 rfl slT_u8 wr.heap.size rfl (World.ownsRow_lit wr #[] 0 (Nat.le_refl _) (by decide) rfl) rfl (hs.up (below_alloc _ _)) (one_by8 _) (by simp only [maxLen]; omega) (by omega) (by simp) ?_; intro p w2 hp hgp _; have hB2 := grown_below (below_alloc _ _) hgp (fun q hq => by have : wr.heap.size = q := Option.some.inj hq; omega); simp only [Nat.zero_add, List.nil_append] at hp; have ho2 : w2.ownsRow w.heap.size 23 1 _ k vs := (ho.alloc (.cells #[] 5)).kept hgp (.inr (fun e => by have := (ho.lt wr.heap.size e).2; omega)); obtain ⟨ap, cp, rfl⟩ := (Sl.of_own hp).len)
        | (at_builtin; refine wpList_app rfl (.tmp 46) (.tmp 52) 41 rfl slT_bb w.heap.size rfl (ho2.alloc _) rfl (sl1 _ _ rfl (.slice ap (n - lo) cp) _) (by intro u hu; simp at hu; subst hu; rfl) (by simp only [maxLen]; omega) (by omega) (by have := hB.size; have := hB2.size; simp; omega) ?_; intro o' w3 ho' hg' _; have hB3 := grown_below ((below_up hB hB2).alloc (below_up hB hB2).size _) hg' (fun q hq => (ho2.lt q hq).1)))
      go_ret2
      have step : ∀ (u : Value) (m : Nat) (cs : List Value), Sl w2 1 u m cs → Ty w2 u 5 → Sl w3 1 u m cs ∧ Ty w3 u 5 := fun u m cs h1 h2 => by
        have g1 := h1.up (below_alloc w2 (.cells #[.slice ap (n - lo) cp] 23))
        have g2 := h2.up (below_alloc w2 (.cells #[.slice ap (n - lo) cp] 23))
        have g3 := Ty.ne g2 (ho2.alloc (.cells #[.slice ap (n - lo) cp] 23)) (by decide)
        exact ⟨g1.grown hg' g3, g2.grown hg' g3⟩
      have hL : Oct.splitL l at_ = Oct.pieces l at_ k ++ [l.drop lo] := by rw [Oct.splitL_yes Hall.out, Hdl.out, Ham.out]
      have hE : Oct.splitE l at_ = 0 := by unfold Oct.splitE; rw [Hall.out]; rfl
      have hLl : (Oct.splitL l at_).length = k + 1 := by rw [hL, List.length_append, Oct.pieces_len]; rfl
      refine ⟨hB3, o', vs ++ [.slice ap (n - lo) cp], by rw [hE]; rfl, ?_⟩
      rw [hLl, hL]
      refine ⟨Sl.of_own ho', by rw [List.length_append, List.length_append, Hvl.out, Oct.pieces_len]; rfl, fun i u l' h1 h2 => ?_⟩
      exact (each_snocT (w := w2) (w' := w3) (by rw [Hvl.out, Oct.pieces_len]) (fun i u l' h1 h2 => by
        obtain ⟨g1, g2⟩ := Heach.out i u l' h1 h2
        exact ⟨g1.up hB2, g2.up hB2⟩) (by rw [Hpl.out]; exact Sl.of_own hp) (own_ty hp) step i u l' h1 h2).1
end Go.Proofs.Ytcoahjkhaejimaa
