/-
  OctetH, CbM: several texts in one (bundle.py).
-/
import Derived.Test.YtjenohodgpmchaaDoorCbK17
import Derived.Test.YtjenohodgpmchaaDoorCbK12
import Derived.Test.YtjenohodgpmchaaDoorCbK13
namespace Go.Proofs.YtjenohodgpmchaaDoor
open Go.RowKit
set_option linter.unusedSimpArgs false
set_option linter.unusedVariables false

/-- The block of the slice v holds elements of type e. -/
def Ty (w : World) (v : Value) (e : TypeId) : Prop := ∀ k, v.ownBlock = some k → ∃ cur f, w.heap[k]? = some (.cells cur e f)
theorem own_ty {w : World} {base : Nat} {e : TypeId} {sz : Nat} {v : Value} {n : Nat} {xs : List Value} (h : w.ownsRow base e sz v n xs) : Ty w v e := by
  intro k hk
  rcases h.2 with ⟨rfl, _⟩ | ⟨g, cap, cur, rfl, _, hc, _⟩
  · cases hk
  · cases hk; exact ⟨_, _, hc⟩
theorem Ty.ne {w : World} {base : Nat} {e e' : TypeId} {sz : Nat} {u v : Value} {n : Nat} {xs : List Value} (h : Ty w u e) (ho : w.ownsRow base e' sz v n xs) (hne : e ≠ e') : ∀ k, u.ownBlock = some k → v.ownBlock ≠ some k := by
  intro k hk hv
  obtain ⟨cur, f, h1⟩ := h k hk
  obtain ⟨cur', f', h2⟩ := own_ty ho k hv
  rw [h1] at h2
  simp only [Option.some.injEq, Obj.cells.injEq] at h2
  exact hne h2.2.1
theorem Ty.up {w w' : World} {u : Value} {e : TypeId} (h : Ty w u e) (hb : Below w.heap.size w w') : Ty w' u e := by
  intro k hk
  obtain ⟨cur, f, h1⟩ := h k hk
  exact ⟨cur, f, by rw [hb.block k (lt_of_block h1)]; exact h1⟩
theorem Ty.grown {w w' : World} {u : Value} {e : TypeId} {row : Option Nat} (h : Ty w u e) (hg : w.grownBy w' row) (hn : ∀ k, u.ownBlock = some k → row ≠ some k) : Ty w' u e := by
  intro k hk
  obtain ⟨cur, f, h1⟩ := h k hk
  exact ⟨cur, f, by rw [hg.block k (lt_of_block h1) (fun e => hn k hk e.symm)]; exact h1⟩
theorem Sl.grown {w w' : World} {sz : Nat} {u : Value} {m : Nat} {cs : List Value} {row : Option Nat} (h : Sl w sz u m cs) (hg : w.grownBy w' row) (hn : ∀ k, u.ownBlock = some k → row ≠ some k) : Sl w' sz u m cs := by
  obtain ⟨hl, ⟨a, c, rfl, rfl⟩ | ⟨b, off, cap, rfl, hn', hm, hc⟩⟩ := h
  · exact ⟨hl, .inl ⟨a, c, rfl, rfl⟩⟩
  · exact ⟨hl, .inr ⟨b, off, cap, rfl, hn', hm, fun j u hj => hg.cell (hc j u hj) (fun e => hn b rfl e.symm)⟩⟩

theorem each_snocT {w w' : World} {e : TypeId} {vs : List Value} {ls : List (List UInt8)} {u : Value} {p : List UInt8} (hl : vs.length = ls.length)
    (h : ∀ (i : Nat) (u : Value) (l' : List UInt8), vs[i]? = some u → ls[i]? = some l' → Sl w 1 u l'.length (by8 l') ∧ Ty w u e)
    (hu : Sl w 1 u p.length (by8 p)) (hr : Ty w u e) (hk : ∀ (u : Value) (m : Nat) (cs : List Value), Sl w 1 u m cs → Ty w u e → Sl w' 1 u m cs ∧ Ty w' u e) :
    ∀ (i : Nat) (u' : Value) (l' : List UInt8), (vs ++ [u])[i]? = some u' → (ls ++ [p])[i]? = some l' → Sl w' 1 u' l'.length (by8 l') ∧ Ty w' u' e := by
  intro i u' l' h1 h2
  rcases Nat.lt_or_ge i vs.length with hi | hi
  · rw [List.getElem?_append_left hi] at h1
    rw [List.getElem?_append_left (by omega)] at h2
    obtain ⟨h3, h4⟩ := h i u' l' h1 h2
    exact hk _ _ _ h3 h4
  · rw [List.getElem?_append_right hi] at h1
    rw [List.getElem?_append_right (by omega)] at h2
    have e : i - vs.length = 0 := by
      rcases Nat.eq_zero_or_pos (i - vs.length) with h | h
      · exact h
      · rw [List.getElem?_eq_none (by simp; omega)] at h1; cases h1
    rw [e] at h1
    rw [← hl, e] at h2
    simp at h1 h2
    subst h1 h2
    exact hk _ _ _ hu hr

/-- What the reference's Split answers. -/
def SplitPostR (l : List UInt8) (at_ : List Int) (w : World) (e : Ending) (w' : World) : Prop :=
  Below w.heap.size w w' ∧ ∃ v vs, e = .returned (.tuple #[v, .int .i64 (Oct.splitE l at_)]) ∧ SlB w' v (Oct.splitL l at_).length vs (Oct.splitL l at_)

end Go.Proofs.YtjenohodgpmchaaDoor

namespace Go.Proofs.YtjenohodgpmchaaDoor
open Go.RowKit Cb
set_option linter.unusedSimpArgs false
set_option linter.unusedVariables false
theorem own_grown {w w' : World} {base : Nat} {e : TypeId} {sz : Nat} {v : Value} {n : Nat} {xs : List Value} {row : Option Nat} (h : w.ownsRow base e sz v n xs) (hg : w.grownBy w' row) (hn : ∀ k, v.ownBlock = some k → row ≠ some k) : w'.ownsRow base e sz v n xs :=
  own_but (O := fun k => row = some k) h (But.grown hg (fun r e => .inl e)) (fun k hk => hn k hk)
/-- Slices of bytes, each in a block of its own. -/
structure EB (w : World) (vs : List Value) (ls : List (List UInt8)) : Prop where
  len : vs.length = ls.length
  each : ∀ (i : Nat) (u : Value) (l : List UInt8), vs[i]? = some u → ls[i]? = some l → ∃ base, w.ownsRow base 5 1 u l.length (by8 l)
theorem EB.nil (w : World) : EB w [] [] := ⟨rfl, fun i u l h => by simp at h⟩
theorem EB.up {w w' : World} {vs : List Value} {ls : List (List UInt8)} (h : EB w vs ls) (hb : Below w.heap.size w w') : EB w' vs ls :=
  ⟨h.len, fun i u l h1 h2 => by obtain ⟨b, h3⟩ := h.each i u l h1 h2; exact ⟨b, own_up h3 hb⟩⟩
theorem EB.grown {w w' : World} {vs : List Value} {ls : List (List UInt8)} (h : EB w vs ls) {e : TypeId} {base sz : Nat} {v : Value} {n : Nat} {xs : List Value} (ho : w.ownsRow base e sz v n xs) (hne : 5 ≠ e) (hg : w.grownBy w' v.ownBlock) : EB w' vs ls :=
  ⟨h.len, fun i u l h1 h2 => by
    obtain ⟨b, h3⟩ := h.each i u l h1 h2
    exact ⟨b, own_grown h3 hg ((own_ty h3).ne ho hne)⟩⟩
theorem EB.snoc {w : World} {vs : List Value} {ls : List (List UInt8)} (h : EB w vs ls) {u : Value} {p : List UInt8} {base : Nat} (hu : w.ownsRow base 5 1 u p.length (by8 p)) : EB w (vs ++ [u]) (ls ++ [p]) := by
  refine ⟨by simp [h.len], fun i u' l' h1 h2 => ?_⟩
  have hl := h.len
  rcases Nat.lt_or_ge i vs.length with hi | hi
  · rw [List.getElem?_append_left hi] at h1
    rw [List.getElem?_append_left (by omega)] at h2
    exact h.each i u' l' h1 h2
  · rw [List.getElem?_append_right hi] at h1
    rw [List.getElem?_append_right (by omega)] at h2
    have e : i - vs.length = 0 := by
      rcases Nat.eq_zero_or_pos (i - vs.length) with h | h
      · exact h
      · rw [List.getElem?_eq_none (by simp; omega)] at h1; cases h1
    rw [e] at h1
    rw [← hl, e] at h2
    simp at h1 h2
    subst h1 h2
    exact ⟨base, hu⟩
theorem EB.slB {w : World} {vs : List Value} {ls : List (List UInt8)} (h : EB w vs ls) {v : Value} {n : Nat} (hv : Sl w 1 v n vs) : SlB w v n vs ls :=
  ⟨hv, h.len, fun i u l h1 h2 => by obtain ⟨b, h3⟩ := h.each i u l h1 h2; exact Sl.of_own h3⟩
abbrev WrC (S : Nat → Prop) (x : It) : Prop := ∀ (r : Rw) (w : World), ItR S w x r → cnt x ≤ 1000000 → rightB x = true → Calls Tryd.prog 37 #[rwV r] w fun en w' => ∃ v, en = .returned v ∧ w'.ownsRow w.heap.size 5 1 v (bytesOf x).length (by8 (bytesOf x)) ∧ Below w.heap.size w w'
set_option maxHeartbeats 2000000 in
set_option maxRecDepth 100000 in
theorem madeB_c (S : Nat → Prop) (l : List It) (hp : ∀ x ∈ l, WrC S x) (hri : rightL l = true) (hc : cntL l ≤ 1000000) (u : Value) (n : Nat) (rows : List Rw) (w : World) (hu : SlS S w 5 u n (rows.flatMap rwC)) (hl : ItsR S w l rows) :
    Calls Tryd.prog 67 #[u, .func (.func 37) #[] #[]] w fun en w' => ∃ v vs, en = .returned v ∧ w'.ownsRow w.heap.size 22 1 v n vs ∧ EB w' vs (l.map bytesOf) ∧ Below w.heap.size w w' := by
  have Hrn := Lib.hid (show rows.length = n from Sl.recs (cells := rwC) (sz := 5) (fun _ => rfl) (by decide) hu.1)
  have Hln := Lib.hid (show l.length = n by rw [← hl.len]; exact Hrn.out)
  have hn : n ≤ 1000000 := by have := cntL_len l; have := Hln.out; omega
  obtain ⟨a, c, rfl⟩ := hu.1.len
  go_enter Tryd.func67, Tryd.ntmps67
  go_wp2
  go_loopw [4, 9] (fun o i wr => ∃ (j : Nat) (vs : List Value), j ≤ n ∧ i = .int .i64 j ∧ wr.ownsRow w.heap.size 22 1 o j vs ∧ EB wr vs ((l.take j).map bytesOf) ∧ Below w.heap.size w wr) (fun _ i _ => n - (intOf i).toNat)
  case atStart => exact ⟨0, [], Nat.zero_le _, rfl, World.ownsRow_nil _ _ _ _, EB.nil _, Below.refl _ _⟩
  case round =>
    obtain ⟨j, vs, hj, rfl, ho, hE, hB⟩ := hrel
    have HE := Lib.hid hE
    by_cases hlt : j < n
    · have hl' : j < l.length := by rw [Hln.out]; exact hlt
      have hr' : j < rows.length := by rw [Hrn.out]; exact hlt
      obtain ⟨b, off, rfl, hr⟩ := (hu.1.up hB).rec_at (cells := rwC) (sz := 5) (fun _ => rfl) hlt hr'
      have hs1 := Lib.hid (show (l.take (j + 1)).map bytesOf = (l.take j).map bytesOf ++ [bytesOf l[j]] by rw [List.take_succ_eq_append_getElem hl', List.map_append]; rfl)
      have hbq : Below w.heap.size w (wr.alloc (.cells (rwC rows[j]).toArray 28)) := hB.alloc hB.size _
      have hcl := hp l[j] (List.getElem_mem hl') rows[j] _ ((hl.get hl' hr').up hbq) (by have := cntL_mem (List.getElem_mem hl'); omega) (rightL_mem hri (List.getElem_mem hl'))
      have Hbq := Lib.hid hbq
      have Ho := Lib.hid ho
      have HB := Lib.hid hB
      have hsx := (hl.get hl' hr').shape
      clear hbq ho hE
      generalize rows[j] = rx at *
      obtain ⟨k1, n1, ba1, bn1, bc1, s1, la1, ln1, lc1, rfl⟩ := hsx
      generalize l[j] = x at *
      generalize bytesOf x = bs at *
      obtain ⟨ao, co, rfl⟩ := own_slice Ho.out
      go_wp2_with (first
        | (refine wpList_load_mid rfl 28 (.tmp 11) rfl b (off + j * 5) rfl (rwC ⟨k1, n1, .slice ba1 bn1 bc1, s1, .slice la1 ln1 lc1⟩) _ hr Tryd.underlying28 rfl (by kernel_rfl) ?_)
        | (go_at_call 37; refine hcl.mono ?_; rintro en w1 ⟨v1, rfl, ho1, hb1⟩; obtain ⟨a1, c1, rfl⟩ := own_slice ho1)
        | (at_builtin; refine wpList_app rfl _ _ 106 rfl slT_bb w.heap.size rfl ((own_up (own_up Ho.out (below_alloc _ _)) hb1).alloc _) rfl (sl1 _ _ rfl (.slice a1 bs.length c1) _) (by intro u hu; simp at hu; subst hu; rfl) (by simp only [maxLen]; omega) (by omega) (by have := Hbq.out.size; have := hb1.size; simp at *; omega) ?_; intro o' w3 ho' hg' _))
      have hE1 := (HE.out.up (below_alloc _ _)).up hb1
      have hz : w1.heap.size ≤ (w1.alloc (.cells #[.slice a1 bs.length c1] 22)).heap.size := by simp
      have hE3 := ((hE1.up (below_alloc w1 (.cells #[.slice a1 bs.length c1] 22))).snoc (own_up ho1 (below_alloc _ _))).grown ((own_up (own_up Ho.out (below_alloc _ _)) hb1).alloc _) (by decide) hg'
      have hB3 := grown_below (below_up (below_up Hbq.out hb1) (below_alloc w1 (.cells #[.slice a1 bs.length c1] 22))) hg' (fun q hq => (own_of_some Ho.out hq).1)
      go_roundw
      case rel => exact ⟨j + 1, _, by omega, by go_num, ho', by rw [hs1.out]; exact hE3, hB3⟩
      case measure => simp [intOf]; omega
    · obtain rfl : j = n := by omega
      have hall : l.take j = l := List.take_of_length_le (by rw [Hln.out]; exact Nat.le_refl _)
      have Hall := Lib.hid hall
      clear hall hE
      obtain ⟨ao, co, rfl⟩ := own_slice ho
      go_wp2
      go_ret
      exact ⟨_, vs, rfl, ho, by rw [← Hall.out]; exact HE.out, hB⟩
end Go.Proofs.YtjenohodgpmchaaDoor
