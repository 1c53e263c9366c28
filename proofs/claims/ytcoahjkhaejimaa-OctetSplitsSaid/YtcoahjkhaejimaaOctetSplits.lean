/-
  The walk of OctetSplits: true, whatever the input; nothing that was there has turned.
-/
import Derived.Test.YtcoahjkhaejimaaOctetPuts
import Derived.ArgAppend
import Derived.Deep.LoopGhost
import Derived.Deep.Light
namespace Go.Proofs.Ytcoahjkhaejimaa
open Go.RowKit
set_option linter.unusedSimpArgs false
set_option linter.unusedVariables false

/-- A row of one's own stays behind a store elsewhere. -/
theorem own_far {w : World} {base : Nat} {e : TypeId} {sz : Nat} {v : Value} {n : Nat} {xs : List Value} (h : w.ownsRow base e sz v n xs) {a : Addr} (ha : ∀ k, v.ownBlock = some k → k ≠ a.block) (u : Value) : (w.setCell a u).ownsRow base e sz v n xs := by
  refine ⟨h.1, ?_⟩
  rcases h.2 with h | ⟨g, cap, cur, rfl, h2, h3, h4⟩
  · exact .inl h
  · exact .inr ⟨g, cap, cur, rfl, h2, by rw [Below.heap_setCell w a u g (ha g rfl)]; exact h3, h4⟩

theorem by8_set (l : List UInt8) (i : Nat) (x : UInt8) : (by8 l).set i (.int .u8 (x.toNat : Int)) = by8 (l.set i x) := by
  unfold by8
  rw [List.map_set]

theorem u8_next (x : UInt8) : IntKind.u8.wrap ((x.toNat : Int) + 1) = ((x + 1).toNat : Int) := by
  rw [IntKind.wrap_u8, UInt8.toNat_add]
  have : x.toNat < 256 := x.toNat_lt
  simp
  
/-- A piece of a row of bytes: what it reads. -/
theorem piece_reads {w : World} {base : Nat} {own u : Value} {N mm : Nat} {l : List UInt8} (ho : w.ownsRow base 5 1 own N (by8 l)) (h : InRow own N u mm) :
    ∃ a' ys, u = .slice a' mm mm ∧ (a' = none → mm = 0 ∧ mm = 0) ∧ (by8 ys).length = mm * 1 ∧ ∀ b, a' = some b → ∀ j u, (by8 ys)[j]? = some u → w.cell? (b.add j) = some u := by
  have hl := (Sl.of_own ho).n_len
  obtain ⟨a', rfl, rfl | ⟨g, lo, cap, rfl, rfl, hm⟩⟩ := h
  · exact ⟨a', [], rfl, fun _ => ⟨rfl, rfl⟩, by simp [by8], fun b _ j u hj => by simp [by8] at hj⟩
  · refine ⟨_, (l.drop lo).take mm, rfl, fun h => (by cases h), ?_, fun b hb j u hj => ?_⟩
    · rw [by8_len, List.length_take, List.length_drop]; omega
    · cases hb
      have hj' : j < mm := by
        have := (List.getElem?_eq_some_iff.1 hj).1
        rw [by8_len, List.length_take] at this
        omega
      rw [Addr.add_lit, ho.cellAt (lo + j) (by omega), ← hj, by8_take, by8_drop, List.getElem?_take, if_pos hj', List.getElem?_drop]

set_option maxHeartbeats 1000000 in
theorem octetSplits_big (v u : Value) (n m : Nat) (cs ds : List Value) (w : World) (hv : Sl w 1 v n cs) (hu : Sl w 1 u m ds) (hk : 2000 < n ∨ (n ≤ 2000 ∧ 30 < m)) :
    Calls Try.prog 5 #[v, u] w (Ret (.bool true) w) := by
  obtain ⟨a, c, rfl⟩ := hv.len
  obtain ⟨a', c', rfl⟩ := hu.len
  rcases hk with hk | ⟨hk, hk2⟩
  · have hg : (2000 : Int) < (n : Int) := by omega
    go_enter Try.func5, Try.ntmps5
    go_wp2_with (first
      | (go_at_call 13; refine (works_c _).mono ?_; rintro e w7 ⟨rfl, hb⟩))
    go_ret
    exact ⟨rfl, hb⟩
  · have hg : ¬ (2000 : Int) < (n : Int) := by omega
    have hg2 : (30 : Int) < (m : Int) := by omega
    go_enter Try.func5, Try.ntmps5
    go_wp2_with (first
      | (go_at_call 13; refine (works_c _).mono ?_; rintro e w7 ⟨rfl, hb⟩))
    go_ret
    exact ⟨rfl, hb⟩

set_option maxHeartbeats 4000000 in
set_option maxRecDepth 100000 in
theorem octetSplits_c (l : List UInt8) (at_ : List Int) (v u : Value) (n m : Nat) (w : World) (hv : Sl w 1 v n (by8 l)) (hu : Sl w 1 u m (at_.map (.int .i64))) (hn : n ≤ 2000) (hm : m ≤ 30) :
    Calls Try.prog 5 #[v, u] w (Ret (.bool true) w) := by
  have Hln := Lib.hid hv.n_len
  have Ham := Lib.hid (show at_.length = m by have := hu.1; simpa using this)
  have Hn := Lib.hid hn
  have Hm := Lib.hid hm
  obtain ⟨a, c, rfl⟩ := hv.len
  obtain ⟨a', c', rfl⟩ := hu.len
  have hg : ¬ (2000 : Int) < (n : Int) := by omega
  have hg2 : ¬ (30 : Int) < (m : Int) := by omega
  clear hn hm
  go_enter Try.func5, Try.ntmps5
  go_wp2_with fail
  refine (lent_c l _ n w hv (by have := Hn.out; omega)).mono ?_
  rintro e w1 ⟨v1, rfl, hl1, hB⟩
  have hv := hv.up hB
  have hu := hu.up hB
  obtain ⟨p1, c1, rfl⟩ := hl1.sl.len
  have Hl1 := Lib.hid hl1
  have Hv1 := Lib.hid hv
  have HB1 := Lib.hid hB
  go_wp2_with fail
  refine (split_c l at_ _ _ n m _ hl1.sl hu (by have := Hn.out; omega) (by have := Hm.out; omega)).mono ?_
  rintro e w2 ⟨hb, h⟩
  have hl1 : Lent w2 w.heap.size (.slice p1 n c1) n l := by
    obtain ⟨g, cap, h1, h2, h3⟩ := hl1
    exact ⟨g, cap, h1, h2, own_up h3 hb⟩
  have hv := hv.up hb
  have hu := hu.up hb
  have hB2 := below_up hB hb
  have hw12 := hb.size
  have h12 := hb
  clear hb
  rcases h with ⟨hok, v2, vs, own, rfl, hS⟩ | ⟨hok, rfl⟩
  · rw [Ham.out] at hS
    have hE : Oct.splitE l at_ = 0 := by unfold Oct.splitE; rw [hok]; rfl
    have HE := Lib.hid hE
    clear hE hok
    generalize hLL : Oct.splitL l at_ = LL at *
    have HLL := Lib.hid hLL
    clear hLL
    obtain ⟨b2, hb2, hob2, hr⟩ := hS.row
    obtain ⟨gr, capr, rfl, hgr, _⟩ := own_shape hr (by omega)
    have HS := Lib.hid hS
    clear hS
    go_wp2_with fail
    refine (splitR_c l at_ _ _ n m _ hv hu (by have := Hn.out; omega) (by have := Hm.out; omega)).mono ?_
    unfold SplitPostR
    rw [HE.out, HLL.out]
    rintro e w3 ⟨hb, v3, us, rfl, hS3⟩
    have ho := own_up HS.out.own_ hb
    have hr := own_up hr hb
    have hsl := HS.out.slB.up hb
    have hl1 : Lent w3 w.heap.size (.slice p1 n c1) n l := by
      obtain ⟨g, cap, h1, h2, h3⟩ := hl1
      exact ⟨g, cap, h1, h2, own_up h3 hb⟩
    have hv := hv.up hb
    have hB3 := below_up hB2 hb
    have hw13 : w1.heap.size ≤ w3.heap.size := by have := hb.size; omega
    have h13 := below_up h12 hb
    clear hb
    obtain ⟨p3, c3, rfl⟩ := hS3.out.len
    go_wp2_with fail
    refine (same_c LL LL vs us _ _ _ _ _ hsl hS3 (by have := Hm.out; omega)).mono ?_
    rw [decide_eq_true (rfl : LL = LL)]
    rintro e w4 ⟨rfl, hb⟩
    have ho := own_up ho hb
    have hr := own_up hr hb
    have hl1 : Lent w4 w.heap.size (.slice p1 n c1) n l := by
      obtain ⟨g, cap, h1, h2, h3⟩ := hl1
      exact ⟨g, cap, h1, h2, own_up h3 hb⟩
    have hv := hv.up hb
    have hB4 := below_up hB3 hb
    have h14 := below_up h13 hb
    clear hb hS3 hsl hB hB2 hB3 h12 h13 hw12 hw13
    go_wp2_with (first
      | (go_at_call 10; refine (num_c _ _).mono ?_; rintro e w7 ⟨rfl, rfl⟩))
    go_loopg [10, 11] (m + 1) (fun gh i kx wr => ∃ (j : Nat) (l' : List UInt8) (ys : List Value), j ≤ m + 1 ∧ gh = m + 1 - j ∧ i = .int .i64 j ∧ wr.ownsRow w1.heap.size 5 1 own l.length (by8 l') ∧
        wr.ownsRow b2 23 1 (.slice (some ⟨gr, 0, none⟩) (m + 1) capr) (m + 1) ys ∧ (∀ q, j ≤ q → ys[q]? = vs[q]?) ∧ Below w1.heap.size w4 wr)
    case atStart => exact ⟨0, l, vs, Nat.zero_le _, rfl, rfl, ho, hr, fun _ _ => rfl, Below.refl _ _⟩
    case round =>
      obtain ⟨j, l', ys, hj, rfl, rfl, ho, hr, hys, hBr⟩ := hrel
      have Hys := Lib.hid hys
      clear hys
      by_cases hlt : j < m + 1
      · have hvl := HS.out.len
        have hrl := hr.1
        have hLl : j < LL.length := by rw [← hvl]; have := HS.out.slB.out.1; omega
        have hvj : j < vs.length := by omega
        have hin := (HS.out.each j vs[j] LL[j] (List.getElem?_eq_getElem hvj) (List.getElem?_eq_getElem hLl)).2
        have hc := hr.cellAt j (by omega)
        rw [Hys.out j (Nat.le_refl _), List.getElem?_eq_getElem hvj] at hc
        generalize hu : vs[j] = uj at *
        generalize hm' : LL[j].length = mm at *
        clear hvl hrl hLl hu hm'
        obtain ⟨au, rfl, hin'⟩ := id hin
        have Hin := Lib.hid hin
        have Hin' := Lib.hid hin'
        clear hin hin'
        have Hyj := Lib.hid (show ys[j]? = some (.slice au mm mm) by rw [← hr.cellAt j (by omega)]; exact hc)
        have hj0 : (0 : Int) ≤ (j : Int) := by omega
        have hjn : (j : Int) < ((m : Int) + 1) := by omega
        have hmm : mm ≤ 2000 := by
          rcases Hin'.out with h | ⟨g, lo, cap, _, _, h⟩
          · omega
          · have := Hn.out; have := Hln.out; omega
        have Hmm := Lib.hid hmm
        clear hmm
        go_wp2
        clear hc
        go_loopg [11] mm (fun gh kx wr => ∃ (q : Nat) (l2 : List UInt8), q ≤ mm ∧ gh = mm - q ∧ kx = .int .i64 q ∧ wr.ownsRow w1.heap.size 5 1 own l.length (by8 l2) ∧
            wr.ownsRow b2 23 1 (.slice (some ⟨gr, 0, none⟩) (m + 1) capr) (m + 1) ys ∧ Below w1.heap.size w4 wr)
        case atStart => exact ⟨0, l', Nat.zero_le _, rfl, rfl, ho, hr, hBr⟩
        case round =>
          obtain ⟨q, l2, hq, rfl, rfl, ho2, hr2, hBq⟩ := hrel
          clear ho hr hBr
          have hc2 : wr.cell? ⟨gr, j, none⟩ = some (.slice au mm mm) := by rw [hr2.cellAt j (by omega)]; exact Hyj.out
          by_cases hqm : q < mm
          · have hq0 : (0 : Int) ≤ (q : Int) := by omega
            have hqn : (q : Int) < (mm : Int) := by omega
            rcases Hin'.out with h | ⟨g, lo, cap, ho', rfl, hle⟩
            · omega
            have hl2 : l2.length = l.length := (Sl.of_own ho2).n_len
            rw [ho'] at ho2
            obtain ⟨g', e', hg0, _⟩ := own_some ho2 (by omega)
            simp only [Option.some.injEq, Addr.mk.injEq, and_true] at e'
            subst e'
            have hcb := ho2.cellAt (lo + q) (by omega)
            have hlq : lo + q < l2.length := by omega
            have hx : (by8 l2)[lo + q]? = some (.int .u8 ((l2[lo + q]).toNat : Int)) := by
              unfold by8; rw [List.getElem?_map, List.getElem?_eq_getElem hlq]; rfl
            rw [hx] at hcb
            have hfb := ho2.frozenAt (lo + q)
            generalize l2[lo + q] = x at *
            have hst := (ho2.stored (lo + q) (.int .u8 ((x + 1).toNat : Int))).1
            rw [by8_set] at hst
            have hgb : g < b2 := hob2 g (by rw [ho']; rfl)
            have Hst := Lib.hid hst
            have Hr3 := Lib.hid (ownsRow_setCell_below hr2 (a := ⟨g, lo + q, none⟩) hgb (.int .u8 ((x + 1).toNat : Int)))
            have HB3 := Lib.hid (hBq.setCell (p := ⟨g, lo + q, none⟩) hg0 (.int .u8 ((x + 1).toNat : Int)))
            have hw := u8_next x
            have Ho' := Lib.hid ho'
            clear hst hx hl2 hlq hle ho'
            have hmm := Hmm.out
            go_wp2
            go_roundg (mm - (q + 1))
            case rel => exact ⟨q + 1, l2.set (lo + q) (x + 1), by omega, rfl, by go_num, by rw [Ho'.out]; exact Hst.out, Hr3.out, HB3.out⟩
            case measure => omega
          · obtain rfl : q = mm := by omega
            obtain ⟨au', ys', e, hnone, hlen, hrd⟩ := piece_reads (ho2.alloc (.cells #[.int .u8 3] 5)) Hin.out
            obtain rfl : au = au' := by simpa using e
            obtain ⟨i0, z0, t2, t3, t4, t5, t6, t7⟩ := slT_u8.inf
            have hnews : ∀ j u, [Value.int .u8 3][j]? = some u → (wr.alloc (.cells #[.int .u8 3] 5)).cell? (Addr.add ⟨wr.heap.size, 0, none⟩ j) = some u := fun j u hj => by
              match j with
              | 0 => simp at hj; subst hj; exact cell_new _ _ _
              | j + 1 => simp at hj
            have Hnone := Lib.hid hnone
            have Hrd := Lib.hid hrd
            have Hnews := Lib.hid hnews
            have Hlen := Lib.hid hlen
            clear hnone hrd hnews hlen e
            go_wp2_with (first
              | (at_builtin
                 refine wpList_append_grows _ rfl (.tmp 74) (.tmp 75) 23 rfl 5 i0 z0 1 1 slT_u8.und t2 t3 t4 t5 t6 t7 au q q (by8 ys') rfl Hnone.out Hlen.out Hrd.out ⟨wr.heap.size, 0, none⟩ 1 1 [.int .u8 3] rfl rfl Hnews.out (by intro u hu; simp at hu; subst hu; rfl) (by omega) (by have := Hmm.out; simp only [maxLen]; omega) (by have := Hmm.out; omega) ?_
                 intro v' w6 hown6 hg6
                 have hb6 := grown_below (below_alloc wr _) hg6 (fun k h => by cases h)
                 obtain ⟨g6, cap6, rfl, _⟩ := own_shape hown6 (by omega)
                 have ho6 := own_up ho2 hb6
                 have hr6 := own_up hr2 hb6
                 have hc6 : w6.cell? ⟨gr, j, none⟩ = some (.slice au q q) := cell_up hb6 hc2
                 have hf6 := hr6.frozenAt j
                 clear hown6 hg6))
            have hst6 := (hr6.stored j (.slice (some ⟨g6, 0, none⟩) (q + 1) cap6)).1
            have hof6 := own_far ho6 (a := ⟨gr, j, none⟩) (fun k hk => by have := hob2 k hk; show k ≠ gr; omega) (.slice (some ⟨g6, 0, none⟩) (q + 1) cap6)
            have hs1 := hBq.size
            have hs4 := h14.size
            have hB6 := (hBq.trans (hb6.mono (by omega))).setCell (p := ⟨gr, j, none⟩) (by show w1.heap.size ≤ gr; omega) (.slice (some ⟨g6, 0, none⟩) (q + 1) cap6)
            go_roundg (m + 1 - (j + 1))
            case rel => exact ⟨j + 1, l2, _, by omega, rfl, by go_num, hof6, hst6, fun k hk => by rw [List.getElem?_set_ne (by omega)]; exact Hys.out k (by omega), hB6⟩
            case measure => omega
      · obtain rfl : j = m + 1 := by omega
        have h5 := h14.trans hBr
        have hl5 : Lent wr w.heap.size (.slice p1 n c1) n l := by
          obtain ⟨g, cap, h1, h2, h3⟩ := Hl1.out
          exact ⟨g, cap, h1, h2, own_up h3 h5⟩
        have hv5 := Hv1.out.up h5
        have hB5 := below_up HB1.out h5
        clear ho hr h5
        go_wp2_with (first
          | (go_at_call 17; refine (kept_c l _ _ n _ _ hl5 hv5 (by have := Hn.out; omega)).mono ?_; rintro e w7 ⟨rfl, hb⟩; have hB5 := below_up hB5 hb; clear hb)
          | (go_at_call 13; refine (works_c _).mono ?_; rintro e w8 ⟨rfl, hb⟩; have hB5 := below_up hB5 hb; clear hb))
        go_ret
        exact ⟨rfl, hB5⟩
  · have hE : Oct.splitE l at_ = 4 := by unfold Oct.splitE; rw [hok]; rfl
    have hLL : Oct.splitL l at_ = [] := by unfold Oct.splitL; rw [hok]; rfl
    have HE := Lib.hid hE
    have HLL := Lib.hid hLL
    clear hE hok hLL
    go_wp2_with fail
    refine (splitR_c l at_ _ _ n m _ hv hu (by have := Hn.out; omega) (by have := Hm.out; omega)).mono ?_
    unfold SplitPostR
    rw [HE.out, HLL.out]
    rintro e w3 ⟨hb, v3, us, rfl, hS3⟩
    have hl1 : Lent w3 w.heap.size (.slice p1 n c1) n l := by
      obtain ⟨g, cap, h1, h2, h3⟩ := hl1
      exact ⟨g, cap, h1, h2, own_up h3 hb⟩
    have hv := hv.up hb
    have hB3 := below_up hB2 hb
    clear hb hw12 h12
    have hS3 : SlB w3 v3 0 us [] := hS3
    obtain ⟨p3, c3, rfl⟩ := hS3.out.len
    have hS0 : SlB w3 (.slice none 0 0) 0 [] [] := ⟨Sl.nil _ _, rfl, fun i u l' h => by simp at h⟩
    go_wp2_with fail
    refine (same_c [] [] [] us _ _ _ _ _ hS0 hS3 (by decide)).mono ?_
    rw [decide_eq_true (rfl : ([] : List (List UInt8)) = [])]
    rintro e w4 ⟨rfl, hb⟩
    have hl1 : Lent w4 w.heap.size (.slice p1 n c1) n l := by
      obtain ⟨g, cap, h1, h2, h3⟩ := hl1
      exact ⟨g, cap, h1, h2, own_up h3 hb⟩
    have hv := hv.up hb
    have hB4 := below_up hB3 hb
    clear hb hS3 hS0
    go_wp2_with (first
      | (go_at_call 10; refine (num_c _ _).mono ?_; rintro e w7 ⟨rfl, rfl⟩))
    go_loopw [10, 11] (fun i kx wr => i = .int .i64 0 ∧ Below w4.heap.size w4 wr) (fun i _ _ => 0)
    case atStart => exact ⟨rfl, Below.refl _ _⟩
    case round =>
      obtain ⟨rfl, hBr⟩ := hrel
      have hl5 : Lent wr w.heap.size (.slice p1 n c1) n l := by
        obtain ⟨g, cap, h1, h2, h3⟩ := hl1
        exact ⟨g, cap, h1, h2, own_up h3 hBr⟩
      have hv5 := hv.up hBr
      have hB5 := below_up hB4 hBr
      go_wp2_with (first
        | (go_at_call 17; refine (kept_c l _ _ n _ _ hl5 hv5 (by have := Hn.out; omega)).mono ?_; rintro e w7 ⟨rfl, hb⟩; have hB5 := below_up hB5 hb; clear hb)
        | (go_at_call 13; refine (works_c _).mono ?_; rintro e w8 ⟨rfl, hb⟩; have hB5 := below_up hB5 hb; clear hb))
      go_ret
      exact ⟨rfl, hB5⟩

theorem octetSplits_all (l : List UInt8) (at_ : List Int) (v u : Value) (n m : Nat) (w : World) (hv : Sl w 1 v n (by8 l)) (hu : Sl w 1 u m (at_.map (.int .i64))) :
    Calls Try.prog 5 #[v, u] w (Ret (.bool true) w) := by
  by_cases h1 : 2000 < n
  · exact octetSplits_big v u n m _ _ w hv hu (.inl h1)
  · by_cases h2 : 30 < m
    · exact octetSplits_big v u n m _ _ w hv hu (.inr ⟨by omega, h2⟩)
    · exact octetSplits_c l at_ v u n m w hv hu (by omega) (by omega)

/-- Numbers, out of their cells. -/
theorem ints_of {H : Type} {enc : TypeId × Value → H} {w : World} {base : Nat} {spare : Nat → Bool} {held : Bool} {T : TypeId} (ht : Try.prog.underlying T = some (.int .i64)) {v : Value} {n : Nat} {vs : List Value} (hsl : Sl w 1 v n vs)
    (hl : ∀ i, i < n → ∀ (j : Nat) (U : TypeId), [T][j]? = some U → ∃ c, vs[i * 1 + j]? = some c ∧ Leaf enc Try.prog w base spare held U c) : ∃ l : List Int, vs = l.map (.int .i64) := by
  have hlen : vs.length = n := by have := hsl.1; omega
  have : ∀ (vs : List Value), (∀ i, i < vs.length → ∃ x : Int, vs[i]? = some (.int .i64 x)) → ∃ l : List Int, vs = l.map (.int .i64) := by
    intro vs
    induction vs with
    | nil => intro _; exact ⟨[], rfl⟩
    | cons u vs ih =>
      intro h
      obtain ⟨x, hx⟩ := h 0 (by simp)
      obtain ⟨l, hl⟩ := ih (fun i hi => by have := h (i + 1) (by simpa using hi); simpa using this)
      simp at hx
      exact ⟨x :: l, by rw [hx, hl]; rfl⟩
  refine this vs (fun i hi => ?_)
  obtain ⟨c, hc, hL⟩ := hl i (by omega) 0 T rfl
  obtain ⟨m, rfl, _⟩ := hL.int ht
  exact ⟨m, by simpa using hc⟩
end Go.Proofs.Ytcoahjkhaejimaa
