/-
  Contracts of octet's iterators: places, Each; and of the law's each.
-/
import Derived.Test.YtcoahjkhaejimaaOctetH
import Derived.Test.YtcoahjkhaejimaaIter
namespace Go.Proofs.Ytcoahjkhaejimaa
open Go.RowKit
set_option linter.unusedSimpArgs false
set_option linter.unusedVariables false
attribute [local go_sem] Oper.semAt_some

set_option maxHeartbeats 1000000 in
theorem places1_x (n B : Nat) (S : Nat → Prop) (w : World) (hc : w.cell? ⟨B, 0, none⟩ = some (.int .i64 n)) (hn : n ≤ 9223372036854775807) :
    SeqX Try.prog 41 #[.pointer (some ⟨B, 0, none⟩)] (fun k => #[.int .i64 k]) n S w := by
  intro l G J Jx W hW hS hG hJ hJx hY h0
  have hc' := cell_up hW hc
  clear hc hJ hJx hS hG hW
  refine (callsIn_wide (n := 3)).1 ?_
  refine callsIn_of_wp Try.func41 rfl trivial ?_ rfl
  simp only [Try.ntmps41, List.size_toArray, List.length_cons, List.length_nil, Nat.reduceAdd, Nat.reduceSub, Array.replicate_succ, Array.replicate_zero, List.push_toArray, List.append_toArray, List.nil_append, List.cons_append]
  gi_wp2
  gi_loopw [5] (fun i wr => ∃ (k : Nat) (G : Nat → Prop), k ≤ n ∧ i = .int .i64 k ∧ J k G wr) (fun i _ => n - (intOf i).toNat)
  case atStart => exact ⟨0, _, Nat.zero_le _, rfl, h0⟩
  case round =>
    obtain ⟨k, G, hk, rfl, hj⟩ := hrel
    by_cases hlt : k < n
    · obtain ⟨fn, tmps, assign, body, hy, hR⟩ := yieldAt_wide (m' := 2) (hY k G wr hlt hj)
      gi_wp2
      refine hR.mono ?_
      rintro e W3 ⟨g, rfl, hw⟩
      cases g with
      | true =>
        gi_wp2
        go_roundw
        case rel => exact ⟨k + 1, _, by omega, by simp, hw.on rfl⟩
        case measure => simp [intOf]; omega
      | false =>
        gi_wp2
        refine bodyPost_ret (results_none rfl _ _ _) rfl ?_
        exact ⟨⟨_, rfl⟩, _, .inr ⟨k, hlt, hw.off rfl⟩⟩
    · obtain rfl : k = n := by omega
      gi_wp2
      go_end0
      exact ⟨⟨_, rfl⟩, _, .inl hj⟩

theorem places_c (n : Int) (w : World) : Calls Try.prog 38 #[.int .i64 n] w fun e w' =>
    e = .returned (.func (.func 41) #[] #[.pointer (some ⟨w.heap.size, 0, none⟩)]) ∧ w' = w.alloc (.cells #[.int .i64 n] 3) := by
  go_enter Try.func38, Try.ntmps38
  go_wp2
  go_ret
  exact ⟨rfl, rfl⟩

theorem eachB_c (a : Option Addr) (n c : Nat) (w : World) : Calls Try.prog 32 #[.slice a n c] w fun e w' =>
    e = .returned (.func (.func 37) #[] #[.pointer (some ⟨w.heap.size, 0, none⟩)]) ∧ w' = w.alloc (.cells #[.slice a n c] 23) := by
  go_enter Try.func32, Try.ntmps32
  go_wp2
  go_ret
  exact ⟨rfl, rfl⟩

theorem enters_places1 : Enters Try.prog 41 := enters_of Try.func41 (by kernel_rfl) rfl
theorem enters_each1 : Enters Try.prog 37 := enters_of Try.func37 (by kernel_rfl) rfl
theorem mixes : Try.prog.follows .mixedOrders = true := by kernel_rfl

set_option maxHeartbeats 1000000 in
theorem each1_x (l : List UInt8) (x8 : Nat → Int) (hx8 : ∀ k, k < l.length → (by8 l)[k]? = some (.int .u8 (x8 k))) (a : Option Addr) (c n B : Nat) (S : Nat → Prop) (w : World) (hc : w.cell? ⟨B, 0, none⟩ = some (.slice a n c)) (hv : Sl w 1 (.slice a n c) n (by8 l)) (hn : n ≤ 9223372036854775807)
    (hSS : S B ∧ (n = 0 ∨ ∀ k, (Value.slice a n c).ownBlock = some k → S k)) :
    SeqX Try.prog 37 #[.pointer (some ⟨B, 0, none⟩)] (fun k => #[.int .i64 k, .int .u8 (x8 k)]) n S w := by
  intro l' G J Jx W hW hS hG hJ hJx hY h0
  have hc' := cell_up hW hc
  have hv' := hv.up hW
  clear hc hv hW
  refine (callsIn_wide (n := 3)).1 ?_
  refine callsIn_of_wp_marks Try.func37 rfl trivial ?_ rfl
  simp only [Try.ntmps37, List.size_toArray, List.length_cons, List.length_nil, Nat.reduceAdd, Nat.reduceSub, Array.replicate_succ, Array.replicate_zero, List.push_toArray, List.append_toArray, List.nil_append, List.cons_append]
  refine wpIn_wide.2 ?_
  go_wp2
  go_step3
  go_wp2
  go_step3
  go_wp2_with (go_at_call 38; refine (places_c _ _).mono ?_; rintro e w' ⟨rfl, rfl⟩)
  have hBx := Boxed.new (W.alloc (.cells #[.func (.yield l') #[] #[]] 67)) 3 (.int .i64 n)
  have hYx := (Boxed.new W 67 (.func (.yield l') #[] #[])).alloc (.cells #[.int .i64 n] 3)
  simp only [World.size_alloc] at hBx
  have hb2 : Below W.heap.size W ((W.alloc (.cells #[.func (.yield l') #[] #[]] 67)).alloc (.cells #[.int .i64 n] 3)) := ((Below.refl _ W).alloc (Nat.le_refl _) _).alloc (by simp) _
  have hcB := cell_up hb2 hc'
  have hvB := hv'.up hb2
  have hsz : ((W.alloc (.cells #[.func (.yield l') #[] #[]] 67)).alloc (.cells #[.int .i64 n] 3)).heap.size = W.heap.size + 2 := by simp
  obtain ⟨W0, hW0⟩ : ∃ W0, (W.alloc (.cells #[.func (.yield l') #[] #[]] 67)).alloc (.cells #[.int .i64 n] 3) = W0 := ⟨_, rfl⟩
  have hJ0 : J 0 G W0 := by rw [← hW0]; exact (hJ 0).alloc _ ((hJ 0).alloc _ h0)
  rw [hW0] at hBx hYx hcB hvB hsz ⊢
  have hlen := hv'.n_len
  have Hx := Lib.hid hx8
  clear hW0 hb2 hc' hv' h0 hx8
  refine wpIn_wide.1 (wp_range (n := 3) (S := fun _ => False) (gf := 41) (lb := #[.pointer (some ⟨W.heap.size + 1, 0, none⟩)]) rfl enters_places1 (places1_x n (W.heap.size + 1) _ W0 hBx.cell hn) (Below.refl _ _) (fun _ => rfl)
    G (fun k h => by have := hG k h; omega) (fun _ h => h.elim)
    (fun k G wr => J k G wr ∧ (¬ G W.heap.size ∧ ∀ j, S j → ¬ G j) ∧ Boxed wr W.heap.size 67 (.func (.yield l') #[] #[]) ∧ wr.cell? ⟨B, 0, none⟩ = some (.slice a n c) ∧ Sl wr 1 (.slice a n c) n (by8 l))
    (fun k a' G wr => a' = { tmps := #[.func (.yield l') #[] #[], .pointer (some ⟨B, 0, none⟩), .pointer (some ⟨W.heap.size, 0, none⟩), .int .i64 k, .slice a n c, .int .i64 n, .func (.func 41) #[] #[.pointer (some ⟨W.heap.size + 1, 0, none⟩)], .int .i64 k, undef, undef, undef, undef, undef, undef, undef, undef], defers := [] } ∧
      J k G wr ∧ (¬ G W.heap.size ∧ ∀ j, S j → ¬ G j) ∧ Boxed wr W.heap.size 67 (.func (.yield l') #[] #[]) ∧ wr.cell? ⟨B, 0, none⟩ = some (.slice a n c) ∧ Sl wr 1 (.slice a n c) n (by8 l))
    (fun c k G wr => c = .exit 0 ∧ Jx k G wr)
    ?abI ?abM ?abX ⟨hJ0, ⟨fun h => by have := hG _ h; omega, fun j h => (hS j h).2⟩, hYx, hcB, hvB⟩ ?assign ?body ?done ?stop)
  case abI =>
    intro k G A C h hb
    exact ⟨((hJ k).up (by omega)) G A C h.1 hb, h.2.1, hb.boxed h.2.2.1 (fun e => by omega), hb.cell h.2.2.2.1 (fun e => by have := (hS _ hSS.1).1; omega), h.2.2.2.2.but hb (hSS.2.elim .inl fun h2 => .inr fun j hj e => by have := (hS _ (h2 j hj)).1; omega)⟩
  case abM =>
    intro k a' G A C h hb
    obtain ⟨h0, h⟩ := h
    exact ⟨h0, ((hJ k).up (by omega)) G A C h.1 hb, h.2.1, hb.boxed h.2.2.1 (fun e => by omega), hb.cell h.2.2.2.1 (fun e => by have := (hS _ hSS.1).1; omega), h.2.2.2.2.but hb (hSS.2.elim .inl fun h2 => .inr fun j hj e => by have := (hS _ (h2 j hj)).1; omega)⟩
  case abX => exact fun c k G A C h hb => ⟨h.1, ((hJx k).up (by omega)) G A C h.2 hb⟩
  case assign =>
    intro l2 k G wr K hk hi hK
    gi_wp2
    exact hK _ _ (But.refl _ _) (by rw [newG_same rfl]; exact ⟨rfl, hi⟩)
  case body =>
    rintro l2 k a' G wr hk hl2 _ _ ⟨rfl, hj, hg, hy1, hb1, hs1⟩
    have hlk : k < l.length := by omega
    obtain ⟨b, off, rfl, hcc⟩ := hs1.cellAt (k := k) (by omega) (by omega)
    rw [Hx.out k hlk] at hcc
    have hcY := hy1.cell
    have hY' := hY k G wr.drew hk ((hJ k).drew hj)
    obtain ⟨fn, tmps, assign, body, hy, hR⟩ := yieldAt_round l2 (m' := 2) hY'
    clear hY hY'
    gi_wp2
    refine wpIn_round_tail 6 mixes (by kernel_rfl) (by kernel_rfl) ?_
    simp only [List.take_succ_cons, List.take_zero, List.drop_succ_cons, List.drop_zero]
    repeat still_step
    refine wpStill_nil ?_
    gi_wp2
    refine hR.mono ?_
    rintro e W3 ⟨g, rfl, hw⟩
    have hb := (But.drew wr).trans hw.but
    have hY0 := hy1.lt
    cases g with
    | true =>
      gi_wp2
      exact ⟨hb, hw.on rfl, ⟨newG_not hg.1 hY0, fun j h => newG_not (hg.2 j h) (by have := (hS j h).1; omega)⟩, hb.boxed hy1 hg.1, hb.cell hb1 (hg.2 B hSS.1), hs1.but hb (hSS.2.elim .inl fun h2 => .inr fun k hk => hg.2 k (h2 k hk))⟩
    | false =>
      gi_wp2
      exact ⟨hb, rfl, hw.off rfl⟩
  case done =>
    rintro D G wr hD hGD ⟨hj, _⟩ hK
    go_wp2
    refine ⟨by simp, .inl ⟨_, _, rfl, run_takeDeferred hK, ?_⟩⟩
    exact ⟨_, results_none rfl _ _ _, ⟨_, rfl⟩, G, .inl ((hJ n).putObj _ hj (by omega) hGD)⟩
  case stop =>
    rintro D c' k G wr hD hGD hk ⟨rfl, hj⟩ hK
    refine wpIn_wide.2 ?_
    go_wp2
    refine ⟨by simp, .inl ⟨_, _, rfl, run_takeDeferred hK, ?_⟩⟩
    exact ⟨_, results_none rfl _ _ _, ⟨_, rfl⟩, G, .inr ⟨k, hk, (hJx _).putObj _ hj (by omega) hGD⟩⟩

/-- What the law's each has collected behind k rounds: its variable lies at H + 3. -/
structure EachI (w : World) (l : List UInt8) (most : Int) (k : Nat) (G : Nat → Prop) (W : World) : Prop where
  row : ∃ v, Boxed W (w.heap.size + 3) 23 v ∧ W.ownsRow w.heap.size 5 1 v k (by8 (l.take k)) ∧ ∀ j, v.ownBlock = some j → G j
  own : G (w.heap.size + 3)
  old : ∀ j, G j → j = w.heap.size + 3 ∨ w.heap.size + 6 ≤ j
  most : Boxed W w.heap.size 3 (.int .i64 most)
  res1 : Boxed W (w.heap.size + 1) 23 (.slice none 0 0)
  res2 : Boxed W (w.heap.size + 2) 4 (.bool false)
  below : Below w.heap.size w W
  size : w.heap.size + 6 ≤ W.heap.size
theorem EachI.abide {w : World} {l : List UInt8} {most : Int} {k : Nat} : Abide (w.heap.size + 6) (EachI w l most k) := by
  intro G W W' h hb
  obtain ⟨v, h1, h2, h3⟩ := h.row
  exact ⟨⟨v, hb.boxed h1 (fun e => by omega), own_but h2 hb (fun j hj e => e.2 (h3 j hj)), h3⟩, h.own, h.old, hb.boxed h.most (fun e => by omega), hb.boxed h.res1 (fun e => by omega), hb.boxed h.res2 (fun e => by omega),
    h.below.trans (hb.below (fun _ e => by omega) h.below.size), Nat.le_trans h.size hb.size⟩

theorem EachI.step {w : World} {l : List UInt8} {most : Int} {k : Nat} {G : Nat → Prop} {W w1 : World} (hi : EachI w l most k G W) {v v' : Value} {x : Value} (hv : Boxed W (w.heap.size + 3) 23 v) (hrow : W.ownsRow w.heap.size 5 1 v k (by8 (l.take k))) (hvG : ∀ j, v.ownBlock = some j → G j)
    (hown : w1.ownsRow w.heap.size 5 1 v' (k + 1) (by8 (l.take k) ++ [x])) (hx : by8 (l.take k) ++ [x] = by8 (l.take (k + 1))) (hgrow : (W.alloc (.cells #[x] 5)).grownBy w1 v.ownBlock) (hat : v'.ownBlock = v.ownBlock ∨ v'.ownBlock = some (W.alloc (.cells #[x] 5)).heap.size) :
    But G W (w1.setCell ⟨w.heap.size + 3, 0, none⟩ v') ∧ EachI w l most (k + 1) (newG G W (w1.setCell ⟨w.heap.size + 3, 0, none⟩ v')) (w1.setCell ⟨w.heap.size + 3, 0, none⟩ v') := by
  have hsz := hi.below.size
  obtain ⟨h1, h2, h3, _, h5⟩ := hv.appended (by decide) hrow hsz (by omega) hown hgrow
  have hb1 : But G W w1 := (But.alloc W _).then (But.grown (O := G) hgrow (fun r e => .inl (hvG r e))) (fun _ _ h => h)
  have hb : But G W (w1.setCell ⟨w.heap.size + 3, 0, none⟩ v') := hb1.trans (But.setCell _ _ _ (.inl hi.own))
  have hn : ∀ j, j < w.heap.size + 6 → j ≠ w.heap.size + 3 → ¬ G j := fun j h1 h2 h => by have := hi.old j h; omega
  refine ⟨hb, ⟨v', h2, by rw [← hx]; exact h3, fun j hj => ?_⟩, newG_old hi.own, fun j hj => ?_, hb.boxed hi.most (hn _ (by omega) (by omega)), hb.boxed hi.res1 (hn _ (by omega) (by omega)), hb.boxed hi.res2 (hn _ (by omega) (by omega)), hi.below.trans h5, Nat.le_trans hi.size hb.size⟩
  · rcases hat with h | h
    · exact newG_old (hvG j (h ▸ hj))
    · have hlt := (own_of_some hown hj).2
      rw [h] at hj
      simp only [World.size_alloc, Option.some.injEq] at hj
      exact .inr ⟨by omega, by simpa using hlt⟩
  · rcases hj with h | h
    · exact hi.old j h
    · have := hv.lt; have := hi.own; have h6 : w.heap.size + 6 ≤ W.heap.size := hi.size
      omega

theorem EachI.fin {w : World} {l : List UInt8} {most : Int} {k D : Nat} {G : Nat → Prop} {W : World} (hi : EachI w l most k G W) {v : Value} (hrow : W.ownsRow w.heap.size 5 1 v k (by8 (l.take k))) (hvG : ∀ j, v.ownBlock = some j → G j)
    (hGD : ¬ G D) (hD : w.heap.size + 6 ≤ D) (hK : W.heap[D]? = some (.deferred (some []))) :
    ((W.setCell ⟨w.heap.size + 1, 0, none⟩ v).setCell ⟨w.heap.size + 2, 0, none⟩ (.bool true)).heap[D]? = some (.deferred (some [])) ∧
    (((W.setCell ⟨w.heap.size + 1, 0, none⟩ v).setCell ⟨w.heap.size + 2, 0, none⟩ (.bool true)).putObj D (.deferred none)).cell? ⟨w.heap.size + 1, 0, none⟩ = some v ∧
    (((W.setCell ⟨w.heap.size + 1, 0, none⟩ v).setCell ⟨w.heap.size + 2, 0, none⟩ (.bool true)).putObj D (.deferred none)).cell? ⟨w.heap.size + 2, 0, none⟩ = some (.bool true) ∧
    (((W.setCell ⟨w.heap.size + 1, 0, none⟩ v).setCell ⟨w.heap.size + 2, 0, none⟩ (.bool true)).putObj D (.deferred none)).ownsRow w.heap.size 5 1 v k (by8 (l.take k)) ∧
    Below w.heap.size w (((W.setCell ⟨w.heap.size + 1, 0, none⟩ v).setCell ⟨w.heap.size + 2, 0, none⟩ (.bool true)).putObj D (.deferred none)) := by
  have b1 := ((hi.res1.set v).other (B' := w.heap.size + 2) (by omega) (.bool true))
  have b2 := (hi.res2.other (B' := w.heap.size + 1) (by omega) v).set (.bool true)
  have hk := ((KeepsOthers.setCell W ⟨w.heap.size + 1, 0, none⟩ v).trans (KeepsOthers.setCell _ ⟨w.heap.size + 2, 0, none⟩ (.bool true))).same D _ hK rfl
  have hb : But (fun j => j = w.heap.size + 1 ∨ j = w.heap.size + 2 ∨ j = D) W (((W.setCell ⟨w.heap.size + 1, 0, none⟩ v).setCell ⟨w.heap.size + 2, 0, none⟩ (.bool true)).putObj D (.deferred none)) :=
    ((But.setCell _ _ _ (.inl (.inl rfl))).trans (But.setCell _ _ _ (.inl (.inr (.inl rfl))))).trans (But.putObj _ _ _ (.inl (.inr (.inr rfl))))
  have hp : But (fun j => j = D) ((W.setCell ⟨w.heap.size + 1, 0, none⟩ v).setCell ⟨w.heap.size + 2, 0, none⟩ (.bool true)) (((W.setCell ⟨w.heap.size + 1, 0, none⟩ v).setCell ⟨w.heap.size + 2, 0, none⟩ (.bool true)).putObj D (.deferred none)) := But.putObj _ _ _ (.inl rfl)
  refine ⟨hk, (hp.boxed b1 (by omega)).cell, (hp.boxed b2 (by omega)).cell, own_but hrow hb (fun j hj e => ?_), hi.below.trans (hb.below (fun j e => by omega) hi.below.size)⟩
  have h1 := hi.old j (hvG j hj)
  rcases e with e | e | rfl
  · omega
  · omega
  · exact hGD (hvG _ hj)

set_option maxHeartbeats 1000000 in
/-- The law's each. -/
theorem eachL_c (l : List UInt8) (a : Option Addr) (n c : Nat) (most : Int) (w : World) (hv : Sl w 1 (.slice a n c) n (by8 l)) (hn : n ≤ 3000) (h1 : 1 ≤ most) (h2 : most ≤ 4000) :
    Calls Try.prog 21 #[.slice a n c, .int .i64 most] w fun e w' => ∃ v, e = .returned (.tuple #[v, .bool true]) ∧ w'.ownsRow w.heap.size 5 1 v (l.take most.toNat).length (by8 (l.take most.toNat)) ∧ Below w.heap.size w w' := by
  have he : ∀ (f : FuncId) (caps : Array Value) (w : World), (binOp BinOp.eql 63 (.func (.func f) #[] caps) .nilFunc).run Try.prog w = .ok (.bool false) w := fun _ _ _ => by kernel_rfl
  have hlen := hv.n_len
  obtain ⟨x8, hx8⟩ : ∃ x8 : Nat → Int, ∀ k, k < l.length → (by8 l)[k]? = some (.int .u8 (x8 k)) := ⟨fun k => ((l.getD k 0).toNat : Int), fun k hk => by rw [by8_get l k hk]; simp [List.getD, hk]⟩
  have Hx := Lib.hid hx8
  clear hx8
  refine (callsIn_wide (n := 3)).1 ?_
  refine callsIn_of_wp_marks Try.func21 rfl trivial ?_ rfl
  simp only [Try.ntmps21, List.size_toArray, List.length_cons, List.length_nil, Nat.reduceAdd, Nat.reduceSub, Array.replicate_succ, Array.replicate_zero, List.push_toArray, List.append_toArray, List.nil_append, List.cons_append]
  refine wpIn_wide.2 ?_
  go_wp2_with (go_at_call 32; refine (eachB_c _ _ _ _).mono ?_; rintro e w' ⟨rfl, rfl⟩)
  have b0 := ((((Boxed.new w 3 (.int .i64 most)).alloc (.cells #[.slice none 0 0] 23)).alloc (.cells #[.bool false] 4)).alloc (.cells #[.slice none 0 0] 23)).alloc (.cells #[.slice a n c] 23) |>.alloc (.cells #[.slice a n c] 23)
  have b1 := (((Boxed.new (w.alloc (.cells #[.int .i64 most] 3)) 23 (.slice none 0 0)).alloc (.cells #[.bool false] 4)).alloc (.cells #[.slice none 0 0] 23)).alloc (.cells #[.slice a n c] 23) |>.alloc (.cells #[.slice a n c] 23)
  have b2 := ((Boxed.new ((w.alloc (.cells #[.int .i64 most] 3)).alloc (.cells #[.slice none 0 0] 23)) 4 (.bool false)).alloc (.cells #[.slice none 0 0] 23)).alloc (.cells #[.slice a n c] 23) |>.alloc (.cells #[.slice a n c] 23)
  have b3 := (Boxed.new (((w.alloc (.cells #[.int .i64 most] 3)).alloc (.cells #[.slice none 0 0] 23)).alloc (.cells #[.bool false] 4)) 23 (.slice none 0 0)).alloc (.cells #[.slice a n c] 23) |>.alloc (.cells #[.slice a n c] 23)
  have b5 := Boxed.new (((((w.alloc (.cells #[.int .i64 most] 3)).alloc (.cells #[.slice none 0 0] 23)).alloc (.cells #[.bool false] 4)).alloc (.cells #[.slice none 0 0] 23)).alloc (.cells #[.slice a n c] 23)) 23 (.slice a n c)
  have hB : Below w.heap.size w ((((((w.alloc (.cells #[.int .i64 most] 3)).alloc (.cells #[.slice none 0 0] 23)).alloc (.cells #[.bool false] 4)).alloc (.cells #[.slice none 0 0] 23)).alloc (.cells #[.slice a n c] 23)).alloc (.cells #[.slice a n c] 23)) :=
    (((((below_alloc w _).alloc (by simp) _).alloc (by simp; omega) _).alloc (by simp; omega) _).alloc (by simp; omega) _).alloc (by simp; omega) _
  have hsz : ((((((w.alloc (.cells #[.int .i64 most] 3)).alloc (.cells #[.slice none 0 0] 23)).alloc (.cells #[.bool false] 4)).alloc (.cells #[.slice none 0 0] 23)).alloc (.cells #[.slice a n c] 23)).alloc (.cells #[.slice a n c] 23)).heap.size = w.heap.size + 6 := by simp
  simp only [World.size_alloc, Nat.add_assoc, Nat.reduceAdd] at b1 b2 b3 b5 ⊢
  obtain ⟨W0, hW0⟩ : ∃ W0, ((((((w.alloc (.cells #[.int .i64 most] 3)).alloc (.cells #[.slice none 0 0] 23)).alloc (.cells #[.bool false] 4)).alloc (.cells #[.slice none 0 0] 23)).alloc (.cells #[.slice a n c] 23)).alloc (.cells #[.slice a n c] 23)) = W0 := ⟨_, rfl⟩
  rw [hW0] at b0 b1 b2 b3 b5 hB hsz ⊢
  clear hW0
  have hblk := hv.blk (by decide)
  have hv0 := hv.up hB
  refine wpIn_wide.1 (wp_range (n := 3) (S := fun j => j = w.heap.size + 5 ∨ (0 < n ∧ (Value.slice a n c).ownBlock = some j)) (gf := 37) (lb := #[.pointer (some ⟨w.heap.size + 5, 0, none⟩)]) rfl enters_each1
    (each1_x l x8 Hx.out a c n (w.heap.size + 5) _ W0 b5.cell hv0 (by omega) ⟨.inl rfl, (Nat.eq_zero_or_pos n).elim .inl fun h => .inr fun k hk => .inr ⟨h, hk⟩⟩) (Below.refl _ _) (fun _ => rfl)
    (fun j => j = w.heap.size + 3) (fun k h => by omega) ?hS
    (fun k G W => EachI w l most k G W ∧ (k : Int) < most)
    (fun k a' G W => a' = { tmps := #[.slice a n c, .int .i64 most, undef, .pointer (some ⟨w.heap.size, 0, none⟩), .pointer (some ⟨w.heap.size + 1, 0, none⟩), .pointer (some ⟨w.heap.size + 2, 0, none⟩), .pointer (some ⟨w.heap.size + 3, 0, none⟩), .int .i64 k, .int .u8 (x8 k), .slice a n c,
      .func (.func 37) #[] #[.pointer (some ⟨w.heap.size + 4, 0, none⟩)], .bool false, .slice a n c, .func (.func 37) #[] #[.pointer (some ⟨w.heap.size + 5, 0, none⟩)], .int .i64 k, .int .u8 (x8 k), undef, undef, undef, undef, undef, undef, undef, undef, undef, undef, undef, undef, undef], defers := [] } ∧
      EachI w l most k G W ∧ (k : Int) < most)
    (fun c k G W => c = .exit 0 ∧ EachI w l most k G W ∧ (k : Int) = most)
    (fun k G A B h hb => ⟨(EachI.abide.up (by omega)) G A B h.1 hb, h.2⟩) (fun k a' G A B h hb => ⟨h.1, (EachI.abide.up (by omega)) G A B h.2.1 hb, h.2.2⟩) (fun c k G A B h hb => ⟨h.1, (EachI.abide.up (by omega)) G A B h.2.1 hb, h.2.2⟩)
    ⟨⟨⟨_, b3, World.ownsRow_nil _ _ _ _, fun j hj => by cases hj⟩, rfl, fun j h => .inl h, b0, b1, b2, hB, by omega⟩, by omega⟩ ?assign ?body ?done ?stop)
  case hS =>
    rintro j (rfl | ⟨hp, hj⟩)
    · exact ⟨by omega, by omega⟩
    · rcases hblk with h | h
      · omega
      · have := h j hj; exact ⟨by omega, by omega⟩
  case assign =>
    intro l2 k G wr K hk hi hK
    gi_wp2
    exact hK _ _ (But.refl _ _) (by rw [newG_same rfl]; exact ⟨rfl, hi⟩)
  case body =>
    rintro l2 k a' G wr hk hl2 _ _ ⟨rfl, hi, hm⟩
    have hlk : k < l.length := by omega
    obtain ⟨v, hv1, hrow, hvG⟩ := hi.row
    have cm := hi.most.cell
    have cl := hv1.cell
    have fl := hv1.frozen
    have hval : by8 (l.take k) ++ [.int .u8 (x8 k)] = by8 (l.take (k + 1)) := by
      have := Hx.out k hlk
      rw [Oct.take_snoc l k hlk, by8_app]
      rw [by8_get l k hlk] at this
      simp only [by8, List.map_cons, List.map_nil]
      rw [Option.some.inj this]
    have Hval := Lib.hid hval
    clear hval
    have hB := hi.below
    have hS := hB.size
    obtain ⟨av, cv, rfl⟩ := own_slice hrow
    have hm1 : (k : Int) + 1 = most ∨ (k : Int) + 1 < most := by omega
    rcases hm1 with hm1 | hm1
    · gi_wp2_with (gi_at_builtin; refine wpListIn_app rfl _ _ 23 rfl slT_u8 w.heap.size rfl (hrow.alloc _) rfl (sl1 _ _ rfl _ _) (by simp [Value.oneCell']) (by simp [maxLen]; omega) (by omega) (by simp; omega) ?_; intro v' w1 hown' hgrow _ hat; obtain ⟨g', cap', rfl⟩ := ownsRow_succ hown'; obtain ⟨hv1', _⟩ := hv1.appended (by decide) hrow hB.size (by omega) hown' hgrow; have hc1 := hv1'.cell; have hf1 := hv1'.frozen; have bm := (hi.most.alloc (.cells #[.int .u8 (x8 k)] 5)).kept hgrow (fun e => by have := own_of_some hrow e.symm; have := hi.old _ (hvG _ e.symm); omega); have cm1 := bm.cell; obtain ⟨hbut, hstep⟩ := hi.step hv1 hrow hvG hown' Hval.out hgrow hat; have HS := Lib.hid hstep; clear hstep bm hat)
      exact ⟨hbut, rfl, HS.out, by omega⟩
    · gi_wp2_with (gi_at_builtin; refine wpListIn_app rfl _ _ 23 rfl slT_u8 w.heap.size rfl (hrow.alloc _) rfl (sl1 _ _ rfl _ _) (by simp [Value.oneCell']) (by simp [maxLen]; omega) (by omega) (by simp; omega) ?_; intro v' w1 hown' hgrow _ hat; obtain ⟨g', cap', rfl⟩ := ownsRow_succ hown'; obtain ⟨hv1', _⟩ := hv1.appended (by decide) hrow hB.size (by omega) hown' hgrow; have hc1 := hv1'.cell; have hf1 := hv1'.frozen; have bm := (hi.most.alloc (.cells #[.int .u8 (x8 k)] 5)).kept hgrow (fun e => by have := own_of_some hrow e.symm; have := hi.old _ (hvG _ e.symm); omega); have cm1 := bm.cell; obtain ⟨hbut, hstep⟩ := hi.step hv1 hrow hvG hown' Hval.out hgrow hat; have HS := Lib.hid hstep; clear hstep bm hat)
      exact ⟨hbut, HS.out, by omega⟩
  case done =>
    rintro D G wr hD hGD ⟨hi, hm⟩ hK
    obtain ⟨v, hv1, hrow, hvG⟩ := hi.row
    have hall : l.take most.toNat = l.take n := by rw [List.take_of_length_le (by omega), List.take_of_length_le (by omega)]
    have hlt : (l.take most.toNat).length = n := by simp; omega
    obtain ⟨f1, f2, f3, f4, f5⟩ := hi.fin hrow hvG hGD (by omega) hK
    have F1 := Lib.hid f1
    have F2 := Lib.hid f2
    have F3 := Lib.hid f3
    have F4 := Lib.hid f4
    have Hlt := Lib.hid hlt
    have Hall := Lib.hid hall
    obtain ⟨av, cv, rfl⟩ := own_slice hrow
    have cl := hv1.cell
    have r1 := hi.res1.cell
    have e1 := hi.res1.frozen
    have r2 := hi.res2.cell
    have e2 := hi.res2.frozen
    clear f1 f2 f3 f4 hlt hall
    go_wp2
    refine ⟨by simp, .inl ⟨_, _, rfl, run_takeDeferred F1.out, ?_⟩⟩
    have c2 := F2.out
    have c3 := F3.out
    refine ⟨.tuple #[.slice av n cv, .bool true], ?_, _, rfl, by rw [Hlt.out, Hall.out]; exact F4.out, f5⟩
    simp [results, Try.f21, go_sem, c2, c3]
  case stop =>
    rintro D c' k G wr hD hGD hk ⟨rfl, hi, hm⟩ hK
    refine wpIn_wide.2 ?_
    obtain ⟨v, hv1, hrow, hvG⟩ := hi.row
    have hall : l.take most.toNat = l.take (k + 1) := by rw [show most.toNat = k + 1 by omega]
    have hlt : (l.take most.toNat).length = k + 1 := by simp; omega
    obtain ⟨f1, f2, f3, f4, f5⟩ := hi.fin hrow hvG hGD (by omega) hK
    have F1 := Lib.hid f1
    have F2 := Lib.hid f2
    have F3 := Lib.hid f3
    have F4 := Lib.hid f4
    have Hlt := Lib.hid hlt
    have Hall := Lib.hid hall
    obtain ⟨av, cv, rfl⟩ := own_slice hrow
    have cl := hv1.cell
    have r1 := hi.res1.cell
    have e1 := hi.res1.frozen
    have r2 := hi.res2.cell
    have e2 := hi.res2.frozen
    clear f1 f2 f3 f4 hlt hall
    go_wp2
    refine ⟨by simp, .inl ⟨_, _, rfl, run_takeDeferred F1.out, ?_⟩⟩
    have c2 := F2.out
    have c3 := F3.out
    refine ⟨.tuple #[.slice av (k + 1) cv, .bool true], ?_, _, rfl, by rw [Hlt.out, Hall.out]; exact F4.out, f5⟩
    simp [results, Try.f21, go_sem, c2, c3]
end Go.Proofs.Ytcoahjkhaejimaa
