/-
  Contracts of sum's iterator over lists, and of the sum of lists.
-/
import Derived.Test.YtinohligpncpiaaSumA
import Derived.Sort.LoopGhostIn
import Derived.Laws.EntriesVeiled
namespace Go.Proofs.Ytinohligpncpiaa
open Go.RowKit
set_option linter.unusedSimpArgs false
set_option linter.unusedVariables false
attribute [local go_sem] Oper.semAt_some

theorem flat_at (ls : List (List UInt8)) (j i : Nat) (hj : j < ls.length) (hi : i < ls[j].length) : (ls.take j).flatten.length + i < ls.flatten.length ∧ (by8 ls.flatten)[(ls.take j).flatten.length + i]? = (by8 ls[j])[i]? := by
  have e : ls.flatten = (ls.take j).flatten ++ (ls[j] ++ (ls.drop (j + 1)).flatten) := by
    conv => lhs; rw [← List.take_append_drop j ls]
    rw [List.flatten_append, List.drop_eq_getElem_cons hj, List.flatten_cons]
  constructor
  · rw [e]; simp only [List.length_append]; omega
  · rw [e, by8_app, by8_app, List.getElem?_append_right (by rw [by8_len]; omega), by8_len, Nat.add_sub_cancel_left, List.getElem?_append_left (by rw [by8_len]; exact hi)]

set_option maxHeartbeats 1000000 in
theorem bytes1_x (ls : List (List UInt8)) (vs : List Value) (a : Option Addr) (c n B : Nat) (x8 : Nat → Int) (hx8 : ∀ k, k < ls.flatten.length → (by8 ls.flatten)[k]? = some (.int .u8 (x8 k))) (w0 w : World) (hv : SlB w0 (.slice a n c) n vs ls) (hw : Below w0.heap.size w0 w)
    (hc : w.cell? ⟨B, 0, none⟩ = some (.slice a n c)) (hn : n ≤ 140737488355328) (ht : ∀ l ∈ ls, l.length ≤ 140737488355328) :
    SeqX Try.prog 35 #[.pointer (some ⟨B, 0, none⟩)] (fun k => #[.int .u8 (x8 k)]) ls.flatten.length (fun j => j < w0.heap.size) w := by
  intro l' G J Jx W hW hS hG hJ hJx hY h0
  have hc' := cell_up hW hc
  have hB0 := below_up hw hW
  have hln := hv.n_len
  have Hx := Lib.hid hx8
  have Ht := Lib.hid ht
  have Hln := Lib.hid hln
  clear hc hx8 ht hln
  obtain ⟨P, hP⟩ : ∃ P : Nat → Nat, ∀ j, P j = (ls.take j).flatten.length := ⟨_, fun _ => rfl⟩
  have HP := Lib.hid hP
  have hP0 : J (P 0) G W := by rw [HP.out]; simpa using h0
  clear hP
  refine (callsIn_wide (n := 3)).1 ?_
  refine callsIn_of_wp Try.func35 rfl trivial ?_ rfl
  simp only [Try.ntmps35, List.size_toArray, List.length_cons, List.length_nil, Nat.reduceAdd, Nat.reduceSub, Array.replicate_succ, Array.replicate_zero, List.push_toArray, List.append_toArray, List.nil_append, List.cons_append]
  gi_wp2
  refine wpIn_scope0 ?_
  gi_wp2
  gi_loopg [9] n (fun gh t9 wr => ∃ (j : Nat) (G : Nat → Prop), j ≤ n ∧ gh = n - j ∧ t9 = .int .i64 j ∧ J (P j) G wr ∧ (∀ i, G i → w0.heap.size ≤ i) ∧ Below w0.heap.size w0 wr ∧ w0.heap.size ≤ wr.heap.size)
  case atStart => exact ⟨0, G, Nat.zero_le _, rfl, rfl, hP0, fun i hi => by have := (hS i); by_cases h : i < w0.heap.size; exact absurd hi (this h).2; omega, hB0, hB0.size⟩
  case round =>
    obtain ⟨j, G, hj, rfl, rfl, hJ0, hG0, hB, hsz⟩ := hrel
    by_cases hlt : j < n
    · have hjl : j < ls.length := by rw [Hln.out]; exact hlt
      obtain ⟨b, off, a1, c1, rfl, hcc0, hsl⟩ := hv.at_ hlt hjl
      have hcc := cell_up hB hcc0
      clear hcc0
      have hL := Ht.out ls[j] (List.getElem_mem hjl)
      obtain ⟨q, hq⟩ : ∃ q, ls[j].length = q := ⟨_, rfl⟩
      rw [hq] at hcc hL
      have HQ := Lib.hid hq
      clear hq
      gi_wp2
      gi_loopg [15] q (fun gh t15 wr => ∃ (i : Nat) (G : Nat → Prop), i ≤ q ∧ gh = q - i ∧ t15 = .int .i64 i ∧ J (P j + i) G wr ∧ (∀ i, G i → w0.heap.size ≤ i) ∧ Below w0.heap.size w0 wr ∧ w0.heap.size ≤ wr.heap.size)
      case atStart => exact ⟨0, G, Nat.zero_le _, rfl, rfl, hJ0, hG0, hB, hsz⟩
      case round =>
        obtain ⟨i, G, hi, rfl, rfl, hJ1, hG1, hB1, hsz1⟩ := hrel
        by_cases hil : i < q
        · have hiq : i < ls[j].length := by rw [HQ.out]; exact hil
          obtain ⟨hfl, hfa⟩ := flat_at ls j i hjl hiq
          rw [← HP.out] at hfl hfa
          have hsl2 := hsl.up hB1
          rw [HQ.out] at hsl2
          obtain ⟨b2, off2, rfl, h2⟩ := hsl2.cellAt (k := i) (by omega) (by omega)
          rw [← hfa, Hx.out _ hfl] at h2
          obtain ⟨fn, tmps, assign, body, hy, hR⟩ := yieldAt_wide (m' := 2) (hY _ G wr hfl hJ1)
          clear hfa
          gi_wp2
          refine hR.mono ?_
          rintro e W3 ⟨g, rfl, hw3⟩
          cases g with
          | true =>
            gi_wp2
            gi_roundg (q - (i + 1))
            case rel => exact ⟨i + 1, _, by omega, rfl, by simp, hw3.on rfl, fun k hk => by rcases hk with h | h; exact hG1 k h; omega, hB1.trans (hw3.but.below hG1 hsz1), Nat.le_trans hsz1 hw3.but.size⟩
            case measure => omega
          | false =>
            gi_wp2
            rw [Exit.noGoto_normal]
            go_end0
            exact ⟨⟨_, rfl⟩, _, .inr ⟨_, hfl, hw3.off rfl⟩⟩
        · obtain rfl : i = q := by omega
          have hfl : P j + i = P (j + 1) := by
            rw [HP.out, HP.out, Oct.flat_take ls j hjl, List.length_append, HQ.out]
          have Hfl := Lib.hid hfl
          clear hfl
          gi_wp2
          gi_roundg (n - (j + 1))
          case rel => exact ⟨j + 1, G, by omega, rfl, by simp, by rw [← Hfl.out]; exact hJ1, hG1, hB1, hsz1⟩
          case measure => omega
    · obtain rfl : j = n := by omega
      have hall : P j = ls.flatten.length := by rw [HP.out, List.take_of_length_le (by rw [Hln.out]; exact Nat.le_refl _)]
      have Hall := Lib.hid hall
      clear hall
      gi_wp2
      rw [Exit.noGoto_normal]
      go_end0
      exact ⟨⟨_, rfl⟩, G, .inl (by rw [← Hall.out]; exact hJ0)⟩

namespace Sum
/-- The word behind bytes. -/
def crcN (u n : Nat) (l : List UInt8) : Nat := l.foldl (fun n c => byteN u n c.toNat) n
theorem crcN_snoc (u n : Nat) (l : List UInt8) (c : UInt8) : crcN u n (l ++ [c]) = byteN u (crcN u n l) c.toNat := by simp [crcN]
theorem crcN_lt {u n : Nat} (hu : u < 4294967296) (hn : n < 4294967296) (l : List UInt8) : crcN u n l < 4294967296 := by
  induction l generalizing n with
  | nil => exact hn
  | cons c l ih => exact ih (bitsTo_lt hu hn 8)
def sumN (k : Nat) (l : List UInt8) : Nat := all k ^^^ crcN (upon k) (all k) l
theorem sumN_lt (k : Nat) (l : List UInt8) : sumN k l < 4294967296 := Nat.xor_lt_two_pow (n := 32) (all_lt k) (crcN_lt (upon_lt k) (all_lt k) l)
end Sum

/-- What lies behind j rounds of the sum of lists: the word at H + 1, the function value at H + 2. -/
structure OfI (w : World) (k : Nat) (l : List UInt8) (j : Nat) (G : Nat → Prop) (W : World) : Prop where
  word : WordAt W (w.heap.size + 1) (Sum.wd k) (Sum.all k) (Sum.upon k) (Sum.crcN (Sum.upon k) (Sum.all k) (l.take j))
  own : G (w.heap.size + 1)
  old : ∀ i, G i → i = w.heap.size + 1 ∨ w.heap.size + 4 ≤ i
  put : Boxed W (w.heap.size + 2) 65 (.func (.func 28) #[] #[.pointer (some ⟨w.heap.size + 1, 0, none⟩)])
  below : Below w.heap.size w W
  size : w.heap.size + 4 ≤ W.heap.size
theorem OfI.abide {w : World} {k : Nat} {l : List UInt8} {j : Nat} : Abide (w.heap.size + 4) (OfI w k l j) := by
  intro G W W' h hb
  exact ⟨hb.obj h.word (fun e => e.2 h.own), h.own, h.old, hb.boxed h.put (fun e => by omega), h.below.trans (hb.below (fun _ e => by omega) h.below.size), Nat.le_trans h.size hb.size⟩
theorem OfI.step {w : World} {k : Nat} {l : List UInt8} {j : Nat} {G : Nat → Prop} {W W' : World} (h : OfI w k l j G W) (hj : j < l.length) (hb : But (· = w.heap.size + 1) W W')
    (hw : WordAt W' (w.heap.size + 1) (Sum.wd k) (Sum.all k) (Sum.upon k) (Sum.byteN (Sum.upon k) (Sum.crcN (Sum.upon k) (Sum.all k) (l.take j)) (l[j].toNat))) : But G W W' ∧ OfI w k l (j + 1) (newG G W W') W' := by
  refine ⟨hb.mono fun i _ e => by rw [e]; exact h.own, ⟨by rw [Oct.take_snoc l j hj, Sum.crcN_snoc]; exact hw, newG_old h.own, fun i hi => ?_, hb.boxed h.put (by omega), h.below.trans (hb.below (fun i e => by omega) h.below.size), Nat.le_trans h.size hb.size⟩⟩
  rcases hi with hi | hi
  · exact h.old i hi
  · have := h.size; omega

set_option maxHeartbeats 1000000 in
theorem of_c (k : Nat) (hk : k ≤ 2) (ls : List (List UInt8)) (vs : List Value) (a : Option Addr) (c n : Nat) (w : World) (hv : SlB w (.slice a n c) n vs ls) (hn : n ≤ 140737488355328) (ht : ∀ l ∈ ls, l.length ≤ 140737488355328) :
    Calls Try.prog 19 #[kindV k, .slice a n c] w (Ret (.int .u32 (Sum.sumN k ls.flatten)) w) := by
  obtain ⟨xb, hxb⟩ : ∃ xb : Nat → Nat, ∀ k, ∀ h : k < ls.flatten.length, xb k = (ls.flatten[k]).toNat := ⟨fun k => (ls.flatten.getD k 0).toNat, fun k h => by simp only [List.getD_eq_getElem?_getD, List.getElem?_eq_getElem h, Option.getD_some]⟩
  have Hxb := Lib.hid hxb
  have Ht := Lib.hid ht
  clear hxb ht
  have hu := Sum.upon_lt k
  have ha := Sum.all_lt k
  refine (callsIn_wide (n := 3)).1 ?_
  refine callsIn_of_wp_marks Try.func19 rfl trivial ?_ rfl
  simp only [Try.ntmps19, List.size_toArray, List.length_cons, List.length_nil, Nat.reduceAdd, Nat.reduceSub, Array.replicate_succ, Array.replicate_zero, List.push_toArray, List.append_toArray, List.nil_append, List.cons_append]
  refine wpIn_wide.2 ?_
  go_wp2_with (go_at_call 30; refine (bytes_c _ _ _ _).mono ?_; rintro e w' ⟨rfl, rfl⟩)
  have H0 := (Boxed.new ((w.alloc (.cells #[.int .i64 (Sum.wd k), .int .u32 (Sum.all k), .int .u32 (Sum.upon k)] 47)).alloc (.cells #[.int .i64 (Sum.wd k), .int .u32 (Sum.all k), .int .u32 (Sum.upon k), .int .u32 (Sum.all k)] 63)) 65 (.func (.func 28) #[] #[.pointer (some ⟨w.heap.size + 1, 0, none⟩)])).alloc (.cells #[.slice a n c] 22)
  have H1 : WordAt ((((w.alloc (.cells #[.int .i64 (Sum.wd k), .int .u32 (Sum.all k), .int .u32 (Sum.upon k)] 47)).alloc (.cells #[.int .i64 (Sum.wd k), .int .u32 (Sum.all k), .int .u32 (Sum.upon k), .int .u32 (Sum.all k)] 63)).alloc (.cells #[.func (.func 28) #[] #[.pointer (some ⟨w.heap.size + 1, 0, none⟩)]] 65)).alloc (.cells #[.slice a n c] 22)) (w.heap.size + 1) (Sum.wd k) (Sum.all k) (Sum.upon k) (Sum.all k) := by
    have := World.alloc_heap_new (w.alloc (.cells #[.int .i64 (Sum.wd k), .int .u32 (Sum.all k), .int .u32 (Sum.upon k)] 47)) (.cells #[.int .i64 (Sum.wd k), .int .u32 (Sum.all k), .int .u32 (Sum.upon k), .int .u32 (Sum.all k)] 63)
    rw [World.size_alloc] at this
    exact (Below.heap_alloc _ _ _ (by simp)).trans ((Below.heap_alloc _ _ _ (by simp)).trans this)
  have H2 := Boxed.new (((w.alloc (.cells #[.int .i64 (Sum.wd k), .int .u32 (Sum.all k), .int .u32 (Sum.upon k)] 47)).alloc (.cells #[.int .i64 (Sum.wd k), .int .u32 (Sum.all k), .int .u32 (Sum.upon k), .int .u32 (Sum.all k)] 63)).alloc (.cells #[.func (.func 28) #[] #[.pointer (some ⟨w.heap.size + 1, 0, none⟩)]] 65)) 22 (.slice a n c)
  have hB : Below w.heap.size w ((((w.alloc (.cells #[.int .i64 (Sum.wd k), .int .u32 (Sum.all k), .int .u32 (Sum.upon k)] 47)).alloc (.cells #[.int .i64 (Sum.wd k), .int .u32 (Sum.all k), .int .u32 (Sum.upon k), .int .u32 (Sum.all k)] 63)).alloc (.cells #[.func (.func 28) #[] #[.pointer (some ⟨w.heap.size + 1, 0, none⟩)]] 65)).alloc (.cells #[.slice a n c] 22)) :=
    (((below_alloc w _).alloc (by simp) _).alloc (by simp; omega) _).alloc (by simp; omega) _
  have hsz : ((((w.alloc (.cells #[.int .i64 (Sum.wd k), .int .u32 (Sum.all k), .int .u32 (Sum.upon k)] 47)).alloc (.cells #[.int .i64 (Sum.wd k), .int .u32 (Sum.all k), .int .u32 (Sum.upon k), .int .u32 (Sum.all k)] 63)).alloc (.cells #[.func (.func 28) #[] #[.pointer (some ⟨w.heap.size + 1, 0, none⟩)]] 65)).alloc (.cells #[.slice a n c] 22)).heap.size = w.heap.size + 4 := by simp
  simp only [World.size_alloc, Nat.add_assoc, Nat.reduceAdd] at H0 H2 ⊢
  obtain ⟨W0, hW0⟩ : ∃ W0, ((((w.alloc (.cells #[.int .i64 (Sum.wd k), .int .u32 (Sum.all k), .int .u32 (Sum.upon k)] 47)).alloc (.cells #[.int .i64 (Sum.wd k), .int .u32 (Sum.all k), .int .u32 (Sum.upon k), .int .u32 (Sum.all k)] 63)).alloc (.cells #[.func (.func 28) #[] #[.pointer (some ⟨w.heap.size + 1, 0, none⟩)]] 65)).alloc (.cells #[.slice a n c] 22)) = W0 := ⟨_, rfl⟩
  rw [hW0] at H0 H1 H2 hB hsz ⊢
  clear hW0
  refine wpIn_wide.1 (wp_range (n := 3) (S := fun j => j < w.heap.size) (gf := 35) (lb := #[.pointer (some ⟨w.heap.size + 3, 0, none⟩)]) rfl enters_bytes1
    (bytes1_x ls vs a c n (w.heap.size + 3) (fun k => (xb k : Int)) (fun k h => by rw [by8_get _ _ h, Hxb.out k h]) w W0 hv hB H2.cell hn Ht.out) (Below.refl _ _) (fun _ => rfl)
    (fun j => j = w.heap.size + 1) (fun k h => by omega) (fun j h => ⟨by omega, by omega⟩)
    (fun j G W => OfI w k ls.flatten j G W)
    (fun j a' G W => a' = { tmps := #[kindV k, .slice a n c, .pointer (some ⟨w.heap.size, 0, none⟩), undef, .int .u32 0, .pointer (some ⟨w.heap.size + 1, 0, none⟩), .pointer (some ⟨w.heap.size + 2, 0, none⟩), .int .u8 (xb j : Int), kindV k, .pointer (some ⟨w.heap.size, 1, none⟩), .int .u32 (Sum.all k),
      .agg #[.int .i64 (Sum.wd k), .int .u32 (Sum.all k), .int .u32 (Sum.upon k), .int .u32 (Sum.all k)], .func (.func 28) #[] #[.pointer (some ⟨w.heap.size + 1, 0, none⟩)], .slice a n c, .func (.func 35) #[] #[.pointer (some ⟨w.heap.size + 3, 0, none⟩)], .int .u8 (xb j : Int), undef, undef, undef, undef, undef, undef, undef, undef, undef], defers := [] } ∧ OfI w k ls.flatten j G W)
    (fun c j G W => False)
    (fun j G A B h hb => (OfI.abide.up (by omega)) G A B h hb) (fun j a' G A B h hb => ⟨h.1, (OfI.abide.up (by omega)) G A B h.2 hb⟩) (fun c j G A B h hb => h)
    ⟨H1, rfl, fun j h => .inl h, H0, hB, by omega⟩ ?assign ?body ?done ?stop)
  case assign =>
    intro l2 j G wr K hk hi hK
    gi_wp2
    exact hK _ _ (But.refl _ _) (by rw [newG_same rfl]; exact ⟨rfl, hi⟩)
  case body =>
    rintro l2 j a' G wr hj hl2 _ _ ⟨rfl, hi⟩
    have hx := Hxb.out j hj
    have hlt : xb j < 256 := by rw [hx]; exact UInt8.toNat_lt _
    have HX := Lib.hid hx
    clear hx
    have cp := hi.put.cell
    gi_wp2_with ((try refine ⟨trivial, ?_⟩); gi_at_call 28; refine (CallsIn.inRound l2 (callsIn_wide.2 (put1_c (xb j) _ _ _ _ _ wr hi.word hu (Sum.crcN_lt hu ha _) hlt))).mono ?_; rintro e w1 ⟨⟨v, rfl⟩, hb1, hw1⟩)
    rw [HX.out] at hw1
    exact hi.step hj hb1 hw1
  case done =>
    rintro D G wr hD hGD hi hK
    have c1 := hi.word.c1
    have c3 := hi.word.c3
    have hx := bits_xor_u32 (Sum.all k) (Sum.crcN (Sum.upon k) (Sum.all k) (ls.flatten.take ls.flatten.length)) ha (Sum.crcN_lt hu ha _)
    rw [List.take_length] at hx c3
    have HX := Lib.hid hx
    clear hx
    generalize hcr : Sum.crcN (Sum.upon k) (Sum.all k) ls.flatten = cr at *
    have Hcr := Lib.hid hcr
    clear hcr
    go_wp2
    refine ⟨by simp, .inl ⟨_, _, rfl, run_takeDeferred hK, ?_⟩⟩
    refine ⟨.int .u32 (bits BinOp.xor IntKind.u32 (Sum.all k : Int) (cr : Int)), by simp [results, Try.f19, go_sem], ?_, hi.below.trans (belowK_b (w := w) (Nat.le_refl _) wr D _ _ (by omega) hK rfl rfl)⟩
    rw [HX.out]
    unfold Sum.sumN
    rw [Hcr.out]
  case stop =>
    rintro D c' j G wr hD hGD hk h hK
    exact h.elim
end Go.Proofs.Ytinohligpncpiaa
