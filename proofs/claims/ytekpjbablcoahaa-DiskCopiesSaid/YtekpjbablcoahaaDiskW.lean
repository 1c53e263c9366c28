/-
  Contracts of Waits, of its iterator.
-/
import Derived.Test.YtekpjbablcoahaaDiskI
namespace Go.Proofs.Ytekpjbablcoahaa
open Go.RowKit Go.Maps Dk
set_option linter.unusedSimpArgs false
set_option linter.unusedVariables false

def waitArgs (L : List (Int × Sec)) (k : Nat) : Array Value := #[.int .i64 (k : Int), .int .i64 (ptAt L k).1]
theorem dEnters_wt1 : Enters Try.prog 49 := enters_of Try.func49 (by kernel_rfl) rfl

set_option maxHeartbeats 2000000 in
set_option maxRecDepth 100000 in
theorem waits1_x (L : List (Int × Sec)) (C n : Nat) (v : Value) (S : Nat → Prop) (w : World) (h : PsAt w C v n L) (hSS : S C ∧ (n = 0 ∨ ∀ k, v.ownBlock = some k → S k)) :
    SeqX Try.prog 49 #[.pointer (some ⟨C, 0, none⟩)] (waitArgs L) n S w := by
  intro l' G J Jx W hW hS hG hJ hJx hY h0
  have hE := h.but (O := fun _ => False) (But.of_below hW) (fun h => h) (.inr fun _ _ h => h)
  have Hln := Lib.hid (Sl.recs (cells := putC) (sz := 65) (fun p => putC_len p) (by decide) hE.sl)
  have hn := hE.sl.n_max
  obtain ⟨a, c, rfl⟩ := hE.sl.len
  have hc0 := hE.var
  clear h hW
  refine (callsIn_wide (n := 3)).1 ?_
  refine callsIn_of_wp Try.func49 rfl trivial ?_ rfl
  simp only [Try.ntmps49, List.size_toArray, List.length_cons, List.length_nil, Nat.reduceAdd, Nat.reduceSub, Array.replicate_succ, Array.replicate_zero, List.push_toArray, List.append_toArray, List.nil_append, List.cons_append]
  gi_wp2
  refine wpIn_scope0 ?_
  gi_wp2
  gi_loopw [7] (fun i wr => ∃ (j : Nat) (G : Nat → Prop), j ≤ n ∧ i = .int .i64 j ∧ J j G wr ∧ PsAt wr C (.slice a n c) n L ∧ (∀ k, S k → ¬ G k) ∧ (∀ k, G k → k < wr.heap.size) ∧ W.heap.size ≤ wr.heap.size) (fun i _ => n - (intOf i).toNat)
  case atStart => exact ⟨0, G, Nat.zero_le _, rfl, h0, hE, fun k hk => (hS k hk).2, hG, Nat.le_refl _⟩
  case round =>
    obtain ⟨j, G1, hk, rfl, hj, hE1, hG1, hGl, hsz⟩ := hrel
    by_cases hlt : j < n
    · have hlt' : j < L.length := by rw [Hln.out]; exact hlt
      obtain ⟨b, off, rfl, hr⟩ := hE1.sl.rec_at (cells := putC) (sz := 65) (fun p => putC_len p) hlt hlt'
      have hjn : (j : Int) < (n : Int) := by omega
      have hpa : waitArgs L j = #[.int .i64 j, .int .i64 L[j].1] := by unfold waitArgs; rw [ptAt_get hlt']
      generalize L[j] = e at *
      have hCl := World.block_lt_of_cell? wr _ hE1.var
      have HPA := Lib.hid hpa
      have HE := Lib.hid hE1
      have HJ := Lib.hid hj
      clear hpa hE1 hj
      gi_wp2_with (first
        | (refine wpListIn_loadr rfl 78 (.tmp 10) rfl b (off + j * 65) rfl (putC e) _ hr Try.underlying78 rfl (put_info e) ?_)
        | (refine wpListIn_alloc (by rfl) 78 rfl (some 4) rfl (run_alloc_put _ _ _ rfl) ?_)
        | (refine wpListIn_put_row (by rfl) 78 (.tmp 4) (.tmp 11) rfl wr.heap.size (putC e) rfl rfl (RowAt.new wr _ _) (by rw [putC_len, putArr]) (put_info e) (put_one e) none rfl (fun w4 h4 hb4 => ?_); have hB4 : Below wr.heap.size wr w4 := (below_alloc wr _).trans (hb4.below (fun q e => by omega) (by simp)); have k0 := RowAt.cell h4 (i := 0) (v := .int .i64 e.1) rfl; have hJ4 := ((hJ _).up (Nat.le_refl _)) _ _ _ HJ.out (But.of_below hB4); obtain ⟨fn, tmps, assign, body, hy, hR⟩ := yieldAt_wide (m' := 2) (hY _ _ _ hlt hJ4); rw [HPA.out] at hy))
      refine hR.mono ?_
      rintro en W3 ⟨g, rfl, hw⟩
      have hE4 := HE.out.but (O := fun _ => False) (But.of_below hB4) (fun h => h) (.inr fun _ _ h => h)
      have hE3 := hE4.but hw.but (hG1 C hSS.1) (hSS.2.elim .inl fun h => .inr fun k hk => hG1 k (h k hk))
      have hs3 := hw.but.size
      have hs4 := hB4.size
      cases g with
      | true =>
        gi_wp2
        go_roundw
        case rel => exact ⟨j + 1, _, by omega, by go_num, hw.on rfl, hE3, fun k hk => newG_not (hG1 k hk) (by have := (hS k hk).1; omega), (fun k hk => hk.elim (fun h => by have := hGl k h; omega) (fun h => h.2)), by omega⟩
        case measure => simp [intOf]; omega
      | false =>
        gi_wp2
        rw [Exit.noGoto_normal]
        go_end0
        exact ⟨⟨_, rfl⟩, _, .inr ⟨_, hlt, hw.off rfl⟩⟩
    · obtain rfl : j = n := by omega
      gi_wp2
      rw [Exit.noGoto_normal]
      go_end0
      exact ⟨⟨_, rfl⟩, _, .inl hj⟩
set_option maxRecDepth 100000 in
theorem dWaitsP_c {B M : Nat} {u : Value} {d : Disk} (w : World) (h : DiskAt w B M u d) : Calls Try.prog 23 #[.pointer (some ⟨B, 0, none⟩)] w fun en w' => en = .returned (.func (.func 49) #[] #[.pointer (some ⟨w.heap.size, 0, none⟩)]) ∧
    PsAt w' w.heap.size u d.W.length d.W ∧ Below w.heap.size w w' ∧ w'.heap.size = w.heap.size + 1 := by
  have hmf : ∀ (fn : Fn) (first cap : Array Value) (w : World), (Instr.makeFunc fn first cap).run Try.prog w = .ok (.func fn first cap) w := fun _ _ _ _ => rfl
  have hb := below_alloc w (.cells #[.slice none 0 0] 68)
  obtain ⟨ua, uc, rfl⟩ := h.sl.len
  have h1 := h.below hb
  have hno := dNone_c _ h1
  have c3 := h1.var.cell (i := 3) rfl
  have R0 := RowAt.new w #[.slice none 0 0] 68
  have c0 := R0.cell (i := 0) rfl
  have f0 := R0.fz 0
  go_enter Try.func23, Try.ntmps23
  go_wp2_with (go_at_call 35; refine hno.mono ?_; rintro en w1 ⟨rfl, rfl⟩)
  go_ret
  have hb2 := below_alloc w (.cells #[.slice ua d.W.length uc] 68)
  exact ⟨rfl, ⟨cell_new _ _ _, h.sl.up hb2⟩, hb2, by simp⟩
set_option maxRecDepth 100000 in
theorem dWaitsNo_c (p : Value) (w : World) (hno : ∀ w1, Below w.heap.size w w1 → Calls Try.prog 35 #[p] w1 fun en w' => en = .returned (.bool true) ∧ w1 = w') : Calls Try.prog 23 #[p] w fun en w' => en = .returned (.func (.func 49) #[] #[.pointer (some ⟨w.heap.size, 0, none⟩)]) ∧
    PsAt w' w.heap.size (.slice none 0 0) 0 [] ∧ Below w.heap.size w w' ∧ w'.heap.size = w.heap.size + 1 := by
  have hmf : ∀ (fn : Fn) (first cap : Array Value) (w : World), (Instr.makeFunc fn first cap).run Try.prog w = .ok (.func fn first cap) w := fun _ _ _ _ => rfl
  have hb := below_alloc w (.cells #[.slice none 0 0] 68)
  have hno1 := hno _ hb
  go_enter Try.func23, Try.ntmps23
  go_wp2_with (go_at_call 35; refine hno1.mono ?_; rintro en w1 ⟨rfl, rfl⟩)
  go_ret
  exact ⟨rfl, ⟨cell_new _ _ _, Sl.nil _ _⟩, hb, by simp⟩
end Go.Proofs.Ytekpjbablcoahaa
