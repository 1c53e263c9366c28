/-
  The contract of add.
-/
import Derived.Test.YthlgoclidgfejaaTraceI
import Derived.StillTailTactics
namespace Go.Proofs.Ythlgoclidgfejaa
open Go.RowKit Go.Maps Trc
set_option linter.unusedSimpArgs false
set_option linter.unusedVariables false

/-- What add leaves. -/
def AddPost (n : Nm) (f : Int) (es : List Ev) (e : Ev) (B : Nat) (w : World) (en : Ending) (w' : World) : Prop :=
  (∃ v, en = .returned v) ∧ RowAt w' B (tlC n f (es ++ [e])).toArray 74 ∧ But (· = B) w w'

set_option maxHeartbeats 16000000 in
set_option maxRecDepth 100000 in
theorem add_00 (n : Nm) (f : Int) (es : List Ev) (e : Ev) (B : Nat) (w : World) (h : RowAt w B (tlC n f es).toArray 74) (hes : es.length ≤ 4096) (hs : saysB e = false) (hk : (e.kind == 11) = false) :
    Calls Try.prog 40 #[.pointer (some ⟨B, 0, none⟩), evV e] w (AddPost n f es e B w) := by
  have hlt := h.lt
  have hne : ¬ B = w.heap.size := by omega
  have hne' : ¬ w.heap.size = B := by omega
  have hk' : ¬ e.kind = 11 := by simpa using hk
  have hq4 : sentN es ≤ es.length := List.countP_le_length
  have hq5 : cameN es ≤ es.length := List.countP_le_length
  have r1 := h.set 14 (.int .u64 e.at_)
  simp only [List.setIfInBounds_toArray, List.set_cons_zero, List.set_cons_succ] at r1
  have r2 := r1.alloc (.cells (evA e) 48)
  have E2 := RowAt.new (w.setCell ⟨B, 14, none⟩ (.int .u64 e.at_)) (evA e) 48
  rw [show (w.setCell ⟨B, 14, none⟩ (.int .u64 e.at_)).heap.size = w.heap.size by simp] at E2
  have k2 : But (· = B) w ((w.setCell ⟨B, 14, none⟩ (.int .u64 e.at_)).alloc (.cells (evA e) 48)) := (show But (· = B) w (w.setCell ⟨B, 14, none⟩ (.int .u64 e.at_)) from But.setCell _ _ _ (.inl rfl)).trans (But.alloc _ _)
  have c14 := h.cell (i := 14) (v := .int .u64 (lastA es)) rfl
  have f14 := h.fz 14
  unfold AddPost
  cases hg : gotB e.got with
  | false =>
    have hn : ∀ i : Int, 0 ≤ i → i ≤ 6 → ¬ e.got = i := fun i h1 h2 he => by simp [gotB] at hg; omega
    have hn0 := hn 0 (by decide) (by decide)
    have hn1 := hn 1 (by decide) (by decide)
    have hn2 := hn 2 (by decide) (by decide)
    have hn3 := hn 3 (by decide) (by decide)
    have hn4 := hn 4 (by decide) (by decide)
    have hn5 := hn 5 (by decide) (by decide)
    have hn6 := hn 6 (by decide) (by decide)
    have h3 : (e.got == 3) = false := by rw [beq_eq_false_iff_ne]; exact hn3
    clear hn
    go_enter Try.func40, Try.ntmps40
    go_wp2_with (first
      | (refine wpList_load_mid rfl 48 (.tmp 3) rfl w.heap.size 0 rfl (evC e) _ E2.range Try.underlying48 rfl (by kernel_rfl) ?_)
      | (go_at_call 35; refine (saysT_c e _).mono ?_; rw [hs]; rintro en w3 ⟨rfl, hb⟩; have R3 := r2.below hb; have E3 := E2.below hb; have e0 := E3.cell (i := 0) (v := .int .i64 e.kind) rfl; have e1 := E3.cell (i := 1) (v := .int .u64 e.at_) rfl; have e9 := E3.cell (i := 9) (v := .int .i64 e.got) rfl)
      | (go_at_call 24; refine (gotT_c _ _).mono ?_; rw [hg]; rintro en w4 ⟨rfl, rfl⟩))
    go_end0
    have RR := R3
    try simp only [List.setIfInBounds_toArray, List.set_cons_zero, List.set_cons_succ] at RR
    refine ⟨⟨_, rfl⟩, ?_, ?_⟩
    · have ht : (tlC n f (es ++ [e])).toArray = #[.int .u32 n.node, .int .u32 n.service, .int .u64 n.time, .int .u32 n.seq, .int .i64 (sentN es), .int .i64 (cameN es), .int .i64 (cnt es 0), .int .i64 (cnt es 1), .int .i64 (cnt es 2), .int .i64 (cnt es 3), .int .i64 (cnt es 4), .int .i64 (cnt es 5), .int .i64 (cnt es 6), .int .u64 f, .int .u64 e.at_, .int .u64 (doneA es)] := by
        simp only [tlC, sentN_snoc, cameN_snoc, cnt_snoc, lastA_snoc, doneA_snoc]
        simp [hs, hk', hn0, hn1, hn2, hn3, hn4, hn5, hn6]
      rw [ht]; exact RR
    · exact (k2.trans (But.of_below hb))
  | true =>
    rcases got7 hg with hgt | hgt | hgt | hgt | hgt | hgt | hgt
    · have hq := cnt_le es 0
      go_enter Try.func40, Try.ntmps40
      go_wp2_with (first
        | (refine wpList_load_mid rfl 48 (.tmp 3) rfl w.heap.size 0 rfl (evC e) _ E2.range Try.underlying48 rfl (by kernel_rfl) ?_)
        | (go_at_call 35; refine (saysT_c e _).mono ?_; rw [hs]; rintro en w3 ⟨rfl, hb⟩; have R3 := r2.below hb; have E3 := E2.below hb; have e0 := E3.cell (i := 0) (v := .int .i64 e.kind) rfl; have e1 := E3.cell (i := 1) (v := .int .u64 e.at_) rfl; have e9 := E3.cell (i := 9) (v := .int .i64 e.got) rfl; have b6 := R3.cell (i := 6) (v := .int .i64 (cnt es 0)) rfl; have f6 := R3.fz 6)
        | (go_at_call 24; refine (gotT_c _ _).mono ?_; first | rw [hg] | rw [show gotB 0 = true from rfl]; rintro en w4 ⟨rfl, rfl⟩))
      refine wp_still_tail 14 (by kernel_rfl) (by kernel_rfl) ?_
      simp only [List.take_succ_cons, List.take_zero, List.drop_succ_cons, List.drop_zero]
      repeat still_step
      refine wpStill_nil ?_
      go_wp2
      go_end0
      have RR := ((R3).drew.set 6 (.int .i64 ((cnt es 0 : Int) + 1)))
      try simp only [List.setIfInBounds_toArray, List.set_cons_zero, List.set_cons_succ] at RR
      refine ⟨⟨_, rfl⟩, ?_, ?_⟩
      · have ht : (tlC n f (es ++ [e])).toArray = #[.int .u32 n.node, .int .u32 n.service, .int .u64 n.time, .int .u32 n.seq, .int .i64 (sentN es), .int .i64 (cameN es), .int .i64 ((cnt es 0 : Int) + 1), .int .i64 (cnt es 1), .int .i64 (cnt es 2), .int .i64 (cnt es 3), .int .i64 (cnt es 4), .int .i64 (cnt es 5), .int .i64 (cnt es 6), .int .u64 f, .int .u64 e.at_, .int .u64 (doneA es)] := by
          simp only [tlC, sentN_snoc, cameN_snoc, cnt_snoc, lastA_snoc, doneA_snoc]
          simp [hs, hk', hgt]
        rw [ht]; exact RR
      · exact (((k2.trans (But.of_below hb)).trans (But.drew _)).trans (But.setCell _ _ _ (.inl rfl)))
    · have hq := cnt_le es 1
      go_enter Try.func40, Try.ntmps40
      go_wp2_with (first
        | (refine wpList_load_mid rfl 48 (.tmp 3) rfl w.heap.size 0 rfl (evC e) _ E2.range Try.underlying48 rfl (by kernel_rfl) ?_)
        | (go_at_call 35; refine (saysT_c e _).mono ?_; rw [hs]; rintro en w3 ⟨rfl, hb⟩; have R3 := r2.below hb; have E3 := E2.below hb; have e0 := E3.cell (i := 0) (v := .int .i64 e.kind) rfl; have e1 := E3.cell (i := 1) (v := .int .u64 e.at_) rfl; have e9 := E3.cell (i := 9) (v := .int .i64 e.got) rfl; have b7 := R3.cell (i := 7) (v := .int .i64 (cnt es 1)) rfl; have f7 := R3.fz 7)
        | (go_at_call 24; refine (gotT_c _ _).mono ?_; first | rw [hg] | rw [show gotB 1 = true from rfl]; rintro en w4 ⟨rfl, rfl⟩))
      refine wp_still_tail 14 (by kernel_rfl) (by kernel_rfl) ?_
      simp only [List.take_succ_cons, List.take_zero, List.drop_succ_cons, List.drop_zero]
      repeat still_step
      refine wpStill_nil ?_
      go_wp2
      go_end0
      have RR := ((R3).drew.set 7 (.int .i64 ((cnt es 1 : Int) + 1)))
      try simp only [List.setIfInBounds_toArray, List.set_cons_zero, List.set_cons_succ] at RR
      refine ⟨⟨_, rfl⟩, ?_, ?_⟩
      · have ht : (tlC n f (es ++ [e])).toArray = #[.int .u32 n.node, .int .u32 n.service, .int .u64 n.time, .int .u32 n.seq, .int .i64 (sentN es), .int .i64 (cameN es), .int .i64 (cnt es 0), .int .i64 ((cnt es 1 : Int) + 1), .int .i64 (cnt es 2), .int .i64 (cnt es 3), .int .i64 (cnt es 4), .int .i64 (cnt es 5), .int .i64 (cnt es 6), .int .u64 f, .int .u64 e.at_, .int .u64 (doneA es)] := by
          simp only [tlC, sentN_snoc, cameN_snoc, cnt_snoc, lastA_snoc, doneA_snoc]
          simp [hs, hk', hgt]
        rw [ht]; exact RR
      · exact (((k2.trans (But.of_below hb)).trans (But.drew _)).trans (But.setCell _ _ _ (.inl rfl)))
    · have hq := cnt_le es 2
      go_enter Try.func40, Try.ntmps40
      go_wp2_with (first
        | (refine wpList_load_mid rfl 48 (.tmp 3) rfl w.heap.size 0 rfl (evC e) _ E2.range Try.underlying48 rfl (by kernel_rfl) ?_)
        | (go_at_call 35; refine (saysT_c e _).mono ?_; rw [hs]; rintro en w3 ⟨rfl, hb⟩; have R3 := r2.below hb; have E3 := E2.below hb; have e0 := E3.cell (i := 0) (v := .int .i64 e.kind) rfl; have e1 := E3.cell (i := 1) (v := .int .u64 e.at_) rfl; have e9 := E3.cell (i := 9) (v := .int .i64 e.got) rfl; have b8 := R3.cell (i := 8) (v := .int .i64 (cnt es 2)) rfl; have f8 := R3.fz 8)
        | (go_at_call 24; refine (gotT_c _ _).mono ?_; first | rw [hg] | rw [show gotB 2 = true from rfl]; rintro en w4 ⟨rfl, rfl⟩))
      refine wp_still_tail 14 (by kernel_rfl) (by kernel_rfl) ?_
      simp only [List.take_succ_cons, List.take_zero, List.drop_succ_cons, List.drop_zero]
      repeat still_step
      refine wpStill_nil ?_
      go_wp2
      go_end0
      have RR := ((R3).drew.set 8 (.int .i64 ((cnt es 2 : Int) + 1)))
      try simp only [List.setIfInBounds_toArray, List.set_cons_zero, List.set_cons_succ] at RR
      refine ⟨⟨_, rfl⟩, ?_, ?_⟩
      · have ht : (tlC n f (es ++ [e])).toArray = #[.int .u32 n.node, .int .u32 n.service, .int .u64 n.time, .int .u32 n.seq, .int .i64 (sentN es), .int .i64 (cameN es), .int .i64 (cnt es 0), .int .i64 (cnt es 1), .int .i64 ((cnt es 2 : Int) + 1), .int .i64 (cnt es 3), .int .i64 (cnt es 4), .int .i64 (cnt es 5), .int .i64 (cnt es 6), .int .u64 f, .int .u64 e.at_, .int .u64 (doneA es)] := by
          simp only [tlC, sentN_snoc, cameN_snoc, cnt_snoc, lastA_snoc, doneA_snoc]
          simp [hs, hk', hgt]
        rw [ht]; exact RR
      · exact (((k2.trans (But.of_below hb)).trans (But.drew _)).trans (But.setCell _ _ _ (.inl rfl)))
    · have hq := cnt_le es 3
      by_cases hd0 : cnt es 3 = 0
      · have hd : ((cnt es 3 : Int) + 1 == 1) = true := by rw [beq_iff_eq]; omega
        have Hd := Lib.hid hd0
        clear hd0
        go_enter Try.func40, Try.ntmps40
        go_wp2_with (first
          | (refine wpList_load_mid rfl 48 (.tmp 3) rfl w.heap.size 0 rfl (evC e) _ E2.range Try.underlying48 rfl (by kernel_rfl) ?_)
          | (go_at_call 35; refine (saysT_c e _).mono ?_; rw [hs]; rintro en w3 ⟨rfl, hb⟩; have R3 := r2.below hb; have E3 := E2.below hb; have e0 := E3.cell (i := 0) (v := .int .i64 e.kind) rfl; have e1 := E3.cell (i := 1) (v := .int .u64 e.at_) rfl; have e9 := E3.cell (i := 9) (v := .int .i64 e.got) rfl; have b9 := R3.cell (i := 9) (v := .int .i64 (cnt es 3)) rfl; have f9 := R3.fz 9; have b15 := R3.cell (i := 15) (v := .int .u64 (doneA es)) rfl; have f15 := R3.fz 15)
          | (go_at_call 24; refine (gotT_c _ _).mono ?_; first | rw [hg] | rw [show gotB 3 = true from rfl]; rintro en w4 ⟨rfl, rfl⟩))
        refine wp_still_tail 14 (by kernel_rfl) (by kernel_rfl) ?_
        simp only [List.take_succ_cons, List.take_zero, List.drop_succ_cons, List.drop_zero]
        repeat still_step
        refine wpStill_nil ?_
        go_wp2
        go_end0
        have RR := (((R3).drew.set 9 (.int .i64 ((cnt es 3 : Int) + 1))).set 15 (.int .u64 e.at_))
        try simp only [List.setIfInBounds_toArray, List.set_cons_zero, List.set_cons_succ] at RR
        refine ⟨⟨_, rfl⟩, ?_, ?_⟩
        · have ht : (tlC n f (es ++ [e])).toArray = #[.int .u32 n.node, .int .u32 n.service, .int .u64 n.time, .int .u32 n.seq, .int .i64 (sentN es), .int .i64 (cameN es), .int .i64 (cnt es 0), .int .i64 (cnt es 1), .int .i64 (cnt es 2), .int .i64 ((cnt es 3 : Int) + 1), .int .i64 (cnt es 4), .int .i64 (cnt es 5), .int .i64 (cnt es 6), .int .u64 f, .int .u64 e.at_, .int .u64 e.at_] := by
            simp only [tlC, sentN_snoc, cameN_snoc, cnt_snoc, lastA_snoc, doneA_snoc]
            simp [hs, hk', hgt, Hd.out]
          rw [ht]; exact RR
        · exact ((((k2.trans (But.of_below hb)).trans (But.drew _)).trans (But.setCell _ _ _ (.inl rfl))).trans (But.setCell _ _ _ (.inl rfl)))
      · have hd : ((cnt es 3 : Int) + 1 == 1) = false := by rw [beq_eq_false_iff_ne]; omega
        have Hd := Lib.hid hd0
        clear hd0
        go_enter Try.func40, Try.ntmps40
        go_wp2_with (first
          | (refine wpList_load_mid rfl 48 (.tmp 3) rfl w.heap.size 0 rfl (evC e) _ E2.range Try.underlying48 rfl (by kernel_rfl) ?_)
          | (go_at_call 35; refine (saysT_c e _).mono ?_; rw [hs]; rintro en w3 ⟨rfl, hb⟩; have R3 := r2.below hb; have E3 := E2.below hb; have e0 := E3.cell (i := 0) (v := .int .i64 e.kind) rfl; have e1 := E3.cell (i := 1) (v := .int .u64 e.at_) rfl; have e9 := E3.cell (i := 9) (v := .int .i64 e.got) rfl; have b9 := R3.cell (i := 9) (v := .int .i64 (cnt es 3)) rfl; have f9 := R3.fz 9)
          | (go_at_call 24; refine (gotT_c _ _).mono ?_; first | rw [hg] | rw [show gotB 3 = true from rfl]; rintro en w4 ⟨rfl, rfl⟩))
        refine wp_still_tail 14 (by kernel_rfl) (by kernel_rfl) ?_
        simp only [List.take_succ_cons, List.take_zero, List.drop_succ_cons, List.drop_zero]
        repeat still_step
        refine wpStill_nil ?_
        go_wp2
        go_end0
        have RR := ((R3).drew.set 9 (.int .i64 ((cnt es 3 : Int) + 1)))
        try simp only [List.setIfInBounds_toArray, List.set_cons_zero, List.set_cons_succ] at RR
        refine ⟨⟨_, rfl⟩, ?_, ?_⟩
        · have ht : (tlC n f (es ++ [e])).toArray = #[.int .u32 n.node, .int .u32 n.service, .int .u64 n.time, .int .u32 n.seq, .int .i64 (sentN es), .int .i64 (cameN es), .int .i64 (cnt es 0), .int .i64 (cnt es 1), .int .i64 (cnt es 2), .int .i64 ((cnt es 3 : Int) + 1), .int .i64 (cnt es 4), .int .i64 (cnt es 5), .int .i64 (cnt es 6), .int .u64 f, .int .u64 e.at_, .int .u64 (doneA es)] := by
            simp only [tlC, sentN_snoc, cameN_snoc, cnt_snoc, lastA_snoc, doneA_snoc]
            simp [hs, hk', hgt, Hd.out]
          rw [ht]; exact RR
        · exact (((k2.trans (But.of_below hb)).trans (But.drew _)).trans (But.setCell _ _ _ (.inl rfl)))
    · have hq := cnt_le es 4
      go_enter Try.func40, Try.ntmps40
      go_wp2_with (first
        | (refine wpList_load_mid rfl 48 (.tmp 3) rfl w.heap.size 0 rfl (evC e) _ E2.range Try.underlying48 rfl (by kernel_rfl) ?_)
        | (go_at_call 35; refine (saysT_c e _).mono ?_; rw [hs]; rintro en w3 ⟨rfl, hb⟩; have R3 := r2.below hb; have E3 := E2.below hb; have e0 := E3.cell (i := 0) (v := .int .i64 e.kind) rfl; have e1 := E3.cell (i := 1) (v := .int .u64 e.at_) rfl; have e9 := E3.cell (i := 9) (v := .int .i64 e.got) rfl; have b10 := R3.cell (i := 10) (v := .int .i64 (cnt es 4)) rfl; have f10 := R3.fz 10)
        | (go_at_call 24; refine (gotT_c _ _).mono ?_; first | rw [hg] | rw [show gotB 4 = true from rfl]; rintro en w4 ⟨rfl, rfl⟩))
      refine wp_still_tail 14 (by kernel_rfl) (by kernel_rfl) ?_
      simp only [List.take_succ_cons, List.take_zero, List.drop_succ_cons, List.drop_zero]
      repeat still_step
      refine wpStill_nil ?_
      go_wp2
      go_end0
      have RR := ((R3).drew.set 10 (.int .i64 ((cnt es 4 : Int) + 1)))
      try simp only [List.setIfInBounds_toArray, List.set_cons_zero, List.set_cons_succ] at RR
      refine ⟨⟨_, rfl⟩, ?_, ?_⟩
      · have ht : (tlC n f (es ++ [e])).toArray = #[.int .u32 n.node, .int .u32 n.service, .int .u64 n.time, .int .u32 n.seq, .int .i64 (sentN es), .int .i64 (cameN es), .int .i64 (cnt es 0), .int .i64 (cnt es 1), .int .i64 (cnt es 2), .int .i64 (cnt es 3), .int .i64 ((cnt es 4 : Int) + 1), .int .i64 (cnt es 5), .int .i64 (cnt es 6), .int .u64 f, .int .u64 e.at_, .int .u64 (doneA es)] := by
          simp only [tlC, sentN_snoc, cameN_snoc, cnt_snoc, lastA_snoc, doneA_snoc]
          simp [hs, hk', hgt]
        rw [ht]; exact RR
      · exact (((k2.trans (But.of_below hb)).trans (But.drew _)).trans (But.setCell _ _ _ (.inl rfl)))
    · have hq := cnt_le es 5
      go_enter Try.func40, Try.ntmps40
      go_wp2_with (first
        | (refine wpList_load_mid rfl 48 (.tmp 3) rfl w.heap.size 0 rfl (evC e) _ E2.range Try.underlying48 rfl (by kernel_rfl) ?_)
        | (go_at_call 35; refine (saysT_c e _).mono ?_; rw [hs]; rintro en w3 ⟨rfl, hb⟩; have R3 := r2.below hb; have E3 := E2.below hb; have e0 := E3.cell (i := 0) (v := .int .i64 e.kind) rfl; have e1 := E3.cell (i := 1) (v := .int .u64 e.at_) rfl; have e9 := E3.cell (i := 9) (v := .int .i64 e.got) rfl; have b11 := R3.cell (i := 11) (v := .int .i64 (cnt es 5)) rfl; have f11 := R3.fz 11)
        | (go_at_call 24; refine (gotT_c _ _).mono ?_; first | rw [hg] | rw [show gotB 5 = true from rfl]; rintro en w4 ⟨rfl, rfl⟩))
      refine wp_still_tail 14 (by kernel_rfl) (by kernel_rfl) ?_
      simp only [List.take_succ_cons, List.take_zero, List.drop_succ_cons, List.drop_zero]
      repeat still_step
      refine wpStill_nil ?_
      go_wp2
      go_end0
      have RR := ((R3).drew.set 11 (.int .i64 ((cnt es 5 : Int) + 1)))
      try simp only [List.setIfInBounds_toArray, List.set_cons_zero, List.set_cons_succ] at RR
      refine ⟨⟨_, rfl⟩, ?_, ?_⟩
      · have ht : (tlC n f (es ++ [e])).toArray = #[.int .u32 n.node, .int .u32 n.service, .int .u64 n.time, .int .u32 n.seq, .int .i64 (sentN es), .int .i64 (cameN es), .int .i64 (cnt es 0), .int .i64 (cnt es 1), .int .i64 (cnt es 2), .int .i64 (cnt es 3), .int .i64 (cnt es 4), .int .i64 ((cnt es 5 : Int) + 1), .int .i64 (cnt es 6), .int .u64 f, .int .u64 e.at_, .int .u64 (doneA es)] := by
          simp only [tlC, sentN_snoc, cameN_snoc, cnt_snoc, lastA_snoc, doneA_snoc]
          simp [hs, hk', hgt]
        rw [ht]; exact RR
      · exact (((k2.trans (But.of_below hb)).trans (But.drew _)).trans (But.setCell _ _ _ (.inl rfl)))
    · have hq := cnt_le es 6
      go_enter Try.func40, Try.ntmps40
      go_wp2_with (first
        | (refine wpList_load_mid rfl 48 (.tmp 3) rfl w.heap.size 0 rfl (evC e) _ E2.range Try.underlying48 rfl (by kernel_rfl) ?_)
        | (go_at_call 35; refine (saysT_c e _).mono ?_; rw [hs]; rintro en w3 ⟨rfl, hb⟩; have R3 := r2.below hb; have E3 := E2.below hb; have e0 := E3.cell (i := 0) (v := .int .i64 e.kind) rfl; have e1 := E3.cell (i := 1) (v := .int .u64 e.at_) rfl; have e9 := E3.cell (i := 9) (v := .int .i64 e.got) rfl; have b12 := R3.cell (i := 12) (v := .int .i64 (cnt es 6)) rfl; have f12 := R3.fz 12)
        | (go_at_call 24; refine (gotT_c _ _).mono ?_; first | rw [hg] | rw [show gotB 6 = true from rfl]; rintro en w4 ⟨rfl, rfl⟩))
      refine wp_still_tail 14 (by kernel_rfl) (by kernel_rfl) ?_
      simp only [List.take_succ_cons, List.take_zero, List.drop_succ_cons, List.drop_zero]
      repeat still_step
      refine wpStill_nil ?_
      go_wp2
      go_end0
      have RR := ((R3).drew.set 12 (.int .i64 ((cnt es 6 : Int) + 1)))
      try simp only [List.setIfInBounds_toArray, List.set_cons_zero, List.set_cons_succ] at RR
      refine ⟨⟨_, rfl⟩, ?_, ?_⟩
      · have ht : (tlC n f (es ++ [e])).toArray = #[.int .u32 n.node, .int .u32 n.service, .int .u64 n.time, .int .u32 n.seq, .int .i64 (sentN es), .int .i64 (cameN es), .int .i64 (cnt es 0), .int .i64 (cnt es 1), .int .i64 (cnt es 2), .int .i64 (cnt es 3), .int .i64 (cnt es 4), .int .i64 (cnt es 5), .int .i64 ((cnt es 6 : Int) + 1), .int .u64 f, .int .u64 e.at_, .int .u64 (doneA es)] := by
          simp only [tlC, sentN_snoc, cameN_snoc, cnt_snoc, lastA_snoc, doneA_snoc]
          simp [hs, hk', hgt]
        rw [ht]; exact RR
      · exact (((k2.trans (But.of_below hb)).trans (But.drew _)).trans (But.setCell _ _ _ (.inl rfl)))

set_option maxHeartbeats 16000000 in
set_option maxRecDepth 100000 in
theorem add_01 (n : Nm) (f : Int) (es : List Ev) (e : Ev) (B : Nat) (w : World) (h : RowAt w B (tlC n f es).toArray 74) (hes : es.length ≤ 4096) (hs : saysB e = false) (hk : (e.kind == 11) = true) :
    Calls Try.prog 40 #[.pointer (some ⟨B, 0, none⟩), evV e] w (AddPost n f es e B w) := by
  have hlt := h.lt
  have hne : ¬ B = w.heap.size := by omega
  have hne' : ¬ w.heap.size = B := by omega
  have hk' : e.kind = 11 := by simpa using hk
  have hq4 : sentN es ≤ es.length := List.countP_le_length
  have hq5 : cameN es ≤ es.length := List.countP_le_length
  have r1 := h.set 14 (.int .u64 e.at_)
  simp only [List.setIfInBounds_toArray, List.set_cons_zero, List.set_cons_succ] at r1
  have r2 := r1.alloc (.cells (evA e) 48)
  have E2 := RowAt.new (w.setCell ⟨B, 14, none⟩ (.int .u64 e.at_)) (evA e) 48
  rw [show (w.setCell ⟨B, 14, none⟩ (.int .u64 e.at_)).heap.size = w.heap.size by simp] at E2
  have k2 : But (· = B) w ((w.setCell ⟨B, 14, none⟩ (.int .u64 e.at_)).alloc (.cells (evA e) 48)) := (show But (· = B) w (w.setCell ⟨B, 14, none⟩ (.int .u64 e.at_)) from But.setCell _ _ _ (.inl rfl)).trans (But.alloc _ _)
  have c14 := h.cell (i := 14) (v := .int .u64 (lastA es)) rfl
  have f14 := h.fz 14
  unfold AddPost
  cases hg : gotB e.got with
  | false =>
    have hn : ∀ i : Int, 0 ≤ i → i ≤ 6 → ¬ e.got = i := fun i h1 h2 he => by simp [gotB] at hg; omega
    have hn0 := hn 0 (by decide) (by decide)
    have hn1 := hn 1 (by decide) (by decide)
    have hn2 := hn 2 (by decide) (by decide)
    have hn3 := hn 3 (by decide) (by decide)
    have hn4 := hn 4 (by decide) (by decide)
    have hn5 := hn 5 (by decide) (by decide)
    have hn6 := hn 6 (by decide) (by decide)
    have h3 : (e.got == 3) = false := by rw [beq_eq_false_iff_ne]; exact hn3
    clear hn
    go_enter Try.func40, Try.ntmps40
    go_wp2_with (first
      | (refine wpList_load_mid rfl 48 (.tmp 3) rfl w.heap.size 0 rfl (evC e) _ E2.range Try.underlying48 rfl (by kernel_rfl) ?_)
      | (go_at_call 35; refine (saysT_c e _).mono ?_; rw [hs]; rintro en w3 ⟨rfl, hb⟩; have R3 := r2.below hb; have E3 := E2.below hb; have e0 := E3.cell (i := 0) (v := .int .i64 e.kind) rfl; have e1 := E3.cell (i := 1) (v := .int .u64 e.at_) rfl; have e9 := E3.cell (i := 9) (v := .int .i64 e.got) rfl; have b5 := R3.cell (i := 5) (v := .int .i64 (cameN es)) rfl; have f5 := R3.fz 5)
      | (go_at_call 24; refine (gotT_c _ _).mono ?_; rw [hg]; rintro en w4 ⟨rfl, rfl⟩))
    go_end0
    have RR := (R3.set 5 (.int .i64 ((cameN es : Int) + 1)))
    try simp only [List.setIfInBounds_toArray, List.set_cons_zero, List.set_cons_succ] at RR
    refine ⟨⟨_, rfl⟩, ?_, ?_⟩
    · have ht : (tlC n f (es ++ [e])).toArray = #[.int .u32 n.node, .int .u32 n.service, .int .u64 n.time, .int .u32 n.seq, .int .i64 (sentN es), .int .i64 ((cameN es : Int) + 1), .int .i64 (cnt es 0), .int .i64 (cnt es 1), .int .i64 (cnt es 2), .int .i64 (cnt es 3), .int .i64 (cnt es 4), .int .i64 (cnt es 5), .int .i64 (cnt es 6), .int .u64 f, .int .u64 e.at_, .int .u64 (doneA es)] := by
        simp only [tlC, sentN_snoc, cameN_snoc, cnt_snoc, lastA_snoc, doneA_snoc]
        simp [hs, hk', hn0, hn1, hn2, hn3, hn4, hn5, hn6]
      rw [ht]; exact RR
    · exact ((k2.trans (But.of_below hb)).trans (But.setCell _ _ _ (.inl rfl)))
  | true =>
    rcases got7 hg with hgt | hgt | hgt | hgt | hgt | hgt | hgt
    · have hq := cnt_le es 0
      go_enter Try.func40, Try.ntmps40
      go_wp2_with (first
        | (refine wpList_load_mid rfl 48 (.tmp 3) rfl w.heap.size 0 rfl (evC e) _ E2.range Try.underlying48 rfl (by kernel_rfl) ?_)
        | (go_at_call 35; refine (saysT_c e _).mono ?_; rw [hs]; rintro en w3 ⟨rfl, hb⟩; have R3 := r2.below hb; have E3 := E2.below hb; have e0 := E3.cell (i := 0) (v := .int .i64 e.kind) rfl; have e1 := E3.cell (i := 1) (v := .int .u64 e.at_) rfl; have e9 := E3.cell (i := 9) (v := .int .i64 e.got) rfl; have b5 := R3.cell (i := 5) (v := .int .i64 (cameN es)) rfl; have f5 := R3.fz 5; have b6 := R3.cell (i := 6) (v := .int .i64 (cnt es 0)) rfl; have f6 := R3.fz 6)
        | (go_at_call 24; refine (gotT_c _ _).mono ?_; first | rw [hg] | rw [show gotB 0 = true from rfl]; rintro en w4 ⟨rfl, rfl⟩))
      refine wp_still_tail 14 (by kernel_rfl) (by kernel_rfl) ?_
      simp only [List.take_succ_cons, List.take_zero, List.drop_succ_cons, List.drop_zero]
      repeat still_step
      refine wpStill_nil ?_
      go_wp2
      go_end0
      have RR := (((R3.set 5 (.int .i64 ((cameN es : Int) + 1)))).drew.set 6 (.int .i64 ((cnt es 0 : Int) + 1)))
      try simp only [List.setIfInBounds_toArray, List.set_cons_zero, List.set_cons_succ] at RR
      refine ⟨⟨_, rfl⟩, ?_, ?_⟩
      · have ht : (tlC n f (es ++ [e])).toArray = #[.int .u32 n.node, .int .u32 n.service, .int .u64 n.time, .int .u32 n.seq, .int .i64 (sentN es), .int .i64 ((cameN es : Int) + 1), .int .i64 ((cnt es 0 : Int) + 1), .int .i64 (cnt es 1), .int .i64 (cnt es 2), .int .i64 (cnt es 3), .int .i64 (cnt es 4), .int .i64 (cnt es 5), .int .i64 (cnt es 6), .int .u64 f, .int .u64 e.at_, .int .u64 (doneA es)] := by
          simp only [tlC, sentN_snoc, cameN_snoc, cnt_snoc, lastA_snoc, doneA_snoc]
          simp [hs, hk', hgt]
        rw [ht]; exact RR
      · exact ((((k2.trans (But.of_below hb)).trans (But.setCell _ _ _ (.inl rfl))).trans (But.drew _)).trans (But.setCell _ _ _ (.inl rfl)))
    · have hq := cnt_le es 1
      go_enter Try.func40, Try.ntmps40
      go_wp2_with (first
        | (refine wpList_load_mid rfl 48 (.tmp 3) rfl w.heap.size 0 rfl (evC e) _ E2.range Try.underlying48 rfl (by kernel_rfl) ?_)
        | (go_at_call 35; refine (saysT_c e _).mono ?_; rw [hs]; rintro en w3 ⟨rfl, hb⟩; have R3 := r2.below hb; have E3 := E2.below hb; have e0 := E3.cell (i := 0) (v := .int .i64 e.kind) rfl; have e1 := E3.cell (i := 1) (v := .int .u64 e.at_) rfl; have e9 := E3.cell (i := 9) (v := .int .i64 e.got) rfl; have b5 := R3.cell (i := 5) (v := .int .i64 (cameN es)) rfl; have f5 := R3.fz 5; have b7 := R3.cell (i := 7) (v := .int .i64 (cnt es 1)) rfl; have f7 := R3.fz 7)
        | (go_at_call 24; refine (gotT_c _ _).mono ?_; first | rw [hg] | rw [show gotB 1 = true from rfl]; rintro en w4 ⟨rfl, rfl⟩))
      refine wp_still_tail 14 (by kernel_rfl) (by kernel_rfl) ?_
      simp only [List.take_succ_cons, List.take_zero, List.drop_succ_cons, List.drop_zero]
      repeat still_step
      refine wpStill_nil ?_
      go_wp2
      go_end0
      have RR := (((R3.set 5 (.int .i64 ((cameN es : Int) + 1)))).drew.set 7 (.int .i64 ((cnt es 1 : Int) + 1)))
      try simp only [List.setIfInBounds_toArray, List.set_cons_zero, List.set_cons_succ] at RR
      refine ⟨⟨_, rfl⟩, ?_, ?_⟩
      · have ht : (tlC n f (es ++ [e])).toArray = #[.int .u32 n.node, .int .u32 n.service, .int .u64 n.time, .int .u32 n.seq, .int .i64 (sentN es), .int .i64 ((cameN es : Int) + 1), .int .i64 (cnt es 0), .int .i64 ((cnt es 1 : Int) + 1), .int .i64 (cnt es 2), .int .i64 (cnt es 3), .int .i64 (cnt es 4), .int .i64 (cnt es 5), .int .i64 (cnt es 6), .int .u64 f, .int .u64 e.at_, .int .u64 (doneA es)] := by
          simp only [tlC, sentN_snoc, cameN_snoc, cnt_snoc, lastA_snoc, doneA_snoc]
          simp [hs, hk', hgt]
        rw [ht]; exact RR
      · exact ((((k2.trans (But.of_below hb)).trans (But.setCell _ _ _ (.inl rfl))).trans (But.drew _)).trans (But.setCell _ _ _ (.inl rfl)))
    · have hq := cnt_le es 2
      go_enter Try.func40, Try.ntmps40
      go_wp2_with (first
        | (refine wpList_load_mid rfl 48 (.tmp 3) rfl w.heap.size 0 rfl (evC e) _ E2.range Try.underlying48 rfl (by kernel_rfl) ?_)
        | (go_at_call 35; refine (saysT_c e _).mono ?_; rw [hs]; rintro en w3 ⟨rfl, hb⟩; have R3 := r2.below hb; have E3 := E2.below hb; have e0 := E3.cell (i := 0) (v := .int .i64 e.kind) rfl; have e1 := E3.cell (i := 1) (v := .int .u64 e.at_) rfl; have e9 := E3.cell (i := 9) (v := .int .i64 e.got) rfl; have b5 := R3.cell (i := 5) (v := .int .i64 (cameN es)) rfl; have f5 := R3.fz 5; have b8 := R3.cell (i := 8) (v := .int .i64 (cnt es 2)) rfl; have f8 := R3.fz 8)
        | (go_at_call 24; refine (gotT_c _ _).mono ?_; first | rw [hg] | rw [show gotB 2 = true from rfl]; rintro en w4 ⟨rfl, rfl⟩))
      refine wp_still_tail 14 (by kernel_rfl) (by kernel_rfl) ?_
      simp only [List.take_succ_cons, List.take_zero, List.drop_succ_cons, List.drop_zero]
      repeat still_step
      refine wpStill_nil ?_
      go_wp2
      go_end0
      have RR := (((R3.set 5 (.int .i64 ((cameN es : Int) + 1)))).drew.set 8 (.int .i64 ((cnt es 2 : Int) + 1)))
      try simp only [List.setIfInBounds_toArray, List.set_cons_zero, List.set_cons_succ] at RR
      refine ⟨⟨_, rfl⟩, ?_, ?_⟩
      · have ht : (tlC n f (es ++ [e])).toArray = #[.int .u32 n.node, .int .u32 n.service, .int .u64 n.time, .int .u32 n.seq, .int .i64 (sentN es), .int .i64 ((cameN es : Int) + 1), .int .i64 (cnt es 0), .int .i64 (cnt es 1), .int .i64 ((cnt es 2 : Int) + 1), .int .i64 (cnt es 3), .int .i64 (cnt es 4), .int .i64 (cnt es 5), .int .i64 (cnt es 6), .int .u64 f, .int .u64 e.at_, .int .u64 (doneA es)] := by
          simp only [tlC, sentN_snoc, cameN_snoc, cnt_snoc, lastA_snoc, doneA_snoc]
          simp [hs, hk', hgt]
        rw [ht]; exact RR
      · exact ((((k2.trans (But.of_below hb)).trans (But.setCell _ _ _ (.inl rfl))).trans (But.drew _)).trans (But.setCell _ _ _ (.inl rfl)))
    · have hq := cnt_le es 3
      by_cases hd0 : cnt es 3 = 0
      · have hd : ((cnt es 3 : Int) + 1 == 1) = true := by rw [beq_iff_eq]; omega
        have Hd := Lib.hid hd0
        clear hd0
        go_enter Try.func40, Try.ntmps40
        go_wp2_with (first
          | (refine wpList_load_mid rfl 48 (.tmp 3) rfl w.heap.size 0 rfl (evC e) _ E2.range Try.underlying48 rfl (by kernel_rfl) ?_)
          | (go_at_call 35; refine (saysT_c e _).mono ?_; rw [hs]; rintro en w3 ⟨rfl, hb⟩; have R3 := r2.below hb; have E3 := E2.below hb; have e0 := E3.cell (i := 0) (v := .int .i64 e.kind) rfl; have e1 := E3.cell (i := 1) (v := .int .u64 e.at_) rfl; have e9 := E3.cell (i := 9) (v := .int .i64 e.got) rfl; have b5 := R3.cell (i := 5) (v := .int .i64 (cameN es)) rfl; have f5 := R3.fz 5; have b9 := R3.cell (i := 9) (v := .int .i64 (cnt es 3)) rfl; have f9 := R3.fz 9; have b15 := R3.cell (i := 15) (v := .int .u64 (doneA es)) rfl; have f15 := R3.fz 15)
          | (go_at_call 24; refine (gotT_c _ _).mono ?_; first | rw [hg] | rw [show gotB 3 = true from rfl]; rintro en w4 ⟨rfl, rfl⟩))
        refine wp_still_tail 14 (by kernel_rfl) (by kernel_rfl) ?_
        simp only [List.take_succ_cons, List.take_zero, List.drop_succ_cons, List.drop_zero]
        repeat still_step
        refine wpStill_nil ?_
        go_wp2
        go_end0
        have RR := ((((R3.set 5 (.int .i64 ((cameN es : Int) + 1)))).drew.set 9 (.int .i64 ((cnt es 3 : Int) + 1))).set 15 (.int .u64 e.at_))
        try simp only [List.setIfInBounds_toArray, List.set_cons_zero, List.set_cons_succ] at RR
        refine ⟨⟨_, rfl⟩, ?_, ?_⟩
        · have ht : (tlC n f (es ++ [e])).toArray = #[.int .u32 n.node, .int .u32 n.service, .int .u64 n.time, .int .u32 n.seq, .int .i64 (sentN es), .int .i64 ((cameN es : Int) + 1), .int .i64 (cnt es 0), .int .i64 (cnt es 1), .int .i64 (cnt es 2), .int .i64 ((cnt es 3 : Int) + 1), .int .i64 (cnt es 4), .int .i64 (cnt es 5), .int .i64 (cnt es 6), .int .u64 f, .int .u64 e.at_, .int .u64 e.at_] := by
            simp only [tlC, sentN_snoc, cameN_snoc, cnt_snoc, lastA_snoc, doneA_snoc]
            simp [hs, hk', hgt, Hd.out]
          rw [ht]; exact RR
        · exact (((((k2.trans (But.of_below hb)).trans (But.setCell _ _ _ (.inl rfl))).trans (But.drew _)).trans (But.setCell _ _ _ (.inl rfl))).trans (But.setCell _ _ _ (.inl rfl)))
      · have hd : ((cnt es 3 : Int) + 1 == 1) = false := by rw [beq_eq_false_iff_ne]; omega
        have Hd := Lib.hid hd0
        clear hd0
        go_enter Try.func40, Try.ntmps40
        go_wp2_with (first
          | (refine wpList_load_mid rfl 48 (.tmp 3) rfl w.heap.size 0 rfl (evC e) _ E2.range Try.underlying48 rfl (by kernel_rfl) ?_)
          | (go_at_call 35; refine (saysT_c e _).mono ?_; rw [hs]; rintro en w3 ⟨rfl, hb⟩; have R3 := r2.below hb; have E3 := E2.below hb; have e0 := E3.cell (i := 0) (v := .int .i64 e.kind) rfl; have e1 := E3.cell (i := 1) (v := .int .u64 e.at_) rfl; have e9 := E3.cell (i := 9) (v := .int .i64 e.got) rfl; have b5 := R3.cell (i := 5) (v := .int .i64 (cameN es)) rfl; have f5 := R3.fz 5; have b9 := R3.cell (i := 9) (v := .int .i64 (cnt es 3)) rfl; have f9 := R3.fz 9)
          | (go_at_call 24; refine (gotT_c _ _).mono ?_; first | rw [hg] | rw [show gotB 3 = true from rfl]; rintro en w4 ⟨rfl, rfl⟩))
        refine wp_still_tail 14 (by kernel_rfl) (by kernel_rfl) ?_
        simp only [List.take_succ_cons, List.take_zero, List.drop_succ_cons, List.drop_zero]
        repeat still_step
        refine wpStill_nil ?_
        go_wp2
        go_end0
        have RR := (((R3.set 5 (.int .i64 ((cameN es : Int) + 1)))).drew.set 9 (.int .i64 ((cnt es 3 : Int) + 1)))
        try simp only [List.setIfInBounds_toArray, List.set_cons_zero, List.set_cons_succ] at RR
        refine ⟨⟨_, rfl⟩, ?_, ?_⟩
        · have ht : (tlC n f (es ++ [e])).toArray = #[.int .u32 n.node, .int .u32 n.service, .int .u64 n.time, .int .u32 n.seq, .int .i64 (sentN es), .int .i64 ((cameN es : Int) + 1), .int .i64 (cnt es 0), .int .i64 (cnt es 1), .int .i64 (cnt es 2), .int .i64 ((cnt es 3 : Int) + 1), .int .i64 (cnt es 4), .int .i64 (cnt es 5), .int .i64 (cnt es 6), .int .u64 f, .int .u64 e.at_, .int .u64 (doneA es)] := by
            simp only [tlC, sentN_snoc, cameN_snoc, cnt_snoc, lastA_snoc, doneA_snoc]
            simp [hs, hk', hgt, Hd.out]
          rw [ht]; exact RR
        · exact ((((k2.trans (But.of_below hb)).trans (But.setCell _ _ _ (.inl rfl))).trans (But.drew _)).trans (But.setCell _ _ _ (.inl rfl)))
    · have hq := cnt_le es 4
      go_enter Try.func40, Try.ntmps40
      go_wp2_with (first
        | (refine wpList_load_mid rfl 48 (.tmp 3) rfl w.heap.size 0 rfl (evC e) _ E2.range Try.underlying48 rfl (by kernel_rfl) ?_)
        | (go_at_call 35; refine (saysT_c e _).mono ?_; rw [hs]; rintro en w3 ⟨rfl, hb⟩; have R3 := r2.below hb; have E3 := E2.below hb; have e0 := E3.cell (i := 0) (v := .int .i64 e.kind) rfl; have e1 := E3.cell (i := 1) (v := .int .u64 e.at_) rfl; have e9 := E3.cell (i := 9) (v := .int .i64 e.got) rfl; have b5 := R3.cell (i := 5) (v := .int .i64 (cameN es)) rfl; have f5 := R3.fz 5; have b10 := R3.cell (i := 10) (v := .int .i64 (cnt es 4)) rfl; have f10 := R3.fz 10)
        | (go_at_call 24; refine (gotT_c _ _).mono ?_; first | rw [hg] | rw [show gotB 4 = true from rfl]; rintro en w4 ⟨rfl, rfl⟩))
      refine wp_still_tail 14 (by kernel_rfl) (by kernel_rfl) ?_
      simp only [List.take_succ_cons, List.take_zero, List.drop_succ_cons, List.drop_zero]
      repeat still_step
      refine wpStill_nil ?_
      go_wp2
      go_end0
      have RR := (((R3.set 5 (.int .i64 ((cameN es : Int) + 1)))).drew.set 10 (.int .i64 ((cnt es 4 : Int) + 1)))
      try simp only [List.setIfInBounds_toArray, List.set_cons_zero, List.set_cons_succ] at RR
      refine ⟨⟨_, rfl⟩, ?_, ?_⟩
      · have ht : (tlC n f (es ++ [e])).toArray = #[.int .u32 n.node, .int .u32 n.service, .int .u64 n.time, .int .u32 n.seq, .int .i64 (sentN es), .int .i64 ((cameN es : Int) + 1), .int .i64 (cnt es 0), .int .i64 (cnt es 1), .int .i64 (cnt es 2), .int .i64 (cnt es 3), .int .i64 ((cnt es 4 : Int) + 1), .int .i64 (cnt es 5), .int .i64 (cnt es 6), .int .u64 f, .int .u64 e.at_, .int .u64 (doneA es)] := by
          simp only [tlC, sentN_snoc, cameN_snoc, cnt_snoc, lastA_snoc, doneA_snoc]
          simp [hs, hk', hgt]
        rw [ht]; exact RR
      · exact ((((k2.trans (But.of_below hb)).trans (But.setCell _ _ _ (.inl rfl))).trans (But.drew _)).trans (But.setCell _ _ _ (.inl rfl)))
    · have hq := cnt_le es 5
      go_enter Try.func40, Try.ntmps40
      go_wp2_with (first
        | (refine wpList_load_mid rfl 48 (.tmp 3) rfl w.heap.size 0 rfl (evC e) _ E2.range Try.underlying48 rfl (by kernel_rfl) ?_)
        | (go_at_call 35; refine (saysT_c e _).mono ?_; rw [hs]; rintro en w3 ⟨rfl, hb⟩; have R3 := r2.below hb; have E3 := E2.below hb; have e0 := E3.cell (i := 0) (v := .int .i64 e.kind) rfl; have e1 := E3.cell (i := 1) (v := .int .u64 e.at_) rfl; have e9 := E3.cell (i := 9) (v := .int .i64 e.got) rfl; have b5 := R3.cell (i := 5) (v := .int .i64 (cameN es)) rfl; have f5 := R3.fz 5; have b11 := R3.cell (i := 11) (v := .int .i64 (cnt es 5)) rfl; have f11 := R3.fz 11)
        | (go_at_call 24; refine (gotT_c _ _).mono ?_; first | rw [hg] | rw [show gotB 5 = true from rfl]; rintro en w4 ⟨rfl, rfl⟩))
      refine wp_still_tail 14 (by kernel_rfl) (by kernel_rfl) ?_
      simp only [List.take_succ_cons, List.take_zero, List.drop_succ_cons, List.drop_zero]
      repeat still_step
      refine wpStill_nil ?_
      go_wp2
      go_end0
      have RR := (((R3.set 5 (.int .i64 ((cameN es : Int) + 1)))).drew.set 11 (.int .i64 ((cnt es 5 : Int) + 1)))
      try simp only [List.setIfInBounds_toArray, List.set_cons_zero, List.set_cons_succ] at RR
      refine ⟨⟨_, rfl⟩, ?_, ?_⟩
      · have ht : (tlC n f (es ++ [e])).toArray = #[.int .u32 n.node, .int .u32 n.service, .int .u64 n.time, .int .u32 n.seq, .int .i64 (sentN es), .int .i64 ((cameN es : Int) + 1), .int .i64 (cnt es 0), .int .i64 (cnt es 1), .int .i64 (cnt es 2), .int .i64 (cnt es 3), .int .i64 (cnt es 4), .int .i64 ((cnt es 5 : Int) + 1), .int .i64 (cnt es 6), .int .u64 f, .int .u64 e.at_, .int .u64 (doneA es)] := by
          simp only [tlC, sentN_snoc, cameN_snoc, cnt_snoc, lastA_snoc, doneA_snoc]
          simp [hs, hk', hgt]
        rw [ht]; exact RR
      · exact ((((k2.trans (But.of_below hb)).trans (But.setCell _ _ _ (.inl rfl))).trans (But.drew _)).trans (But.setCell _ _ _ (.inl rfl)))
    · have hq := cnt_le es 6
      go_enter Try.func40, Try.ntmps40
      go_wp2_with (first
        | (refine wpList_load_mid rfl 48 (.tmp 3) rfl w.heap.size 0 rfl (evC e) _ E2.range Try.underlying48 rfl (by kernel_rfl) ?_)
        | (go_at_call 35; refine (saysT_c e _).mono ?_; rw [hs]; rintro en w3 ⟨rfl, hb⟩; have R3 := r2.below hb; have E3 := E2.below hb; have e0 := E3.cell (i := 0) (v := .int .i64 e.kind) rfl; have e1 := E3.cell (i := 1) (v := .int .u64 e.at_) rfl; have e9 := E3.cell (i := 9) (v := .int .i64 e.got) rfl; have b5 := R3.cell (i := 5) (v := .int .i64 (cameN es)) rfl; have f5 := R3.fz 5; have b12 := R3.cell (i := 12) (v := .int .i64 (cnt es 6)) rfl; have f12 := R3.fz 12)
        | (go_at_call 24; refine (gotT_c _ _).mono ?_; first | rw [hg] | rw [show gotB 6 = true from rfl]; rintro en w4 ⟨rfl, rfl⟩))
      refine wp_still_tail 14 (by kernel_rfl) (by kernel_rfl) ?_
      simp only [List.take_succ_cons, List.take_zero, List.drop_succ_cons, List.drop_zero]
      repeat still_step
      refine wpStill_nil ?_
      go_wp2
      go_end0
      have RR := (((R3.set 5 (.int .i64 ((cameN es : Int) + 1)))).drew.set 12 (.int .i64 ((cnt es 6 : Int) + 1)))
      try simp only [List.setIfInBounds_toArray, List.set_cons_zero, List.set_cons_succ] at RR
      refine ⟨⟨_, rfl⟩, ?_, ?_⟩
      · have ht : (tlC n f (es ++ [e])).toArray = #[.int .u32 n.node, .int .u32 n.service, .int .u64 n.time, .int .u32 n.seq, .int .i64 (sentN es), .int .i64 ((cameN es : Int) + 1), .int .i64 (cnt es 0), .int .i64 (cnt es 1), .int .i64 (cnt es 2), .int .i64 (cnt es 3), .int .i64 (cnt es 4), .int .i64 (cnt es 5), .int .i64 ((cnt es 6 : Int) + 1), .int .u64 f, .int .u64 e.at_, .int .u64 (doneA es)] := by
          simp only [tlC, sentN_snoc, cameN_snoc, cnt_snoc, lastA_snoc, doneA_snoc]
          simp [hs, hk', hgt]
        rw [ht]; exact RR
      · exact ((((k2.trans (But.of_below hb)).trans (But.setCell _ _ _ (.inl rfl))).trans (But.drew _)).trans (But.setCell _ _ _ (.inl rfl)))

set_option maxHeartbeats 16000000 in
set_option maxRecDepth 100000 in
theorem add_10 (n : Nm) (f : Int) (es : List Ev) (e : Ev) (B : Nat) (w : World) (h : RowAt w B (tlC n f es).toArray 74) (hes : es.length ≤ 4096) (hs : saysB e = true) (hk : (e.kind == 11) = false) :
    Calls Try.prog 40 #[.pointer (some ⟨B, 0, none⟩), evV e] w (AddPost n f es e B w) := by
  have hlt := h.lt
  have hne : ¬ B = w.heap.size := by omega
  have hne' : ¬ w.heap.size = B := by omega
  have hk' : ¬ e.kind = 11 := by simpa using hk
  have hq4 : sentN es ≤ es.length := List.countP_le_length
  have hq5 : cameN es ≤ es.length := List.countP_le_length
  have r1 := h.set 14 (.int .u64 e.at_)
  simp only [List.setIfInBounds_toArray, List.set_cons_zero, List.set_cons_succ] at r1
  have r2 := r1.alloc (.cells (evA e) 48)
  have E2 := RowAt.new (w.setCell ⟨B, 14, none⟩ (.int .u64 e.at_)) (evA e) 48
  rw [show (w.setCell ⟨B, 14, none⟩ (.int .u64 e.at_)).heap.size = w.heap.size by simp] at E2
  have k2 : But (· = B) w ((w.setCell ⟨B, 14, none⟩ (.int .u64 e.at_)).alloc (.cells (evA e) 48)) := (show But (· = B) w (w.setCell ⟨B, 14, none⟩ (.int .u64 e.at_)) from But.setCell _ _ _ (.inl rfl)).trans (But.alloc _ _)
  have c14 := h.cell (i := 14) (v := .int .u64 (lastA es)) rfl
  have f14 := h.fz 14
  unfold AddPost
  cases hg : gotB e.got with
  | false =>
    have hn : ∀ i : Int, 0 ≤ i → i ≤ 6 → ¬ e.got = i := fun i h1 h2 he => by simp [gotB] at hg; omega
    have hn0 := hn 0 (by decide) (by decide)
    have hn1 := hn 1 (by decide) (by decide)
    have hn2 := hn 2 (by decide) (by decide)
    have hn3 := hn 3 (by decide) (by decide)
    have hn4 := hn 4 (by decide) (by decide)
    have hn5 := hn 5 (by decide) (by decide)
    have hn6 := hn 6 (by decide) (by decide)
    have h3 : (e.got == 3) = false := by rw [beq_eq_false_iff_ne]; exact hn3
    clear hn
    go_enter Try.func40, Try.ntmps40
    go_wp2_with (first
      | (refine wpList_load_mid rfl 48 (.tmp 3) rfl w.heap.size 0 rfl (evC e) _ E2.range Try.underlying48 rfl (by kernel_rfl) ?_)
      | (go_at_call 35; refine (saysT_c e _).mono ?_; rw [hs]; rintro en w3 ⟨rfl, hb⟩; have R3 := r2.below hb; have E3 := E2.below hb; have e0 := E3.cell (i := 0) (v := .int .i64 e.kind) rfl; have e1 := E3.cell (i := 1) (v := .int .u64 e.at_) rfl; have e9 := E3.cell (i := 9) (v := .int .i64 e.got) rfl; have b4 := R3.cell (i := 4) (v := .int .i64 (sentN es)) rfl; have f4 := R3.fz 4)
      | (go_at_call 24; refine (gotT_c _ _).mono ?_; rw [hg]; rintro en w4 ⟨rfl, rfl⟩))
    go_end0
    have RR := (R3.set 4 (.int .i64 ((sentN es : Int) + 1)))
    try simp only [List.setIfInBounds_toArray, List.set_cons_zero, List.set_cons_succ] at RR
    refine ⟨⟨_, rfl⟩, ?_, ?_⟩
    · have ht : (tlC n f (es ++ [e])).toArray = #[.int .u32 n.node, .int .u32 n.service, .int .u64 n.time, .int .u32 n.seq, .int .i64 ((sentN es : Int) + 1), .int .i64 (cameN es), .int .i64 (cnt es 0), .int .i64 (cnt es 1), .int .i64 (cnt es 2), .int .i64 (cnt es 3), .int .i64 (cnt es 4), .int .i64 (cnt es 5), .int .i64 (cnt es 6), .int .u64 f, .int .u64 e.at_, .int .u64 (doneA es)] := by
        simp only [tlC, sentN_snoc, cameN_snoc, cnt_snoc, lastA_snoc, doneA_snoc]
        simp [hs, hk', hn0, hn1, hn2, hn3, hn4, hn5, hn6]
      rw [ht]; exact RR
    · exact ((k2.trans (But.of_below hb)).trans (But.setCell _ _ _ (.inl rfl)))
  | true =>
    rcases got7 hg with hgt | hgt | hgt | hgt | hgt | hgt | hgt
    · have hq := cnt_le es 0
      go_enter Try.func40, Try.ntmps40
      go_wp2_with (first
        | (refine wpList_load_mid rfl 48 (.tmp 3) rfl w.heap.size 0 rfl (evC e) _ E2.range Try.underlying48 rfl (by kernel_rfl) ?_)
        | (go_at_call 35; refine (saysT_c e _).mono ?_; rw [hs]; rintro en w3 ⟨rfl, hb⟩; have R3 := r2.below hb; have E3 := E2.below hb; have e0 := E3.cell (i := 0) (v := .int .i64 e.kind) rfl; have e1 := E3.cell (i := 1) (v := .int .u64 e.at_) rfl; have e9 := E3.cell (i := 9) (v := .int .i64 e.got) rfl; have b4 := R3.cell (i := 4) (v := .int .i64 (sentN es)) rfl; have f4 := R3.fz 4; have b6 := R3.cell (i := 6) (v := .int .i64 (cnt es 0)) rfl; have f6 := R3.fz 6)
        | (go_at_call 24; refine (gotT_c _ _).mono ?_; first | rw [hg] | rw [show gotB 0 = true from rfl]; rintro en w4 ⟨rfl, rfl⟩))
      refine wp_still_tail 14 (by kernel_rfl) (by kernel_rfl) ?_
      simp only [List.take_succ_cons, List.take_zero, List.drop_succ_cons, List.drop_zero]
      repeat still_step
      refine wpStill_nil ?_
      go_wp2
      go_end0
      have RR := (((R3.set 4 (.int .i64 ((sentN es : Int) + 1)))).drew.set 6 (.int .i64 ((cnt es 0 : Int) + 1)))
      try simp only [List.setIfInBounds_toArray, List.set_cons_zero, List.set_cons_succ] at RR
      refine ⟨⟨_, rfl⟩, ?_, ?_⟩
      · have ht : (tlC n f (es ++ [e])).toArray = #[.int .u32 n.node, .int .u32 n.service, .int .u64 n.time, .int .u32 n.seq, .int .i64 ((sentN es : Int) + 1), .int .i64 (cameN es), .int .i64 ((cnt es 0 : Int) + 1), .int .i64 (cnt es 1), .int .i64 (cnt es 2), .int .i64 (cnt es 3), .int .i64 (cnt es 4), .int .i64 (cnt es 5), .int .i64 (cnt es 6), .int .u64 f, .int .u64 e.at_, .int .u64 (doneA es)] := by
          simp only [tlC, sentN_snoc, cameN_snoc, cnt_snoc, lastA_snoc, doneA_snoc]
          simp [hs, hk', hgt]
        rw [ht]; exact RR
      · exact ((((k2.trans (But.of_below hb)).trans (But.setCell _ _ _ (.inl rfl))).trans (But.drew _)).trans (But.setCell _ _ _ (.inl rfl)))
    · have hq := cnt_le es 1
      go_enter Try.func40, Try.ntmps40
      go_wp2_with (first
        | (refine wpList_load_mid rfl 48 (.tmp 3) rfl w.heap.size 0 rfl (evC e) _ E2.range Try.underlying48 rfl (by kernel_rfl) ?_)
        | (go_at_call 35; refine (saysT_c e _).mono ?_; rw [hs]; rintro en w3 ⟨rfl, hb⟩; have R3 := r2.below hb; have E3 := E2.below hb; have e0 := E3.cell (i := 0) (v := .int .i64 e.kind) rfl; have e1 := E3.cell (i := 1) (v := .int .u64 e.at_) rfl; have e9 := E3.cell (i := 9) (v := .int .i64 e.got) rfl; have b4 := R3.cell (i := 4) (v := .int .i64 (sentN es)) rfl; have f4 := R3.fz 4; have b7 := R3.cell (i := 7) (v := .int .i64 (cnt es 1)) rfl; have f7 := R3.fz 7)
        | (go_at_call 24; refine (gotT_c _ _).mono ?_; first | rw [hg] | rw [show gotB 1 = true from rfl]; rintro en w4 ⟨rfl, rfl⟩))
      refine wp_still_tail 14 (by kernel_rfl) (by kernel_rfl) ?_
      simp only [List.take_succ_cons, List.take_zero, List.drop_succ_cons, List.drop_zero]
      repeat still_step
      refine wpStill_nil ?_
      go_wp2
      go_end0
      have RR := (((R3.set 4 (.int .i64 ((sentN es : Int) + 1)))).drew.set 7 (.int .i64 ((cnt es 1 : Int) + 1)))
      try simp only [List.setIfInBounds_toArray, List.set_cons_zero, List.set_cons_succ] at RR
      refine ⟨⟨_, rfl⟩, ?_, ?_⟩
      · have ht : (tlC n f (es ++ [e])).toArray = #[.int .u32 n.node, .int .u32 n.service, .int .u64 n.time, .int .u32 n.seq, .int .i64 ((sentN es : Int) + 1), .int .i64 (cameN es), .int .i64 (cnt es 0), .int .i64 ((cnt es 1 : Int) + 1), .int .i64 (cnt es 2), .int .i64 (cnt es 3), .int .i64 (cnt es 4), .int .i64 (cnt es 5), .int .i64 (cnt es 6), .int .u64 f, .int .u64 e.at_, .int .u64 (doneA es)] := by
          simp only [tlC, sentN_snoc, cameN_snoc, cnt_snoc, lastA_snoc, doneA_snoc]
          simp [hs, hk', hgt]
        rw [ht]; exact RR
      · exact ((((k2.trans (But.of_below hb)).trans (But.setCell _ _ _ (.inl rfl))).trans (But.drew _)).trans (But.setCell _ _ _ (.inl rfl)))
    · have hq := cnt_le es 2
      go_enter Try.func40, Try.ntmps40
      go_wp2_with (first
        | (refine wpList_load_mid rfl 48 (.tmp 3) rfl w.heap.size 0 rfl (evC e) _ E2.range Try.underlying48 rfl (by kernel_rfl) ?_)
        | (go_at_call 35; refine (saysT_c e _).mono ?_; rw [hs]; rintro en w3 ⟨rfl, hb⟩; have R3 := r2.below hb; have E3 := E2.below hb; have e0 := E3.cell (i := 0) (v := .int .i64 e.kind) rfl; have e1 := E3.cell (i := 1) (v := .int .u64 e.at_) rfl; have e9 := E3.cell (i := 9) (v := .int .i64 e.got) rfl; have b4 := R3.cell (i := 4) (v := .int .i64 (sentN es)) rfl; have f4 := R3.fz 4; have b8 := R3.cell (i := 8) (v := .int .i64 (cnt es 2)) rfl; have f8 := R3.fz 8)
        | (go_at_call 24; refine (gotT_c _ _).mono ?_; first | rw [hg] | rw [show gotB 2 = true from rfl]; rintro en w4 ⟨rfl, rfl⟩))
      refine wp_still_tail 14 (by kernel_rfl) (by kernel_rfl) ?_
      simp only [List.take_succ_cons, List.take_zero, List.drop_succ_cons, List.drop_zero]
      repeat still_step
      refine wpStill_nil ?_
      go_wp2
      go_end0
      have RR := (((R3.set 4 (.int .i64 ((sentN es : Int) + 1)))).drew.set 8 (.int .i64 ((cnt es 2 : Int) + 1)))
      try simp only [List.setIfInBounds_toArray, List.set_cons_zero, List.set_cons_succ] at RR
      refine ⟨⟨_, rfl⟩, ?_, ?_⟩
      · have ht : (tlC n f (es ++ [e])).toArray = #[.int .u32 n.node, .int .u32 n.service, .int .u64 n.time, .int .u32 n.seq, .int .i64 ((sentN es : Int) + 1), .int .i64 (cameN es), .int .i64 (cnt es 0), .int .i64 (cnt es 1), .int .i64 ((cnt es 2 : Int) + 1), .int .i64 (cnt es 3), .int .i64 (cnt es 4), .int .i64 (cnt es 5), .int .i64 (cnt es 6), .int .u64 f, .int .u64 e.at_, .int .u64 (doneA es)] := by
          simp only [tlC, sentN_snoc, cameN_snoc, cnt_snoc, lastA_snoc, doneA_snoc]
          simp [hs, hk', hgt]
        rw [ht]; exact RR
      · exact ((((k2.trans (But.of_below hb)).trans (But.setCell _ _ _ (.inl rfl))).trans (But.drew _)).trans (But.setCell _ _ _ (.inl rfl)))
    · have hq := cnt_le es 3
      by_cases hd0 : cnt es 3 = 0
      · have hd : ((cnt es 3 : Int) + 1 == 1) = true := by rw [beq_iff_eq]; omega
        have Hd := Lib.hid hd0
        clear hd0
        go_enter Try.func40, Try.ntmps40
        go_wp2_with (first
          | (refine wpList_load_mid rfl 48 (.tmp 3) rfl w.heap.size 0 rfl (evC e) _ E2.range Try.underlying48 rfl (by kernel_rfl) ?_)
          | (go_at_call 35; refine (saysT_c e _).mono ?_; rw [hs]; rintro en w3 ⟨rfl, hb⟩; have R3 := r2.below hb; have E3 := E2.below hb; have e0 := E3.cell (i := 0) (v := .int .i64 e.kind) rfl; have e1 := E3.cell (i := 1) (v := .int .u64 e.at_) rfl; have e9 := E3.cell (i := 9) (v := .int .i64 e.got) rfl; have b4 := R3.cell (i := 4) (v := .int .i64 (sentN es)) rfl; have f4 := R3.fz 4; have b9 := R3.cell (i := 9) (v := .int .i64 (cnt es 3)) rfl; have f9 := R3.fz 9; have b15 := R3.cell (i := 15) (v := .int .u64 (doneA es)) rfl; have f15 := R3.fz 15)
          | (go_at_call 24; refine (gotT_c _ _).mono ?_; first | rw [hg] | rw [show gotB 3 = true from rfl]; rintro en w4 ⟨rfl, rfl⟩))
        refine wp_still_tail 14 (by kernel_rfl) (by kernel_rfl) ?_
        simp only [List.take_succ_cons, List.take_zero, List.drop_succ_cons, List.drop_zero]
        repeat still_step
        refine wpStill_nil ?_
        go_wp2
        go_end0
        have RR := ((((R3.set 4 (.int .i64 ((sentN es : Int) + 1)))).drew.set 9 (.int .i64 ((cnt es 3 : Int) + 1))).set 15 (.int .u64 e.at_))
        try simp only [List.setIfInBounds_toArray, List.set_cons_zero, List.set_cons_succ] at RR
        refine ⟨⟨_, rfl⟩, ?_, ?_⟩
        · have ht : (tlC n f (es ++ [e])).toArray = #[.int .u32 n.node, .int .u32 n.service, .int .u64 n.time, .int .u32 n.seq, .int .i64 ((sentN es : Int) + 1), .int .i64 (cameN es), .int .i64 (cnt es 0), .int .i64 (cnt es 1), .int .i64 (cnt es 2), .int .i64 ((cnt es 3 : Int) + 1), .int .i64 (cnt es 4), .int .i64 (cnt es 5), .int .i64 (cnt es 6), .int .u64 f, .int .u64 e.at_, .int .u64 e.at_] := by
            simp only [tlC, sentN_snoc, cameN_snoc, cnt_snoc, lastA_snoc, doneA_snoc]
            simp [hs, hk', hgt, Hd.out]
          rw [ht]; exact RR
        · exact (((((k2.trans (But.of_below hb)).trans (But.setCell _ _ _ (.inl rfl))).trans (But.drew _)).trans (But.setCell _ _ _ (.inl rfl))).trans (But.setCell _ _ _ (.inl rfl)))
      · have hd : ((cnt es 3 : Int) + 1 == 1) = false := by rw [beq_eq_false_iff_ne]; omega
        have Hd := Lib.hid hd0
        clear hd0
        go_enter Try.func40, Try.ntmps40
        go_wp2_with (first
          | (refine wpList_load_mid rfl 48 (.tmp 3) rfl w.heap.size 0 rfl (evC e) _ E2.range Try.underlying48 rfl (by kernel_rfl) ?_)
          | (go_at_call 35; refine (saysT_c e _).mono ?_; rw [hs]; rintro en w3 ⟨rfl, hb⟩; have R3 := r2.below hb; have E3 := E2.below hb; have e0 := E3.cell (i := 0) (v := .int .i64 e.kind) rfl; have e1 := E3.cell (i := 1) (v := .int .u64 e.at_) rfl; have e9 := E3.cell (i := 9) (v := .int .i64 e.got) rfl; have b4 := R3.cell (i := 4) (v := .int .i64 (sentN es)) rfl; have f4 := R3.fz 4; have b9 := R3.cell (i := 9) (v := .int .i64 (cnt es 3)) rfl; have f9 := R3.fz 9)
          | (go_at_call 24; refine (gotT_c _ _).mono ?_; first | rw [hg] | rw [show gotB 3 = true from rfl]; rintro en w4 ⟨rfl, rfl⟩))
        refine wp_still_tail 14 (by kernel_rfl) (by kernel_rfl) ?_
        simp only [List.take_succ_cons, List.take_zero, List.drop_succ_cons, List.drop_zero]
        repeat still_step
        refine wpStill_nil ?_
        go_wp2
        go_end0
        have RR := (((R3.set 4 (.int .i64 ((sentN es : Int) + 1)))).drew.set 9 (.int .i64 ((cnt es 3 : Int) + 1)))
        try simp only [List.setIfInBounds_toArray, List.set_cons_zero, List.set_cons_succ] at RR
        refine ⟨⟨_, rfl⟩, ?_, ?_⟩
        · have ht : (tlC n f (es ++ [e])).toArray = #[.int .u32 n.node, .int .u32 n.service, .int .u64 n.time, .int .u32 n.seq, .int .i64 ((sentN es : Int) + 1), .int .i64 (cameN es), .int .i64 (cnt es 0), .int .i64 (cnt es 1), .int .i64 (cnt es 2), .int .i64 ((cnt es 3 : Int) + 1), .int .i64 (cnt es 4), .int .i64 (cnt es 5), .int .i64 (cnt es 6), .int .u64 f, .int .u64 e.at_, .int .u64 (doneA es)] := by
            simp only [tlC, sentN_snoc, cameN_snoc, cnt_snoc, lastA_snoc, doneA_snoc]
            simp [hs, hk', hgt, Hd.out]
          rw [ht]; exact RR
        · exact ((((k2.trans (But.of_below hb)).trans (But.setCell _ _ _ (.inl rfl))).trans (But.drew _)).trans (But.setCell _ _ _ (.inl rfl)))
    · have hq := cnt_le es 4
      go_enter Try.func40, Try.ntmps40
      go_wp2_with (first
        | (refine wpList_load_mid rfl 48 (.tmp 3) rfl w.heap.size 0 rfl (evC e) _ E2.range Try.underlying48 rfl (by kernel_rfl) ?_)
        | (go_at_call 35; refine (saysT_c e _).mono ?_; rw [hs]; rintro en w3 ⟨rfl, hb⟩; have R3 := r2.below hb; have E3 := E2.below hb; have e0 := E3.cell (i := 0) (v := .int .i64 e.kind) rfl; have e1 := E3.cell (i := 1) (v := .int .u64 e.at_) rfl; have e9 := E3.cell (i := 9) (v := .int .i64 e.got) rfl; have b4 := R3.cell (i := 4) (v := .int .i64 (sentN es)) rfl; have f4 := R3.fz 4; have b10 := R3.cell (i := 10) (v := .int .i64 (cnt es 4)) rfl; have f10 := R3.fz 10)
        | (go_at_call 24; refine (gotT_c _ _).mono ?_; first | rw [hg] | rw [show gotB 4 = true from rfl]; rintro en w4 ⟨rfl, rfl⟩))
      refine wp_still_tail 14 (by kernel_rfl) (by kernel_rfl) ?_
      simp only [List.take_succ_cons, List.take_zero, List.drop_succ_cons, List.drop_zero]
      repeat still_step
      refine wpStill_nil ?_
      go_wp2
      go_end0
      have RR := (((R3.set 4 (.int .i64 ((sentN es : Int) + 1)))).drew.set 10 (.int .i64 ((cnt es 4 : Int) + 1)))
      try simp only [List.setIfInBounds_toArray, List.set_cons_zero, List.set_cons_succ] at RR
      refine ⟨⟨_, rfl⟩, ?_, ?_⟩
      · have ht : (tlC n f (es ++ [e])).toArray = #[.int .u32 n.node, .int .u32 n.service, .int .u64 n.time, .int .u32 n.seq, .int .i64 ((sentN es : Int) + 1), .int .i64 (cameN es), .int .i64 (cnt es 0), .int .i64 (cnt es 1), .int .i64 (cnt es 2), .int .i64 (cnt es 3), .int .i64 ((cnt es 4 : Int) + 1), .int .i64 (cnt es 5), .int .i64 (cnt es 6), .int .u64 f, .int .u64 e.at_, .int .u64 (doneA es)] := by
          simp only [tlC, sentN_snoc, cameN_snoc, cnt_snoc, lastA_snoc, doneA_snoc]
          simp [hs, hk', hgt]
        rw [ht]; exact RR
      · exact ((((k2.trans (But.of_below hb)).trans (But.setCell _ _ _ (.inl rfl))).trans (But.drew _)).trans (But.setCell _ _ _ (.inl rfl)))
    · have hq := cnt_le es 5
      go_enter Try.func40, Try.ntmps40
      go_wp2_with (first
        | (refine wpList_load_mid rfl 48 (.tmp 3) rfl w.heap.size 0 rfl (evC e) _ E2.range Try.underlying48 rfl (by kernel_rfl) ?_)
        | (go_at_call 35; refine (saysT_c e _).mono ?_; rw [hs]; rintro en w3 ⟨rfl, hb⟩; have R3 := r2.below hb; have E3 := E2.below hb; have e0 := E3.cell (i := 0) (v := .int .i64 e.kind) rfl; have e1 := E3.cell (i := 1) (v := .int .u64 e.at_) rfl; have e9 := E3.cell (i := 9) (v := .int .i64 e.got) rfl; have b4 := R3.cell (i := 4) (v := .int .i64 (sentN es)) rfl; have f4 := R3.fz 4; have b11 := R3.cell (i := 11) (v := .int .i64 (cnt es 5)) rfl; have f11 := R3.fz 11)
        | (go_at_call 24; refine (gotT_c _ _).mono ?_; first | rw [hg] | rw [show gotB 5 = true from rfl]; rintro en w4 ⟨rfl, rfl⟩))
      refine wp_still_tail 14 (by kernel_rfl) (by kernel_rfl) ?_
      simp only [List.take_succ_cons, List.take_zero, List.drop_succ_cons, List.drop_zero]
      repeat still_step
      refine wpStill_nil ?_
      go_wp2
      go_end0
      have RR := (((R3.set 4 (.int .i64 ((sentN es : Int) + 1)))).drew.set 11 (.int .i64 ((cnt es 5 : Int) + 1)))
      try simp only [List.setIfInBounds_toArray, List.set_cons_zero, List.set_cons_succ] at RR
      refine ⟨⟨_, rfl⟩, ?_, ?_⟩
      · have ht : (tlC n f (es ++ [e])).toArray = #[.int .u32 n.node, .int .u32 n.service, .int .u64 n.time, .int .u32 n.seq, .int .i64 ((sentN es : Int) + 1), .int .i64 (cameN es), .int .i64 (cnt es 0), .int .i64 (cnt es 1), .int .i64 (cnt es 2), .int .i64 (cnt es 3), .int .i64 (cnt es 4), .int .i64 ((cnt es 5 : Int) + 1), .int .i64 (cnt es 6), .int .u64 f, .int .u64 e.at_, .int .u64 (doneA es)] := by
          simp only [tlC, sentN_snoc, cameN_snoc, cnt_snoc, lastA_snoc, doneA_snoc]
          simp [hs, hk', hgt]
        rw [ht]; exact RR
      · exact ((((k2.trans (But.of_below hb)).trans (But.setCell _ _ _ (.inl rfl))).trans (But.drew _)).trans (But.setCell _ _ _ (.inl rfl)))
    · have hq := cnt_le es 6
      go_enter Try.func40, Try.ntmps40
      go_wp2_with (first
        | (refine wpList_load_mid rfl 48 (.tmp 3) rfl w.heap.size 0 rfl (evC e) _ E2.range Try.underlying48 rfl (by kernel_rfl) ?_)
        | (go_at_call 35; refine (saysT_c e _).mono ?_; rw [hs]; rintro en w3 ⟨rfl, hb⟩; have R3 := r2.below hb; have E3 := E2.below hb; have e0 := E3.cell (i := 0) (v := .int .i64 e.kind) rfl; have e1 := E3.cell (i := 1) (v := .int .u64 e.at_) rfl; have e9 := E3.cell (i := 9) (v := .int .i64 e.got) rfl; have b4 := R3.cell (i := 4) (v := .int .i64 (sentN es)) rfl; have f4 := R3.fz 4; have b12 := R3.cell (i := 12) (v := .int .i64 (cnt es 6)) rfl; have f12 := R3.fz 12)
        | (go_at_call 24; refine (gotT_c _ _).mono ?_; first | rw [hg] | rw [show gotB 6 = true from rfl]; rintro en w4 ⟨rfl, rfl⟩))
      refine wp_still_tail 14 (by kernel_rfl) (by kernel_rfl) ?_
      simp only [List.take_succ_cons, List.take_zero, List.drop_succ_cons, List.drop_zero]
      repeat still_step
      refine wpStill_nil ?_
      go_wp2
      go_end0
      have RR := (((R3.set 4 (.int .i64 ((sentN es : Int) + 1)))).drew.set 12 (.int .i64 ((cnt es 6 : Int) + 1)))
      try simp only [List.setIfInBounds_toArray, List.set_cons_zero, List.set_cons_succ] at RR
      refine ⟨⟨_, rfl⟩, ?_, ?_⟩
      · have ht : (tlC n f (es ++ [e])).toArray = #[.int .u32 n.node, .int .u32 n.service, .int .u64 n.time, .int .u32 n.seq, .int .i64 ((sentN es : Int) + 1), .int .i64 (cameN es), .int .i64 (cnt es 0), .int .i64 (cnt es 1), .int .i64 (cnt es 2), .int .i64 (cnt es 3), .int .i64 (cnt es 4), .int .i64 (cnt es 5), .int .i64 ((cnt es 6 : Int) + 1), .int .u64 f, .int .u64 e.at_, .int .u64 (doneA es)] := by
          simp only [tlC, sentN_snoc, cameN_snoc, cnt_snoc, lastA_snoc, doneA_snoc]
          simp [hs, hk', hgt]
        rw [ht]; exact RR
      · exact ((((k2.trans (But.of_below hb)).trans (But.setCell _ _ _ (.inl rfl))).trans (But.drew _)).trans (But.setCell _ _ _ (.inl rfl)))

set_option maxHeartbeats 16000000 in
set_option maxRecDepth 100000 in
theorem add_11 (n : Nm) (f : Int) (es : List Ev) (e : Ev) (B : Nat) (w : World) (h : RowAt w B (tlC n f es).toArray 74) (hes : es.length ≤ 4096) (hs : saysB e = true) (hk : (e.kind == 11) = true) :
    Calls Try.prog 40 #[.pointer (some ⟨B, 0, none⟩), evV e] w (AddPost n f es e B w) := by
  have hlt := h.lt
  have hne : ¬ B = w.heap.size := by omega
  have hne' : ¬ w.heap.size = B := by omega
  have hk' : e.kind = 11 := by simpa using hk
  have hq4 : sentN es ≤ es.length := List.countP_le_length
  have hq5 : cameN es ≤ es.length := List.countP_le_length
  have r1 := h.set 14 (.int .u64 e.at_)
  simp only [List.setIfInBounds_toArray, List.set_cons_zero, List.set_cons_succ] at r1
  have r2 := r1.alloc (.cells (evA e) 48)
  have E2 := RowAt.new (w.setCell ⟨B, 14, none⟩ (.int .u64 e.at_)) (evA e) 48
  rw [show (w.setCell ⟨B, 14, none⟩ (.int .u64 e.at_)).heap.size = w.heap.size by simp] at E2
  have k2 : But (· = B) w ((w.setCell ⟨B, 14, none⟩ (.int .u64 e.at_)).alloc (.cells (evA e) 48)) := (show But (· = B) w (w.setCell ⟨B, 14, none⟩ (.int .u64 e.at_)) from But.setCell _ _ _ (.inl rfl)).trans (But.alloc _ _)
  have c14 := h.cell (i := 14) (v := .int .u64 (lastA es)) rfl
  have f14 := h.fz 14
  unfold AddPost
  cases hg : gotB e.got with
  | false =>
    have hn : ∀ i : Int, 0 ≤ i → i ≤ 6 → ¬ e.got = i := fun i h1 h2 he => by simp [gotB] at hg; omega
    have hn0 := hn 0 (by decide) (by decide)
    have hn1 := hn 1 (by decide) (by decide)
    have hn2 := hn 2 (by decide) (by decide)
    have hn3 := hn 3 (by decide) (by decide)
    have hn4 := hn 4 (by decide) (by decide)
    have hn5 := hn 5 (by decide) (by decide)
    have hn6 := hn 6 (by decide) (by decide)
    have h3 : (e.got == 3) = false := by rw [beq_eq_false_iff_ne]; exact hn3
    clear hn
    go_enter Try.func40, Try.ntmps40
    go_wp2_with (first
      | (refine wpList_load_mid rfl 48 (.tmp 3) rfl w.heap.size 0 rfl (evC e) _ E2.range Try.underlying48 rfl (by kernel_rfl) ?_)
      | (go_at_call 35; refine (saysT_c e _).mono ?_; rw [hs]; rintro en w3 ⟨rfl, hb⟩; have R3 := r2.below hb; have E3 := E2.below hb; have e0 := E3.cell (i := 0) (v := .int .i64 e.kind) rfl; have e1 := E3.cell (i := 1) (v := .int .u64 e.at_) rfl; have e9 := E3.cell (i := 9) (v := .int .i64 e.got) rfl; have b4 := R3.cell (i := 4) (v := .int .i64 (sentN es)) rfl; have f4 := R3.fz 4; have b5 := R3.cell (i := 5) (v := .int .i64 (cameN es)) rfl; have f5 := R3.fz 5)
      | (go_at_call 24; refine (gotT_c _ _).mono ?_; rw [hg]; rintro en w4 ⟨rfl, rfl⟩))
    go_end0
    have RR := ((R3.set 4 (.int .i64 ((sentN es : Int) + 1))).set 5 (.int .i64 ((cameN es : Int) + 1)))
    try simp only [List.setIfInBounds_toArray, List.set_cons_zero, List.set_cons_succ] at RR
    refine ⟨⟨_, rfl⟩, ?_, ?_⟩
    · have ht : (tlC n f (es ++ [e])).toArray = #[.int .u32 n.node, .int .u32 n.service, .int .u64 n.time, .int .u32 n.seq, .int .i64 ((sentN es : Int) + 1), .int .i64 ((cameN es : Int) + 1), .int .i64 (cnt es 0), .int .i64 (cnt es 1), .int .i64 (cnt es 2), .int .i64 (cnt es 3), .int .i64 (cnt es 4), .int .i64 (cnt es 5), .int .i64 (cnt es 6), .int .u64 f, .int .u64 e.at_, .int .u64 (doneA es)] := by
        simp only [tlC, sentN_snoc, cameN_snoc, cnt_snoc, lastA_snoc, doneA_snoc]
        simp [hs, hk', hn0, hn1, hn2, hn3, hn4, hn5, hn6]
      rw [ht]; exact RR
    · exact (((k2.trans (But.of_below hb)).trans (But.setCell _ _ _ (.inl rfl))).trans (But.setCell _ _ _ (.inl rfl)))
  | true =>
    rcases got7 hg with hgt | hgt | hgt | hgt | hgt | hgt | hgt
    · have hq := cnt_le es 0
      go_enter Try.func40, Try.ntmps40
      go_wp2_with (first
        | (refine wpList_load_mid rfl 48 (.tmp 3) rfl w.heap.size 0 rfl (evC e) _ E2.range Try.underlying48 rfl (by kernel_rfl) ?_)
        | (go_at_call 35; refine (saysT_c e _).mono ?_; rw [hs]; rintro en w3 ⟨rfl, hb⟩; have R3 := r2.below hb; have E3 := E2.below hb; have e0 := E3.cell (i := 0) (v := .int .i64 e.kind) rfl; have e1 := E3.cell (i := 1) (v := .int .u64 e.at_) rfl; have e9 := E3.cell (i := 9) (v := .int .i64 e.got) rfl; have b4 := R3.cell (i := 4) (v := .int .i64 (sentN es)) rfl; have f4 := R3.fz 4; have b5 := R3.cell (i := 5) (v := .int .i64 (cameN es)) rfl; have f5 := R3.fz 5; have b6 := R3.cell (i := 6) (v := .int .i64 (cnt es 0)) rfl; have f6 := R3.fz 6)
        | (go_at_call 24; refine (gotT_c _ _).mono ?_; first | rw [hg] | rw [show gotB 0 = true from rfl]; rintro en w4 ⟨rfl, rfl⟩))
      refine wp_still_tail 14 (by kernel_rfl) (by kernel_rfl) ?_
      simp only [List.take_succ_cons, List.take_zero, List.drop_succ_cons, List.drop_zero]
      repeat still_step
      refine wpStill_nil ?_
      go_wp2
      go_end0
      have RR := ((((R3.set 4 (.int .i64 ((sentN es : Int) + 1))).set 5 (.int .i64 ((cameN es : Int) + 1)))).drew.set 6 (.int .i64 ((cnt es 0 : Int) + 1)))
      try simp only [List.setIfInBounds_toArray, List.set_cons_zero, List.set_cons_succ] at RR
      refine ⟨⟨_, rfl⟩, ?_, ?_⟩
      · have ht : (tlC n f (es ++ [e])).toArray = #[.int .u32 n.node, .int .u32 n.service, .int .u64 n.time, .int .u32 n.seq, .int .i64 ((sentN es : Int) + 1), .int .i64 ((cameN es : Int) + 1), .int .i64 ((cnt es 0 : Int) + 1), .int .i64 (cnt es 1), .int .i64 (cnt es 2), .int .i64 (cnt es 3), .int .i64 (cnt es 4), .int .i64 (cnt es 5), .int .i64 (cnt es 6), .int .u64 f, .int .u64 e.at_, .int .u64 (doneA es)] := by
          simp only [tlC, sentN_snoc, cameN_snoc, cnt_snoc, lastA_snoc, doneA_snoc]
          simp [hs, hk', hgt]
        rw [ht]; exact RR
      · exact (((((k2.trans (But.of_below hb)).trans (But.setCell _ _ _ (.inl rfl))).trans (But.setCell _ _ _ (.inl rfl))).trans (But.drew _)).trans (But.setCell _ _ _ (.inl rfl)))
    · have hq := cnt_le es 1
      go_enter Try.func40, Try.ntmps40
      go_wp2_with (first
        | (refine wpList_load_mid rfl 48 (.tmp 3) rfl w.heap.size 0 rfl (evC e) _ E2.range Try.underlying48 rfl (by kernel_rfl) ?_)
        | (go_at_call 35; refine (saysT_c e _).mono ?_; rw [hs]; rintro en w3 ⟨rfl, hb⟩; have R3 := r2.below hb; have E3 := E2.below hb; have e0 := E3.cell (i := 0) (v := .int .i64 e.kind) rfl; have e1 := E3.cell (i := 1) (v := .int .u64 e.at_) rfl; have e9 := E3.cell (i := 9) (v := .int .i64 e.got) rfl; have b4 := R3.cell (i := 4) (v := .int .i64 (sentN es)) rfl; have f4 := R3.fz 4; have b5 := R3.cell (i := 5) (v := .int .i64 (cameN es)) rfl; have f5 := R3.fz 5; have b7 := R3.cell (i := 7) (v := .int .i64 (cnt es 1)) rfl; have f7 := R3.fz 7)
        | (go_at_call 24; refine (gotT_c _ _).mono ?_; first | rw [hg] | rw [show gotB 1 = true from rfl]; rintro en w4 ⟨rfl, rfl⟩))
      refine wp_still_tail 14 (by kernel_rfl) (by kernel_rfl) ?_
      simp only [List.take_succ_cons, List.take_zero, List.drop_succ_cons, List.drop_zero]
      repeat still_step
      refine wpStill_nil ?_
      go_wp2
      go_end0
      have RR := ((((R3.set 4 (.int .i64 ((sentN es : Int) + 1))).set 5 (.int .i64 ((cameN es : Int) + 1)))).drew.set 7 (.int .i64 ((cnt es 1 : Int) + 1)))
      try simp only [List.setIfInBounds_toArray, List.set_cons_zero, List.set_cons_succ] at RR
      refine ⟨⟨_, rfl⟩, ?_, ?_⟩
      · have ht : (tlC n f (es ++ [e])).toArray = #[.int .u32 n.node, .int .u32 n.service, .int .u64 n.time, .int .u32 n.seq, .int .i64 ((sentN es : Int) + 1), .int .i64 ((cameN es : Int) + 1), .int .i64 (cnt es 0), .int .i64 ((cnt es 1 : Int) + 1), .int .i64 (cnt es 2), .int .i64 (cnt es 3), .int .i64 (cnt es 4), .int .i64 (cnt es 5), .int .i64 (cnt es 6), .int .u64 f, .int .u64 e.at_, .int .u64 (doneA es)] := by
          simp only [tlC, sentN_snoc, cameN_snoc, cnt_snoc, lastA_snoc, doneA_snoc]
          simp [hs, hk', hgt]
        rw [ht]; exact RR
      · exact (((((k2.trans (But.of_below hb)).trans (But.setCell _ _ _ (.inl rfl))).trans (But.setCell _ _ _ (.inl rfl))).trans (But.drew _)).trans (But.setCell _ _ _ (.inl rfl)))
    · have hq := cnt_le es 2
      go_enter Try.func40, Try.ntmps40
      go_wp2_with (first
        | (refine wpList_load_mid rfl 48 (.tmp 3) rfl w.heap.size 0 rfl (evC e) _ E2.range Try.underlying48 rfl (by kernel_rfl) ?_)
        | (go_at_call 35; refine (saysT_c e _).mono ?_; rw [hs]; rintro en w3 ⟨rfl, hb⟩; have R3 := r2.below hb; have E3 := E2.below hb; have e0 := E3.cell (i := 0) (v := .int .i64 e.kind) rfl; have e1 := E3.cell (i := 1) (v := .int .u64 e.at_) rfl; have e9 := E3.cell (i := 9) (v := .int .i64 e.got) rfl; have b4 := R3.cell (i := 4) (v := .int .i64 (sentN es)) rfl; have f4 := R3.fz 4; have b5 := R3.cell (i := 5) (v := .int .i64 (cameN es)) rfl; have f5 := R3.fz 5; have b8 := R3.cell (i := 8) (v := .int .i64 (cnt es 2)) rfl; have f8 := R3.fz 8)
        | (go_at_call 24; refine (gotT_c _ _).mono ?_; first | rw [hg] | rw [show gotB 2 = true from rfl]; rintro en w4 ⟨rfl, rfl⟩))
      refine wp_still_tail 14 (by kernel_rfl) (by kernel_rfl) ?_
      simp only [List.take_succ_cons, List.take_zero, List.drop_succ_cons, List.drop_zero]
      repeat still_step
      refine wpStill_nil ?_
      go_wp2
      go_end0
      have RR := ((((R3.set 4 (.int .i64 ((sentN es : Int) + 1))).set 5 (.int .i64 ((cameN es : Int) + 1)))).drew.set 8 (.int .i64 ((cnt es 2 : Int) + 1)))
      try simp only [List.setIfInBounds_toArray, List.set_cons_zero, List.set_cons_succ] at RR
      refine ⟨⟨_, rfl⟩, ?_, ?_⟩
      · have ht : (tlC n f (es ++ [e])).toArray = #[.int .u32 n.node, .int .u32 n.service, .int .u64 n.time, .int .u32 n.seq, .int .i64 ((sentN es : Int) + 1), .int .i64 ((cameN es : Int) + 1), .int .i64 (cnt es 0), .int .i64 (cnt es 1), .int .i64 ((cnt es 2 : Int) + 1), .int .i64 (cnt es 3), .int .i64 (cnt es 4), .int .i64 (cnt es 5), .int .i64 (cnt es 6), .int .u64 f, .int .u64 e.at_, .int .u64 (doneA es)] := by
          simp only [tlC, sentN_snoc, cameN_snoc, cnt_snoc, lastA_snoc, doneA_snoc]
          simp [hs, hk', hgt]
        rw [ht]; exact RR
      · exact (((((k2.trans (But.of_below hb)).trans (But.setCell _ _ _ (.inl rfl))).trans (But.setCell _ _ _ (.inl rfl))).trans (But.drew _)).trans (But.setCell _ _ _ (.inl rfl)))
    · have hq := cnt_le es 3
      by_cases hd0 : cnt es 3 = 0
      · have hd : ((cnt es 3 : Int) + 1 == 1) = true := by rw [beq_iff_eq]; omega
        have Hd := Lib.hid hd0
        clear hd0
        go_enter Try.func40, Try.ntmps40
        go_wp2_with (first
          | (refine wpList_load_mid rfl 48 (.tmp 3) rfl w.heap.size 0 rfl (evC e) _ E2.range Try.underlying48 rfl (by kernel_rfl) ?_)
          | (go_at_call 35; refine (saysT_c e _).mono ?_; rw [hs]; rintro en w3 ⟨rfl, hb⟩; have R3 := r2.below hb; have E3 := E2.below hb; have e0 := E3.cell (i := 0) (v := .int .i64 e.kind) rfl; have e1 := E3.cell (i := 1) (v := .int .u64 e.at_) rfl; have e9 := E3.cell (i := 9) (v := .int .i64 e.got) rfl; have b4 := R3.cell (i := 4) (v := .int .i64 (sentN es)) rfl; have f4 := R3.fz 4; have b5 := R3.cell (i := 5) (v := .int .i64 (cameN es)) rfl; have f5 := R3.fz 5; have b9 := R3.cell (i := 9) (v := .int .i64 (cnt es 3)) rfl; have f9 := R3.fz 9; have b15 := R3.cell (i := 15) (v := .int .u64 (doneA es)) rfl; have f15 := R3.fz 15)
          | (go_at_call 24; refine (gotT_c _ _).mono ?_; first | rw [hg] | rw [show gotB 3 = true from rfl]; rintro en w4 ⟨rfl, rfl⟩))
        refine wp_still_tail 14 (by kernel_rfl) (by kernel_rfl) ?_
        simp only [List.take_succ_cons, List.take_zero, List.drop_succ_cons, List.drop_zero]
        repeat still_step
        refine wpStill_nil ?_
        go_wp2
        go_end0
        have RR := (((((R3.set 4 (.int .i64 ((sentN es : Int) + 1))).set 5 (.int .i64 ((cameN es : Int) + 1)))).drew.set 9 (.int .i64 ((cnt es 3 : Int) + 1))).set 15 (.int .u64 e.at_))
        try simp only [List.setIfInBounds_toArray, List.set_cons_zero, List.set_cons_succ] at RR
        refine ⟨⟨_, rfl⟩, ?_, ?_⟩
        · have ht : (tlC n f (es ++ [e])).toArray = #[.int .u32 n.node, .int .u32 n.service, .int .u64 n.time, .int .u32 n.seq, .int .i64 ((sentN es : Int) + 1), .int .i64 ((cameN es : Int) + 1), .int .i64 (cnt es 0), .int .i64 (cnt es 1), .int .i64 (cnt es 2), .int .i64 ((cnt es 3 : Int) + 1), .int .i64 (cnt es 4), .int .i64 (cnt es 5), .int .i64 (cnt es 6), .int .u64 f, .int .u64 e.at_, .int .u64 e.at_] := by
            simp only [tlC, sentN_snoc, cameN_snoc, cnt_snoc, lastA_snoc, doneA_snoc]
            simp [hs, hk', hgt, Hd.out]
          rw [ht]; exact RR
        · exact ((((((k2.trans (But.of_below hb)).trans (But.setCell _ _ _ (.inl rfl))).trans (But.setCell _ _ _ (.inl rfl))).trans (But.drew _)).trans (But.setCell _ _ _ (.inl rfl))).trans (But.setCell _ _ _ (.inl rfl)))
      · have hd : ((cnt es 3 : Int) + 1 == 1) = false := by rw [beq_eq_false_iff_ne]; omega
        have Hd := Lib.hid hd0
        clear hd0
        go_enter Try.func40, Try.ntmps40
        go_wp2_with (first
          | (refine wpList_load_mid rfl 48 (.tmp 3) rfl w.heap.size 0 rfl (evC e) _ E2.range Try.underlying48 rfl (by kernel_rfl) ?_)
          | (go_at_call 35; refine (saysT_c e _).mono ?_; rw [hs]; rintro en w3 ⟨rfl, hb⟩; have R3 := r2.below hb; have E3 := E2.below hb; have e0 := E3.cell (i := 0) (v := .int .i64 e.kind) rfl; have e1 := E3.cell (i := 1) (v := .int .u64 e.at_) rfl; have e9 := E3.cell (i := 9) (v := .int .i64 e.got) rfl; have b4 := R3.cell (i := 4) (v := .int .i64 (sentN es)) rfl; have f4 := R3.fz 4; have b5 := R3.cell (i := 5) (v := .int .i64 (cameN es)) rfl; have f5 := R3.fz 5; have b9 := R3.cell (i := 9) (v := .int .i64 (cnt es 3)) rfl; have f9 := R3.fz 9)
          | (go_at_call 24; refine (gotT_c _ _).mono ?_; first | rw [hg] | rw [show gotB 3 = true from rfl]; rintro en w4 ⟨rfl, rfl⟩))
        refine wp_still_tail 14 (by kernel_rfl) (by kernel_rfl) ?_
        simp only [List.take_succ_cons, List.take_zero, List.drop_succ_cons, List.drop_zero]
        repeat still_step
        refine wpStill_nil ?_
        go_wp2
        go_end0
        have RR := ((((R3.set 4 (.int .i64 ((sentN es : Int) + 1))).set 5 (.int .i64 ((cameN es : Int) + 1)))).drew.set 9 (.int .i64 ((cnt es 3 : Int) + 1)))
        try simp only [List.setIfInBounds_toArray, List.set_cons_zero, List.set_cons_succ] at RR
        refine ⟨⟨_, rfl⟩, ?_, ?_⟩
        · have ht : (tlC n f (es ++ [e])).toArray = #[.int .u32 n.node, .int .u32 n.service, .int .u64 n.time, .int .u32 n.seq, .int .i64 ((sentN es : Int) + 1), .int .i64 ((cameN es : Int) + 1), .int .i64 (cnt es 0), .int .i64 (cnt es 1), .int .i64 (cnt es 2), .int .i64 ((cnt es 3 : Int) + 1), .int .i64 (cnt es 4), .int .i64 (cnt es 5), .int .i64 (cnt es 6), .int .u64 f, .int .u64 e.at_, .int .u64 (doneA es)] := by
            simp only [tlC, sentN_snoc, cameN_snoc, cnt_snoc, lastA_snoc, doneA_snoc]
            simp [hs, hk', hgt, Hd.out]
          rw [ht]; exact RR
        · exact (((((k2.trans (But.of_below hb)).trans (But.setCell _ _ _ (.inl rfl))).trans (But.setCell _ _ _ (.inl rfl))).trans (But.drew _)).trans (But.setCell _ _ _ (.inl rfl)))
    · have hq := cnt_le es 4
      go_enter Try.func40, Try.ntmps40
      go_wp2_with (first
        | (refine wpList_load_mid rfl 48 (.tmp 3) rfl w.heap.size 0 rfl (evC e) _ E2.range Try.underlying48 rfl (by kernel_rfl) ?_)
        | (go_at_call 35; refine (saysT_c e _).mono ?_; rw [hs]; rintro en w3 ⟨rfl, hb⟩; have R3 := r2.below hb; have E3 := E2.below hb; have e0 := E3.cell (i := 0) (v := .int .i64 e.kind) rfl; have e1 := E3.cell (i := 1) (v := .int .u64 e.at_) rfl; have e9 := E3.cell (i := 9) (v := .int .i64 e.got) rfl; have b4 := R3.cell (i := 4) (v := .int .i64 (sentN es)) rfl; have f4 := R3.fz 4; have b5 := R3.cell (i := 5) (v := .int .i64 (cameN es)) rfl; have f5 := R3.fz 5; have b10 := R3.cell (i := 10) (v := .int .i64 (cnt es 4)) rfl; have f10 := R3.fz 10)
        | (go_at_call 24; refine (gotT_c _ _).mono ?_; first | rw [hg] | rw [show gotB 4 = true from rfl]; rintro en w4 ⟨rfl, rfl⟩))
      refine wp_still_tail 14 (by kernel_rfl) (by kernel_rfl) ?_
      simp only [List.take_succ_cons, List.take_zero, List.drop_succ_cons, List.drop_zero]
      repeat still_step
      refine wpStill_nil ?_
      go_wp2
      go_end0
      have RR := ((((R3.set 4 (.int .i64 ((sentN es : Int) + 1))).set 5 (.int .i64 ((cameN es : Int) + 1)))).drew.set 10 (.int .i64 ((cnt es 4 : Int) + 1)))
      try simp only [List.setIfInBounds_toArray, List.set_cons_zero, List.set_cons_succ] at RR
      refine ⟨⟨_, rfl⟩, ?_, ?_⟩
      · have ht : (tlC n f (es ++ [e])).toArray = #[.int .u32 n.node, .int .u32 n.service, .int .u64 n.time, .int .u32 n.seq, .int .i64 ((sentN es : Int) + 1), .int .i64 ((cameN es : Int) + 1), .int .i64 (cnt es 0), .int .i64 (cnt es 1), .int .i64 (cnt es 2), .int .i64 (cnt es 3), .int .i64 ((cnt es 4 : Int) + 1), .int .i64 (cnt es 5), .int .i64 (cnt es 6), .int .u64 f, .int .u64 e.at_, .int .u64 (doneA es)] := by
          simp only [tlC, sentN_snoc, cameN_snoc, cnt_snoc, lastA_snoc, doneA_snoc]
          simp [hs, hk', hgt]
        rw [ht]; exact RR
      · exact (((((k2.trans (But.of_below hb)).trans (But.setCell _ _ _ (.inl rfl))).trans (But.setCell _ _ _ (.inl rfl))).trans (But.drew _)).trans (But.setCell _ _ _ (.inl rfl)))
    · have hq := cnt_le es 5
      go_enter Try.func40, Try.ntmps40
      go_wp2_with (first
        | (refine wpList_load_mid rfl 48 (.tmp 3) rfl w.heap.size 0 rfl (evC e) _ E2.range Try.underlying48 rfl (by kernel_rfl) ?_)
        | (go_at_call 35; refine (saysT_c e _).mono ?_; rw [hs]; rintro en w3 ⟨rfl, hb⟩; have R3 := r2.below hb; have E3 := E2.below hb; have e0 := E3.cell (i := 0) (v := .int .i64 e.kind) rfl; have e1 := E3.cell (i := 1) (v := .int .u64 e.at_) rfl; have e9 := E3.cell (i := 9) (v := .int .i64 e.got) rfl; have b4 := R3.cell (i := 4) (v := .int .i64 (sentN es)) rfl; have f4 := R3.fz 4; have b5 := R3.cell (i := 5) (v := .int .i64 (cameN es)) rfl; have f5 := R3.fz 5; have b11 := R3.cell (i := 11) (v := .int .i64 (cnt es 5)) rfl; have f11 := R3.fz 11)
        | (go_at_call 24; refine (gotT_c _ _).mono ?_; first | rw [hg] | rw [show gotB 5 = true from rfl]; rintro en w4 ⟨rfl, rfl⟩))
      refine wp_still_tail 14 (by kernel_rfl) (by kernel_rfl) ?_
      simp only [List.take_succ_cons, List.take_zero, List.drop_succ_cons, List.drop_zero]
      repeat still_step
      refine wpStill_nil ?_
      go_wp2
      go_end0
      have RR := ((((R3.set 4 (.int .i64 ((sentN es : Int) + 1))).set 5 (.int .i64 ((cameN es : Int) + 1)))).drew.set 11 (.int .i64 ((cnt es 5 : Int) + 1)))
      try simp only [List.setIfInBounds_toArray, List.set_cons_zero, List.set_cons_succ] at RR
      refine ⟨⟨_, rfl⟩, ?_, ?_⟩
      · have ht : (tlC n f (es ++ [e])).toArray = #[.int .u32 n.node, .int .u32 n.service, .int .u64 n.time, .int .u32 n.seq, .int .i64 ((sentN es : Int) + 1), .int .i64 ((cameN es : Int) + 1), .int .i64 (cnt es 0), .int .i64 (cnt es 1), .int .i64 (cnt es 2), .int .i64 (cnt es 3), .int .i64 (cnt es 4), .int .i64 ((cnt es 5 : Int) + 1), .int .i64 (cnt es 6), .int .u64 f, .int .u64 e.at_, .int .u64 (doneA es)] := by
          simp only [tlC, sentN_snoc, cameN_snoc, cnt_snoc, lastA_snoc, doneA_snoc]
          simp [hs, hk', hgt]
        rw [ht]; exact RR
      · exact (((((k2.trans (But.of_below hb)).trans (But.setCell _ _ _ (.inl rfl))).trans (But.setCell _ _ _ (.inl rfl))).trans (But.drew _)).trans (But.setCell _ _ _ (.inl rfl)))
    · have hq := cnt_le es 6
      go_enter Try.func40, Try.ntmps40
      go_wp2_with (first
        | (refine wpList_load_mid rfl 48 (.tmp 3) rfl w.heap.size 0 rfl (evC e) _ E2.range Try.underlying48 rfl (by kernel_rfl) ?_)
        | (go_at_call 35; refine (saysT_c e _).mono ?_; rw [hs]; rintro en w3 ⟨rfl, hb⟩; have R3 := r2.below hb; have E3 := E2.below hb; have e0 := E3.cell (i := 0) (v := .int .i64 e.kind) rfl; have e1 := E3.cell (i := 1) (v := .int .u64 e.at_) rfl; have e9 := E3.cell (i := 9) (v := .int .i64 e.got) rfl; have b4 := R3.cell (i := 4) (v := .int .i64 (sentN es)) rfl; have f4 := R3.fz 4; have b5 := R3.cell (i := 5) (v := .int .i64 (cameN es)) rfl; have f5 := R3.fz 5; have b12 := R3.cell (i := 12) (v := .int .i64 (cnt es 6)) rfl; have f12 := R3.fz 12)
        | (go_at_call 24; refine (gotT_c _ _).mono ?_; first | rw [hg] | rw [show gotB 6 = true from rfl]; rintro en w4 ⟨rfl, rfl⟩))
      refine wp_still_tail 14 (by kernel_rfl) (by kernel_rfl) ?_
      simp only [List.take_succ_cons, List.take_zero, List.drop_succ_cons, List.drop_zero]
      repeat still_step
      refine wpStill_nil ?_
      go_wp2
      go_end0
      have RR := ((((R3.set 4 (.int .i64 ((sentN es : Int) + 1))).set 5 (.int .i64 ((cameN es : Int) + 1)))).drew.set 12 (.int .i64 ((cnt es 6 : Int) + 1)))
      try simp only [List.setIfInBounds_toArray, List.set_cons_zero, List.set_cons_succ] at RR
      refine ⟨⟨_, rfl⟩, ?_, ?_⟩
      · have ht : (tlC n f (es ++ [e])).toArray = #[.int .u32 n.node, .int .u32 n.service, .int .u64 n.time, .int .u32 n.seq, .int .i64 ((sentN es : Int) + 1), .int .i64 ((cameN es : Int) + 1), .int .i64 (cnt es 0), .int .i64 (cnt es 1), .int .i64 (cnt es 2), .int .i64 (cnt es 3), .int .i64 (cnt es 4), .int .i64 (cnt es 5), .int .i64 ((cnt es 6 : Int) + 1), .int .u64 f, .int .u64 e.at_, .int .u64 (doneA es)] := by
          simp only [tlC, sentN_snoc, cameN_snoc, cnt_snoc, lastA_snoc, doneA_snoc]
          simp [hs, hk', hgt]
        rw [ht]; exact RR
      · exact (((((k2.trans (But.of_below hb)).trans (But.setCell _ _ _ (.inl rfl))).trans (But.setCell _ _ _ (.inl rfl))).trans (But.drew _)).trans (But.setCell _ _ _ (.inl rfl)))

theorem add_c (n : Nm) (f : Int) (es : List Ev) (e : Ev) (B : Nat) (w : World) (h : RowAt w B (tlC n f es).toArray 74) (hes : es.length ≤ 4096) :
    Calls Try.prog 40 #[.pointer (some ⟨B, 0, none⟩), evV e] w (AddPost n f es e B w) := by
  cases hs : saysB e <;> cases hk : (e.kind == 11)
  · exact add_00 n f es e B w h hes hs hk
  · exact add_01 n f es e B w h hes hs hk
  · exact add_10 n f es e B w h hes hs hk
  · exact add_11 n f es e B w h hes hs hk
end Go.Proofs.Ythlgoclidgfejaa
