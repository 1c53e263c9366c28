/-
  The contract of disk's Sync.
-/
import Derived.Test.YtekpjbablcoahaaDiskD
import Derived.Great.Walk
namespace Go.Proofs.Ytekpjbablcoahaa
open Go.RowKit Dk
set_option linter.unusedSimpArgs false
set_option linter.unusedVariables false

set_option maxRecDepth 100000 in
theorem dSyncAsk {B M P : Nat} {u : Value} {d : Disk} (w : World) (h : DiskAt w B M u d) (hp : w.cell? ⟨P, 0, none⟩ = some (.pointer (some ⟨B, 0, none⟩))) (T : TypeId) :
    Calls Try.prog 26 #[.slice (some ⟨w.heap.size, 0, none⟩) 2 2] (w.alloc (.cells #[.func (.func 35) #[.pointer (some ⟨B, 0, none⟩)] #[], .int .i64 1, .func (.func 33) #[] #[.pointer (some ⟨P, 0, none⟩)], .int .i64 190] T)) (Ret (.int .i64 (if d.left = 0 then 190 else 0)) (w.alloc (.cells #[.func (.func 35) #[.pointer (some ⟨B, 0, none⟩)] #[], .int .i64 1, .func (.func 33) #[] #[.pointer (some ⟨P, 0, none⟩)], .int .i64 190] T))) := by
  have hb := below_alloc w (.cells #[.func (.func 35) #[.pointer (some ⟨B, 0, none⟩)] #[], .int .i64 1, .func (.func 33) #[] #[.pointer (some ⟨P, 0, none⟩)], .int .i64 190] T)
  have hc := RowAt.new w #[.func (.func 35) #[.pointer (some ⟨B, 0, none⟩)] #[], .int .i64 1, .func (.func 33) #[] #[.pointer (some ⟨P, 0, none⟩)], .int .i64 190] T
  have hsl : Sl (w.alloc (.cells #[.func (.func 35) #[.pointer (some ⟨B, 0, none⟩)] #[], .int .i64 1, .func (.func 33) #[] #[.pointer (some ⟨P, 0, none⟩)], .int .i64 190] T)) 2 (.slice (some ⟨w.heap.size, 0, none⟩) 2 2) 2 (List.flatMap askC [⟨35, #[.pointer (some ⟨B, 0, none⟩)], #[], 1, false⟩, ⟨33, #[], #[.pointer (some ⟨P, 0, none⟩)], 190, decide (d.left = 0)⟩]) := by
    refine ⟨by simp, .inr ⟨w.heap.size, 0, 2, rfl, by decide, by decide, fun j v hj => ?_⟩⟩
    rw [Nat.zero_add]
    exact hc.cell (by simpa using hj)
  have hask := dAsked_c [⟨35, #[.pointer (some ⟨B, 0, none⟩)], #[], 1, false⟩, ⟨33, #[], #[.pointer (some ⟨P, 0, none⟩)], 190, decide (d.left = 0)⟩] _ 2 _ hsl
    (by intro a ha; simp only [List.mem_cons, List.not_mem_nil, or_false] at ha; rcases ha with rfl | rfl; exact dEnters_none; exact dEnters_s1)
    (by
      intro a ha' w1 hb1
      have hB := below_up hb hb1
      have V := h.below hB
      simp only [List.mem_cons, List.not_mem_nil, or_false] at ha'
      rcases ha' with rfl | rfl
      · exact (Calls.cast rfl (dNone_c w1 V)).mono fun en w' ⟨he, hw'⟩ => ⟨he, hw' ▸ Below.refl _ _⟩
      · exact Calls.cast rfl (dS1_c d.left w1 (cell_up hB hp) (V.var.cell (i := 0) rfl)))
  have e : askF [⟨35, #[.pointer (some ⟨B, 0, none⟩)], #[], 1, false⟩, ⟨33, #[], #[.pointer (some ⟨P, 0, none⟩)], 190, decide (d.left = 0)⟩] = if d.left = 0 then 190 else 0 := by
    unfold askF
    by_cases h0 : d.left = 0 <;> simp [List.find?, h0]
  rw [e] at hask
  exact hask
set_option maxHeartbeats 2000000 in
set_option maxRecDepth 100000 in
theorem dSyncNo_c {B M : Nat} {u : Value} {d : Disk} (w : World) (h : DiskAt w B M u d) (h0 : d.left = 0) : Calls Try.prog 11 #[.pointer (some ⟨B, 0, none⟩)] w (Ret (.int .i64 190) w) := by
  have hmf : ∀ (fn : Fn) (first cap : Array Value) (w : World), (Instr.makeFunc fn first cap).run Try.prog w = .ok (.func fn first cap) w := fun _ _ _ _ => rfl
  have hB2 := below_alloc w (.cells #[.pointer (some ⟨B, 0, none⟩)] 25)
  have hp := cell_new w (.pointer (some ⟨B, 0, none⟩)) 25
  have V := h.below hB2
  have HO := Lib.hid h0
  clear h0
  go_enter Try.func11, Try.ntmps11
  go_wp2_with (first
    | (go_at_call 27; refine (dIs_c _ _).mono ?_; rintro en w1 ⟨rfl, hb1⟩; have hask := dSyncAsk w1 (V.below hb1) (cell_up hb1 hp) 73; rw [if_pos HO.out] at hask)
    | (go_at_call 26; refine hask.mono ?_; rintro en w2 ⟨rfl, hb2⟩))
  go_ret
  exact ⟨rfl, below_up (below_up hB2 hb1) (below_up (below_alloc w1 _) hb2)⟩

theorem put_zero : Try.t78.zero = some (putV (0, zsec)) := by kernel_rfl
theorem run_alloc_put (a : Act) (w : World) (o : Oper) (ho : o.op = .alloc 78) : (execOp a.eval o).run Try.prog w = .ok (.value (.pointer (some ⟨w.heap.size, 0, none⟩))) (w.alloc (.cells (putC (0, zsec)).toArray 78)) := by
  have hz := put_zero
  unfold execOp
  rw [ho]
  simp [go_sem, zeroValue, hz]
/-- All that waits is laid. -/
def Dk.laysF (E l : List (Int × Sec)) : List (Int × Sec) := l.foldl (fun E p => putF E p.1 p.2) E
theorem Dk.laysF_take {E l : List (Int × Sec)} {k : Nat} (hk : k < l.length) : laysF E (l.take (k + 1)) = putF (laysF E (l.take k)) l[k].1 l[k].2 := by
  unfold laysF; rw [List.take_succ_eq_append_getElem hk, List.foldl_append]; rfl
theorem DiskAt.setWaits {w w' : World} {B M : Nat} {u u' : Value} {d : Disk} (h : DiskAt w B M u d) (hr : RowAt w' B #[.int .i64 d.left, .int .i64 d.many, .map (some M), u'] 70) (hb : But (· = B) w w') (W : List (Int × Sec)) (hs : Sl w' 65 u' W.length (W.flatMap putC)) (hk : ∀ p ∈ W, (Lit.int .i64 p.1).wf = true) : DiskAt w' B M u' ⟨d.left, d.many, d.E, W⟩ :=
  ⟨hr, h.map.heap (hb.same M h.map.lt (fun e => h.ne e.symm)), hs, h.ne, hk⟩

set_option maxHeartbeats 4000000 in
set_option maxRecDepth 100000 in
theorem dSync_c {B M : Nat} {u : Value} {d : Disk} (hl : -1 ≤ d.left) (hl2 : d.left ≤ 9223372036854775807) (w : World) (h : DiskAt w B M u d) (h0 : ¬ d.left = 0) : Calls Try.prog 11 #[.pointer (some ⟨B, 0, none⟩)] w fun en w' => en = .returned (.int .i64 0) ∧ DiskAt w' B M (.slice none 0 0) ⟨doneF d.left, d.many, laysF d.E d.W, []⟩ ∧ But (fun i => i = B ∨ i = M) w w' := by
  have hmf : ∀ (fn : Fn) (first cap : Array Value) (w : World), (Instr.makeFunc fn first cap).run Try.prog w = .ok (.func fn first cap) w := fun _ _ _ _ => rfl
  obtain ⟨left, many, E, W⟩ := d
  have hB2 := below_alloc w (.cells #[.pointer (some ⟨B, 0, none⟩)] 25)
  have hp := cell_new w (.pointer (some ⟨B, 0, none⟩)) 25
  have hBl := h.var.lt
  have hMl := h.map.lt
  have hne := h.ne
  have V := h.below hB2
  have HO := Lib.hid h0
  have HK := Lib.hid h.keys
  have HL := Lib.hid (And.intro hl hl2)
  have hn := h.sl.n_max
  clear h0 hl hl2
  obtain ⟨a, c, rfl⟩ := h.sl.len
  go_enter Try.func11, Try.ntmps11
  go_wp2_with (first
    | (go_at_call 27; refine (dIs_c _ _).mono ?_; rintro en w1 ⟨rfl, hb1⟩; have hask := dSyncAsk w1 (V.below hb1) (cell_up hb1 hp) 73; rw [if_neg HO.out] at hask)
    | (go_at_call 26; refine hask.mono ?_; rintro en w2 ⟨rfl, hb2⟩; have HB := Lib.hid (below_up hb1 (below_up (below_alloc w1 _) hb2)); have V2 := V.below HB.out; have qp := cell_up HB.out hp; have qw := V2.var.cell (i := 3) rfl; have hz2 := HB.out.size))
  simp only [World.size_alloc] at hz2
  have V0 := Lib.hid V2
  clear V V2 h hask hb1 hb2 qw
  go_loopw [19] (fun i wr => ∃ k : Nat, k ≤ W.length ∧ i = .int .i64 k ∧ DiskAt wr B M (.slice a W.length c) ⟨left, many, laysF E (W.take k), W⟩ ∧ But (· = M) w2 wr) (fun i _ => W.length - (intOf i).toNat)
  case atStart => exact ⟨0, Nat.zero_le _, rfl, V0.out, But.refl _ _⟩
  case round =>
    obtain ⟨k, hk, rfl, V, hbr⟩ := hrel
    have qr := hbr.cell qp (by omega)
    have hzr := hbr.size
    have HBr := Lib.hid hbr
    clear hbr
    by_cases hlt : k < W.length
    · obtain ⟨b, off, rfl, hr⟩ := V.sl.rec_at (cells := putC) (sz := 65) (fun p => putC_len p) hlt hlt
      have Hx := Lib.hid (laysF_take (E := E) hlt)
      have hkw := HK.out _ (List.getElem_mem hlt)
      generalize W[k] = p at *
      have hi : (Try.prog.info? 78).map (·.size) = some (putC p).length := by rw [putC_len]; kernel_rfl
      have h1 : (putC p).all (·.oneCell') = true := by rw [List.all_cons]; exact Bool.and_eq_true_iff.2 ⟨rfl, sec_one _⟩
      go_wp2_with (first
        | (refine wpList_load_mid rfl 78 (.tmp 21) rfl b (off + k * 65) rfl (putC p) _ hr Try.underlying78 rfl hi ?_)
        | (refine Go.Great.wpList_allocTo rfl (some 5) rfl _ _ (run_alloc_put _ _ _ rfl) ?_)
        | (refine wpList_put_row rfl 78 (.tmp 5) (.tmp 22) rfl wr.heap.size (putC p) rfl rfl (RowAt.new wr _ _) (by rw [putC_len]; rfl) hi h1 (fun w4 h4 hb4 => ?_); have hB4 := Lib.hid ((below_alloc wr _).trans (hb4.below (fun q e => by omega) (by simp))); have V4 := V.below hB4.out; have q4 := cell_up hB4.out qr; have hz4 := hB4.out.size)
        | (refine wpList_load_mid rfl 78 (.tmp 5) rfl wr.heap.size 0 rfl (putC p) _ h4.range Try.underlying78 rfl hi ?_)
        | (go_at_call 34; refine (dWhole_c p hkw _ V4).mono ?_; rintro en w5 ⟨rfl, V5, hb5⟩))
      rw [← Hx.out] at V5
      go_roundw
      case rel => exact ⟨k + 1, by omega, by go_num, V5, (HBr.out.trans (But.of_below hB4.out)).trans hb5⟩
      case measure => simp [intOf]; omega
    · obtain rfl : k = W.length := by omega
      rw [List.take_length] at V
      have hf := V.var.fz 3
      have hc3 := V.var.cell (i := 3) (v := .slice a W.length c) rfl
      have hr3 := V.var.set 3 (.slice none 0 0)
      have hb3 : But (· = B) wr (wr.setCell ⟨B, 3, none⟩ (.slice none 0 0)) := But.setCell _ _ _ (.inl rfl)
      have q3 := hb3.cell qr (by omega)
      have V3 := V.setWaits hr3 hb3 [] (Sl.nil _ _) (fun p hp => by cases hp)
      go_wp2_with (go_at_call 32; refine (dDone_c left HL.out.1 HL.out.2 _ V3.var).mono ?_; rintro en w6 ⟨rfl, hr6, hb6⟩)
      go_ret
      have b1 : But (fun i => i = B ∨ i = M) w w2 := But.of_below (below_up hB2 HB.out)
      have b2 : But (fun i => i = B ∨ i = M) w2 wr := HBr.out.mono fun _ _ e => .inr e
      have b3 : But (fun i => i = B ∨ i = M) wr w6 := (hb3.trans hb6).mono fun _ _ e => .inl e
      exact ⟨rfl, V3.setLeft _ hr6 hb6, (b1.trans b2).trans b3⟩
end Go.Proofs.Ytekpjbablcoahaa
