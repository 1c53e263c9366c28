/-
  The contract of disk's Write.
-/
import Derived.Test.YtekpjbablcoahaaDiskE
import Derived.Test.YtekpjbablcoahaaPz
import Derived.Laws.Cover3
namespace Go.Proofs.Ytekpjbablcoahaa
open Go.RowKit Dk
set_option linter.unusedSimpArgs false
set_option linter.unusedVariables false

theorem putArr (p : Int × Sec) : (putC p).toArray.size = 65 := by rw [List.size_toArray]; exact putC_len p
theorem secArr (s : Sec) : (secC s).toArray.size = 64 := by rw [List.size_toArray]; exact secC_len s
theorem slPut : SlT Try.prog 68 78 65 72 := SlT.mk' Try.underlying68 (z := putV (0, zsec)) (by kernel_rfl) (putArr _) (by decide)
theorem putC_flat_len (l : List (Int × Sec)) : (l.flatMap putC).length = l.length * 65 := rec_len (fun p => putC_len p) l
theorem one_put (p : Int × Sec) : ∀ u ∈ putC p, u.oneCell' = true := by
  intro u hu
  rcases List.mem_cons.1 hu with rfl | h
  · rfl
  · exact one_by8 _ u h
theorem sl_new1 (w : World) (k : Int) (s : Sec) : Sl (w.alloc (.cells (putC (k, s)).toArray 78)) 65 (.slice (some ⟨w.heap.size, 0, none⟩) 1 1) 1 (putC (k, s)) := by
  refine ⟨putC_len _, .inr ⟨_, 0, 1, rfl, Nat.le_refl _, by decide, fun j u hj => ?_⟩⟩
  rw [Nat.zero_add]
  exact (RowAt.new w _ _).cell (by simpa using hj)
theorem put_laid (z : Array Value) (hz : z.size = 65) (k : Int) (s : Sec) : setAllA (z.setIfInBounds 0 (.int .i64 k)) 1 (secC s) = (putC (k, s)).toArray := by
  have h64 := secC_len s
  have h65 := putArr (k, s)
  refine Array.ext_getElem? fun i => ?_
  rw [setAllA_get _ _ _ _ (by rw [Array.size_setIfInBounds]; omega)]
  by_cases hi : i = 0
  · subst hi
    rw [if_neg (by omega), Array.getElem?_setIfInBounds_self_of_lt (by omega)]; rfl
  · by_cases h2 : i < 65
    · rw [if_pos (by omega)]
      obtain ⟨j, rfl⟩ : ∃ j, i = j + 1 := ⟨i - 1, by omega⟩
      simp
    · rw [if_neg (by omega), Array.getElem?_eq_none (by rw [Array.size_setIfInBounds]; omega), Array.getElem?_eq_none (by omega)]
theorem put_fill (k : Int) (s : Sec) : Instr.fill (fun x => (#[(0, 1), (1, 64)] : Array (Nat × Nat))[x]?) (putC (0, zsec)).toArray [(0, .int .i64 k), (1, secV s)] = some (putC (k, s)).toArray := by
  rw [fill_part (off := 0) (size := 1) rfl rfl (by rw [putArr]; decide), fill_part (off := 1) (size := 64) (v := secV s) rfl (secArr s) (by rw [setAllA_size, putArr]; decide)]
  rw [show ((Value.int IntKind.i64 k).cells.toList) = [.int .i64 k] from rfl, show (secV s).cells.toList = secC s from rfl]
  rw [Instr.fill]
  exact congrArg some (put_laid (putC (0, zsec)).toArray (putArr _) k s)
theorem put_built (k : Int) (s : Sec) : Program.built Try.prog 78 [(0, .int .i64 k), (1, secV s)] = some (putC (k, s)).toArray := by
  have h : ∃ it fs, Try.prog.info? 78 = some it ∧ Try.prog.underlying 78 = some (.struct fs) ∧ it.zero = some (putV (0, zsec)) ∧ fs.toList.mapM (fun f => (Try.prog.info? f.type).map fun i => (f.offset, i.size)) = some [(0, 1), (1, 64)] := by
    obtain ⟨it, hi, hz, _⟩ := info_parts (show (Try.prog.info? 78).map (fun i => (i.zero, i.size, i.bytes)) = some (some (putV (0, zsec)), 65, 72) by kernel_rfl)
    exact ⟨it, _, hi, Try.underlying78, hz, by kernel_rfl⟩
  obtain ⟨it, fs, h1, h2, h3, h4⟩ := h
  unfold Program.built
  rw [h1, h2]
  simp only [h3, h4]
  exact put_fill k s
theorem put_filled (k : Int) (s : Sec) : Instr.fill (fun i => some (i * 65, 65)) ((Array.range (1 * 65)).map ((putV (0, zsec)).cells[· % (putV (0, zsec)).cells.size]!)) [(0, putV (k, s))] = some (putC (k, s)).toArray := by
  rw [fill_part (off := 0 * 65) (size := 65) (v := putV (k, s)) rfl (putArr (k, s)) (by simp)]
  rw [Instr.fill]
  refine congrArg some (setAllA_all _ _ ?_)
  rw [Array.size_map, Array.size_range]
  exact putC_len _

set_option maxRecDepth 100000 in
theorem dWriteAsk {B M A P S n c : Nat} {a : Option Addr} {u : Value} {d : Disk} (k : Int) (w : World) (h : DiskAt w B M u d) (ha : w.cell? ⟨A, 0, none⟩ = some (.int .i64 k)) (hp : w.cell? ⟨P, 0, none⟩ = some (.pointer (some ⟨B, 0, none⟩))) (hs : w.cell? ⟨S, 0, none⟩ = some (.slice a n c)) (T : TypeId) :
    Calls Try.prog 26 #[.slice (some ⟨w.heap.size, 0, none⟩) 4 4] (w.alloc (.cells #[.func (.func 35) #[.pointer (some ⟨B, 0, none⟩)] #[], .int .i64 1, .func (.func 28) #[] #[.pointer (some ⟨S, 0, none⟩)], .int .i64 2, .func (.func 29) #[] #[.pointer (some ⟨A, 0, none⟩), .pointer (some ⟨P, 0, none⟩)], .int .i64 4, .func (.func 30) #[] #[.pointer (some ⟨P, 0, none⟩)], .int .i64 190] T)) (Ret (.int .i64 (askF [⟨35, #[.pointer (some ⟨B, 0, none⟩)], #[], 1, false⟩, ⟨28, #[], #[.pointer (some ⟨S, 0, none⟩)], 2, decide (n ≠ 64)⟩, ⟨29, #[], #[.pointer (some ⟨A, 0, none⟩), .pointer (some ⟨P, 0, none⟩)], 4, offB k d.many⟩, ⟨30, #[], #[.pointer (some ⟨P, 0, none⟩)], 190, decide (d.left = 0)⟩])) (w.alloc (.cells #[.func (.func 35) #[.pointer (some ⟨B, 0, none⟩)] #[], .int .i64 1, .func (.func 28) #[] #[.pointer (some ⟨S, 0, none⟩)], .int .i64 2, .func (.func 29) #[] #[.pointer (some ⟨A, 0, none⟩), .pointer (some ⟨P, 0, none⟩)], .int .i64 4, .func (.func 30) #[] #[.pointer (some ⟨P, 0, none⟩)], .int .i64 190] T))) := by
  have hb := below_alloc w (.cells #[.func (.func 35) #[.pointer (some ⟨B, 0, none⟩)] #[], .int .i64 1, .func (.func 28) #[] #[.pointer (some ⟨S, 0, none⟩)], .int .i64 2, .func (.func 29) #[] #[.pointer (some ⟨A, 0, none⟩), .pointer (some ⟨P, 0, none⟩)], .int .i64 4, .func (.func 30) #[] #[.pointer (some ⟨P, 0, none⟩)], .int .i64 190] T)
  have hc := RowAt.new w #[.func (.func 35) #[.pointer (some ⟨B, 0, none⟩)] #[], .int .i64 1, .func (.func 28) #[] #[.pointer (some ⟨S, 0, none⟩)], .int .i64 2, .func (.func 29) #[] #[.pointer (some ⟨A, 0, none⟩), .pointer (some ⟨P, 0, none⟩)], .int .i64 4, .func (.func 30) #[] #[.pointer (some ⟨P, 0, none⟩)], .int .i64 190] T
  have hsl : Sl (w.alloc (.cells #[.func (.func 35) #[.pointer (some ⟨B, 0, none⟩)] #[], .int .i64 1, .func (.func 28) #[] #[.pointer (some ⟨S, 0, none⟩)], .int .i64 2, .func (.func 29) #[] #[.pointer (some ⟨A, 0, none⟩), .pointer (some ⟨P, 0, none⟩)], .int .i64 4, .func (.func 30) #[] #[.pointer (some ⟨P, 0, none⟩)], .int .i64 190] T)) 2 (.slice (some ⟨w.heap.size, 0, none⟩) 4 4) 4 (List.flatMap askC [⟨35, #[.pointer (some ⟨B, 0, none⟩)], #[], 1, false⟩, ⟨28, #[], #[.pointer (some ⟨S, 0, none⟩)], 2, decide (n ≠ 64)⟩, ⟨29, #[], #[.pointer (some ⟨A, 0, none⟩), .pointer (some ⟨P, 0, none⟩)], 4, offB k d.many⟩, ⟨30, #[], #[.pointer (some ⟨P, 0, none⟩)], 190, decide (d.left = 0)⟩]) := by
    refine ⟨by simp, .inr ⟨w.heap.size, 0, 4, rfl, by decide, by decide, fun j v hj => ?_⟩⟩
    rw [Nat.zero_add]
    exact hc.cell (by simpa using hj)
  exact dAsked_c [⟨35, #[.pointer (some ⟨B, 0, none⟩)], #[], 1, false⟩, ⟨28, #[], #[.pointer (some ⟨S, 0, none⟩)], 2, decide (n ≠ 64)⟩, ⟨29, #[], #[.pointer (some ⟨A, 0, none⟩), .pointer (some ⟨P, 0, none⟩)], 4, offB k d.many⟩, ⟨30, #[], #[.pointer (some ⟨P, 0, none⟩)], 190, decide (d.left = 0)⟩] _ 4 _ hsl
    (by intro a ha; simp only [List.mem_cons, List.not_mem_nil, or_false] at ha; rcases ha with rfl | rfl | rfl | rfl; exact dEnters_none; exact dEnters_w1; exact dEnters_w2; exact dEnters_w3)
    (by
      intro a ha' w1 hb1
      have hB := below_up hb hb1
      have V := h.below hB
      simp only [List.mem_cons, List.not_mem_nil, or_false] at ha'
      rcases ha' with rfl | rfl | rfl | rfl
      · exact (Calls.cast rfl (dNone_c w1 V)).mono fun en w' ⟨he, hw'⟩ => ⟨he, hw' ▸ Below.refl _ _⟩
      · exact Calls.cast rfl (dW1_c w1 (cell_up hB hs))
      · exact Calls.cast rfl (dW2_c k d.many w1 (cell_up hB ha) (cell_up hB hp) (V.var.cell (i := 1) rfl))
      · exact Calls.cast rfl (dW3_c d.left w1 (cell_up hB hp) (V.var.cell (i := 0) rfl)))
/-- What a write answers. -/
def Dk.writeE (d : Disk) (k : Int) (n : Nat) : Int := if n ≠ 64 then 2 else if offB k d.many = true then 4 else if d.left = 0 then 190 else 0
theorem Dk.writeE_ask (d : Disk) (k : Int) (n : Nat) (g1 g2 g3 g4 : FuncId) (a1 a2 a3 a4 b1 b2 b3 b4 : Array Value) : askF [⟨g1, a1, b1, 1, false⟩, ⟨g2, a2, b2, 2, decide (n ≠ 64)⟩, ⟨g3, a3, b3, 4, offB k d.many⟩, ⟨g4, a4, b4, 190, decide (d.left = 0)⟩] = writeE d k n := by
  unfold askF writeE
  by_cases h0 : n = 64 <;> cases h1 : offB k d.many <;> by_cases h2 : d.left = 0 <;> simp [List.find?, h0, h2]

set_option maxHeartbeats 2000000 in
set_option maxRecDepth 100000 in
theorem dWriteBad_c {B M n c : Nat} {a : Option Addr} {u : Value} {d : Disk} (k : Int) (w : World) (h : DiskAt w B M u d) (he : ¬ writeE d k n = 0) : Calls Try.prog 9 #[.pointer (some ⟨B, 0, none⟩), .int .i64 k, .slice a n c] w (Ret (.int .i64 (writeE d k n)) w) := by
  have hmf : ∀ (fn : Fn) (first cap : Array Value) (w : World), (Instr.makeFunc fn first cap).run Try.prog w = .ok (.func fn first cap) w := fun _ _ _ _ => rfl
  have hB2 : Below w.heap.size w (((w.alloc (.cells #[.pointer (some ⟨B, 0, none⟩)] 25)).alloc (.cells #[.int .i64 k] 3)).alloc (.cells #[.slice a n c] 33)) := ((below_alloc w _).alloc (by simp) _).alloc (by simp; omega) _
  have hp : (((w.alloc (.cells #[.pointer (some ⟨B, 0, none⟩)] 25)).alloc (.cells #[.int .i64 k] 3)).alloc (.cells #[.slice a n c] 33)).cell? ⟨w.heap.size, 0, none⟩ = some (.pointer (some ⟨B, 0, none⟩)) := cell_up (below_alloc _ _) (cell_up (below_alloc _ _) (cell_new w _ _))
  have ha : (((w.alloc (.cells #[.pointer (some ⟨B, 0, none⟩)] 25)).alloc (.cells #[.int .i64 k] 3)).alloc (.cells #[.slice a n c] 33)).cell? ⟨w.heap.size + 1, 0, none⟩ = some (.int .i64 k) := by
    have := cell_up (below_alloc _ (.cells #[.slice a n c] 33)) (cell_new (w.alloc (.cells #[.pointer (some ⟨B, 0, none⟩)] 25)) (.int .i64 k) 3)
    rwa [World.size_alloc] at this
  have hs : (((w.alloc (.cells #[.pointer (some ⟨B, 0, none⟩)] 25)).alloc (.cells #[.int .i64 k] 3)).alloc (.cells #[.slice a n c] 33)).cell? ⟨w.heap.size + 1 + 1, 0, none⟩ = some (.slice a n c) := by
    have := cell_new ((w.alloc (.cells #[.pointer (some ⟨B, 0, none⟩)] 25)).alloc (.cells #[.int .i64 k] 3)) (.slice a n c) 33
    rwa [World.size_alloc, World.size_alloc] at this
  have V := h.below hB2
  have HO : (writeE d k n == 0) = false := by simpa using he
  generalize hE : writeE d k n = E at *
  have HE := Lib.hid hE
  clear hE he
  go_enter Try.func9, Try.ntmps9
  go_wp2_with (first
    | (go_at_call 27; refine (dIs_c _ _).mono ?_; rintro en w1 ⟨rfl, hb1⟩; have hask := dWriteAsk k w1 (V.below hb1) (cell_up hb1 ha) (cell_up hb1 hp) (cell_up hb1 hs) 73; rw [writeE_ask, HE.out] at hask)
    | (go_at_call 26; refine hask.mono ?_; rintro en w2 ⟨rfl, hb2⟩))
  go_ret
  exact ⟨rfl, below_up (below_up hB2 hb1) (below_up (below_alloc w1 _) hb2)⟩

theorem DiskAt.keys_wf {w : World} {B M : Nat} {u : Value} {d : Disk} (h : DiskAt w B M u d) : ∀ p ∈ d.W, (Lit.int .i64 p.1).wf = true := h.keys
set_option maxHeartbeats 4000000 in
set_option maxRecDepth 100000 in
theorem dWrite_c {B M c : Nat} {a : Option Addr} {u : Value} {d : Disk} (hl : -1 ≤ d.left) (hl2 : d.left ≤ 9223372036854775807) (hn : d.W.length ≤ 1000000) (k : Int) (s : Sec) (hk : (Lit.int .i64 k).wf = true) (w : World) (h : DiskAt w B M u d) (hb : Sl w 1 (.slice a 64 c) 64 (secC s)) (he : writeE d k 64 = 0) :
    Calls Try.prog 9 #[.pointer (some ⟨B, 0, none⟩), .int .i64 k, .slice a 64 c] w fun en w' => en = .returned (.int .i64 0) ∧ (∃ u', DiskAt w' B M u' ⟨doneF d.left, d.many, d.E, d.W ++ [(k, s)]⟩) ∧ But (· = B) w w' := by
  have hBl := h.var.lt
  have hMl := h.map.lt
  have hne := h.ne
  obtain ⟨bb, off, rfl, hsb⟩ : ∃ bb off, a = some ⟨bb, off, none⟩ ∧ ∀ j v, (secC s)[j]? = some v → w.cell? ⟨bb, off + j, none⟩ = some v := by
    rcases hb.2 with ⟨_, _, _, h0⟩ | ⟨b, off, cap, h1, _, _, hc⟩
    · omega
    · simp only [Value.slice.injEq] at h1
      exact ⟨b, off, h1.1, hc⟩
  obtain ⟨left, many, E, W⟩ := d
  obtain ⟨au, cu, rfl⟩ := h.sl.len
  have HK := Lib.hid h.keys
  have HW := Lib.hid hk
  have HL := Lib.hid (And.intro hl hl2)
  obtain ⟨iP, hiP, hzP0, hsP, _⟩ := info_parts (show (Try.prog.info? 78).map (fun i => (i.zero, i.size, i.bytes)) = some (some (putV (0, zsec)), 65, 72) by kernel_rfl)
  have hzP : iP.zero = some (putV (0, zsec)) := hzP0
  have HP := Lib.hid (And.intro hiP (And.intro hzP hsP))
  clear hiP hzP0 hzP hsP
  have hat : ∀ w, (Instr.arrayAt 76 (.slice (some ⟨bb, off, none⟩) 64 c)).run Try.prog w = .ok (.pointer (some ⟨bb, off, none⟩)) w := fun w => run_arrayAt w _ _ 64 _ 64 c Try.underlying76 (Nat.le_refl _)
  have hmf : ∀ (fn : Fn) (first cap : Array Value) (w : World), (Instr.makeFunc fn first cap).run Try.prog w = .ok (.func fn first cap) w := fun _ _ _ _ => rfl
  have hB2 : Below w.heap.size w (((w.alloc (.cells #[.pointer (some ⟨B, 0, none⟩)] 25)).alloc (.cells #[.int .i64 k] 3)).alloc (.cells #[.slice (some ⟨bb, off, none⟩) 64 c] 33)) := ((below_alloc w _).alloc (by simp) _).alloc (by simp; omega) _
  have hp : (((w.alloc (.cells #[.pointer (some ⟨B, 0, none⟩)] 25)).alloc (.cells #[.int .i64 k] 3)).alloc (.cells #[.slice (some ⟨bb, off, none⟩) 64 c] 33)).cell? ⟨w.heap.size, 0, none⟩ = some (.pointer (some ⟨B, 0, none⟩)) := cell_up (below_alloc _ _) (cell_up (below_alloc _ _) (cell_new w _ _))
  have ha : (((w.alloc (.cells #[.pointer (some ⟨B, 0, none⟩)] 25)).alloc (.cells #[.int .i64 k] 3)).alloc (.cells #[.slice (some ⟨bb, off, none⟩) 64 c] 33)).cell? ⟨w.heap.size + 1, 0, none⟩ = some (.int .i64 k) := by
    have := cell_up (below_alloc _ (.cells #[.slice (some ⟨bb, off, none⟩) 64 c] 33)) (cell_new (w.alloc (.cells #[.pointer (some ⟨B, 0, none⟩)] 25)) (.int .i64 k) 3)
    rwa [World.size_alloc] at this
  have hs : (((w.alloc (.cells #[.pointer (some ⟨B, 0, none⟩)] 25)).alloc (.cells #[.int .i64 k] 3)).alloc (.cells #[.slice (some ⟨bb, off, none⟩) 64 c] 33)).cell? ⟨w.heap.size + 1 + 1, 0, none⟩ = some (.slice (some ⟨bb, off, none⟩) 64 c) := by
    have := cell_new ((w.alloc (.cells #[.pointer (some ⟨B, 0, none⟩)] 25)).alloc (.cells #[.int .i64 k] 3)) (.slice (some ⟨bb, off, none⟩) 64 c) 33
    rwa [World.size_alloc, World.size_alloc] at this
  have V := h.below hB2
  have HE := Lib.hid he
  have HPP := Lib.hid hp
  have HA := Lib.hid ha
  have HS := Lib.hid hs
  have VV := Lib.hid V
  clear h hb hl hl2 hk hp ha hs V he
  go_enter Try.func9, Try.ntmps9
  go_wp2_with (first
    | (go_at_call 27; refine (dIs_c _ _).mono ?_; rintro en w1 ⟨rfl, hb1⟩; have hask := dWriteAsk k w1 (VV.out.below hb1) (cell_up hb1 HA.out) (cell_up hb1 HPP.out) (cell_up hb1 HS.out) 73; rw [writeE_ask, HE.out] at hask)
    | (go_at_call 26; refine hask.mono ?_; rintro en w2 ⟨rfl, hb2⟩))
  have hb3 := below_up hb1 (below_up (below_alloc w1 _) hb2)
  have HB := Lib.hid (below_up hB2 hb3)
  have kd := cell_up hb3 HPP.out
  have kk := cell_up hb3 HA.out
  have ks := cell_up hb3 HS.out
  have V0 := Lib.hid (VV.out.below hb3)
  have hz2 := HB.out.size
  clear hask hb1 hb2 hb3
  obtain ⟨hiP, hzP, hsP⟩ := HP.out
  refine wp_region_pz (fun _ => False) 25 (.q 0 (.q 1 (.q 2 (.q 3 (.q 4 (.q 5 (.q 6 (.q 7 (.q 8 (.q 9 (.q 10 (.q 11 (.q 12 (.q 13 (.q 14 (.q 15 (.q 16 (.q 17 (.q 18 (.q 19 (.q 20 (.c 21 (.c 22 (.c 23 (.q 24 .done))))))))))))))))))))))))) (by kernel_rfl) (by kernel_rfl) (by kernel_rfl) (by decide) (fun _ _ d _ _ h => by cases d <;> exact h) (fun Wd hBd => ?_)
  try simp only [Act.put, List.getElem_toArray, List.getElem_cons_zero, List.getElem_cons_succ, List.setIfInBounds_toArray, List.set_cons_zero, List.set_cons_succ]
  have V2 := V0.out.below hBd
  have qd := cell_up hBd kd
  have qk := cell_up hBd kk
  have qs := cell_up hBd ks
  have qw := V2.var.cell (i := 3) rfl
  have hzd := hBd.size
  obtain ⟨a1, hs1, sl1⟩ := cut_hm slPut V2.sl W.length (Nat.le_refl _)
  rw [← putC_flat_len W, List.take_length] at sl1
  have hrg : Wd.rangeAt bb off (secC s) := fun j v hj => cell_up (below_up HB.out hBd) (hsb j v hj)
  refine pt_q (v := ?_) rfl (by rfl) ?_ ?_
  rotate_left
  · intro w' hBw'
    have p0 := hBw'.cell qd (fun h => h)
    have p1 := hBw'.cell qk (fun h => h)
    have p2 := hBw'.cell qs (fun h => h)
    have p3 := hBw'.cell qw (fun h => h)
    first | (go_simp; done) | (go_simp; with_reducible rfl)
  try simp only [Act.put, List.getElem_toArray, List.getElem_cons_zero, List.getElem_cons_succ, List.setIfInBounds_toArray, List.set_cons_zero, List.set_cons_succ]
  refine pt_q (v := ?_) rfl (by rfl) ?_ ?_
  rotate_left
  · intro w' hBw'
    have p0 := hBw'.cell qd (fun h => h)
    have p1 := hBw'.cell qk (fun h => h)
    have p2 := hBw'.cell qs (fun h => h)
    have p3 := hBw'.cell qw (fun h => h)
    first | (go_simp; done) | (go_simp; with_reducible rfl)
  try simp only [Act.put, List.getElem_toArray, List.getElem_cons_zero, List.getElem_cons_succ, List.setIfInBounds_toArray, List.set_cons_zero, List.set_cons_succ]
  refine pt_q (v := ?_) rfl (by rfl) ?_ ?_
  rotate_left
  · intro w' hBw'
    have p0 := hBw'.cell qd (fun h => h)
    have p1 := hBw'.cell qk (fun h => h)
    have p2 := hBw'.cell qs (fun h => h)
    have p3 := hBw'.cell qw (fun h => h)
    first | (go_simp; done) | (go_simp; with_reducible rfl)
  try simp only [Act.put, List.getElem_toArray, List.getElem_cons_zero, List.getElem_cons_succ, List.setIfInBounds_toArray, List.set_cons_zero, List.set_cons_succ]
  refine pt_q (v := ?_) rfl (by rfl) ?_ ?_
  rotate_left
  · intro w' hBw'
    have p0 := hBw'.cell qd (fun h => h)
    have p1 := hBw'.cell qk (fun h => h)
    have p2 := hBw'.cell qs (fun h => h)
    have p3 := hBw'.cell qw (fun h => h)
    first | (go_simp; done) | (go_simp; with_reducible rfl)
  try simp only [Act.put, List.getElem_toArray, List.getElem_cons_zero, List.getElem_cons_succ, List.setIfInBounds_toArray, List.set_cons_zero, List.set_cons_succ]
  refine pt_q (v := ?_) rfl (by rfl) ?_ ?_
  rotate_left
  · intro w' hBw'
    have p0 := hBw'.cell qd (fun h => h)
    have p1 := hBw'.cell qk (fun h => h)
    have p2 := hBw'.cell qs (fun h => h)
    have p3 := hBw'.cell qw (fun h => h)
    first | (go_simp; done) | (go_simp; with_reducible rfl)
  try simp only [Act.put, List.getElem_toArray, List.getElem_cons_zero, List.getElem_cons_succ, List.setIfInBounds_toArray, List.set_cons_zero, List.set_cons_succ]
  refine pt_q (v := ?_) rfl (by rfl) ?_ ?_
  rotate_left
  · intro w' hBw'
    have p0 := hBw'.cell qd (fun h => h)
    have p1 := hBw'.cell qk (fun h => h)
    have p2 := hBw'.cell qs (fun h => h)
    have p3 := hBw'.cell qw (fun h => h)
    first | (go_simp; done) | (go_simp; with_reducible rfl)
  try simp only [Act.put, List.getElem_toArray, List.getElem_cons_zero, List.getElem_cons_succ, List.setIfInBounds_toArray, List.set_cons_zero, List.set_cons_succ]
  refine pt_q (v := ?_) rfl (by rfl) ?_ ?_
  rotate_left
  · intro w' hBw'
    have p0 := hBw'.cell qd (fun h => h)
    have p1 := hBw'.cell qk (fun h => h)
    have p2 := hBw'.cell qs (fun h => h)
    have p3 := hBw'.cell qw (fun h => h)
    first | (go_simp; done) | (go_simp; with_reducible rfl)
  try simp only [Act.put, List.getElem_toArray, List.getElem_cons_zero, List.getElem_cons_succ, List.setIfInBounds_toArray, List.set_cons_zero, List.set_cons_succ]
  refine pt_q (v := ?_) rfl (by rfl) ?_ ?_
  rotate_left
  · intro w' hBw'
    have p0 := hBw'.cell qd (fun h => h)
    have p1 := hBw'.cell qk (fun h => h)
    have p2 := hBw'.cell qs (fun h => h)
    have p3 := hBw'.cell qw (fun h => h)
    first | (go_simp; done) | (go_simp; with_reducible rfl)
  try simp only [Act.put, List.getElem_toArray, List.getElem_cons_zero, List.getElem_cons_succ, List.setIfInBounds_toArray, List.set_cons_zero, List.set_cons_succ]
  refine pt_q (v := ?_) rfl (by rfl) ?_ ?_
  rotate_left
  · intro w' hBw'
    have p0 := hBw'.cell qd (fun h => h)
    have p1 := hBw'.cell qk (fun h => h)
    have p2 := hBw'.cell qs (fun h => h)
    have p3 := hBw'.cell qw (fun h => h)
    first | (go_simp; done) | (go_simp; with_reducible rfl)
  try simp only [Act.put, List.getElem_toArray, List.getElem_cons_zero, List.getElem_cons_succ, List.setIfInBounds_toArray, List.set_cons_zero, List.set_cons_succ]
  refine pt_q (v := ?_) rfl (by rfl) ?_ ?_
  rotate_left
  · intro w' hBw'
    have p0 := hBw'.cell qd (fun h => h)
    have p1 := hBw'.cell qk (fun h => h)
    have p2 := hBw'.cell qs (fun h => h)
    have p3 := hBw'.cell qw (fun h => h)
    first | (go_simp; done) | (go_simp; with_reducible rfl)
  try simp only [Act.put, List.getElem_toArray, List.getElem_cons_zero, List.getElem_cons_succ, List.setIfInBounds_toArray, List.set_cons_zero, List.set_cons_succ]
  refine pt_q (v := ?_) rfl (by rfl) ?_ ?_
  rotate_left
  · intro w' hBw'
    have p0 := hBw'.cell qd (fun h => h)
    have p1 := hBw'.cell qk (fun h => h)
    have p2 := hBw'.cell qs (fun h => h)
    have p3 := hBw'.cell qw (fun h => h)
    first | (go_simp; done) | (go_simp; with_reducible rfl)
  try simp only [Act.put, List.getElem_toArray, List.getElem_cons_zero, List.getElem_cons_succ, List.setIfInBounds_toArray, List.set_cons_zero, List.set_cons_succ]
  refine pt_q (v := ?_) rfl (by rfl) ?_ ?_
  rotate_left
  · intro w' hBw'
    have p0 := hBw'.cell qd (fun h => h)
    have p1 := hBw'.cell qk (fun h => h)
    have p2 := hBw'.cell qs (fun h => h)
    have p3 := hBw'.cell qw (fun h => h)
    first | (go_simp; done) | (go_simp; with_reducible rfl)
  try simp only [Act.put, List.getElem_toArray, List.getElem_cons_zero, List.getElem_cons_succ, List.setIfInBounds_toArray, List.set_cons_zero, List.set_cons_succ]
  refine pt_q (v := ?_) rfl (by rfl) ?_ ?_
  rotate_left
  · intro w' hBw'
    have p0 := hBw'.cell qd (fun h => h)
    have p1 := hBw'.cell qk (fun h => h)
    have p2 := hBw'.cell qs (fun h => h)
    have p3 := hBw'.cell qw (fun h => h)
    first | (go_simp; done) | (go_simp; with_reducible rfl)
  try simp only [Act.put, List.getElem_toArray, List.getElem_cons_zero, List.getElem_cons_succ, List.setIfInBounds_toArray, List.set_cons_zero, List.set_cons_succ]
  refine pt_q (v := ?_) rfl (by rfl) ?_ ?_
  rotate_left
  · intro w' hBw'
    have p0 := hBw'.cell qd (fun h => h)
    have p1 := hBw'.cell qk (fun h => h)
    have p2 := hBw'.cell qs (fun h => h)
    have p3 := hBw'.cell qw (fun h => h)
    first | (go_simp; done) | (go_simp; with_reducible rfl)
  try simp only [Act.put, List.getElem_toArray, List.getElem_cons_zero, List.getElem_cons_succ, List.setIfInBounds_toArray, List.set_cons_zero, List.set_cons_succ]
  refine pt_q (v := ?_) rfl (by rfl) ?_ ?_
  rotate_left
  · intro w' hBw'
    have p0 := hBw'.cell qd (fun h => h)
    have p1 := hBw'.cell qk (fun h => h)
    have p2 := hBw'.cell qs (fun h => h)
    have p3 := hBw'.cell qw (fun h => h)
    first | (go_simp; done) | (go_simp; with_reducible rfl)
  try simp only [Act.put, List.getElem_toArray, List.getElem_cons_zero, List.getElem_cons_succ, List.setIfInBounds_toArray, List.set_cons_zero, List.set_cons_succ]
  refine pt_q (v := ?_) rfl (by rfl) ?_ ?_
  rotate_left
  · intro w' hBw'
    have p0 := hBw'.cell qd (fun h => h)
    have p1 := hBw'.cell qk (fun h => h)
    have p2 := hBw'.cell qs (fun h => h)
    have p3 := hBw'.cell qw (fun h => h)
    first | (go_simp; done) | (go_simp; with_reducible rfl)
  try simp only [Act.put, List.getElem_toArray, List.getElem_cons_zero, List.getElem_cons_succ, List.setIfInBounds_toArray, List.set_cons_zero, List.set_cons_succ]
  refine pt_q (v := ?_) rfl (by rfl) ?_ ?_
  rotate_left
  · intro w' hBw'
    have p0 := hBw'.cell qd (fun h => h)
    have p1 := hBw'.cell qk (fun h => h)
    have p2 := hBw'.cell qs (fun h => h)
    have p3 := hBw'.cell qw (fun h => h)
    first | (go_simp; done) | (go_simp; with_reducible rfl)
  try simp only [Act.put, List.getElem_toArray, List.getElem_cons_zero, List.getElem_cons_succ, List.setIfInBounds_toArray, List.set_cons_zero, List.set_cons_succ]
  refine pt_q (v := ?_) rfl (by rfl) ?_ ?_
  rotate_left
  · intro w' hBw'
    have p0 := hBw'.cell qd (fun h => h)
    have p1 := hBw'.cell qk (fun h => h)
    have p2 := hBw'.cell qs (fun h => h)
    have p3 := hBw'.cell qw (fun h => h)
    first | (go_simp; done) | (go_simp; with_reducible rfl)
  try simp only [Act.put, List.getElem_toArray, List.getElem_cons_zero, List.getElem_cons_succ, List.setIfInBounds_toArray, List.set_cons_zero, List.set_cons_succ]
  refine pt_q (v := ?_) rfl (by rfl) ?_ ?_
  rotate_left
  · intro w' hBw'
    have p0 := hBw'.cell qd (fun h => h)
    have p1 := hBw'.cell qk (fun h => h)
    have p2 := hBw'.cell qs (fun h => h)
    have p3 := hBw'.cell qw (fun h => h)
    first | (go_simp; done) | (go_simp; with_reducible rfl)
  try simp only [Act.put, List.getElem_toArray, List.getElem_cons_zero, List.getElem_cons_succ, List.setIfInBounds_toArray, List.set_cons_zero, List.set_cons_succ]
  refine pt_load rfl (by rfl) 76 (.tmp 38) rfl bb off rfl (secC s) _ hrg (fun h => h) Try.underlying76 rfl (sec_info _) ?_
  try simp only [Act.put, List.getElem_toArray, List.getElem_cons_zero, List.getElem_cons_succ, List.setIfInBounds_toArray, List.set_cons_zero, List.set_cons_succ]
  refine pt_q (v := putV (k, s)) rfl (by rfl) (fun w' _ => exec_build 78 #[(0, .tmp 36), (1, .tmp 39)] rfl [(0, .int .i64 k), (1, secV s)] _ rfl (put_built k s)) ?_
  try simp only [Act.put, List.getElem_toArray, List.getElem_cons_zero, List.getElem_cons_succ, List.setIfInBounds_toArray, List.set_cons_zero, List.set_cons_succ]
  refine pt_c ?_
  refine pt_buildSlice rfl (by rfl) 68 78 1 #[(0, .tmp 40)] rfl (putC (k, s)).toArray iP _ Try.underlying68 hiP hzP (by rw [hsP]; decide) (by rw [hsP]; decide) [(0, putV (k, s))] rfl (by rw [hsP]; exact put_filled k s) ?_
  try simp only [Act.put, List.getElem_toArray, List.getElem_cons_zero, List.getElem_cons_succ, List.setIfInBounds_toArray, List.set_cons_zero, List.set_cons_succ]
  refine pt_c ?_
  refine pt_app_grows rfl (by rfl) (.tmp 35) (.tmp 41) 68 rfl slPut rfl (sl1.up (below_alloc _ _)) ⟨_, rfl⟩ rfl (sl_new1 Wd k s) (fun u hu => one_put (k, s) u hu) (by decide) (by simp only [maxLen]; omega) (by omega) (fun v1 wA hown hbA => ?_)
  try simp only [Act.put, List.getElem_toArray, List.getElem_cons_zero, List.getElem_cons_succ, List.setIfInBounds_toArray, List.set_cons_zero, List.set_cons_succ]
  obtain ⟨av, cv, rfl⟩ := own_slice hown
  have hBA := Lib.hid (below_up (below_alloc Wd _) hbA)
  have qA := cell_up hBA.out qd
  have VA := V2.below hBA.out
  have fA := VA.var.fz 3
  have cA := VA.var.cell (i := 3) rfl
  refine pt_c ?_
  refine pt_step rfl (by rfl) (fun K hK => ?_)
  go_simp
  refine hK.out _ _ (But.refl _ _) ?_
  clear hK K
  try simp only [Act.put, List.getElem_toArray, List.getElem_cons_zero, List.getElem_cons_succ, List.setIfInBounds_toArray, List.set_cons_zero, List.set_cons_succ]
  refine pt_q (v := ?_) rfl (by rfl) ?_ ?_
  rotate_left
  · intro w' hBw'
    have p0 := hBw'.cell qA (fun h => h)
    first | (go_simp; done) | (go_simp; with_reducible rfl)
  try simp only [Act.put, List.getElem_toArray, List.getElem_cons_zero, List.getElem_cons_succ, List.setIfInBounds_toArray, List.set_cons_zero, List.set_cons_succ]
  refine pz_last rfl (by rfl) (fun K hK => ?_)
  go_simp
  refine hK.out _ _ ?_
  clear hK K
  try simp only [Act.put, List.getElem_toArray, List.getElem_cons_zero, List.getElem_cons_succ, List.setIfInBounds_toArray, List.set_cons_zero, List.set_cons_succ]
  have hr3 := VA.var.set 3 (.slice av (W.length + 1) cv)
  have hb3 : But (· = B) wA (wA.setCell ⟨B, 3, none⟩ (.slice av (W.length + 1) cv)) := But.setCell _ _ _ (.inl rfl)
  have hsl : Sl wA 65 (.slice av (W.length + 1) cv) (W.length + 1) ((W ++ [(k, s)]).flatMap putC) := by
    have := Sl.of_own hown
    rwa [List.flatMap_append, List.flatMap_singleton]
  have hnb : ∀ j, (Value.slice av (W.length + 1) cv).ownBlock = some j → j ≠ B := fun j hj e => by
    have := (own_of_some hown hj).1
    simp only [World.size_alloc] at this
    omega
  have V3 := VA.setWaits hr3 hb3 (W ++ [(k, s)]) (by rw [List.length_append]; exact hsl.but hb3 (.inr fun j hj e => hnb j hj e)) (fun p hp => by
    rcases List.mem_append.1 hp with hp | hp
    · exact HK.out p hp
    · obtain rfl : p = (k, s) := by simpa using hp
      exact HW.out)
  have q3 := hb3.cell qA (by omega)
  have HBA := Lib.hid (below_up HB.out (below_up hBd hBA.out))
  clear fA qA cA
  go_wp2_with (go_at_call 32; refine (dDone_c left HL.out.1 HL.out.2 _ V3.var).mono ?_; rintro en w6 ⟨rfl, hr6, hb6⟩)
  go_ret
  exact ⟨rfl, ⟨_, V3.setLeft _ hr6 hb6⟩, (But.of_below HBA.out).trans (hb3.trans hb6)⟩
end Go.Proofs.Ytekpjbablcoahaa
