/-
  DiskZD, DiskZE: several texts in one (merge.py).
-/
import Derived.Test.YtekpjbablcoahaaDiskZC
namespace Go.Proofs.Ytekpjbablcoahaa
open Go.RowKit Go.Maps Dk
set_option linter.unusedSimpArgs false
set_option linter.unusedVariables false

/-- No disk: of none, or a zero one. -/
def DVoid (w : World) (p : Option Addr) : Prop := p = none ∨ ∃ B, p = some ⟨B, 0, none⟩ ∧ w.cell? ⟨B, 2, none⟩ = some (.map none)
theorem DVoid.up {w w' : World} {p : Option Addr} (h : DVoid w p) (hb : Below w.heap.size w w') : DVoid w' p := h.imp id fun ⟨B, h1, h2⟩ => ⟨B, h1, cell_up hb h2⟩
theorem vNone_c (p : Option Addr) (w : World) (h : DVoid w p) : Calls Try.prog 35 #[.pointer p] w fun en w' => en = .returned (.bool true) ∧ w = w' := by
  rcases h with rfl | ⟨B, rfl, hc⟩
  · exact dNoneNil_c w
  · exact dNoneZ_c w hc
theorem vAsk (p : Option Addr) (rest : List Qn) (hn : rest.length ≤ 10) (w : World) (h : DVoid w p) (T : TypeId) : Calls Try.prog 26 #[.slice (some ⟨w.heap.size, 0, none⟩) (rest.length + 1) (rest.length + 1)] (w.alloc (.cells (((⟨35, #[.pointer p], #[], 1, true⟩ : Qn) :: rest).flatMap askC).toArray T))
    (Ret (.int .i64 1) (w.alloc (.cells (((⟨35, #[.pointer p], #[], 1, true⟩ : Qn) :: rest).flatMap askC).toArray T))) := by
  have hl : (((⟨35, #[.pointer p], #[], 1, true⟩ : Qn) :: rest).flatMap askC).length = (rest.length + 1) * 2 := by rw [rec_len (sz := 2) (fun _ => rfl)]; rfl
  refine dAskedF_c ⟨35, #[.pointer p], #[], 1, true⟩ rest _ (rest.length + 1) _ ⟨hl, .inr ⟨_, 0, rest.length + 1, rfl, Nat.le_refl _, by simp only [maxLen]; omega, fun j u hj => ?_⟩⟩ rfl dEnters_none (fun w1 hb1 => ?_)
  · rw [Nat.zero_add]
    exact (RowAt.new w _ _).cell (by simpa using hj)
  · exact (Calls.cast rfl (vNone_c p w1 (h.up (below_up (below_alloc w _) hb1)))).mono fun en w' ⟨he, hw'⟩ => ⟨he, hw' ▸ Below.refl _ _⟩
theorem vToldAsk (p : Option Addr) (A P : Nat) (w : World) (h : DVoid w p) (T : TypeId) : Calls Try.prog 26 #[.slice (some ⟨w.heap.size, 0, none⟩) 2 2] (w.alloc (.cells #[.func (.func 35) #[.pointer p] #[], .int .i64 1, .func (.func 53) #[] #[.pointer (some ⟨A, 0, none⟩), .pointer (some ⟨P, 0, none⟩)], .int .i64 4] T)) (Ret (.int .i64 1) (w.alloc (.cells #[.func (.func 35) #[.pointer p] #[], .int .i64 1, .func (.func 53) #[] #[.pointer (some ⟨A, 0, none⟩), .pointer (some ⟨P, 0, none⟩)], .int .i64 4] T))) :=
  vAsk p [⟨53, #[], #[.pointer (some ⟨A, 0, none⟩), .pointer (some ⟨P, 0, none⟩)], 4, false⟩] (by simp) w h T
theorem vSyncAsk (p : Option Addr) (P : Nat) (w : World) (h : DVoid w p) (T : TypeId) : Calls Try.prog 26 #[.slice (some ⟨w.heap.size, 0, none⟩) 2 2] (w.alloc (.cells #[.func (.func 35) #[.pointer p] #[], .int .i64 1, .func (.func 33) #[] #[.pointer (some ⟨P, 0, none⟩)], .int .i64 190] T)) (Ret (.int .i64 1) (w.alloc (.cells #[.func (.func 35) #[.pointer p] #[], .int .i64 1, .func (.func 33) #[] #[.pointer (some ⟨P, 0, none⟩)], .int .i64 190] T))) :=
  vAsk p [⟨33, #[], #[.pointer (some ⟨P, 0, none⟩)], 190, false⟩] (by simp) w h T
theorem vWriteAsk (p : Option Addr) (A P S : Nat) (w : World) (h : DVoid w p) (T : TypeId) : Calls Try.prog 26 #[.slice (some ⟨w.heap.size, 0, none⟩) 4 4] (w.alloc (.cells #[.func (.func 35) #[.pointer p] #[], .int .i64 1, .func (.func 28) #[] #[.pointer (some ⟨S, 0, none⟩)], .int .i64 2, .func (.func 29) #[] #[.pointer (some ⟨A, 0, none⟩), .pointer (some ⟨P, 0, none⟩)], .int .i64 4, .func (.func 30) #[] #[.pointer (some ⟨P, 0, none⟩)], .int .i64 190] T)) (Ret (.int .i64 1) (w.alloc (.cells #[.func (.func 35) #[.pointer p] #[], .int .i64 1, .func (.func 28) #[] #[.pointer (some ⟨S, 0, none⟩)], .int .i64 2, .func (.func 29) #[] #[.pointer (some ⟨A, 0, none⟩), .pointer (some ⟨P, 0, none⟩)], .int .i64 4, .func (.func 30) #[] #[.pointer (some ⟨P, 0, none⟩)], .int .i64 190] T))) :=
  vAsk p [⟨28, #[], #[.pointer (some ⟨S, 0, none⟩)], 2, false⟩, ⟨29, #[], #[.pointer (some ⟨A, 0, none⟩), .pointer (some ⟨P, 0, none⟩)], 4, false⟩, ⟨30, #[], #[.pointer (some ⟨P, 0, none⟩)], 190, false⟩] (by simp) w h T

set_option maxRecDepth 100000 in
theorem vTold_c (p : Option Addr) (k : Int) (f : Value) (w : World) (h : DVoid w p) : Calls Try.prog 40 #[.pointer p, .int .i64 k, f] w (Ret (.tuple #[.slice none 0 0, .int .i64 1]) w) := by
  have hmf : ∀ (fn : Fn) (first cap : Array Value) (w : World), (Instr.makeFunc fn first cap).run Try.prog w = .ok (.func fn first cap) w := fun _ _ _ _ => rfl
  have hB2 : Below w.heap.size w ((w.alloc (.cells #[.pointer p] 25)).alloc (.cells #[.int .i64 k] 3)) := (below_alloc w _).alloc (by simp) _
  have HV := Lib.hid (h.up hB2)
  clear h
  go_enter Try.func40, Try.ntmps40
  go_wp2_with (first
    | (go_at_call 27; refine (dIs_c _ _).mono ?_; rintro en w1 ⟨rfl, hb1⟩; have hask := vToldAsk p (w.heap.size + 1) w.heap.size w1 (HV.out.up hb1) 73)
    | (go_at_call 26; refine hask.mono ?_; rintro en w2 ⟨rfl, hb2⟩))
  exact bodyPost_ret (v := .tuple #[.slice none 0 0, .int .i64 1]) (by simp [results, Try.results40, go_sem]) rfl ⟨rfl, below_up (below_up hB2 hb1) (below_up (below_alloc w1 _) hb2)⟩
set_option maxRecDepth 100000 in
theorem vLies_c (p : Option Addr) (k : Int) (w : World) (h : DVoid w p) : Calls Try.prog 25 #[.pointer p, .int .i64 k] w (Ret (.tuple #[.slice none 0 0, .int .i64 1]) w) := by
  have hmf : ∀ (fn : Fn) (first cap : Array Value) (w : World), (Instr.makeFunc fn first cap).run Try.prog w = .ok (.func fn first cap) w := fun _ _ _ _ => rfl
  have hB2 : Below w.heap.size w ((w.alloc (.cells #[.pointer p] 25)).alloc (.cells #[.int .i64 k] 3)) := (below_alloc w _).alloc (by simp) _
  have ht := fun f => vTold_c p k f _ (h.up hB2)
  clear h
  go_enter Try.func25, Try.ntmps25
  go_wp2_with (go_at_call 40; refine (ht _).mono ?_; rintro en w3 ⟨rfl, hb⟩)
  exact bodyPost_ret (v := .tuple #[.slice none 0 0, .int .i64 1]) (by simp [results, Try.results25, go_sem]) rfl ⟨rfl, below_up hB2 hb⟩
set_option maxRecDepth 100000 in
theorem vRead_c (p : Option Addr) (k : Int) (w : World) (h : DVoid w p) : Calls Try.prog 16 #[.pointer p, .int .i64 k] w (Ret (.tuple #[.slice none 0 0, .int .i64 1]) w) := by
  have hmf : ∀ (fn : Fn) (first cap : Array Value) (w : World), (Instr.makeFunc fn first cap).run Try.prog w = .ok (.func fn first cap) w := fun _ _ _ _ => rfl
  have hB2 : Below w.heap.size w ((w.alloc (.cells #[.pointer p] 25)).alloc (.cells #[.int .i64 k] 3)) := (below_alloc w _).alloc (by simp) _
  have ht := fun f => vTold_c p k f _ (h.up hB2)
  clear h
  go_enter Try.func16, Try.ntmps16
  go_wp2_with (go_at_call 40; refine (ht _).mono ?_; rintro en w3 ⟨rfl, hb⟩)
  exact bodyPost_ret (v := .tuple #[.slice none 0 0, .int .i64 1]) (by simp [results, Try.results16, go_sem]) rfl ⟨rfl, below_up hB2 hb⟩
set_option maxRecDepth 100000 in
theorem vSync_c (p : Option Addr) (w : World) (h : DVoid w p) : Calls Try.prog 11 #[.pointer p] w (Ret (.int .i64 1) w) := by
  have hmf : ∀ (fn : Fn) (first cap : Array Value) (w : World), (Instr.makeFunc fn first cap).run Try.prog w = .ok (.func fn first cap) w := fun _ _ _ _ => rfl
  have hB2 := below_alloc w (.cells #[.pointer p] 25)
  have HV := Lib.hid (h.up hB2)
  clear h
  go_enter Try.func11, Try.ntmps11
  go_wp2_with (first
    | (go_at_call 27; refine (dIs_c _ _).mono ?_; rintro en w1 ⟨rfl, hb1⟩; have hask := vSyncAsk p w.heap.size w1 (HV.out.up hb1) 73)
    | (go_at_call 26; refine hask.mono ?_; rintro en w2 ⟨rfl, hb2⟩))
  go_ret
  exact ⟨rfl, below_up (below_up hB2 hb1) (below_up (below_alloc w1 _) hb2)⟩
set_option maxRecDepth 100000 in
theorem vWrite_c (p : Option Addr) (k : Int) (a : Option Addr) (n c : Nat) (w : World) (h : DVoid w p) : Calls Try.prog 9 #[.pointer p, .int .i64 k, .slice a n c] w (Ret (.int .i64 1) w) := by
  have hmf : ∀ (fn : Fn) (first cap : Array Value) (w : World), (Instr.makeFunc fn first cap).run Try.prog w = .ok (.func fn first cap) w := fun _ _ _ _ => rfl
  have hB2 : Below w.heap.size w (((w.alloc (.cells #[.pointer p] 25)).alloc (.cells #[.int .i64 k] 3)).alloc (.cells #[.slice a n c] 33)) := ((below_alloc w _).alloc (by simp) _).alloc (by simp; omega) _
  have HV := Lib.hid (h.up hB2)
  clear h
  go_enter Try.func9, Try.ntmps9
  go_wp2_with (first
    | (go_at_call 27; refine (dIs_c _ _).mono ?_; rintro en w1 ⟨rfl, hb1⟩; have hask := vWriteAsk p (w.heap.size + 1) w.heap.size (w.heap.size + 1 + 1) w1 (HV.out.up hb1) 73)
    | (go_at_call 26; refine hask.mono ?_; rintro en w2 ⟨rfl, hb2⟩))
  go_ret
  exact ⟨rfl, below_up (below_up hB2 hb1) (below_up (below_alloc w1 _) hb2)⟩
set_option maxRecDepth 100000 in
theorem vArm_c (p : Option Addr) (n : Int) (w : World) (h : DVoid w p) : Calls Try.prog 13 #[.pointer p, .int .i64 n] w fun en w' => en = .returned (.int .i64 1) ∧ w = w' := by
  have hn := vNone_c p w h
  clear h
  go_enter Try.func13, Try.ntmps13
  go_wp2_with (go_at_call 35; refine hn.mono ?_; rintro en w1 ⟨rfl, rfl⟩)
  go_ret
  exact ⟨rfl, rfl⟩
set_option maxRecDepth 100000 in
theorem vCrash_c (p : Option Addr) (kv : Value) (w : World) (h : DVoid w p) : Calls Try.prog 15 #[.pointer p, kv] w fun en w' => en = .returned (.int .i64 1) ∧ w = w' := by
  have hn := vNone_c p w h
  clear h
  go_enter Try.func15, Try.ntmps15
  go_wp2_with (go_at_call 35; refine hn.mono ?_; rintro en w1 ⟨rfl, rfl⟩)
  go_ret
  exact ⟨rfl, rfl⟩
set_option maxRecDepth 100000 in
theorem vLen_c (p : Option Addr) (w : World) (h : DVoid w p) : Calls Try.prog 19 #[.pointer p] w fun en w' => en = .returned (.int .i64 0) ∧ w = w' := by
  have hn := vNone_c p w h
  clear h
  go_enter Try.func19, Try.ntmps19
  go_wp2_with (go_at_call 35; refine hn.mono ?_; rintro en w1 ⟨rfl, rfl⟩)
  go_ret
  exact ⟨rfl, rfl⟩
set_option maxRecDepth 100000 in
theorem vCopy_c (p : Option Addr) (w : World) (h : DVoid w p) : Calls Try.prog 12 #[.pointer p] w fun en w' => en = .returned (.pointer none) ∧ w = w' := by
  have hn := vNone_c p w h
  clear h
  go_enter Try.func12, Try.ntmps12
  go_wp2_with (go_at_call 35; refine hn.mono ?_; rintro en w1 ⟨rfl, rfl⟩)
  go_ret
  exact ⟨rfl, rfl⟩
set_option maxRecDepth 100000 in
theorem vSame_c (p : Option Addr) (w : World) (h : DVoid w p) : Calls Try.prog 14 #[.pointer p, .pointer none] w fun en w' => en = .returned (.bool true) ∧ w = w' := by
  rcases h with rfl | ⟨B, rfl, hc⟩
  · exact dSameNN_c w
  · exact dSameZN_c w hc
theorem vWaits_c (p : Option Addr) (w : World) (h : DVoid w p) : Calls Try.prog 23 #[.pointer p] w fun en w' => en = .returned (.func (.func 49) #[] #[.pointer (some ⟨w.heap.size, 0, none⟩)]) ∧
    PsAt w' w.heap.size (.slice none 0 0) 0 [] ∧ Below w.heap.size w w' ∧ w'.heap.size = w.heap.size + 1 := dWaitsNo_c (.pointer p) w fun w1 hb => vNone_c p w1 (h.up hb)
end Go.Proofs.Ytekpjbablcoahaa

namespace Go.Proofs.Ytekpjbablcoahaa
open Go.RowKit Go.Maps Dk
set_option linter.unusedSimpArgs false
set_option linter.unusedVariables false
attribute [local go_sem] Oper.semAt_some
/-- What holds in none: its result lies in the first block; Ds: the marks. -/
structure NnI (w : World) (Ds : List Nat) (W : World) : Prop where
  below : Below w.heap.size w W
  res : RowAt W w.heap.size #[.bool false] 4
  marks : ∀ D ∈ Ds, W.heap[D]? = some (.deferred (some [])) ∧ w.heap.size ≤ D
  nodup : Ds.Nodup
theorem NnI.up {w : World} {Ds : List Nat} {W W' : World} (h : NnI w Ds W) (hb : Below W.heap.size W W') : NnI w Ds W' :=
  ⟨below_up h.below hb, h.res.below hb, fun D hd => ⟨(hb.block D (Array.getElem?_eq_some_iff.1 (h.marks D hd).1).1).trans (h.marks D hd).1, (h.marks D hd).2⟩, h.nodup⟩
theorem NnI.add {w : World} {Ds : List Nat} {W W3 : World} (h : NnI w Ds W) (hb : Below W.heap.size W W3) {D : Nat} (hD : W3.heap[D]? = some (.deferred (some []))) (hl : W.heap.size ≤ D) : NnI w (D :: Ds) W3 :=
  have h3 := h.up hb
  have hn : D ∉ Ds := fun e => by have := (Array.getElem?_eq_some_iff.1 (h.marks D e).1).1; omega
  ⟨h3.below, h3.res, fun D' hD' => by
    rcases List.mem_cons.1 hD' with rfl | hD'
    · exact ⟨hD, by have := h.below.size; omega⟩
    · exact h3.marks D' hD', List.nodup_cons.2 ⟨hn, h.nodup⟩⟩

set_option maxHeartbeats 8000000 in
set_option maxRecDepth 100000 in
theorem dNoneL_c (w : World) : Calls Try.prog 22 #[] w (Ret (.bool true) w) := by
  refine (callsIn_wide (n := 3)).1 ?_
  refine callsIn_of_wp_marks Try.func22 rfl trivial ?_ rfl
  simp only [Try.ntmps22, List.size_toArray, List.length_cons, List.length_nil, Nat.reduceAdd, Nat.reduceSub, Array.replicate_succ, Array.replicate_zero, List.push_toArray, List.append_toArray, List.nil_append, List.cons_append]
  refine wpIn_wide.2 ?_
  go_wp2
  refine wp_loop_ghost_k (fun m a' W => ∃ (tn : Nat) (Ds : List Nat), tn ≤ 2 ∧ m = 2 - tn ∧ a' = { tmps := #[.pointer (some ⟨w.heap.size, 0, none⟩), .int .i64 tn, a'.tmps.getD 2 undef, a'.tmps.getD 3 undef, a'.tmps.getD 4 undef, a'.tmps.getD 5 undef, a'.tmps.getD 6 undef, a'.tmps.getD 7 undef, a'.tmps.getD 8 undef, a'.tmps.getD 9 undef, a'.tmps.getD 10 undef, a'.tmps.getD 11 undef, a'.tmps.getD 12 undef, a'.tmps.getD 13 undef, a'.tmps.getD 14 undef, a'.tmps.getD 15 undef, a'.tmps.getD 16 undef, a'.tmps.getD 17 undef, a'.tmps.getD 18 undef, a'.tmps.getD 19 undef, a'.tmps.getD 20 undef, a'.tmps.getD 21 undef, a'.tmps.getD 22 undef, a'.tmps.getD 23 undef, a'.tmps.getD 24 undef, a'.tmps.getD 25 undef, a'.tmps.getD 26 undef, a'.tmps.getD 27 undef, a'.tmps.getD 28 undef, a'.tmps.getD 29 undef, a'.tmps.getD 30 undef, a'.tmps.getD 31 undef, a'.tmps.getD 32 undef, a'.tmps.getD 33 undef, a'.tmps.getD 34 undef, a'.tmps.getD 35 undef, a'.tmps.getD 36 undef, a'.tmps.getD 37 undef, a'.tmps.getD 38 undef, a'.tmps.getD 39 undef, a'.tmps.getD 40 undef, a'.tmps.getD 41 undef, a'.tmps.getD 42 undef, a'.tmps.getD 43 undef, a'.tmps.getD 44 undef, a'.tmps.getD 45 undef, a'.tmps.getD 46 undef, a'.tmps.getD 47 undef, a'.tmps.getD 48 undef, a'.tmps.getD 49 undef, a'.tmps.getD 50 undef, a'.tmps.getD 51 undef, a'.tmps.getD 52 undef, a'.tmps.getD 53 undef, a'.tmps.getD 54 undef, a'.tmps.getD 55 undef, a'.tmps.getD 56 undef, a'.tmps.getD 57 undef, a'.tmps.getD 58 undef, a'.tmps.getD 59 undef, a'.tmps.getD 60 undef, a'.tmps.getD 61 undef, a'.tmps.getD 62 undef, a'.tmps.getD 63 undef, a'.tmps.getD 64 undef, a'.tmps.getD 65 undef, a'.tmps.getD 66 undef, a'.tmps.getD 67 undef, a'.tmps.getD 68 undef, a'.tmps.getD 69 undef, a'.tmps.getD 70 undef, a'.tmps.getD 71 undef, a'.tmps.getD 72 undef, a'.tmps.getD 73 undef, a'.tmps.getD 74 undef, a'.tmps.getD 75 undef], defers := Ds.map markD } ∧ NnI w Ds W) 2 ?start ?round
  case start =>
    exact ⟨0, [], by omega, rfl, rfl, below_alloc _ _, RowAt.new _ _ _, (fun D hD => by cases hD), List.nodup_nil⟩
  case round =>
    intro m a' W hinv J K hJ hK
    obtain ⟨tn, Ds, htn, hm, ha, hI⟩ := hinv
    obtain ⟨u, hu⟩ : ∃ u : Nat → Value, ∀ i, a'.tmps.getD i undef = u i := ⟨_, fun _ => rfl⟩
    simp only [hu] at ha
    clear hu
    subst ha hm
    have HJ := Lib.hid hJ
    clear hJ
    have HI := Lib.hid hI
    clear hI
    rcases (show tn = 0 ∨ tn = 1 ∨ tn = 2 by omega) with rfl | rfl | rfl
    · have HV : RowKit.Hid (DVoid W none) := Lib.hid (.inl rfl)
      go_wp2_with (first
        | (go_at_call 16; refine (vRead_c _ _ _ HV.out).mono ?_; rintro en w1 ⟨rfl, hb⟩; replace HV := Lib.hid (HV.out.up hb); replace HI := Lib.hid (HI.out.up hb))
        | (go_at_call 25; refine (vLies_c _ _ _ HV.out).mono ?_; rintro en w1 ⟨rfl, hb⟩; obtain ⟨wn, hwn⟩ : ∃ wn, wn = w1 := ⟨_, rfl⟩; replace HV := Lib.hid (HV.out.up hb); replace HI := Lib.hid (HI.out.up hb))
        | (go_at_call 23; refine (vWaits_c _ _ HV.out).mono ?_; rintro en w2 ⟨rfl, hA, hb, hzx⟩; replace HV := Lib.hid (HV.out.up hb); replace HI := Lib.hid (HI.out.up hb)))
      refine wpIn_wide.1 (wp_range (n := 3) (S := fun q => q = w1.heap.size) (gf := 49) (lb := #[.pointer (some ⟨w1.heap.size, 0, none⟩)]) rfl dEnters_wt1
        (waits1_x [] _ 0 (.slice none 0 0) _ _ hA ⟨rfl, .inl rfl⟩) (Below.refl _ _) (fun _ => rfl) (fun _ => False) (fun k h => h.elim) (fun q hq => ⟨by omega, fun h => h⟩)
        (fun k G W3 => Below w2.heap.size w2 W3) (fun _ _ _ _ => True) (fun _ _ _ _ => False) (fun k G A B h hb => h.trans (hb.below (fun j e => e.1) h.size)) (fun _ _ _ _ _ _ _ => trivial) (fun _ _ _ _ _ h _ => h) (Below.refl _ _)
        (fun l k G W K hk => absurd hk (Nat.not_lt_zero _)) (fun l k a' G W hk => absurd hk (Nat.not_lt_zero _)) ?_ (fun D c k G W hD hGD hk => absurd hk (Nat.not_lt_zero _)))
      rintro D G W3 hD hGD hb3 hK3
      replace HV := Lib.hid (HV.out.up hb3)
      replace HI := Lib.hid (HI.out.add hb3 hK3 hD)
      clear hK3 hA hzx
      go_wp2_with (first
        | (go_at_call 8; refine (dNum_c _ _).mono ?_; rintro en w1 ⟨rfl, rfl⟩)
        | (go_at_call 9; refine (vWrite_c _ _ _ _ _ _ HV.out).mono ?_; rintro en w1 ⟨rfl, hb⟩; replace HV := Lib.hid (HV.out.up hb); replace HI := Lib.hid (HI.out.up hb))
        | (go_at_call 11; refine (vSync_c _ _ HV.out).mono ?_; rintro en w1 ⟨rfl, hb⟩; replace HV := Lib.hid (HV.out.up hb); replace HI := Lib.hid (HI.out.up hb))
        | (go_at_call 15; refine (vCrash_c _ _ _ HV.out).mono ?_; rintro en w1 ⟨rfl, rfl⟩)
        | (go_at_call 13; refine (vArm_c _ _ _ HV.out).mono ?_; rintro en w1 ⟨rfl, rfl⟩)
        | (go_at_call 19; refine (vLen_c _ _ HV.out).mono ?_; rintro en w1 ⟨rfl, rfl⟩)
        | (go_at_call 12; refine (vCopy_c _ _ HV.out).mono ?_; rintro en w1 ⟨rfl, rfl⟩)
        | (go_at_call 14; refine (vSame_c _ _ HV.out).mono ?_; rintro en w1 ⟨rfl, rfl⟩))
      refine Handed.intro 1 (by omega) (HJ.out _ _ _ ?_)
      exact ⟨1, D :: Ds, by omega, rfl, rfl, HI.out⟩
    · have hvd : DVoid (W.alloc (.cells #[.int .i64 0, .int .i64 0, .map none, .slice none 0 0] 70)) (some ⟨W.heap.size, 0, none⟩) := .inr ⟨_, rfl, (RowAt.new W #[.int .i64 0, .int .i64 0, .map none, .slice none 0 0] 70).cell (i := 2) rfl⟩
      have HV := Lib.hid hvd
      clear hvd
      replace HI := Lib.hid (HI.out.up (below_alloc W (.cells #[.int .i64 0, .int .i64 0, .map none, .slice none 0 0] 70)))
      go_wp2_with (first
        | (go_at_call 16; refine (vRead_c _ _ _ HV.out).mono ?_; rintro en w1 ⟨rfl, hb⟩; replace HV := Lib.hid (HV.out.up hb); replace HI := Lib.hid (HI.out.up hb))
        | (go_at_call 25; refine (vLies_c _ _ _ HV.out).mono ?_; rintro en w1 ⟨rfl, hb⟩; obtain ⟨wn, hwn⟩ : ∃ wn, wn = w1 := ⟨_, rfl⟩; replace HV := Lib.hid (HV.out.up hb); replace HI := Lib.hid (HI.out.up hb))
        | (go_at_call 23; refine (vWaits_c _ _ HV.out).mono ?_; rintro en w2 ⟨rfl, hA, hb, hzx⟩; replace HV := Lib.hid (HV.out.up hb); replace HI := Lib.hid (HI.out.up hb)))
      refine wpIn_wide.1 (wp_range (n := 3) (S := fun q => q = w1.heap.size) (gf := 49) (lb := #[.pointer (some ⟨w1.heap.size, 0, none⟩)]) rfl dEnters_wt1
        (waits1_x [] _ 0 (.slice none 0 0) _ _ hA ⟨rfl, .inl rfl⟩) (Below.refl _ _) (fun _ => rfl) (fun _ => False) (fun k h => h.elim) (fun q hq => ⟨by omega, fun h => h⟩)
        (fun k G W3 => Below w2.heap.size w2 W3) (fun _ _ _ _ => True) (fun _ _ _ _ => False) (fun k G A B h hb => h.trans (hb.below (fun j e => e.1) h.size)) (fun _ _ _ _ _ _ _ => trivial) (fun _ _ _ _ _ h _ => h) (Below.refl _ _)
        (fun l k G W K hk => absurd hk (Nat.not_lt_zero _)) (fun l k a' G W hk => absurd hk (Nat.not_lt_zero _)) ?_ (fun D c k G W hD hGD hk => absurd hk (Nat.not_lt_zero _)))
      rintro D G W3 hD hGD hb3 hK3
      replace HV := Lib.hid (HV.out.up hb3)
      replace HI := Lib.hid (HI.out.add hb3 hK3 hD)
      clear hK3 hA hzx
      go_wp2_with (first
        | (go_at_call 8; refine (dNum_c _ _).mono ?_; rintro en w1 ⟨rfl, rfl⟩)
        | (go_at_call 9; refine (vWrite_c _ _ _ _ _ _ HV.out).mono ?_; rintro en w1 ⟨rfl, hb⟩; replace HV := Lib.hid (HV.out.up hb); replace HI := Lib.hid (HI.out.up hb))
        | (go_at_call 11; refine (vSync_c _ _ HV.out).mono ?_; rintro en w1 ⟨rfl, hb⟩; replace HV := Lib.hid (HV.out.up hb); replace HI := Lib.hid (HI.out.up hb))
        | (go_at_call 15; refine (vCrash_c _ _ _ HV.out).mono ?_; rintro en w1 ⟨rfl, rfl⟩)
        | (go_at_call 13; refine (vArm_c _ _ _ HV.out).mono ?_; rintro en w1 ⟨rfl, rfl⟩)
        | (go_at_call 19; refine (vLen_c _ _ HV.out).mono ?_; rintro en w1 ⟨rfl, rfl⟩)
        | (go_at_call 12; refine (vCopy_c _ _ HV.out).mono ?_; rintro en w1 ⟨rfl, rfl⟩)
        | (go_at_call 14; refine (vSame_c _ _ HV.out).mono ?_; rintro en w1 ⟨rfl, rfl⟩))
      refine Handed.intro 0 (by omega) (HJ.out _ _ _ ?_)
      exact ⟨2, D :: Ds, by omega, rfl, rfl, HI.out⟩
    · have hr := HI.out.res
      have hrc := hr.cell (i := 0) (v := .bool false) rfl
      have hrf := hr.fz 0
      go_wp2
      have hx4 := hr.set 0 (.bool true)
      refine leaves_marks Ds _ HI.out.nodup (fun D hD => ?_) (fun w9 hb9 => ?_)
      · have hm := HI.out.marks D hD
        have hne : D ≠ w.heap.size := fun e => by have h1 := hr; rw [← e] at h1; unfold RowAt at h1; rw [hm.1] at h1; cases h1
        exact (Below.heap_setCell W ⟨w.heap.size, 0, none⟩ (.bool true) D (by simpa using hne)).trans hm.1
      · have hne : w.heap.size ∉ Ds := fun hD => by have hm := HI.out.marks _ hD; have h1 := hr; unfold RowAt at h1; rw [hm.1] at h1; cases h1
        have hx5 : RowAt w9 w.heap.size #[.bool true] 4 := (hb9.same _ hx4.lt hne).trans hx4
        have hx5c := hx5.cell (i := 0) (v := .bool true) rfl
        refine ⟨.bool true, by simp [results, Try.results22, go_sem, hx5c], rfl, ?_⟩
        have hB3 := HI.out.below.setCell (show w.heap.size ≤ (⟨w.heap.size, 0, none⟩ : Addr).block from Nat.le_refl _) (.bool true)
        exact hB3.trans (hb9.below (fun D hD => (HI.out.marks D hD).2) hB3.size)
end Go.Proofs.Ytekpjbablcoahaa
