/-
  CbZ, CbN, CbEn, CbFd, CbSt, CbIs: several texts in one (bundle.py).
-/
import Derived.Test.YtpkonagjnfphkaaGreatDoorPmY12
import Derived.Test.YtpkonagjnfphkaaGreatDoorPmY11
import Derived.Test.YtpkonagjnfphkaaGreatDoorPmY13
import Derived.Test.YtpkonagjnfphkaaGreatDoorPmY07
import Derived.Test.YtpkonagjnfphkaaGreatDoorPmY02
import Derived.Test.YtpkonagjnfphkaaGreatDoorPmY10
set_option linter.unusedSimpArgs false
set_option linter.unusedVariables false
set_option maxRecDepth 100000
set_option maxHeartbeats 4000000
namespace Go.Proofs.YtpkonagjnfphkaaGreatDoor
open Go.RowKit Go.Maps Cb
theorem wf_small {k : Int} (h0 : 0 ≤ k) (h1 : k ≤ 6) : (Lit.int .i64 k).wf = true := by
  have : k = 0 ∨ k = 1 ∨ k = 2 ∨ k = 3 ∨ k = 4 ∨ k = 5 ∨ k = 6 := by omega
  rcases this with h | h | h | h | h | h | h <;> subst h <;> decide
theorem written_of (F : FuncId) (hF : Enters Tryz.prog F) (k : Int) (hk0 : 0 ≤ k) (hk1 : k ≤ 6) (hent : (Value.int .i64 k, Value.func (.func F) #[] #[]) ∈ wEnts) (x : It) (k1 n1 : Int) (ba1 : Option Addr) (bn1 bc1 : Nat) (s1 : ByteArray) (la1 : Option Addr) (ln1 lc1 : Nat) (w : World) (hk : k1 = k)
    (hc : ∀ W, Below w.heap.size w W → Calls Tryz.prog F #[rwV ⟨k1, n1, .slice ba1 bn1 bc1, s1, .slice la1 ln1 lc1⟩] W (Byt x W)) : Calls Tryz.prog 137 #[rwV ⟨k1, n1, .slice ba1 bn1 bc1, s1, .slice la1 ln1 lc1⟩] w (Byt x w) := by
  subst hk; have hB1 := below_alloc w (.cells (rwC ⟨k1, n1, .slice ba1 bn1 bc1, s1, .slice la1 ln1 lc1⟩).toArray 62); have e1 := rangeAt_new w (rwC ⟨k1, n1, .slice ba1 bn1 bc1, s1, .slice la1 ln1 lc1⟩) 62 (0, 0); have K : Keyed Tryz.prog 60 := int_keyed Tryz.underlying60; go_enter Tryz.func137, Tryz.ntmps137; go_wp2; refine wp_region_pi [(1, false), (2, false), (4, false), (0, true), (3, false), (5, true), (6, false)] (by kernel_rfl) (by kernel_rfl) (by kernel_rfl) rfl (fun _ _ d _ _ h => by cases d <;> exact h) (fun Wd hBd => ?_)
  try simp only [zq]
  have hrd := rangeAt_up hBd e1
  have c1 : ∀ w', Below Wd.heap.size Wd w' → w'.cell? ⟨w.heap.size, 0 + 0, none⟩ = some (.int .i64 k1) := fun w' h => rangeAt_up h hrd 0 _ rfl
  simp only [Nat.add_zero] at c1; refine zi rfl (by rfl) ?_; refine zi rfl (by rfl) ?_; refine pi_load rfl (by rfl) 62 (.tmp 1) rfl w.heap.size 0 rfl (rwC ⟨k1, n1, .slice ba1 bn1 bc1, s1, .slice la1 ln1 lc1⟩) _ hrd Tryz.underlying62 rfl (by kernel_rfl) ?_
  try simp only [zq]
  refine pi_call rfl (by rfl) ((writes_c Wd)) enters_writes (by rfl) (by kernel_rfl) ?_; rintro en wN ⟨rfl, hm1, hb1⟩; refine ⟨_, rfl, hb1, ?_⟩
  try simp only [zq]
  have hlk : ∀ w', Below wN.heap.size wN w' → (Instr.lookup 192 (.map (some Wd.heap.size)) (.int .i64 k1) false).run Tryz.prog w' = .ok (.func (.func F) #[] #[]) w' := fun w' h => MapAt.look_some (hm1.heap (h.block _ hm1.lt)) K Tryz.underlying192 (keyOf_int_mk (a := k1) Tryz.underlying60 (wf_small hk0 hk1)) hent false
  refine zi rfl (by rfl) ?_; refine pi_callV rfl (by rfl) (hc wN (below_up (below_up hB1 hBd) hb1)) hF rfl (by rfl) (by kernel_rfl) ?_; rintro en wE ⟨v2, rfl, ho2, hb2⟩; refine ⟨_, rfl, hb2, ?_⟩; refine zi rfl (by rfl) ?_; refine pi_nil ?_; go_wp2; go_ret; refine ⟨_, rfl, own_down ho2 (below_up (below_up hB1 hBd) hb1).size, below_up (below_up (below_up hB1 hBd) hb1) hb2⟩
theorem enters_w1 : Enters Tryz.prog 169 := enters_of Tryz.func169 (by kernel_rfl) rfl
theorem enters_w2 : Enters Tryz.prog 170 := enters_of Tryz.func170 (by kernel_rfl) rfl
theorem enters_w3 : Enters Tryz.prog 172 := enters_of Tryz.func172 (by kernel_rfl) rfl
theorem enters_w4 : Enters Tryz.prog 173 := enters_of Tryz.func173 (by kernel_rfl) rfl
theorem enters_w5 : Enters Tryz.prog 175 := enters_of Tryz.func175 (by kernel_rfl) rfl
theorem enters_w6 : Enters Tryz.prog 176 := enters_of Tryz.func176 (by kernel_rfl) rfl
theorem written_c (S : Nat → Prop) (x : It) : WrC S x := by
  induction x using It.ind with
  | h x ih =>
    intro r w hr hcx hri; have hr0 := hr; obtain ⟨k1, n1, ba1, bn1, bc1, s1, la1, ln1, lc1, rfl⟩ := hr.shape; obtain ⟨rows, p⟩ := hr.parts; rw [rightB_eq, Bool.and_eq_true] at hri; have hown := hri.1; simp only [ownB, Bool.and_eq_true, decide_eq_true_eq] at hown; obtain ⟨⟨hk0, hk1⟩, _⟩ := hown; have hk : k1 = x.k := p.k
    have hcs : x.k = 1 ∨ x.k = 2 ∨ x.k = 3 ∨ x.k = 4 ∨ x.k = 5 ∨ x.k = 6 := by omega
    rcases hcs with e | e | e | e | e | e
    · exact written_of 169 enters_w1 1 (by decide) (by decide) (by simp [wEnts]) x _ _ _ _ _ _ _ _ _ w (by rw [hk, e]) (fun W hb => write1_c S x _ W (hr0.up hb) hcx e)
    · exact written_of 170 enters_w2 2 (by decide) (by decide) (by simp [wEnts]) x _ _ _ _ _ _ _ _ _ w (by rw [hk, e]) (fun W hb => write2_c S x _ W (hr0.up hb) hcx e)
    · exact written_of 172 enters_w3 3 (by decide) (by decide) (by simp [wEnts]) x _ _ _ _ _ _ _ _ _ w (by rw [hk, e]) (fun W hb => write3_c S x _ W (hr0.up hb) hcx e)
    · exact written_of 173 enters_w4 4 (by decide) (by decide) (by simp [wEnts]) x _ _ _ _ _ _ _ _ _ w (by rw [hk, e]) (fun W hb => write4_c S x _ W (hr0.up hb) hcx e (fun y hy => ih y hy) hri.2)
    · exact written_of 175 enters_w5 5 (by decide) (by decide) (by simp [wEnts]) x _ _ _ _ _ _ _ _ _ w (by rw [hk, e]) (fun W hb => write5_c S x _ W (hr0.up hb) hcx e)
    · exact written_of 176 enters_w6 6 (by decide) (by decide) (by simp [wEnts]) x _ _ _ _ _ _ _ _ _ w (by rw [hk, e]) (fun W hb => write6_c S x _ W (hr0.up hb) hcx e)
end Go.Proofs.YtpkonagjnfphkaaGreatDoor
namespace Go.Proofs.YtpkonagjnfphkaaGreatDoor
open Go.RowKit Cb
theorem slT_int : SlT Tryz.prog 106 3 1 8 := SlT.mk' Tryz.underlying106 (z := .int .i64 0) (by kernel_rfl) rfl (by decide)
def dpV (x : It) : Value := .int .i64 (depth x : Int)
abbrev DpC (S : Nat → Prop) (x : It) : Prop := ∀ (r : Rw) (w : World), ItR S w x r → cnt x ≤ 1000000 → Calls Tryz.prog 136 #[rwV r] w (Ret (.int .i64 (depth x : Int)) w)
theorem madeI_c (S : Nat → Prop) (l : List It) (hp : ∀ x ∈ l, DpC S x) (hc : cntL l ≤ 1000000) (u : Value) (n : Nat) (rows : List Rw) (w : World) (hu : SlS S w 5 u n (rows.flatMap rwC)) (hl : ItsR S w l rows) :
    Calls Tryz.prog 159 #[u, .func (.func 136) #[] #[]] w fun en w' => ∃ v, en = .returned v ∧ w'.ownsRow w.heap.size 3 1 v n (l.map dpV) ∧ Below w.heap.size w w' := by
  have Hrn := Lib.hid (show rows.length = n from Sl.recs (cells := rwC) (sz := 5) (fun _ => rfl) (by decide) hu.1); have Hln := Lib.hid (show l.length = n by rw [← hl.len]; exact Hrn.out)
  have hn : n ≤ 1000000 := by have := cntL_len l; have := Hln.out; omega
  obtain ⟨a, c, rfl⟩ := hu.1.len; go_enter Tryz.func159, Tryz.ntmps159; go_wp2
  go_loopw [4, 9] (fun o i wr => ∃ (j : Nat), j ≤ n ∧ i = .int .i64 j ∧ wr.ownsRow w.heap.size 3 1 o j ((l.take j).map dpV) ∧ Below w.heap.size w wr) (fun _ i _ => n - (intOf i).toNat)
  case atStart => exact ⟨0, Nat.zero_le _, rfl, World.ownsRow_nil _ _ _ _, Below.refl _ _⟩
  case round =>
    obtain ⟨j, hj, rfl, ho, hB⟩ := hrel; by_cases hlt : j < n
    · have hl' : j < l.length := by rw [Hln.out]; exact hlt
      have hr' : j < rows.length := by rw [Hrn.out]; exact hlt
      obtain ⟨b, off, rfl, hr⟩ := (hu.1.up hB).rec_at (cells := rwC) (sz := 5) (fun _ => rfl) hlt hr'; have hs1 := Lib.hid (show (l.take (j + 1)).map dpV = (l.take j).map dpV ++ [dpV l[j]] by rw [List.take_succ_eq_append_getElem hl', List.map_append]; rfl); have hbq : Below w.heap.size w (wr.alloc (.cells (rwC rows[j]).toArray 62)) := hB.alloc hB.size _; have hcl := hp l[j] (List.getElem_mem hl') rows[j] _ ((hl.get hl' hr').up hbq) (by have := cntL_mem (List.getElem_mem hl'); omega); have Hbq := Lib.hid hbq; have Ho := Lib.hid ho; have HB := Lib.hid hB; have hsx := (hl.get hl' hr').shape; clear hbq ho; generalize rows[j] = rx at *; obtain ⟨k1, n1, ba1, bn1, bc1, s1, la1, ln1, lc1, rfl⟩ := hsx; generalize l[j] = x at *; generalize hdx : depth x = d at *; obtain ⟨ao, co, rfl⟩ := own_slice Ho.out
      go_wp2_with (first
        | (refine wpList_load_mid rfl 62 (.tmp 11) rfl b (off + j * 5) rfl (rwC ⟨k1, n1, .slice ba1 bn1 bc1, s1, .slice la1 ln1 lc1⟩) _ hr Tryz.underlying62 rfl (by kernel_rfl) ?_)
        | (go_at_call 136; refine hcl.mono ?_; rintro en w1 ⟨rfl, hb1⟩)
        | (at_builtin; refine wpList_app rfl _ _ 106 rfl slT_int w.heap.size rfl ((own_up (own_up Ho.out (below_alloc _ _)) hb1).alloc _) rfl (sl1 _ _ rfl (.int .i64 (d : Int)) _) (by intro u hu; simp at hu; subst hu; rfl) (by simp only [maxLen]; omega) (by omega) (by have := Hbq.out.size; have := hb1.size; simp at *; omega) ?_; intro o' w3 ho' hg' _))
      have hB3 := grown_below (below_up (below_up Hbq.out hb1) (below_alloc w1 (.cells #[.int .i64 (d : Int)] 3))) hg' (fun q hq => (own_of_some Ho.out hq).1)
      go_roundw
      case rel => exact ⟨j + 1, by omega, by go_num, by rw [hs1.out, show dpV x = .int .i64 (d : Int) by rw [← hdx]; rfl]; exact ho', hB3⟩
      case measure => simp [intOf]; omega
    · obtain rfl : j = n := by omega
      have hall : l.take j = l := List.take_of_length_le (by rw [Hln.out]; exact Nat.le_refl _); have Hall := Lib.hid hall; clear hall; obtain ⟨ao, co, rfl⟩ := own_slice ho; go_wp2; go_ret; exact ⟨_, rfl, by rw [← Hall.out]; exact ho, hB⟩
def maxL : List Nat → Nat
  | [] => 0
  | x :: l => max x (maxL l)
theorem maxL_app : ∀ l m : List Nat, maxL (l ++ m) = max (maxL l) (maxL m)
  | [], m => by simp [maxL]
  | x :: l, m => by simp only [List.cons_append, maxL, maxL_app l m]; omega
theorem depthL_max : ∀ l : List It, depthL l = maxL (l.map depth)
  | [] => rfl
  | x :: l => by simp only [depthL, List.map_cons, maxL, depthL_max l]
theorem mp_get (l : List Nat) (k : Nat) (hk : k < l.length) : (l.map fun d : Nat => Value.int .i64 (d : Int))[k]? = some (.int .i64 ((l[k] : Nat) : Int)) := by simp [hk]
theorem maxL_take (l : List Nat) (k : Nat) (hk : k < l.length) : maxL (l.take (k + 1)) = max (maxL (l.take k)) l[k] := by
  rw [List.take_succ_eq_append_getElem hk, maxL_app]; simp [maxL]
theorem maxL_le (l : List Nat) (B : Nat) (h : ∀ d ∈ l, d ≤ B) : maxL l ≤ B := by
  induction l with
  | nil => simp [maxL]
  | cons x l ih =>
    have h1 := h x (by simp); have h2 := ih (fun d hd => h d (by simp [hd])); simp only [maxL]; omega
theorem max_c (l : List Nat) (v : Value) (n : Nat) (w : World) (hv : Sl w 1 v n (l.map fun d : Nat => Value.int .i64 (d : Int))) (hn : 0 < n) (hn2 : n ≤ 9223372036854775807) (hm : ∀ d ∈ l, d ≤ 9223372036854775807) :
    Calls Tryz.prog 158 #[v] w fun en w' => en = .returned (.int .i64 (maxL l : Int)) ∧ w = w' := by
  have hln : l.length = n := by have := hv.1; simpa using this
  obtain ⟨a, c, rfl⟩ := hv.len; have Hln := Lib.hid hln; clear hln
  have h0 : 0 < l.length := by rw [Hln.out]; exact hn
  obtain ⟨b, off, rfl, hc⟩ := hv.cellAt (k := 0) hn (by simpa using hn)
  have hlt1 : ¬ (n : Int) < 1 := by omega
  rw [mp_get l 0 h0, Nat.add_zero] at hc
  have Hx := Lib.hid (show maxL (l.take 1) = l[0] by
    rw [maxL_take l 0 h0]; simp [maxL])
  go_enter Tryz.func158, Tryz.ntmps158; go_wp2
  go_loopw [3, 4] (fun m i wr => ∃ j : Nat, 1 ≤ j ∧ j ≤ n ∧ i = .int .i64 j ∧ m = .int .i64 (maxL (l.take j) : Int) ∧ w = wr) (fun _ i _ => n - (intOf i).toNat)
  case atStart => exact ⟨1, Nat.le_refl _, hn, rfl, by rw [Hx.out], rfl⟩
  case round =>
    obtain ⟨j, hj1, hj, rfl, rfl, rfl⟩ := hrel; by_cases hlt : j < n
    · have hl' : j < l.length := by rw [Hln.out]; exact hlt
      obtain ⟨b, off, e, hc⟩ := hv.cellAt (k := j) hn (by simpa using hlt); cases e; rw [mp_get l j hl'] at hc; have Ht := Lib.hid (maxL_take l j hl'); have h1 := maxL_le (l.take j) 9223372036854775807 (fun d hd => hm d (List.mem_of_mem_take hd)); have h2 := hm l[j] (List.getElem_mem hl'); generalize maxL (l.take j) = A at *; generalize l[j] = B at *; go_wp2; refine ⟨⟨j + 1, by omega, by omega, by go_num, ?_, trivial⟩, by simp [intOf]; omega⟩; rw [Ht.out]; congr 1; omega
    · obtain rfl : j = n := by omega
      have Hall := Lib.hid (show l.take j = l from List.take_of_length_le (by rw [Hln.out]; exact Nat.le_refl _)); go_wp2; go_ret; exact ⟨by rw [Hall.out]; rfl, rfl⟩
theorem depth_c (S : Nat → Prop) (x : It) : DpC S x := by
  induction x using It.ind with
  | h x ih =>
    intro r w hr hcx; obtain ⟨k1, n1, ba1, bn1, bc1, s1, la1, ln1, lc1, rfl⟩ := hr.shape; obtain ⟨rows, p⟩ := hr.parts
    have hcl : cntL x.l ≤ 1000000 := by cases x; simp only [cnt, It.l] at *; omega
    have hB1 := below_alloc w (.cells (rwC ⟨k1, n1, .slice ba1 bn1 bc1, s1, .slice la1 ln1 lc1⟩).toArray 62); have hm := madeI_c S x.l ih hcl _ _ rows _ (p.l.up hB1) (p.each.up hB1); have Hd := Lib.hid (show (depth x : Int) = 1 + (maxL (x.l.map depth ++ [0]) : Int) by rw [depth_eq, maxL_app, depthL_max]; simp [maxL]; omega)
    have hln : x.l.length ≤ 1000000 := by have := cntL_len x.l; omega
    have Hmx := Lib.hid (show ∀ d ∈ x.l.map depth ++ [0], d ≤ 1000000 from fun d hd => by
      rcases List.mem_append.1 hd with h | h
      · obtain ⟨z, hz, rfl⟩ := List.mem_map.1 h
        have := depth_cnt z; have := cnt_mem hz; omega
      · simp at h; omega)
    have Hmp := Lib.hid (show (x.l.map dpV ++ [.int .i64 0]) = (x.l.map depth ++ [0]).map fun d : Nat => Value.int .i64 (d : Int) by simp [dpV]); have hmb : maxL (x.l.map depth ++ [0]) ≤ 1000000 := maxL_le _ _ Hmx.out; clear ih p hr hcx hcl; obtain ⟨m, hm'⟩ : ∃ m, x.l.length = m := ⟨_, rfl⟩; rw [hm'] at hm hln; generalize depth x = D at *; generalize x.l.map depth ++ [0] = ds at *; generalize x.l.map dpV = dv at *; go_enter Tryz.func136, Tryz.ntmps136
    go_wp2_with (first
      | (go_at_call 159; refine hm.mono ?_; rintro en w1 ⟨v1, rfl, ho1, hb1⟩; obtain ⟨a1, c1, rfl⟩ := own_slice ho1)
      | (at_builtin; refine wpList_app rfl _ _ 106 rfl slT_int (w.heap.size + 1) rfl ((own_down ho1 (by simp)).alloc _) rfl (sl1 _ _ rfl (.int .i64 0) _) (by intro u hu; simp at hu; subst hu; rfl) (by simp only [maxLen]; omega) (by omega) (by have := hb1.size; simp at *; omega) ?_; intro o' w3 ho' hg' _)
      | (go_at_call 158; refine (max_c ds _ _ _ (by rw [← Hmp.out]; exact Sl.of_own ho') (by omega) (by omega) (fun d hd => by have := Hmx.out d hd; omega)).mono ?_; rintro en w4 ⟨rfl, rfl⟩))
    go_ret; exact ⟨by rw [Hd.out]; rfl, grown_below ((below_up hB1 hb1).alloc (by have := hB1.size; have := hb1.size; omega) _) hg' (fun q hq => by have := (own_of_some ho1 hq).1; simp at this; omega)⟩
theorem enters_enc1 : Enters Tryz.prog 134 := enters_of Tryz.func134 (by kernel_rfl) rfl
theorem enters_caught : Enters Tryz.prog 123 := enters_of Tryz.func123 (by kernel_rfl) rfl
theorem enc1_c (o : Nat) (v : Value) (w : World) (hc : w.cell? ⟨o, 0, none⟩ = some v) (hz : w.frozen? ⟨o, 0, none⟩ = false) : Calls Tryz.prog 134 #[.pointer (some ⟨o, 0, none⟩)] w fun en w' => en = .returned (.tuple #[]) ∧ w' = w.setCell ⟨o, 0, none⟩ (.slice none 0 0) := by
  go_enter Tryz.func134, Tryz.ntmps134; go_wp2
  go_end0
  exact ⟨rfl, rfl⟩
def EncE (x : It) (w : World) (en : Ending) (w' : World) : Prop := Below w.heap.size w w' ∧ ∃ v, en = .returned (.tuple #[v, .int .i64 (chk x)]) ∧ (chk x = 0 → w'.ownsRow w.heap.size 5 1 v (bytesOf x).length (by8 (bytesOf x))) ∧ (chk x ≠ 0 → v = .slice none 0 0)
theorem enc_door {R : Ending → World → Prop} (O E : Nat) (e : Int) (v : Value) (W : World) (hO : RowAt W O #[v] 48) (hE : RowAt W E #[.int .i64 0] 33) (hne : O ≠ E) (u0 u1 u4 u5 u6 u7 u8 u9 u10 u11 u12 u13 u14 u15 u16 u17 : Value)
    (hR : ∀ W', But (fun k => k = O ∨ k = E) W W' → R (.returned (.tuple #[.slice none 0 0, .int .i64 e])) W') :
    Leaves Tryz.prog Tryz.f114 #[u0, u1, .pointer (some ⟨O, 0, none⟩), .pointer (some ⟨E, 0, none⟩), u4, u5, u6, u7, u8, u9, u10, u11, u12, u13, u14, u15, u16, u17] R [{ target := .fn (.func 123) #[], args := #[.pointer (some ⟨E, 0, none⟩), .func (.func 134) #[] #[.pointer (some ⟨O, 0, none⟩)]] }] (.panicking (gup e)) W := by
  have c0 := hE.cell (i := 0) rfl; have f0 := hE.fz 0; have b1 : But (fun k => k = O ∨ k = E) W (W.setCell ⟨E, 0, none⟩ (.int .i64 e)) := But.setCell _ _ _ (.inl (.inr rfl)); have hO1 : RowAt (W.setCell ⟨E, 0, none⟩ (.int .i64 e)) O #[v] 48 := ((But.setCell (O := fun k => k = E) W ⟨E, 0, none⟩ (.int .i64 e) (.inl rfl)).same _ hO.lt hne).trans hO; have hE1 := hE.set 0 (.int .i64 e); have b2 : But (fun k => k = O ∨ k = E) (W.setCell ⟨E, 0, none⟩ (.int .i64 e)) ((W.setCell ⟨E, 0, none⟩ (.int .i64 e)).setCell ⟨O, 0, none⟩ (.slice none 0 0)) := But.setCell _ _ _ (.inl (.inl rfl)); have hO2 := hO1.set 0 (.slice none 0 0); have hE2 : RowAt ((W.setCell ⟨E, 0, none⟩ (.int .i64 e)).setCell ⟨O, 0, none⟩ (.slice none 0 0)) E _ _ := ((But.setCell (O := fun k => k = O) (W.setCell ⟨E, 0, none⟩ (.int .i64 e)) ⟨O, 0, none⟩ (.slice none 0 0) (.inl rfl)).same _ hE1.lt (fun h => hne h.symm)).trans hE1
  have r1 := hO2.cell (i := 0) rfl; have r2 := hE2.cell (i := 0) rfl; have hfin := hR _ (b1.trans b2); refine leaves_cons (f := 123) (args := #[.pointer (some ⟨E, 0, none⟩), .func (.func 134) #[] #[.pointer (some ⟨O, 0, none⟩)]]) (by simp) (by have := enters_caught; unfold Enters at this; simp [go_sem, invoke, this]) ?_; refine (caught_gup E e 0 134 #[.pointer (some ⟨O, 0, none⟩)] enters_enc1 W c0 f0 (enc1_c O v _ (hO1.cell (i := 0) rfl) (hO1.fz 0))).mono ?_; rintro en u' w'' ⟨rfl, rfl, rfl⟩
  simpa [Leaves, settle, results, Tryz.results114, go_sem, r1, r2] using hfin
theorem encode_c (S : Nat → Prop) (x : It) (r : Rw) (w : World) (hr : ItR S w x r) (hcx : cnt x ≤ 1000000) (hkw : kwB x) (hT : Tabs w) (hSk : ∀ k, S k → k < w.heap.size) : Calls Tryz.prog 114 #[rwV r] w (EncE x w) := by
  obtain ⟨k1, n1, ba1, bn1, bc1, s1, la1, ln1, lc1, rfl⟩ := hr.shape
  have hmf : ∀ (fn : Fn) (first cap : Array Value) (w : World), (Instr.makeFunc fn first cap).run Tryz.prog w = .ok (.func fn first cap) w := fun _ _ _ _ => rfl
  have q0 := rangeAt_up ((below_alloc (w.alloc (.cells (rwC ⟨k1, n1, .slice ba1 bn1 bc1, s1, .slice la1 ln1 lc1⟩).toArray 62)) (.cells #[.slice none 0 0] 48)).alloc (by simp) (.cells #[.int .i64 0] 33)) (rangeAt_new w (rwC ⟨k1, n1, .slice ba1 bn1 bc1, s1, .slice la1 ln1 lc1⟩) 62 (0, 0)); have XO := (RowAt.new (w.alloc (.cells (rwC ⟨k1, n1, .slice ba1 bn1 bc1, s1, .slice la1 ln1 lc1⟩).toArray 62)) #[.slice none 0 0] 48).below (below_alloc _ (.cells #[.int .i64 0] 33)); have XE := RowAt.new ((w.alloc (.cells (rwC ⟨k1, n1, .slice ba1 bn1 bc1, s1, .slice la1 ln1 lc1⟩).toArray 62)).alloc (.cells #[.slice none 0 0] 48)) #[.int .i64 0] 33; have hB0 : Below w.heap.size w (((w.alloc (.cells (rwC ⟨k1, n1, .slice ba1 bn1 bc1, s1, .slice la1 ln1 lc1⟩).toArray 62)).alloc (.cells #[.slice none 0 0] 48)).alloc (.cells #[.int .i64 0] 33)) := ((below_alloc w _).alloc (by simp) _).alloc (by simp; omega) _
  have hz0 : (((w.alloc (.cells (rwC ⟨k1, n1, .slice ba1 bn1 bc1, s1, .slice la1 ln1 lc1⟩).toArray 62)).alloc (.cells #[.slice none 0 0] 48)).alloc (.cells #[.int .i64 0] 33)).heap.size = w.heap.size + 3 := by simp
  simp only [World.size_alloc] at XO XE; obtain ⟨W0, hW0⟩ : ∃ W0, ((w.alloc (.cells (rwC ⟨k1, n1, .slice ba1 bn1 bc1, s1, .slice la1 ln1 lc1⟩).toArray 62)).alloc (.cells #[.slice none 0 0] 48)).alloc (.cells #[.int .i64 0] 33) = W0 := ⟨_, rfl⟩; rw [hW0] at q0 XO XE hB0 hz0; have hri := right_c S x _ W0 (hr.up hB0) hcx hkw (hT.up hB0) (fun k hk => by have := hSk k hk; have := hB0.size; omega)
  have hde := fun w' (hb : Below W0.heap.size W0 w') => depth_c S x _ w' ((hr.up hB0).up hb) hcx
  have hwr := fun (h : rightB x = true) w' (hb : Below W0.heap.size W0 w') => written_c S x _ w' ((hr.up hB0).up hb) hcx h
  have hdc := depth_cnt x; have hbl := bytes_le x; have HX := Lib.hid hr; clear hr hkw hT hSk; have e0 := q0 0 _ rfl; have e1 := q0 1 _ rfl; have e2 := q0 2 _ rfl; have e3 := q0 3 _ rfl; have e4 := q0 4 _ rfl; simp only [Nat.zero_add] at e0 e1 e2 e3 e4; by_cases hR : rightB x = false
  · have HC := Lib.hid (show chk x = 2 by unfold chk; rw [if_pos hR])
    rw [hR] at hri
    go_enter_defers Tryz.func114, Tryz.ntmps114
    go_wp2_with (first
      | (go_at_call 135; refine hri.mono ?_; rintro en w1 ⟨hb1, rfl⟩; have q1 := rangeAt_up hb1 q0; have a0 := q1 0 _ rfl; have a1 := q1 1 _ rfl; have a2 := q1 2 _ rfl; have a3 := q1 3 _ rfl; have a4 := q1 4 _ rfl; simp only [Nat.zero_add] at a0 a1 a2 a3 a4))
    refine enc_door _ _ 2 _ w1 (XO.below hb1) (XE.below hb1) (by omega) _ _ _ _ _ _ _ _ _ _ _ _ _ _ _ _ (fun W' hb => ⟨?_, .slice none 0 0, by rw [HC.out], (fun h => by rw [HC.out] at h; cases h), fun _ => rfl⟩); exact (below_up hB0 hb1).trans (hb.below (fun k e => by omega) (below_up hB0 hb1).size)
  · have hR' : rightB x = true := by simpa using hR
    rw [hR'] at hri; have hwr := hwr hR'; by_cases hd : 8 < depth x
    · have HC := Lib.hid (show chk x = 120 by unfold chk; rw [if_neg hR, if_pos hd])
      have hd1 : decide ((depth x : Int) ≤ 8) = false := decide_eq_false (by omega); generalize depth x = D at hd1 hde hdc; clear hR hR' hd
      go_enter_defers Tryz.func114, Tryz.ntmps114
      go_wp2_with (first
      | (go_at_call 135; refine hri.mono ?_; rintro en w1 ⟨hb1, rfl⟩; have q1 := rangeAt_up hb1 q0; have a0 := q1 0 _ rfl; have a1 := q1 1 _ rfl; have a2 := q1 2 _ rfl; have a3 := q1 3 _ rfl; have a4 := q1 4 _ rfl; simp only [Nat.zero_add] at a0 a1 a2 a3 a4)
      | (go_at_call 136; refine (hde w1 hb1).mono ?_; rintro en w2 ⟨rfl, hb2⟩; have q2 := rangeAt_up hb2 q1; have b0 := q2 0 _ rfl; have b1 := q2 1 _ rfl; have b2 := q2 2 _ rfl; have b3 := q2 3 _ rfl; have b4 := q2 4 _ rfl; simp only [Nat.zero_add] at b0 b1 b2 b3 b4)
      | (go_at_call 125; with_reducible refine (must_no _ _).mono ?_; rintro en w6 ⟨rfl, rfl⟩))
      refine enc_door _ _ 120 _ w2 (XO.below (below_up hb1 hb2)) (XE.below (below_up hb1 hb2)) (by omega) _ _ _ _ _ _ _ _ _ _ _ _ _ _ _ _ (fun W' hb => ⟨?_, .slice none 0 0, by rw [HC.out], (fun h => by rw [HC.out] at h; cases h), fun _ => rfl⟩); have hbw := below_up hB0 (below_up hb1 hb2); exact hbw.trans (hb.below (fun k e => by omega) hbw.size)
    · have hd1 : decide ((depth x : Int) ≤ 8) = true := decide_eq_true (by omega)
      by_cases hL : 65536 < (bytesOf x).length
      · have HC := Lib.hid (show chk x = 3 by unfold chk; rw [if_neg hR, if_neg hd, if_pos hL])
        have hl1 : decide (((bytesOf x).length : Int) ≤ 65536) = false := decide_eq_false (by omega); obtain ⟨bs, hbs⟩ : ∃ bs, bytesOf x = bs := ⟨_, rfl⟩; rw [hbs] at hwr hl1 hbl hL; obtain ⟨L, hLL⟩ : ∃ L, bs.length = L := ⟨_, rfl⟩; rw [hLL] at hwr hl1 hbl; generalize depth x = D at hd1 hde hdc; have HBS := Lib.hid (And.intro hbs hLL); clear hR hR' hd hL hLL hbs
        go_enter_defers Tryz.func114, Tryz.ntmps114
        go_wp2_with (first
      | (go_at_call 135; refine hri.mono ?_; rintro en w1 ⟨hb1, rfl⟩; have q1 := rangeAt_up hb1 q0; have a0 := q1 0 _ rfl; have a1 := q1 1 _ rfl; have a2 := q1 2 _ rfl; have a3 := q1 3 _ rfl; have a4 := q1 4 _ rfl; simp only [Nat.zero_add] at a0 a1 a2 a3 a4)
      | (go_at_call 136; refine (hde w1 hb1).mono ?_; rintro en w2 ⟨rfl, hb2⟩; have q2 := rangeAt_up hb2 q1; have b0 := q2 0 _ rfl; have b1 := q2 1 _ rfl; have b2 := q2 2 _ rfl; have b3 := q2 3 _ rfl; have b4 := q2 4 _ rfl; simp only [Nat.zero_add] at b0 b1 b2 b3 b4)
      | (go_at_call 137; refine (hwr w2 (below_up hb1 hb2)).mono ?_; rintro en w3 ⟨v3, rfl, ho3, hb3⟩; obtain ⟨p3, c3, rfl⟩ := own_slice ho3; have z2 := XO.below (below_up (below_up hb1 hb2) hb3); have z3 := XE.below (below_up (below_up hb1 hb2) hb3); have y2 := z2.cell (i := 0) rfl; have y3 := z3.cell (i := 0) rfl; have f2 := z2.fz 0; have f3 := z3.fz 0; have m2 := (z2.set 0 (.slice p3 L c3)).cell (i := 0) rfl)
      | (go_at_call 125; with_reducible refine (must_yes _ _).mono ?_; rintro en w6 ⟨rfl, rfl⟩)
      | (go_at_call 125; with_reducible refine (must_no _ _).mono ?_; rintro en w6 ⟨rfl, rfl⟩))
        have hE4 : RowAt (w3.setCell ⟨w.heap.size + 1, 0, none⟩ (.slice p3 L c3)) (w.heap.size + 1 + 1) _ _ := ((But.setCell (O := fun k => k = w.heap.size + 1) w3 ⟨w.heap.size + 1, 0, none⟩ (.slice p3 L c3) (.inl rfl)).same _ z3.lt (by omega)).trans z3; refine enc_door _ _ 3 _ _ (z2.set 0 (.slice p3 L c3)) hE4 (by omega) _ _ _ _ _ _ _ _ _ _ _ _ _ _ _ _ (fun W' hb => ⟨?_, .slice none 0 0, by rw [HC.out], (fun h => by rw [HC.out] at h; cases h), fun _ => rfl⟩); have hbw := (below_up hB0 (below_up (below_up hb1 hb2) hb3)).setCell (p := ⟨w.heap.size + 1, 0, none⟩) (by simp) (.slice p3 L c3); exact hbw.trans (hb.below (fun k e => by omega) hbw.size)
      · have HC := Lib.hid (show chk x = 0 by unfold chk; rw [if_neg hR, if_neg hd, if_neg hL])
        have hl1 : decide (((bytesOf x).length : Int) ≤ 65536) = true := decide_eq_true (by omega); obtain ⟨bs, hbs⟩ : ∃ bs, bytesOf x = bs := ⟨_, rfl⟩; rw [hbs] at hwr hl1 hbl hL; obtain ⟨L, hLL⟩ : ∃ L, bs.length = L := ⟨_, rfl⟩; rw [hLL] at hwr hl1 hbl; generalize depth x = D at hd1 hde hdc; have HBS := Lib.hid (And.intro hbs hLL); clear hR hR' hd hL hLL hbs
        go_enter_defers Tryz.func114, Tryz.ntmps114
        go_wp2_with (first
      | (go_at_call 135; refine hri.mono ?_; rintro en w1 ⟨hb1, rfl⟩; have q1 := rangeAt_up hb1 q0; have a0 := q1 0 _ rfl; have a1 := q1 1 _ rfl; have a2 := q1 2 _ rfl; have a3 := q1 3 _ rfl; have a4 := q1 4 _ rfl; simp only [Nat.zero_add] at a0 a1 a2 a3 a4)
      | (go_at_call 136; refine (hde w1 hb1).mono ?_; rintro en w2 ⟨rfl, hb2⟩; have q2 := rangeAt_up hb2 q1; have b0 := q2 0 _ rfl; have b1 := q2 1 _ rfl; have b2 := q2 2 _ rfl; have b3 := q2 3 _ rfl; have b4 := q2 4 _ rfl; simp only [Nat.zero_add] at b0 b1 b2 b3 b4)
      | (go_at_call 137; refine (hwr w2 (below_up hb1 hb2)).mono ?_; rintro en w3 ⟨v3, rfl, ho3, hb3⟩; obtain ⟨p3, c3, rfl⟩ := own_slice ho3; have z2 := XO.below (below_up (below_up hb1 hb2) hb3); have z3 := XE.below (below_up (below_up hb1 hb2) hb3); have y2 := z2.cell (i := 0) rfl; have y3 := z3.cell (i := 0) rfl; have f2 := z2.fz 0; have f3 := z3.fz 0; have m2 := (z2.set 0 (.slice p3 L c3)).cell (i := 0) rfl)
      | (go_at_call 125; with_reducible refine (must_yes _ _).mono ?_; rintro en w6 ⟨rfl, rfl⟩))
        refine leaves_cons (f := 123) (args := #[.pointer (some ⟨w.heap.size + 1 + 1, 0, none⟩), .func (.func 134) #[] #[.pointer (some ⟨w.heap.size + 1, 0, none⟩)]]) (by simp) (by have := enters_caught; unfold Enters at this; simp [go_sem, invoke, this]) ?_; refine (caught_idle ⟨w.heap.size + 1 + 1, 0, none⟩ 134 #[.pointer (some ⟨w.heap.size + 1, 0, none⟩)] _).mono ?_; rintro en u' w'' ⟨rfl, rfl, rfl⟩; have hbw := below_up hB0 (below_up (below_up hb1 hb2) hb3); have s1' : But (fun k => k = w.heap.size + 1 ∨ k = w.heap.size + 1 + 1) w3 (w3.setCell ⟨w.heap.size + 1, 0, none⟩ (.slice p3 L c3)) := But.setCell _ _ _ (.inl (.inl rfl)); have s2' : But (fun k => k = w.heap.size + 1 ∨ k = w.heap.size + 1 + 1) _ ((w3.setCell ⟨w.heap.size + 1, 0, none⟩ (.slice p3 L c3)).setCell ⟨w.heap.size + 1, 0, none⟩ (.slice p3 L c3)) := But.setCell _ _ _ (.inl (.inl rfl))
        have s3' : But (fun k => k = w.heap.size + 1 ∨ k = w.heap.size + 1 + 1) _ (((w3.setCell ⟨w.heap.size + 1, 0, none⟩ (.slice p3 L c3)).setCell ⟨w.heap.size + 1, 0, none⟩ (.slice p3 L c3)).setCell ⟨w.heap.size + 1 + 1, 0, none⟩ (.int .i64 0)) := But.setCell _ _ _ (.inl (.inr rfl)); have hO2 := (z2.set 0 (.slice p3 L c3)).set 0 (.slice p3 L c3); have hO3 : RowAt (((w3.setCell ⟨w.heap.size + 1, 0, none⟩ (.slice p3 L c3)).setCell ⟨w.heap.size + 1, 0, none⟩ (.slice p3 L c3)).setCell ⟨w.heap.size + 1 + 1, 0, none⟩ (.int .i64 0)) (w.heap.size + 1) _ _ := ((But.setCell (O := fun k => k = w.heap.size + 1 + 1) _ ⟨w.heap.size + 1 + 1, 0, none⟩ (.int .i64 0) (.inl rfl)).same _ hO2.lt (by omega)).trans hO2; have hE2 : RowAt ((w3.setCell ⟨w.heap.size + 1, 0, none⟩ (.slice p3 L c3)).setCell ⟨w.heap.size + 1, 0, none⟩ (.slice p3 L c3)) (w.heap.size + 1 + 1) _ _ := (((But.setCell (O := fun k => k = w.heap.size + 1) w3 ⟨w.heap.size + 1, 0, none⟩ (.slice p3 L c3) (.inl rfl)).trans (But.setCell (O := fun k => k = w.heap.size + 1) _ ⟨w.heap.size + 1, 0, none⟩ (.slice p3 L c3) (.inl rfl))).same _ z3.lt (by omega)).trans z3
        have hE3 := hE2.set 0 (.int .i64 0); have r1 := hO3.cell (i := 0) rfl; have r2 := hE3.cell (i := 0) rfl; have ho5 := own_but ho3 ((s1'.trans s2').trans s3') (fun k hk h => by have := (own_of_some ho3 hk).1; have := hb1.size; have := hb2.size; omega)
        have hfin : EncE x w (.returned (.tuple #[.slice p3 L c3, .int .i64 0])) (((w3.setCell ⟨w.heap.size + 1, 0, none⟩ (.slice p3 L c3)).setCell ⟨w.heap.size + 1, 0, none⟩ (.slice p3 L c3)).setCell ⟨w.heap.size + 1 + 1, 0, none⟩ (.int .i64 0)) := by
          refine ⟨hbw.trans (((s1'.trans s2').trans s3').below (fun k e => by omega) hbw.size), .slice p3 L c3, by rw [HC.out], fun _ => ?_, fun h => absurd HC.out h⟩; rw [HBS.out.1, HBS.out.2]; exact own_down ho5 (by have := hb1.size; have := hb2.size; omega)
        simpa [Leaves, settle, results, Tryz.results114, go_sem, r1, r2] using hfin
theorem enters_first1 : Enters Tryz.prog 124 := enters_of Tryz.func124 (by kernel_rfl) rfl
theorem first1_c (X N : Nat) (hne : X ≠ N) (k0 n0 s0 : Value) (b0 l0 : Value) (m : Value) (w : World) (hX : RowAt w X #[k0, n0, b0, s0, l0] 62) (hN : RowAt w N #[m] 3) :
    Calls Tryz.prog 124 #[.pointer (some ⟨X, 0, none⟩), .pointer (some ⟨N, 0, none⟩)] w fun en w' => en = .returned (.tuple #[]) ∧ But (fun k => k = X ∨ k = N) w w' ∧ RowAt w' X #[.int .i64 0, .int .u64 0, .slice none 0 0, .string ⟨#[]⟩, .slice none 0 0] 62 ∧ RowAt w' N #[.int .i64 0] 3 := by
  have a0 := hX.cell (i := 0) (v := k0) rfl; have a1 := hX.cell (i := 1) (v := n0) rfl; have a2 := hX.cell (i := 2) (v := b0) rfl; have a3 := hX.cell (i := 3) (v := s0) rfl; have a4 := hX.cell (i := 4) (v := l0) rfl; have f0 := hX.fz 0; have f1 := hX.fz 1; have f2 := hX.fz 2; have f3 := hX.fz 3; have f4 := hX.fz 4; have g0 := hN.cell (i := 0) (v := m) rfl; have h0 := hN.fz 0; go_enter Tryz.func124, Tryz.ntmps124; go_wp2; have hX5 := ((((hX.set 0 (.int .i64 0)).set 1 (.int .u64 0)).set 2 (.slice none 0 0)).set 3 (.string ⟨#[]⟩)).set 4 (.slice none 0 0); have s1 : But (fun k => k = X) w (w.setCell ⟨X, 0, none⟩ (.int .i64 0)) := But.setCell _ _ _ (.inl rfl); have s2 : But (fun k => k = X) _ ((w.setCell ⟨X, 0, none⟩ (.int .i64 0)).setCell ⟨X, 1, none⟩ (.int .u64 0)) := But.setCell _ _ _ (.inl rfl); have s3 : But (fun k => k = X) _ (((w.setCell ⟨X, 0, none⟩ (.int .i64 0)).setCell ⟨X, 1, none⟩ (.int .u64 0)).setCell ⟨X, 2, none⟩ (.slice none 0 0)) := But.setCell _ _ _ (.inl rfl)
  have s4 : But (fun k => k = X) _ ((((w.setCell ⟨X, 0, none⟩ (.int .i64 0)).setCell ⟨X, 1, none⟩ (.int .u64 0)).setCell ⟨X, 2, none⟩ (.slice none 0 0)).setCell ⟨X, 3, none⟩ (.string ⟨#[]⟩)) := But.setCell _ _ _ (.inl rfl); have s5 : But (fun k => k = X) _ (((((w.setCell ⟨X, 0, none⟩ (.int .i64 0)).setCell ⟨X, 1, none⟩ (.int .u64 0)).setCell ⟨X, 2, none⟩ (.slice none 0 0)).setCell ⟨X, 3, none⟩ (.string ⟨#[]⟩)).setCell ⟨X, 4, none⟩ (.slice none 0 0)) := But.setCell _ _ _ (.inl rfl); have s15 := (((s1.trans s2).trans s3).trans s4).trans s5; have hN5 := (s15.same _ hN.lt (fun e => hne e.symm)).trans hN; obtain ⟨W5, hW5⟩ : ∃ W5, (((((w.setCell ⟨X, 0, none⟩ (.int .i64 0)).setCell ⟨X, 1, none⟩ (.int .u64 0)).setCell ⟨X, 2, none⟩ (.slice none 0 0)).setCell ⟨X, 3, none⟩ (.string ⟨#[]⟩)).setCell ⟨X, 4, none⟩ (.slice none 0 0)) = W5 := ⟨_, rfl⟩; rw [hW5] at hX5 s15 hN5 ⊢; have s6 : But (fun k => k = N) W5 (W5.setCell ⟨N, 0, none⟩ (.int .i64 0)) := But.setCell _ _ _ (.inl rfl)
  have hX6 := (s6.same _ (RowAt.lt hX5) hne).trans hX5; have hN6 := RowAt.set hN5 0 (.int .i64 0)
  go_end0
  exact ⟨rfl, (s15.mono fun _ _ e => .inl e).trans (s6.mono fun _ _ e => .inr e), hX6, hN6⟩
abbrev zeroIt : Value := rwV ⟨0, 0, .slice none 0 0, ⟨#[]⟩, .slice none 0 0⟩
theorem fst_door {R : Ending → World → Prop} (X N E : Nat) (e : Int) (k0 n0 b0 s0 l0 m : Value) (W : World) (hX : RowAt W X #[k0, n0, b0, s0, l0] 62) (hN : RowAt W N #[m] 3) (hE : RowAt W E #[.int .i64 0] 33) (hXN : X ≠ N) (hXE : X ≠ E) (hNE : N ≠ E) (u0 u1 u5 u6 u7 u8 u9 u10 u11 u12 u13 u14 u15 u16 u17 u18 u19 u20 u21 u22 u23 u24 : Value)
    (hR : ∀ W', But (fun k => k = X ∨ k = N ∨ k = E) W W' → R (.returned (.tuple #[zeroIt, .int .i64 0, .int .i64 e])) W') :
    Leaves Tryz.prog Tryz.f98 #[u0, u1, .pointer (some ⟨X, 0, none⟩), .pointer (some ⟨N, 0, none⟩), .pointer (some ⟨E, 0, none⟩), u5, u6, u7, u8, u9, u10, u11, u12, u13, u14, u15, u16, u17, u18, u19, u20, u21, u22, u23, u24] R [{ target := .fn (.func 123) #[], args := #[.pointer (some ⟨E, 0, none⟩), .func (.func 124) #[] #[.pointer (some ⟨X, 0, none⟩), .pointer (some ⟨N, 0, none⟩)]] }] (.panicking (gup e)) W := by
  have c0 := hE.cell (i := 0) rfl; have f0 := hE.fz 0; have b1 : But (fun k => k = E) W (W.setCell ⟨E, 0, none⟩ (.int .i64 e)) := But.setCell _ _ _ (.inl rfl); have hX1 := (b1.same _ hX.lt hXE).trans hX; have hN1 := (b1.same _ hN.lt hNE).trans hN; have hE1 := hE.set 0 (.int .i64 e); have hfc := first1_c X N hXN k0 n0 s0 b0 l0 m _ hX1 hN1; refine leaves_cons (f := 123) (args := #[.pointer (some ⟨E, 0, none⟩), .func (.func 124) #[] #[.pointer (some ⟨X, 0, none⟩), .pointer (some ⟨N, 0, none⟩)]]) (by simp) (by have := enters_caught; unfold Enters at this; simp [go_sem, invoke, this]) ?_; refine (caught_gup E e 0 124 #[.pointer (some ⟨X, 0, none⟩), .pointer (some ⟨N, 0, none⟩)] enters_first1 W c0 f0 hfc).mono ?_; rintro en u' w'' ⟨rfl, rfl, b2, hX2, hN2⟩; have hE2 := (b2.same _ hE1.lt (fun h => by rcases h with h | h; exact hXE h.symm; exact hNE h.symm)).trans hE1
  have hfin := hR _ ((b1.mono fun _ _ h => .inr (.inr h)).trans (b2.mono fun _ _ h => by rcases h with h | h; exact .inl h; exact .inr (.inl h))); have r0 := hX2.cell (i := 0) (v := .int .i64 0) rfl; have r1 := hX2.cell (i := 1) (v := .int .u64 0) rfl; have r2 := hX2.cell (i := 2) (v := .slice none 0 0) rfl; have r3 := hX2.cell (i := 3) (v := .string ⟨#[]⟩) rfl; have r4 := hX2.cell (i := 4) (v := .slice none 0 0) rfl; have q1 := hN2.cell (i := 0) (v := .int .i64 0) rfl; have q2 : w''.cell? ⟨E, 0, none⟩ = some (.int .i64 e) := RowAt.cell hE2 (i := 0) rfl
  simpa [Leaves, settle, results, Tryz.results98, go_sem, r0, r1, r2, r3, r4, q1, q2] using hfin
theorem set5 {X : Nat} {T : TypeId} {k0 n0 b0 s0 l0 : Value} {w : World} (hX : RowAt w X #[k0, n0, b0, s0, l0] T) (v0 v1 v2 v3 v4 : Value) :
    RowAt (((((w.setCell ⟨X, 0, none⟩ v0).setCell ⟨X, 1, none⟩ v1).setCell ⟨X, 2, none⟩ v2).setCell ⟨X, 3, none⟩ v3).setCell ⟨X, 4, none⟩ v4) X #[v0, v1, v2, v3, v4] T ∧
    But (fun k => k = X) w (((((w.setCell ⟨X, 0, none⟩ v0).setCell ⟨X, 1, none⟩ v1).setCell ⟨X, 2, none⟩ v2).setCell ⟨X, 3, none⟩ v3).setCell ⟨X, 4, none⟩ v4) := by
  refine ⟨((((hX.set 0 v0).set 1 v1).set 2 v2).set 3 v3).set 4 v4, ?_⟩; have s1 : But (fun k => k = X) w (w.setCell ⟨X, 0, none⟩ v0) := But.setCell _ _ _ (.inl rfl); have s2 : But (fun k => k = X) _ ((w.setCell ⟨X, 0, none⟩ v0).setCell ⟨X, 1, none⟩ v1) := But.setCell _ _ _ (.inl rfl); have s3 : But (fun k => k = X) _ (((w.setCell ⟨X, 0, none⟩ v0).setCell ⟨X, 1, none⟩ v1).setCell ⟨X, 2, none⟩ v2) := But.setCell _ _ _ (.inl rfl); have s4 : But (fun k => k = X) _ ((((w.setCell ⟨X, 0, none⟩ v0).setCell ⟨X, 1, none⟩ v1).setCell ⟨X, 2, none⟩ v2).setCell ⟨X, 3, none⟩ v3) := But.setCell _ _ _ (.inl rfl); have s5 : But (fun k => k = X) _ (((((w.setCell ⟨X, 0, none⟩ v0).setCell ⟨X, 1, none⟩ v1).setCell ⟨X, 2, none⟩ v2).setCell ⟨X, 3, none⟩ v3).setCell ⟨X, 4, none⟩ v4) := But.setCell _ _ _ (.inl rfl); exact (((s1.trans s2).trans s3).trans s4).trans s5
abbrev TI : TypeId := 62
theorem RdAt.but {w w' : World} {D : Nat} {v : Value} {b : List UInt8} {O : Nat → Prop} (h : RdAt w D v b) (hb : But O w w') (hO : ∀ k, k ≤ D → ¬ O k) : RdAt w' D v b :=
  ⟨(hb.same _ h.box.lt (hO D (Nat.le_refl _))).trans h.box, h.sl.but hb (h.far.imp id fun f k hk => hO k (Nat.le_of_lt (f k hk))), h.far⟩
theorem Tabs.one {w w' : World} {D : Nat} {v : Value} {T : TypeId} (h : Tabs w) (hD : RowAt w D #[v] T) (hb : But (fun k => k = D) w w') : Tabs w' := by
  have n0 : 0 ≠ D := fun e => by
    have := h.1 1 (by decide); subst e; exact absurd this (by simp [World.cell?, show w.heap[_]? = _ from hD])
  have n1 : 1 ≠ D := fun e => by
    have := (h.2 1 (by decide)).1; subst e; exact absurd this (by simp [World.cell?, show w.heap[_]? = _ from hD])
  exact ⟨fun c hc => hb.cell (h.1 c hc) n0, fun i hi => ⟨hb.cell (h.2 i hi).1 n1, hb.cell (h.2 i hi).2 n1⟩⟩
theorem itR_flat {S : Nat → Prop} {W : World} {k n : Int} {b : List UInt8} {s : ByteArray} {vb : Value} (h0 : 0 ≤ n) (h1 : n ≤ 18446744073709551615) (hb : SlS S W 1 vb b.length (by8 b)) : ItR S W (.mk k n b s []) ⟨k, n, vb, s, .slice none 0 0⟩ := by
  unfold ItR; exact ⟨rfl, rfl, rfl, ⟨h0, h1⟩, hb, [], ⟨Sl.nil _ _, .inl rfl⟩, by unfold ItsR; rfl⟩
theorem slS_nil {S : Nat → Prop} {W : World} : SlS S W 1 (.slice none 0 0) ([] : List UInt8).length (by8 []) := ⟨Sl.nil _ _, .inl rfl⟩
def ItE (d : Nat) (b : List UInt8) (w : World) (D : Nat) (en : Ending) (w' : World) : Prop :=
  But (fun k => k = D) w w' ∧ match itemP d b with
    | .error e => en = .panicked (gup e)
    | .ok (x, k) => ∃ r v', en = .returned (rwV r) ∧ ItR (fun j => w.heap.size ≤ j ∧ j < w'.heap.size) w' x r ∧ RdAt w' D v' (b.drop k)
theorem itE_ok {d : Nat} {b : List UInt8} {w w' : World} {D : Nat} {x : It} {k : Nat} {r : Rw} {v' : Value} (hp : itemP d b = .ok (x, k)) (hb : But (fun k => k = D) w w') (hr : ItR (fun j => w.heap.size ≤ j ∧ j < w'.heap.size) w' x r) (hR : RdAt w' D v' (b.drop k)) : ItE d b w D (.returned (rwV r)) w' :=
  ⟨hb, by rw [hp]; exact ⟨r, v', rfl, hr, hR⟩⟩
theorem itE_err {d : Nat} {b : List UInt8} {w w' : World} {D : Nat} {e : Int} (hp : itemP d b = .error e) (hb : But (fun k => k = D) w w') : ItE d b w D (.panicked (gup e)) w' := ⟨hb, by rw [hp]⟩
theorem itemP_simple {d : Nat} {b : List UInt8} (k : Nat) (hk : k < 3) (h : Oct.beginsB b [UInt8.ofNat (244 + k)] = true) : itemP (d + 1) b = .ok (if k = 0 then .mk 5 0 [] noS [] else if k = 1 then .mk 5 1 [] noS [] else .mk 6 0 [] noS [], 1) := by
  simp only [itemP, simpleP_at b k hk h]
theorem itemP_head {d : Nat} {b : List UInt8} (h : ∀ j : Nat, j < 3 → Oct.beginsB b [UInt8.ofNat (244 + j)] = false) : itemP (d + 1) b = match headP b with | none => .error 121 | some (m, n, k) => bodyP (itemP d) m n k (b.drop k) := by
  simp only [itemP, simpleP_none h]
  cases headP b <;> rfl
structure LsAt (w0 : World) (d : Nat) (r : List UInt8) (D X : Nat) (j c : Nat) (l : List It) (rows : List Rw) (lv v' : Value) (W : World) : Prop where
  but : But (fun k => k = D) w0 W
  lst : listP (itemP d) j r = .ok (l, c)
  rd : RdAt W D v' (r.drop c)
  box : RowAt W X #[.int .i64 4, .int .u64 0, .slice none 0 0, .string ⟨#[]⟩, lv] TI
  own : W.ownsRow (X + 1) TI 5 lv j (rows.flatMap rwC)
  its : ItsR (fun k => X < k ∧ k < W.heap.size ∧ lv.ownBlock ≠ some k) W l rows
  bx : RowAt W w0.heap.size #[.int .i64 0, .int .u64 0, .slice none 0 0, .string ⟨#[]⟩, .slice none 0 0] TI
theorem LsAt.step {w0 : World} {d : Nat} {r : List UInt8} {D X : Nat} {j c : Nat} {l : List It} {rows : List Rw} {lv v' : Value} {W : World} (h : LsAt w0 d r D X j c l rows lv v' W) (hDw : D < w0.heap.size) (hwX : w0.heap.size < X)
    {x : It} {k : Nat} {rr : Rw} {u : Value} {W1 W2 W3 : World} (hx : itemP d (r.drop c) = .ok (x, k)) (h1 : But (fun k => k = D) W W1) (hr : ItR (fun j => W.heap.size ≤ j ∧ j < W1.heap.size) W1 x rr) (hR : RdAt W1 D u ((r.drop c).drop k))
    (h2 : Below W1.heap.size W1 W2) {v3 : Value} (ho : W3.ownsRow (X + 1) TI 5 v3 (j + 1) (rows.flatMap rwC ++ rwC rr)) (h3 : But (fun k => lv.ownBlock = some k) W2 W3) (hb3 : v3.ownBlock = lv.ownBlock ∨ v3.ownBlock = some W2.heap.size) :
    LsAt w0 d r D X (j + 1) (c + k) (l ++ [x]) (rows ++ [rr]) v3 u (W3.setCell ⟨X, 4, none⟩ v3) := by
  have hXW := h.box.lt; have hs1 := h1.size; have hs2 := h2.size; have hs3 := h3.size
  have hlv : ∀ k, lv.ownBlock = some k → X < k ∧ k < W.heap.size := fun k hk => by have := own_of_some h.own hk; omega
  have s4 : But (fun k => k = X) W3 (W3.setCell ⟨X, 4, none⟩ v3) := But.setCell _ _ _ (.inl rfl)
  have hs4 : (W3.setCell ⟨X, 4, none⟩ v3).heap.size = W3.heap.size := by simp [World.setCell]
  have hb13 : But (fun k => lv.ownBlock = some k ∨ k = D) W W3 := (h1.mono fun _ _ e => .inr e).trans (((But.of_below h2).trans (h3.mono fun _ _ e => .inl e))); have hb23 : But (fun k => lv.ownBlock = some k) W1 W3 := (But.of_below h2).trans h3
  have hall : But (fun k => k = D) w0 (W3.setCell ⟨X, 4, none⟩ v3) := ((h.but.then hb13 (fun q hq e => by rcases e with e | e; have := hlv q e; omega; exact e))).then s4 (fun q hq e => by omega)
  have hX3 : RowAt W3 X _ TI := (hb13.same _ hXW (fun e => by rcases e with e | e; have := hlv X e; omega; omega)).trans h.box
  have hv3 : ∀ k, v3.ownBlock = some k → X < k := fun k hk => by have := own_of_some ho hk; omega
  refine ⟨hall, listP_snoc _ _ _ _ _ _ h.lst hx, ?_, ?_, ?_, ?_, ?_⟩
  · rw [List.drop_drop] at hR
    exact (hR.but hb23 (fun q hq e => by have := hlv q e; omega)).but s4 (fun q hq e => by omega)
  · exact hX3.set 4 v3
  · rw [List.flatMap_append, List.flatMap_singleton]
    exact own_but ho s4 (fun q hq e => by have := hv3 q hq; omega)
  · refine ItsR.snoc (h.its.turn fun sz v n cs hsl => ?_) (ItR.turn (fun sz v n cs hsl => ?_) _ _ hr)
    · have := ((hsl.but hb13 (fun q hq e => by rcases e with e | e; exact hq.2.2 e; omega)).but s4 (fun q hq e => by omega))
      refine this.mono fun q hq => ⟨hq.1, by rw [hs4]; omega, fun e => ?_⟩
      rcases hb3 with e3 | e3
      · exact hq.2.2 (e3.symm.trans e)
      · have := e3.symm.trans e; have := Option.some.inj this; omega
    · have := ((hsl.but hb23 (fun q hq e => by have := hlv q e; omega)).but s4 (fun q hq e => by omega))
      refine this.mono fun q hq => ⟨by omega, by rw [hs4]; omega, fun e => ?_⟩
      rcases hb3 with e3 | e3
      · have := hlv q (e3.symm.trans e); omega
      · have := e3.symm.trans e; have := Option.some.inj this; omega
  · have e1 := (hb13.same _ h.bx.lt (fun e => by rcases e with e | e; have := hlv _ e; omega; omega)).trans h.bx
    exact (s4.same _ (RowAt.lt e1) (fun e => by omega)).trans e1
theorem LsAt.mk_up {w0 : World} {d : Nat} {r : List UInt8} {D X : Nat} {j c : Nat} {l : List It} {rows : List Rw} {lv v' : Value} {W W' : World} (h : LsAt w0 d r D X j c l rows lv v' W) (hb : Below W.heap.size W W') : LsAt w0 d r D X j c l rows lv v' W' :=
  ⟨h.but.trans (But.of_below hb), h.lst, h.rd.up hb, h.box.below hb, own_up h.own hb, h.its.turn (fun sz v n cs hs => (hs.up hb).mono fun q hq => ⟨hq.1, Nat.lt_of_lt_of_le hq.2.1 hb.size, hq.2.2⟩), h.bx.below hb⟩
end Go.Proofs.YtpkonagjnfphkaaGreatDoor
