/-
  CbX, PtApp, CbY: several texts in one (bundle.py).
-/
import Derived.Test.YtpkonagjnfphkaaGreatDoorPmY11
import Derived.Test.YtpkonagjnfphkaaGreatDoorPmY06
import Derived.Laws.IdiomStrings
import Derived.Test.YtpkonagjnfphkaaGreatDoorPmY01
set_option linter.unusedSimpArgs false
set_option linter.unusedVariables false
set_option maxRecDepth 100000
set_option maxHeartbeats 4000000
namespace Go.Proofs.YtpkonagjnfphkaaGreatDoor
open Go.RowKit Go.Maps Cb
theorem str_bytes {P : Program} (w : World) {src dst e : TypeId} (s : ByteArray) (hs : P.underlying src = some .string) (hd : P.underlying dst = some (.slice e)) (he : P.underlying e = some (.int .u8)) (hm : s.size ≤ maxLen) :
    ∃ c w', (convert src dst (.string s)).run P w = .ok (.slice (some ⟨w.heap.size, 0, none⟩) s.size c) w' ∧ Sl w' 1 (.slice (some ⟨w.heap.size, 0, none⟩) s.size c) s.data.toList.length (by8 s.data.toList) ∧ Below w.heap.size w w' := by
  refine ⟨_, _, run_bytes_of_string w src dst e s hs hd he, ?_, (Below.refl _ _).drew.alloc (Nat.le_refl _) _⟩; have hg := grownCap_ge w s.size 0 e; refine ⟨by rw [by8_len]; simp, .inr ⟨w.heap.size, 0, _, ?_, ?_, grownCap_le_maxLen w s.size 0 e hm, fun j u hj => ?_⟩⟩
  · congr 1
  · exact hg
  · have hsz : (bytesRow s (grownCap w s.size 0 e))[j]? = some u := by
      have hj' : j < s.data.size := by
        have := (List.getElem?_eq_some_iff.1 hj).1; rw [by8_len] at this
        simpa using this
      unfold bytesRow; rw [Array.getElem?_append_left (by simpa using hj')]; simp only [by8, List.getElem?_map, Array.getElem?_toList] at hj; simp only [Array.getElem?_map]; exact hj
    show (w.drew.alloc _).cell? ⟨w.heap.size, 0 + j, none⟩ = some u; rw [Nat.zero_add]; simp only [World.cell?, World.alloc, World.drew, Array.getElem?_push_size]; exact hsz
abbrev Byt (x : It) (w : World) (en : Ending) (w' : World) : Prop := ∃ v, en = .returned v ∧ w'.ownsRow w.heap.size 5 1 v (bytesOf x).length (by8 (bytesOf x)) ∧ Below w.heap.size w w'
theorem wrap_u64 (n : Nat) (h : n ≤ 1000000) : IntKind.u64.wrap (n : Int) = n := by simp [IntKind.wrap, go_sem]; omega
theorem flat2 (a b : List UInt8) : [a, b].flatten = a ++ b := by simp
theorem enters_head : Enters Tryz.prog 164 := enters_of Tryz.func164 (by kernel_rfl) rfl
theorem enters_join : Enters Tryz.prog 171 := enters_of Tryz.func171 (by kernel_rfl) rfl
theorem enters_writes : Enters Tryz.prog 155 := enters_of Tryz.func155 (by kernel_rfl) rfl
theorem enters_madeB : Enters Tryz.prog 174 := enters_of Tryz.func174 (by kernel_rfl) rfl
theorem write1_c (S : Nat → Prop) (x : It) (r : Rw) (w : World) (hr : ItR S w x r) (hcx : cnt x ≤ 1000000) (hk : x.k = 1) : Calls Tryz.prog 169 #[rwV r] w (Byt x w) := by
  obtain ⟨k1, n1, ba1, bn1, bc1, s1, la1, ln1, lc1, rfl⟩ := hr.shape; obtain ⟨rows, p⟩ := hr.parts; have hB1 := below_alloc w (.cells (rwC ⟨k1, n1, .slice ba1 bn1 bc1, s1, .slice la1 ln1 lc1⟩).toArray 62); have e1 := rangeAt_new w (rwC ⟨k1, n1, .slice ba1 bn1 bc1, s1, .slice la1 ln1 lc1⟩) 62 (0, 0); have hby := bytesOf_eq x; rw [hk] at hby; rw [if_pos rfl] at hby; have hn : n1 = x.n := p.n; have h0 := p.lo; have h1 := p.hi; rw [← hn] at hby h0 h1; have Hby := Lib.hid hby; clear p hr hby hk hn hcx; go_enter Tryz.func169, Tryz.ntmps169
  go_wp2_with (go_at_call 164; refine (head_c 0 n1 _ (by decide) (by decide) h0 h1).mono ?_; rintro en w1 ⟨v1, rfl, ho1, hb1⟩)
  go_ret; exact ⟨_, rfl, by rw [Hby.out]; exact own_down ho1 (by simp), below_up hB1 hb1⟩
theorem write5_c (S : Nat → Prop) (x : It) (r : Rw) (w : World) (hr : ItR S w x r) (hcx : cnt x ≤ 1000000) (hk : x.k = 5) : Calls Tryz.prog 175 #[rwV r] w (Byt x w) := by
  obtain ⟨k1, n1, ba1, bn1, bc1, s1, la1, ln1, lc1, rfl⟩ := hr.shape; obtain ⟨rows, p⟩ := hr.parts; have hB1 := below_alloc w (.cells (rwC ⟨k1, n1, .slice ba1 bn1 bc1, s1, .slice la1 ln1 lc1⟩).toArray 62); have e1 := rangeAt_new w (rwC ⟨k1, n1, .slice ba1 bn1 bc1, s1, .slice la1 ln1 lc1⟩) 62 (0, 0); have hby := bytesOf_eq x; rw [hk] at hby; simp only [show ¬ ((5 : Int) = 1) by decide, show ¬ ((5 : Int) = 2) by decide, show ¬ ((5 : Int) = 3) by decide, if_false, if_true] at hby; have hn : n1 = x.n := p.n; have h0 := p.lo; rw [← hn] at hby h0; have Hby := Lib.hid hby; clear p hr hby hk hn hcx; go_enter Tryz.func175, Tryz.ntmps175; go_wp2; go_ret; refine ⟨_, rfl, ?_, hB1.alloc hB1.size _⟩
  have hbv : by8 [UInt8.ofNat (244 + n1).toNat] = [.int .u8 ((244 + n1) % 256)] := by
    simp only [by8, List.map_cons, List.map_nil, UInt8.toNat_ofNat']
    congr 2
    omega
  rw [Hby.out, hbv]; have hown := World.ownsRow_lit (w.alloc (.cells (rwC ⟨k1, n1, .slice ba1 bn1 bc1, s1, .slice la1 ln1 lc1⟩).toArray 62)) #[.int .u8 ((244 + n1) % 256)] 1 (size := 1) (base := w.heap.size) (e := 5) (by simp) (by decide) rfl; rw [World.size_alloc] at hown; exact hown
theorem write6_c (S : Nat → Prop) (x : It) (r : Rw) (w : World) (hr : ItR S w x r) (hcx : cnt x ≤ 1000000) (hk : x.k = 6) : Calls Tryz.prog 176 #[rwV r] w (Byt x w) := by
  obtain ⟨k1, n1, ba1, bn1, bc1, s1, la1, ln1, lc1, rfl⟩ := hr.shape; obtain ⟨rows, p⟩ := hr.parts; have hB1 := below_alloc w (.cells (rwC ⟨k1, n1, .slice ba1 bn1 bc1, s1, .slice la1 ln1 lc1⟩).toArray 62); have e1 := rangeAt_new w (rwC ⟨k1, n1, .slice ba1 bn1 bc1, s1, .slice la1 ln1 lc1⟩) 62 (0, 0); have hby := bytesOf_eq x; rw [hk] at hby; simp only [show ¬ ((6 : Int) = 1) by decide, show ¬ ((6 : Int) = 2) by decide, show ¬ ((6 : Int) = 3) by decide, show ¬ ((6 : Int) = 5) by decide, if_false, if_true] at hby; have Hby := Lib.hid hby; clear p hr hby hk hcx; go_enter Tryz.func176, Tryz.ntmps176; go_wp2; go_ret; refine ⟨_, rfl, ?_, hB1.alloc hB1.size _⟩; rw [Hby.out]; have hown := World.ownsRow_lit (w.alloc (.cells (rwC ⟨k1, n1, .slice ba1 bn1 bc1, s1, .slice la1 ln1 lc1⟩).toArray 62)) #[.int .u8 246] 1 (size := 1) (base := w.heap.size) (e := 5) (by simp) (by decide) rfl
  rw [World.size_alloc] at hown; exact hown
theorem write2_c (S : Nat → Prop) (x : It) (r : Rw) (w : World) (hr : ItR S w x r) (hcx : cnt x ≤ 1000000) (hk : x.k = 2) : Calls Tryz.prog 170 #[rwV r] w (Byt x w) := by
  obtain ⟨k1, n1, ba1, bn1, bc1, s1, la1, ln1, lc1, rfl⟩ := hr.shape; obtain ⟨rows, p⟩ := hr.parts; have hB1 := below_alloc w (.cells (rwC ⟨k1, n1, .slice ba1 bn1 bc1, s1, .slice la1 ln1 lc1⟩).toArray 62); have e1 := rangeAt_new w (rwC ⟨k1, n1, .slice ba1 bn1 bc1, s1, .slice la1 ln1 lc1⟩) 62 (0, 0); have hby := bytesOf_eq x; rw [hk] at hby; simp only [show ¬ ((2 : Int) = 1) by decide, if_false, if_true] at hby
  have hbl : x.b.length ≤ 1000000 := by cases x; simp only [cnt, It.b] at *; omega
  have hv := p.b; have e2 := rangeAt_up (Below.refl _ _) e1
  have hbn : bn1 = x.b.length := by obtain ⟨a, c, h⟩ := p.b.cell; simp at h; exact h.2.1
  have Hby := Lib.hid hby; clear p hr hby hk hcx; generalize x.b = bs at *; subst hbn; go_enter Tryz.func170, Tryz.ntmps170; go_wp2; refine wp_region_pi [(0, false), (1, false), (2, false), (3, false), (5, false), (6, false), (4, true), (7, true), (8, true), (9, false)] (by kernel_rfl) (by kernel_rfl) (by kernel_rfl) rfl (fun _ _ d _ _ h => by cases d <;> exact h) (fun Wd hBd => ?_)
  try simp only [zq]
  have c1 : ∀ w', Below Wd.heap.size Wd w' → w'.cell? ⟨w.heap.size, 0 + 2, none⟩ = some (.slice ba1 bs.length bc1) := fun w' h => rangeAt_up h (rangeAt_up hBd e1) 2 _ rfl
  refine zi rfl (by rfl) ?_; refine zi rfl (by rfl) ?_; refine zi rfl (by rfl) ?_; refine pi_q (v := .int .u64 (bs.length : Int)) rfl (by rfl) (fun w' hBw' => by go_simp; exact wrap_u64 _ hbl) ?_
  try simp only [zq]
  refine zi rfl (by rfl) ?_; refine zi rfl (by rfl) ?_; refine pi_call rfl (by rfl) ((head_c 2 bs.length Wd (by decide) (by decide) (by omega) (by omega))) enters_head (by rfl) (by kernel_rfl) ?_; rintro en wN ⟨v1, rfl, ho1, hb1⟩; obtain ⟨a1, c1', rfl⟩ := own_slice ho1
  have c1 : ∀ w', Below wN.heap.size wN w' → w'.cell? ⟨w.heap.size, 0 + 2, none⟩ = some (.slice ba1 bs.length bc1) := fun w' h => c1 w' (below_up hb1 h)
  refine ⟨_, rfl, hb1, ?_⟩
  try simp only [zq]
  refine pi_c rfl (by rfl) (fun K hK => ?_); go_simp; refine hK.out _ _ (below_alloc _ _) ?_; clear hK K
  try simp only [zq]
  refine pi_call rfl (by rfl) ((join_c [headB 2 bs.length, bs] _ _ _ _ (slB2 (T := 48) (Sl.of_own ho1) ((hv.1.up (below_up hB1 hBd)).up hb1) rfl rfl _ rfl) (by omega) (by have := headB_len 2 bs.length; simp; omega))) enters_join (by rfl) (by kernel_rfl) ?_; rintro en wN ⟨v2, rfl, ho2, hb2⟩; refine ⟨_, rfl, hb2, ?_⟩
  try simp only [zq]
  refine zi rfl (by rfl) ?_; refine pi_nil ?_; go_wp2; go_ret; rw [flat2] at ho2; refine ⟨_, rfl, ?_, below_up (below_up (below_up (below_up hB1 hBd) hb1) (below_alloc _ _)) hb2⟩; rw [Hby.out]; exact own_down ho2 ((below_up (below_up (below_up hB1 hBd) hb1) (below_alloc _ _)).size)
end Go.Proofs.YtpkonagjnfphkaaGreatDoor
namespace Go.Proofs.YtpkonagjnfphkaaGreatDoor
open Go.RowKit
section
variable {P : Program} {ops : Array Oper} {Q : Exit → Act → World → Prop} {O : Nat → Prop}
theorem pt_app2 {i : Nat} {o : Oper} {R : Act → World → Prop} {a : Act} {w : World} (hi : ops[i]? = some o) (hw : Region.wanted o (yielded ops a.tmps) = true) (s x : Operand) (t : TypeId)
    (ho : o.op = .call { callee := .builtin .append, args := #[s, x], argTypes := #[t, t] })
    {e : TypeId} {sz bytes : Nat} (T : SlT P t e sz bytes) (base : Nat) {v : Value} {n : Nat} {xs : List Value} (hs : a.eval s = v) (hown : w.ownsRow base e sz v n xs)
    {xv : Value} {m : Nat} {news : List Value} (hx : a.eval x = xv) (hsl : Sl w sz xv m news) (h1 : ∀ u ∈ news, u.oneCell' = true)
    (h63 : n + m ≤ maxLen) (hbytes : (n + m) * bytes ≤ 140737488355328) (hbase : base ≤ w.heap.size) (hO : ∀ k, base ≤ k → O k)
    (h : ∀ v' w', w'.ownsRow base e sz v' (n + m) (xs ++ news) → But (fun k => v.ownBlock = some k) w w' → R (a.put o.dst v') w') : ptStep P O ops Q i R a w :=
  ⟨o, hi, hw, by
    obtain ⟨v', w', hr, h2, h3, h4, h5⟩ := run_app_at T o.type w base v n xs hown xv m news hsl h1 h63 hbytes hbase; have hb : But (fun k => v.ownBlock = some k) w w' := But.grown h3 (fun r hr => .inl hr); unfold Oper.wp execOp; simp only [ho, resolve, invoke, builtin, Sem.run_bind, Sem.run_pure, Result.andThen_ok, List.map_toArray, List.map_cons, List.map_nil, hs, hx, hr]
    exact ⟨hb.mono fun j _ e => hO j (own_of_some hown e).1, h v' w' h2 hb⟩⟩
end
section
variable {α : Type} {cells : α → List Value} {sz : Nat}
theorem own_row {w : World} {base : Nat} {T : TypeId} {v : Value} {n : Nat} {xs : List Value} (h : w.ownsRow base T sz v n xs) (hn : 0 < n) :
    ∃ g cap cur, v = .slice (some ⟨g, 0, none⟩) n cap ∧ base ≤ g ∧ RowAt w g cur T ∧ n ≤ cap ∧ cap ≤ maxLen ∧ cur.size = cap * sz ∧ cur.toList.take (n * sz) = xs := by
  rcases h.2 with ⟨_, h0⟩ | ⟨g, cap, cur, h1, h2, h3, h4, h5, h6, h7⟩
  · omega
  · exact ⟨g, cap, cur, h1, h2, h3, h4, h5, h6, h7⟩
end
end Go.Proofs.YtpkonagjnfphkaaGreatDoor
namespace Go.Proofs.YtpkonagjnfphkaaGreatDoor
open Go.RowKit Go.Maps Cb
section
variable {P : Program} {ops : Array Oper} {Q : Exit → Act → World → Prop}
theorem exec_callV {o : Oper} {a : Act} {w : World} {f : FuncId} {z : Operand} {xs : Array Operand} {ts : Array TypeId} (ho : o.op = .call { callee := .value z, args := xs, argTypes := ts }) (hz : a.eval z = .func (.func f) #[] #[]) {args : List Value} (hx : xs.toList.map a.eval = args)
    (he : Enters P f) : (execOp a.eval o).run P w = .ok (.enter f args.toArray) w := by
  have e : xs.map a.eval = args.toArray := by rw [← hx, ← Array.toList_map]
  unfold execOp; simp only [ho, resolve, Sem.run_bind]; rw [e, hz]; simp only [Deferred.ofValue, Sem.run_pure, Result.andThen_ok, invoke]; rw [Array.append_empty, Array.empty_append]; exact he _ _
theorem pi_callV {i : Nat} {o : Oper} {r : List (Nat × Bool)} {a : Act} {w : World} (hi : ops[i]? = some o) (hw : Region.wanted o (yielded ops a.tmps) = true)
    {f : FuncId} {z : Operand} {xs : Array Operand} {ts : Array TypeId} {args : List Value} {R : Ending → World → Prop} (hc : Calls P f args.toArray w R)
    (he : Enters P f) (ho : o.op = .call { callee := .value z, args := xs, argTypes := ts }) (hz : a.eval z = .func (.func f) #[] #[]) (hx : xs.toList.map a.eval = args) (h : ∀ e w', R e w' → ∃ v, e = .returned v ∧ Below w.heap.size w w' ∧ wpPi P ops Q r (a.put o.dst v) w') : wpPi P ops Q ((i, true) :: r) a w :=
  ⟨o, hi, hw, by
    unfold Oper.wp; rw [exec_callV ho hz hx he]
    refine Calls.mono hc fun e w' hr => ?_
    obtain ⟨v, rfl, hb, hk⟩ := h e w' hr
    exact ⟨hb, hk⟩⟩
end
theorem flat1 (a : List UInt8) (ls : List (List UInt8)) : ([a] ++ ls).flatten = a ++ ls.flatten := by simp
theorem below_but {w w1 w2 : World} {O : Nat → Prop} (h : Below w.heap.size w w1) (hb : But O w1 w2) (hO : ∀ k, O k → w.heap.size + 1 ≤ k) : Below w.heap.size w w2 := h.trans (hb.below (fun k hk => by have := hO k hk; omega) h.size)
theorem eb_one {w : World} {vs : List Value} {ls : List (List UInt8)} (h : EB w vs ls) : ∀ u ∈ vs, u.oneCell' = true := by
  intro u hu; obtain ⟨i, hi, rfl⟩ := List.getElem_of_mem hu; have hl := h.len; obtain ⟨b, h3⟩ := h.each i vs[i] ls[i] (List.getElem?_eq_getElem hi) (List.getElem?_eq_getElem (by omega)); obtain ⟨a, c, e⟩ := own_slice h3; rw [e]; rfl
theorem own_size {w : World} {base : Nat} {e : TypeId} {sz : Nat} {a : Addr} {n c : Nat} {xs : List Value} (h : w.ownsRow base e sz (.slice (some a) n c) n xs) : base ≤ w.heap.size := by
  have := own_of_some h rfl; omega
theorem eb_app_but {w w' : World} {u v : Value} {p : List UInt8} {vs : List Value} {ls : List (List UInt8)} {base base2 sz n : Nat} {xs : List Value} (hu : w.ownsRow base 5 1 u p.length (by8 p)) (hE : EB w vs ls) (ho : w.ownsRow base2 48 sz v n xs) (hb : But (fun k => v.ownBlock = some k) w w') : EB w' ([u] ++ vs) ([p] ++ ls) := by
  refine ⟨by simp [hE.len], fun i x l h1 h2 => ?_⟩
  have hk : ∃ b, w.ownsRow b 5 1 x l.length (by8 l) := by
    cases i with
    | zero => simp at h1 h2; subst h1 h2; exact ⟨_, hu⟩
    | succ i => exact hE.each i x l (by simpa using h1) (by simpa using h2)
  obtain ⟨b, h3⟩ := hk; exact ⟨b, own_but h3 hb (fun k hk => (own_ty h3).ne ho (by decide) k hk)⟩
theorem write3_c (S : Nat → Prop) (x : It) (r : Rw) (w : World) (hr : ItR S w x r) (hcx : cnt x ≤ 1000000) (hk : x.k = 3) : Calls Tryz.prog 172 #[rwV r] w (Byt x w) := by
  obtain ⟨k1, n1, ba1, bn1, bc1, s1, la1, ln1, lc1, rfl⟩ := hr.shape; obtain ⟨rows, p⟩ := hr.parts; have hB1 := below_alloc w (.cells (rwC ⟨k1, n1, .slice ba1 bn1 bc1, s1, .slice la1 ln1 lc1⟩).toArray 62); have e1 := rangeAt_new w (rwC ⟨k1, n1, .slice ba1 bn1 bc1, s1, .slice la1 ln1 lc1⟩) 62 (0, 0); have hby := bytesOf_eq x; rw [hk] at hby; simp only [show ¬ ((3 : Int) = 1) by decide, show ¬ ((3 : Int) = 2) by decide, if_false, if_true] at hby
  have hbl : s1.size ≤ 1000000 := by have := p.s; cases x; simp only [cnt, It.s] at *; subst this; omega
  rw [← (show s1 = x.s from p.s)] at hby; have Hby := Lib.hid hby; clear p hr hby hk hcx; go_enter Tryz.func172, Tryz.ntmps172; go_wp2; refine wp_region_pt (fun _ => False) (.q 0 (.q 1 (.q 2 (.q 3 (.q 5 (.q 6 (.f 4 (.c 7 (.c 8 (.c 9 (.q 10 .done)))) 7 (.c 4 (.c 8 (.c 9 (.q 10 .done))))))))))) (by kernel_rfl) (by kernel_rfl) (by kernel_rfl) (by decide) (fun _ _ d _ _ h => by cases d <;> exact h) (fun Wd hBd => ?_)
  try simp only [zq]
  have c1 : ∀ w', But (fun _ => False) Wd w' → w'.cell? ⟨w.heap.size, 0 + 3, none⟩ = some (.string s1) := fun w' h => h.cell (rangeAt_up hBd e1 3 _ rfl) (fun h => h)
  have hlen : s1.data.size = s1.size := rfl; refine zt rfl (by rfl) ?_; refine zt rfl (by rfl) ?_; refine zt rfl (by rfl) ?_; refine pt_q (v := .int .u64 (s1.size : Int)) rfl (by rfl) (fun w' hBw' => by go_simp; exact wrap_u64 _ hbl) ?_
  try simp only [zq]
  refine zt rfl (by rfl) ?_; refine zt rfl (by rfl) ?_; refine pt_f ?_ ?_
  · refine pt_call rfl (by rfl) (head_c 3 s1.size Wd (by decide) (by decide) (by omega) (by omega)) enters_head (by rfl) (by kernel_rfl) ?_
    rintro en wA ⟨v1, rfl, ho1, hb1⟩; obtain ⟨a1, c1', rfl⟩ := own_slice ho1; refine ⟨_, rfl, But.of_below hb1, ?_⟩
    try simp only [zq]
    refine pt_c ?_; obtain ⟨cS, wS, hrunS, hsS, hbS⟩ := str_bytes (P := Tryz.prog) wA (src := 9) (dst := 48) s1 Tryz.underlying9 Tryz.underlying48 Tryz.underlying5 (by simp only [maxLen]; omega); refine pt_step rfl (by rfl) (fun K hK => ?_); go_simp; refine hK.out _ _ (But.of_below hbS) ?_; clear hK K
    try simp only [zq]
    have hu := (Sl.of_own ho1).up hbS; have hv := hsS; have hBW := below_up (below_up (below_up hB1 hBd) hb1) hbS
    refine zc fun K hK => ?_
    go_simp; refine hK.out _ _ (But.alloc _ _) ?_; clear hK K
    try simp only [zq]
    refine pt_c ?_; refine pt_call rfl (by rfl) (join_c [headB 3 s1.size, s1.data.toList] _ _ _ _ (slB2 (T := 48) hu hv rfl rfl _ rfl) (by omega) (by have := headB_len 3 s1.size; simp; omega)) enters_join (by rfl) (by kernel_rfl) ?_; rintro en wJ ⟨v2, rfl, ho2, hb2⟩; refine ⟨_, rfl, But.of_below hb2, ?_⟩
    try simp only [zq]
    refine zt rfl (by rfl) ?_; refine pt_done ?_; go_wp2; go_ret; rw [flat2] at ho2; refine ⟨_, rfl, ?_, below_up (below_up hBW (below_alloc _ _)) hb2⟩; rw [Hby.out]; exact own_down ho2 ((below_up hBW (below_alloc _ _)).size)
  · obtain ⟨cS, wS, hrunS, hsS, hbS⟩ := str_bytes (P := Tryz.prog) Wd (src := 9) (dst := 48) s1 Tryz.underlying9 Tryz.underlying48 Tryz.underlying5 (by simp only [maxLen]; omega)
    refine pt_step rfl (by rfl) (fun K hK => ?_); go_simp; refine hK.out _ _ (But.of_below hbS) ?_; clear hK K
    try simp only [zq]
    refine pt_c ?_; refine pt_call rfl (by rfl) (head_c 3 s1.size wS (by decide) (by decide) (by omega) (by omega)) enters_head (by rfl) (by kernel_rfl) ?_; rintro en wA ⟨v1, rfl, ho1, hb1⟩; obtain ⟨a1, c1', rfl⟩ := own_slice ho1; refine ⟨_, rfl, But.of_below hb1, ?_⟩
    try simp only [zq]
    have hu := Sl.of_own ho1; have hv := hsS.up hb1; have hBW := below_up (below_up (below_up hB1 hBd) hbS) hb1
    refine zc fun K hK => ?_
    go_simp; refine hK.out _ _ (But.alloc _ _) ?_; clear hK K
    try simp only [zq]
    refine pt_c ?_; refine pt_call rfl (by rfl) (join_c [headB 3 s1.size, s1.data.toList] _ _ _ _ (slB2 (T := 48) hu hv rfl rfl _ rfl) (by omega) (by have := headB_len 3 s1.size; simp; omega)) enters_join (by rfl) (by kernel_rfl) ?_; rintro en wJ ⟨v2, rfl, ho2, hb2⟩; refine ⟨_, rfl, But.of_below hb2, ?_⟩
    try simp only [zq]
    refine zt rfl (by rfl) ?_; refine pt_done ?_; go_wp2; go_ret; rw [flat2] at ho2; refine ⟨_, rfl, ?_, below_up (below_up hBW (below_alloc _ _)) hb2⟩; rw [Hby.out]; exact own_down ho2 ((below_up hBW (below_alloc _ _)).size)
theorem write4_c (S : Nat → Prop) (x : It) (r : Rw) (w : World) (hr : ItR S w x r) (hcx : cnt x ≤ 1000000) (hk : x.k = 4) (hw : ∀ y ∈ x.l, WrC S y) (hri : rightL x.l = true) : Calls Tryz.prog 173 #[rwV r] w (Byt x w) := by
  obtain ⟨k1, n1, ba1, bn1, bc1, s1, la1, ln1, lc1, rfl⟩ := hr.shape; obtain ⟨rows, p⟩ := hr.parts; have hB1 := below_alloc w (.cells (rwC ⟨k1, n1, .slice ba1 bn1 bc1, s1, .slice la1 ln1 lc1⟩).toArray 62); have e1 := rangeAt_new w (rwC ⟨k1, n1, .slice ba1 bn1 bc1, s1, .slice la1 ln1 lc1⟩) 62 (0, 0); have hby := bytesOf_eq x; rw [hk] at hby; simp only [show ¬ ((4 : Int) = 1) by decide, show ¬ ((4 : Int) = 2) by decide, show ¬ ((4 : Int) = 3) by decide, show ¬ ((4 : Int) = 5) by decide, show ¬ ((4 : Int) = 6) by decide, if_false] at hby
  have hcl : cntL x.l ≤ 1000000 := by cases x; simp only [cnt, It.l] at *; omega
  have hln : ln1 = x.l.length := by obtain ⟨a, c, h⟩ := p.l.cell; simp at h; exact h.2.1
  have hlen := cntL_len x.l
  have hm := fun W (hb : Below w.heap.size w W) => madeB_c S x.l hw hri hcl _ _ rows W (p.l.up hb) (p.each.up hb)
  have hbb := bytesL_le x.l; rw [bytesL_eq] at hby hbb; have Hby := Lib.hid hby; simp only at hm; subst hln; clear p hr hby hk hcx hw hri; generalize x.l.length = n at *; generalize x.l.map bytesOf = ls at *
  have hbl : n ≤ 1000000 := by omega
  go_enter Tryz.func173, Tryz.ntmps173; go_wp2; refine wp_region_pt (fun k => w.heap.size + 1 ≤ k) (.q 0 (.q 1 (.q 2 (.q 3 (.q 6 (.q 7 (.c 4 (.f 5 (.c 8 (.c 9 (.c 10 (.q 11 .done)))) 8 (.c 5 (.c 9 (.c 10 (.q 11 .done)))))))))))) (by kernel_rfl) (by kernel_rfl) (by kernel_rfl) (by decide) (fun _ _ d _ _ h => by cases d <;> exact h) (fun Wd hBd => ?_)
  try simp only [zq]
  have c1 : ∀ w', But (fun k => w.heap.size + 1 ≤ k) Wd w' → w'.cell? ⟨w.heap.size, 0 + 4, none⟩ = some (.slice la1 n lc1) := fun w' h => h.cell (rangeAt_up hBd e1 4 _ rfl) (by omega)
  refine zt rfl (by rfl) ?_; refine zt rfl (by rfl) ?_; refine zt rfl (by rfl) ?_; refine pt_q (v := .int .u64 (n : Int)) rfl (by rfl) (fun w' hBw' => by go_simp; exact wrap_u64 _ hbl) ?_
  try simp only [zq]
  refine zt rfl (by rfl) ?_; refine zt rfl (by rfl) ?_; refine pt_c ?_; refine pt_call rfl (by rfl) (head_c 4 n Wd (by decide) (by decide) (by omega) (by omega)) enters_head (by rfl) (by kernel_rfl) ?_; rintro en wA ⟨v1, rfl, ho1, hb1⟩; obtain ⟨a1, c1', rfl⟩ := own_slice ho1; refine ⟨_, rfl, But.of_below hb1, ?_⟩; have hBA := below_up (below_up hB1 hBd) hb1; have hzA := (below_up hBd hb1).size; simp only [World.size_alloc] at hzA; obtain ⟨wB, hwB⟩ : ∃ wB, wB = wA := ⟨_, rfl⟩
  try simp only [zq]
  refine pt_f ?_ ?_
  · refine pt_step rfl (by rfl) (fun K hK => ?_)
    go_simp; refine hK.out _ _ (But.alloc _ _) ?_; clear hK K
    try simp only [zq]
    refine pt_c ?_; refine pt_call rfl (by rfl) (hm (wA.alloc (.cells #[.slice a1 (headB 4 n).length c1'] 48)) (below_up hBA (below_alloc _ _))) enters_madeB (by rfl) (by kernel_rfl) ?_; rintro en wM ⟨v2, vs, rfl, ho2, hE, hb2⟩; obtain ⟨a2, c2, rfl⟩ := own_slice ho2; refine ⟨_, rfl, But.of_below hb2, ?_⟩
    try simp only [zq]
    have hzM := hb2.size; have hrow := own_up (World.ownsRow_lit wA #[.slice a1 (headB 4 n).length c1'] 1 (size := 1) (base := w.heap.size + 1) (e := 48) (by omega) (by decide) rfl) hb2; have hvs := ho2; have hEh := own_up (own_up ho1 (below_alloc wA (.cells #[.slice a1 (headB 4 n).length c1'] 48))) hb2; have hBW := below_up (below_up hBA (below_alloc wA (.cells #[.slice a1 (headB 4 n).length c1'] 48))) hb2
    have hvl : vs.length = n := by have := (Sl.of_own hvs).1; omega
    have hone : ∀ u ∈ vs, u.oneCell' = true := eb_one hE; have hbase := Nat.le_trans (show w.heap.size + 1 ≤ w.heap.size + 1 from Nat.le_refl _) (show w.heap.size + 1 ≤ _ from (own_size hrow)); refine pt_c ?_; refine pt_app2 rfl (by rfl) (.tmp 8) (.tmp 11) 150 rfl slT_bb (w.heap.size + 1) rfl hrow rfl (Sl.of_own hvs) hone (by simp only [maxLen]; omega) (by omega) hbase (fun k h => h) ?_; intro v3 w3 ho3 hbt3
    try simp only [zq]
    refine pt_c ?_; have hS := (EB.slB (eb_app_but hEh hE hrow hbt3) (Sl.of_own ho3)); refine pt_call rfl (by rfl) (join_c ([headB 4 n] ++ ls) _ _ _ _ hS (by omega) (by have := headB_len 4 n; rw [flat1, List.length_append]; omega)) enters_join (by rfl) (by kernel_rfl) ?_; rintro en wJ ⟨v4, rfl, ho4, hb4⟩; refine ⟨_, rfl, But.of_below hb4, ?_⟩
    try simp only [zq]
    refine zt rfl (by rfl) ?_; refine pt_done ?_; go_wp2; go_ret; rw [flat1] at ho4; have hBJ := below_up (below_but hBW hbt3 (fun k hk => (own_of_some hrow hk).1)) hb4; refine ⟨_, rfl, ?_, hBJ⟩; rw [Hby.out]; exact own_down ho4 (below_but hBW hbt3 (fun k hk => (own_of_some hrow hk).1)).size
  · refine pt_call rfl (by rfl) (hm wA hBA) enters_madeB (by rfl) (by kernel_rfl) ?_
    rintro en wM ⟨v2, vs, rfl, ho2, hE, hb2⟩; obtain ⟨a2, c2, rfl⟩ := own_slice ho2; refine ⟨_, rfl, But.of_below hb2, ?_⟩
    try simp only [zq]
    refine zc fun K hK => ?_
    go_simp; refine hK.out _ _ (But.alloc _ _) ?_; clear hK K
    try simp only [zq]
    have hzM := hb2.size; have hrow := World.ownsRow_lit wM #[.slice a1 (headB 4 n).length c1'] 1 (size := 1) (base := w.heap.size + 1) (e := 48) (by omega) (by decide) rfl; have hvs := own_up ho2 (below_alloc wM (.cells #[.slice a1 (headB 4 n).length c1'] 48)); have hEh := own_up (own_up ho1 hb2) (below_alloc wM (.cells #[.slice a1 (headB 4 n).length c1'] 48)); have hE := hE.up (below_alloc wM (.cells #[.slice a1 (headB 4 n).length c1'] 48)); have hBW := below_up (below_up hBA hb2) (below_alloc wM (.cells #[.slice a1 (headB 4 n).length c1'] 48))
    have hvl : vs.length = n := by have := (Sl.of_own hvs).1; omega
    have hone : ∀ u ∈ vs, u.oneCell' = true := eb_one hE; have hbase := Nat.le_trans (show w.heap.size + 1 ≤ w.heap.size + 1 from Nat.le_refl _) (show w.heap.size + 1 ≤ _ from (own_size hrow)); refine pt_c ?_; refine pt_app2 rfl (by rfl) (.tmp 8) (.tmp 11) 150 rfl slT_bb (w.heap.size + 1) rfl hrow rfl (Sl.of_own hvs) hone (by simp only [maxLen]; omega) (by omega) hbase (fun k h => h) ?_; intro v3 w3 ho3 hbt3
    try simp only [zq]
    refine pt_c ?_; have hS := (EB.slB (eb_app_but hEh hE hrow hbt3) (Sl.of_own ho3)); refine pt_call rfl (by rfl) (join_c ([headB 4 n] ++ ls) _ _ _ _ hS (by omega) (by have := headB_len 4 n; rw [flat1, List.length_append]; omega)) enters_join (by rfl) (by kernel_rfl) ?_; rintro en wJ ⟨v4, rfl, ho4, hb4⟩; refine ⟨_, rfl, But.of_below hb4, ?_⟩
    try simp only [zq]
    refine zt rfl (by rfl) ?_; refine pt_done ?_; go_wp2; go_ret; rw [flat1] at ho4; have hBJ := below_up (below_but hBW hbt3 (fun k hk => (own_of_some hrow hk).1)) hb4; refine ⟨_, rfl, ?_, hBJ⟩; rw [Hby.out]; exact own_down ho4 (below_but hBW hbt3 (fun k hk => (own_of_some hrow hk).1)).size
end Go.Proofs.YtpkonagjnfphkaaGreatDoor
