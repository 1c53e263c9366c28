/-
  DiskCopies: the walk.
-/
import Derived.Test.YtekpjbablcoahaaDiskPlaysL
import Derived.Test.YtekpjbablcoahaaPtM
import Derived.Test.YtekpjbablcoahaaDiskV
namespace Go.Proofs.Ytekpjbablcoahaa
open Go.RowKit Go.Maps Dk
set_option linter.unusedSimpArgs false
set_option linter.unusedVariables false
attribute [local go_sem] Oper.semAt_some
theorem wp_cut {P : Program} {c : Code} {Q : Exit → Act → World → Prop} {a : Act} {w : World} (J : Act → World → Prop) (h1 : c.wp P (onlyN fun _ a w => J a w) a w) (h2 : ∀ a' w', J a' w' → Q .normal a' w') : c.wp P Q a w :=
  Code.wp_mono (fun e a' w' he => by obtain ⟨rfl, h⟩ := he; exact h2 _ _ h) h1
/-- A range over a function that may be left by 'break': both ways go on alike. -/
theorem wp_range_brk {P : Program} {n id : Nat} {g : Operand} {ps : Array Tmp} {assign body : Code} {R : Exit → Act → World → Prop} {a : Act} {w : World}
    {gf : Nat} {lb : Array Value} (hg : a.eval g = .func (.func gf) #[] lb) (eg : ∀ args w, (callFunc gf args).run P w = .ok (.enter gf args) w)
    {args : Nat → Array Value} {N : Nat} {S : Nat → Prop} {w0 : World} (hseq : SeqX P gf lb args N S w0) (hb0 : Below w0.heap.size w0 w) (hps : ∀ k, (args k).size = ps.size)
    (G0 : Nat → Prop) (hG0 : ∀ k, G0 k → k < w.heap.size) (hS : ∀ k, S k → k < w.heap.size ∧ ¬ G0 k)
    (I : Nat → (Nat → Prop) → World → Prop) (Im : Nat → Act → (Nat → Prop) → World → Prop) (X : Nat → (Nat → Prop) → World → Prop) (hI : ∀ k, Abide w.heap.size (I k)) (hIm : ∀ k a', Abide w.heap.size (Im k a')) (hX : ∀ k, Abide w.heap.size (X k)) (h0 : I 0 G0 w)
    (hassign : ∀ (l k : Nat) (G : Nat → Prop) (W : World) (K : Act → World → Prop), k < N → I k G W → (∀ a' W', But G W W' → Im k a' (newG G W W') W' → K a' W') →
      assign.wpIn (Fence.wide.inRound l) n P (Exit.then K (fun _ _ _ => False)) { tmps := (ps.zip (args k)).foldl (fun t (p, v) => t.setIfInBounds p v) a.tmps, defers := [] } W)
    (hbody : ∀ (l k : Nat) (a' : Act) (G : Nat → Prop) (W : World), k < N → w.heap.size ≤ l → (∃ r, W.heap[l]? = some (.loop r)) → ¬ G l → Im k a' G W → body.wpIn (Fence.wide.inRound l) n P (endX I (fun c k G W => c = .exit id ∧ X k G W) (k + 1) G W) a' W)
    (hend : ∀ (D : Nat) (G : Nat → Prop) (W : World) (k : Nat), w.heap.size ≤ D → ¬ G D → (k = N ∧ I k G W ∨ k ≤ N ∧ X k G W) → W.heap[D]? = some (.deferred (some [])) → R .normal { a with defers := { target := .collected D, args := #[] } :: a.defers } W) :
    (Code.rangeFunc g ps assign body).wpIn Fence.wide n P (Exit.inBlock id R) a w :=
  wp_range hg eg hseq hb0 hps G0 hG0 hS I Im (fun c k G W => c = .exit id ∧ X k G W) hI hIm (fun c k G A B h hb => ⟨h.1, hX k G A B h.2 hb⟩) h0 hassign hbody
    (fun D G W h1 h2 h3 h4 => hend D G W N h1 h2 (.inl ⟨rfl, h3⟩) h4)
    (fun D c k G W h1 h2 h3 h4 h5 => by
      obtain ⟨rfl, hx⟩ := h4
      refine wpIn_exit ?_
      simp only [Exit.inBlock, if_true]
      exact hend D G W (k + 1) h1 h2 (.inr ⟨h3, hx⟩) h5)
abbrev twC (x0 x1 : Ac) : List Value := [.int .i64 x0.what, .int .i64 x0.sec, .int .i64 x0.more, .int .u8 (x0.byte.toNat : Int), .slice x0.ka x0.kn x0.kc, .int .i64 x1.what, .int .i64 x1.sec, .int .i64 x1.more, .int .u8 (x1.byte.toNat : Int), .slice x1.ka x1.kn x1.kc]
theorem twC_0 (x0 x1 : Ac) : ∀ j, j < (acC x0).length → (acC x0)[j]? = (twC x0 x1)[0 + j]? := by
  intro j hj
  simp only [List.length_cons, List.length_nil] at hj
  match j, hj with
  | 0, _ => rfl
  | 1, _ => rfl
  | 2, _ => rfl
  | 3, _ => rfl
  | 4, _ => rfl
theorem twC_1 (x0 x1 : Ac) : ∀ j, j < (acC x1).length → (acC x1)[j]? = (twC x0 x1)[5 + j]? := by
  intro j hj
  simp only [List.length_cons, List.length_nil] at hj
  match j, hj with
  | 0, _ => rfl
  | 1, _ => rfl
  | 2, _ => rfl
  | 3, _ => rfl
  | 4, _ => rfl
/-- The law's own first blocks: the two calls, the number, the result. -/
structure OwD (w wr : World) (x0 x1 : Ac) (many : Int) : Prop where
  below : Below w.heap.size w wr
  two : RowAt wr w.heap.size (twC x0 x1).toArray 57
  num : RowAt wr (w.heap.size + 1) #[.int .i64 many] 3
  res : RowAt wr (w.heap.size + 1 + 1) #[.bool false] 4
theorem OwD.up {w wr w2 : World} {x0 x1 : Ac} {many : Int} (h : OwD w wr x0 x1 many) (hb : Below wr.heap.size wr w2) : OwD w w2 x0 x1 many := ⟨below_up h.below hb, h.two.below hb, h.num.below hb, h.res.below hb⟩
theorem OwD.but {w wr w2 : World} {x0 x1 : Ac} {many : Int} (h : OwD w wr x0 x1 many) {O : Nat → Prop} (hb : But O wr w2) (hO : ∀ j, O j → w.heap.size + 1 + 1 < j) : OwD w w2 x0 x1 many :=
  ⟨h.below.trans (hb.below (fun j e => by have := hO j e; omega) h.below.size), h.two.other_but hb (fun e => by have := hO _ e; omega), h.num.other_but hb (fun e => by have := hO _ e; omega), h.res.other_but hb (fun e => by have := hO _ e; omega)⟩
theorem OwD.start (w : World) (x0 x1 : Ac) (many : Int) : OwD w (((w.alloc (.cells (twC x0 x1).toArray 57)).alloc (.cells #[.int .i64 many] 3)).alloc (.cells #[.bool false] 4)) x0 x1 many := by
  have hB3 : Below w.heap.size w (((w.alloc (.cells (twC x0 x1).toArray 57)).alloc (.cells #[.int .i64 many] 3)).alloc (.cells #[.bool false] 4)) := ((below_alloc w _).alloc (by simp) _).alloc (by simp; omega) _
  have h2 := RowAt.new (w.alloc (.cells (twC x0 x1).toArray 57)) #[.int .i64 many] 3
  rw [World.size_alloc] at h2
  have h3 := RowAt.new ((w.alloc (.cells (twC x0 x1).toArray 57)).alloc (.cells #[.int .i64 many] 3)) #[.bool false] 4
  rw [World.size_alloc, World.size_alloc] at h3
  exact ⟨hB3, ((RowAt.new w _ _).below (below_alloc _ _)).below (below_alloc _ _), h2.below (below_alloc _ _), h3⟩
theorem slAc : SlT Try.prog 43 54 5 56 := SlT.mk' Try.underlying43 (z := .agg #[.int .i64 0, .int .i64 0, .int .i64 0, .int .u8 0, .slice none 0 0]) (by kernel_rfl) rfl (by decide)
theorem one_ac (l : List Ac) : ∀ u ∈ l.flatMap acC, u.oneCell' = true := by
  intro u hu
  obtain ⟨x, _, hx⟩ := List.mem_flatMap.1 hu
  simp only [List.mem_cons, List.not_mem_nil, or_false] at hx
  rcases hx with rfl | rfl | rfl | rfl | rfl <;> rfl
theorem sl_two (w : World) (x0 x1 : Ac) : Sl (w.alloc (.cells (twC x0 x1).toArray 54)) 5 (.slice (some ⟨w.heap.size, 0, none⟩) 2 2) 2 ([x0, x1].flatMap acC) := by
  refine ⟨rfl, .inr ⟨_, 0, 2, rfl, Nat.le_refl _, by decide, fun j u hj => ?_⟩⟩
  rw [Nat.zero_add]
  exact (RowAt.new w _ _).cell (by simpa using hj)
theorem own_below {B : Nat} {w w' : World} {base sz n : Nat} {e : TypeId} {v : Value} {xs : List Value} (h : w.ownsRow base e sz v n xs) (hb : But (fun k => v.ownBlock = some k) w w') (hB : B ≤ base) (hs : B ≤ w.heap.size) : Below B w w' := hb.below (fun k e => Nat.le_trans hB (own_of_some h e).1) hs
/-- Both disks behind the last two calls. -/
structure CpW (w W : World) (B M B2 M2 T N T1 T2 : Nat) (d1 d2 : Disk) (la : Option Addr) (lc : Nat) (wa : Option Addr) (wc : Nat) (r : RDisk) (a1 : Option Addr) (n1 : Nat) (b1 : Option Addr) (m1 : Nat) (r1 : RDisk) (a2 : Option Addr) (n2 : Nat) (b2 : Option Addr) (m2 : Nat) (r2 : RDisk) (q : Nat) (x0 x1 : Ac) (many : Int) : Prop where
  own : OwD w W x0 x1 many
  k1 : ∃ u, DiskAt W B M u d1
  k2 : ∃ u, DiskAt W B2 M2 u d2
  p : RowAt W T #[.slice la r.L.length lc, .slice wa r.W.length wc, .int .i64 r.armed] 47
  cn : RowAt W N #[.int .i64 (q : Int)] 3
  p1 : RowAt W T1 #[.slice a1 r1.L.length n1, .slice b1 r1.W.length m1, .int .i64 r1.armed] 47
  p2 : RowAt W T2 #[.slice a2 r2.L.length n2, .slice b2 r2.W.length m2, .int .i64 r2.armed] 47
  f1 : RefAt W (.agg #[.slice a1 r1.L.length n1, .slice b1 r1.W.length m1, .int .i64 r1.armed]) r1
  f2 : RefAt W (.agg #[.slice a2 r2.L.length n2, .slice b2 r2.W.length m2, .int .i64 r2.armed]) r2
theorem CpW.up {w W W' : World} {B M B2 M2 T N T1 T2 : Nat} {d1 d2 : Disk} {la wa a1 b1 a2 b2 : Option Addr} {lc wc n1 m1 n2 m2 q : Nat} {r r1 r2 : RDisk} {x0 x1 : Ac} {many : Int} (h : CpW w W B M B2 M2 T N T1 T2 d1 d2 la lc wa wc r a1 n1 b1 m1 r1 a2 n2 b2 m2 r2 q x0 x1 many) (hb : Below W.heap.size W W') : CpW w W' B M B2 M2 T N T1 T2 d1 d2 la lc wa wc r a1 n1 b1 m1 r1 a2 n2 b2 m2 r2 q x0 x1 many :=
  ⟨h.own.up hb, h.k1.imp fun _ hd => hd.below hb, h.k2.imp fun _ hd => hd.below hb, h.p.below hb, h.cn.below hb, h.p1.below hb, h.p2.below hb, h.f1.up hb, h.f2.up hb⟩
theorem sameR_comm (r s : RDisk) : sameR r s = sameR s r := by
  unfold sameR
  exact decide_eq_decide.2 ⟨fun h => ⟨h.1.symm, h.2.1.symm, h.2.2.symm⟩, fun h => ⟨h.1.symm, h.2.1.symm, h.2.2.symm⟩⟩
theorem rSameAll_c (r s : RDisk) (v u : Value) (w : World) (hv : RefAt w v r) (hu : RefAt w u s) : Calls Try.prog 24 #[v, u] w (Ret (.bool (sameR r s)) w) := by
  by_cases h : r.L.length = s.L.length ∧ r.W.length = s.W.length ∧ r.armed = s.armed
  · exact rSameYes_c r s h v u w hv hu
  · exact rSameNo_c r s h v u w hv hu
theorem dSameAll_c {B M B2 M2 : Nat} {u u2 : Value} {d d2 : Disk} {r r2 : RDisk} (w : World) (h1 : DiskAt w B M u d) (h2 : DiskAt w B2 M2 u2 d2) (k1 : Rel d r) (k2 : Rel d2 r2) :
    Calls Try.prog 14 #[.pointer (some ⟨B, 0, none⟩), .pointer (some ⟨B2, 0, none⟩)] w (Ret (.bool (sameR r r2)) w) := by
  have := dSame_c w h1 h2 (by rw [k1.many]; omega) (by rw [k1.many]; have := k1.few; omega)
  rwa [k1.same k2] at this
theorem max_int2 (a b : Int) (ts : Array TypeId) (t : TypeId) (w : World) : (Builtin.max_ ts t #[.int .i64 a, .int .i64 b]).run Try.prog w = .ok (.int .i64 (if a < b then b else a)) w := by
  rw [run_max_int2]

set_option maxHeartbeats 4000000 in
set_option maxRecDepth 100000 in
theorem diskCopies_c (l : List Ac) (x0 x1 : Ac) (many : Int) (v : Value) (n : Nat) (w : World) (hv : Sl w 5 v n (l.flatMap acC)) (hbd : n * 56 ≤ 140737488351232) (hac : ∀ x ∈ l, AcAt w x) (hx0 : AcAt w x0) (hx1 : AcAt w x1) :
    Calls Try.prog 5 #[v, .agg (twC x0 x1).toArray, .int .i64 many] w (Ret (.bool true) w) := by
  have Hln := Lib.hid (Sl.recs (cells := acC) (sz := 5) (fun _ => rfl) (by decide) hv)
  have hnm := hv.n_max
  obtain ⟨a, c, rfl⟩ := hv.len
  have HAC := Lib.hid hac
  clear hac
  have O0 := OwD.start w x0 x1 many
  obtain ⟨R, hR⟩ : ∃ R, R = fewB (l ++ [x0, x1]) 22 := ⟨_, rfl⟩
  have HR := Lib.hid hR
  clear hR
  have he : ∀ (f : FuncId) (caps : Array Value) (w : World), (binOp BinOp.eql 59 (.func (.func f) #[] caps) .nilFunc).run Try.prog w = .ok (.bool false) w := fun _ _ _ => by kernel_rfl
  refine (callsIn_wide (n := 3)).1 ?_
  refine callsIn_of_wp_marks Try.func5 rfl trivial ?_ rfl
  simp only [Try.ntmps5, List.size_toArray, List.length_cons, List.length_nil, Nat.reduceAdd, Nat.reduceSub, Array.replicate_succ, Array.replicate_zero, List.push_toArray, List.append_toArray, List.nil_append, List.cons_append]
  refine wpIn_wide.2 ?_
  go_wp2
  refine wp_cut (fun a' W3 => (∃ x22 x24 x29 x30, a' = { tmps := #[.slice a n c, .agg (twC x0 x1).toArray, .int .i64 many, undef, .pointer (some ⟨w.heap.size, 0, none⟩), .pointer (some ⟨w.heap.size + 1, 0, none⟩), .pointer (some ⟨w.heap.size + 1 + 1, 0, none⟩), undef, undef, undef, undef, undef, undef, undef, undef, undef, undef, undef, undef, undef, undef, undef, x22, .slice a n c, x24, .pointer (some ⟨w.heap.size, 0, none⟩), .agg (acC x0).toArray, .pointer (some ⟨w.heap.size, 5, none⟩), .agg (acC x1).toArray, x29, x30, .bool R, .bool (!R), undef, undef, undef, undef, undef, undef, undef, undef, undef, undef, undef, undef, undef, undef, undef, undef, undef, undef, undef, undef, undef, undef, undef, undef, undef, undef, undef, undef, undef, undef, undef, undef, undef, undef, undef, undef, undef, undef, undef, undef, undef, undef, undef, undef, undef, undef, undef, undef, undef, undef, undef, undef, undef, undef, undef, undef, undef, undef, undef, undef, undef, undef, undef, undef, undef, undef, undef, undef, undef, undef, undef, undef, undef, undef, undef, undef, undef, undef, undef, undef, undef, undef, undef, undef, undef, undef, undef, undef, undef, undef, undef, undef, undef, undef, undef, undef, undef, undef, undef, undef, undef, undef, undef, undef, undef, undef, undef, undef, undef, undef, undef, undef, undef, undef, undef, undef, undef, undef, undef, undef, undef, undef, undef, undef, undef, undef, undef], defers := [] }) ∧ Below (((w.alloc (.cells (twC x0 x1).toArray 57)).alloc (.cells #[.int .i64 many] 3)).alloc (.cells #[.bool false] 4)).heap.size (((w.alloc (.cells (twC x0 x1).toArray 57)).alloc (.cells #[.int .i64 many] 3)).alloc (.cells #[.bool false] 4)) W3) ?reg ?rest
  case reg =>
    refine wp_region_pt (fun i => w.heap.size + 1 + 1 + 1 ≤ i) (.q 1 (.q 3 (.q 4 (.q 5 (.q 6 (.f 0 (.f 2 (.c 7 (.c 8 (.c 9 (.q 10 .done)))) 7 (.c 2 (.c 8 (.c 9 (.q 10 .done))))) 7 (.c 0 (.c 2 (.c 8 (.c 9 (.q 10 .done))))))))))) (by kernel_rfl) (by kernel_rfl) (by kernel_rfl) (by decide) onlyN_panic (fun Wd hBd => ?_)
    try simp only [Act.put, List.getElem_toArray, List.getElem_cons_zero, List.getElem_cons_succ, List.setIfInBounds_toArray, List.set_cons_zero, List.set_cons_succ]
    have OD := O0.up hBd
    have hzd := hBd.size
    have hvd := hv.up OD.below
    have hsz0 := OD.res.lt
    simp only [World.size_alloc] at hzd
    refine pt_q (v := ?_) rfl (by rfl) ?_ ?_
    rotate_left
    · intro w' hBw'
      first | (go_simp; done) | (go_simp; with_reducible rfl)
    try simp only [Act.put, List.getElem_toArray, List.getElem_cons_zero, List.getElem_cons_succ, List.setIfInBounds_toArray, List.set_cons_zero, List.set_cons_succ]
    refine pt_q (v := ?_) rfl (by rfl) ?_ ?_
    rotate_left
    · intro w' hBw'
      first | (go_simp; done) | (go_simp; with_reducible rfl)
    try simp only [Act.put, List.getElem_toArray, List.getElem_cons_zero, List.getElem_cons_succ, List.setIfInBounds_toArray, List.set_cons_zero, List.set_cons_succ]
    refine pt_load rfl (by rfl) 54 (.tmp 25) rfl w.heap.size 0 rfl (acC x0) _ (rangeAt_sub OD.two.range 0 0 rfl (twC_0 x0 x1)) (by omega) Try.underlying54 rfl (by kernel_rfl) ?_
    try simp only [Act.put, List.getElem_toArray, List.getElem_cons_zero, List.getElem_cons_succ, List.setIfInBounds_toArray, List.set_cons_zero, List.set_cons_succ]
    refine pt_q (v := ?_) rfl (by rfl) ?_ ?_
    rotate_left
    · intro w' hBw'
      first | (go_simp; done) | (go_simp; with_reducible rfl)
    try simp only [Act.put, List.getElem_toArray, List.getElem_cons_zero, List.getElem_cons_succ, List.setIfInBounds_toArray, List.set_cons_zero, List.set_cons_succ]
    refine pt_load rfl (by rfl) 54 (.tmp 27) rfl w.heap.size 5 rfl (acC x1) _ (rangeAt_sub OD.two.range 5 5 rfl (twC_1 x0 x1)) (by omega) Try.underlying54 rfl (by kernel_rfl) ?_
    try simp only [Act.put, List.getElem_toArray, List.getElem_cons_zero, List.getElem_cons_succ, List.setIfInBounds_toArray, List.set_cons_zero, List.set_cons_succ]
    refine pt_f ?_ ?_
    · refine pt_step rfl (by rfl) (fun K hK => ?_)
      go_simp
      have hown0 := own_empty Wd 54 Wd.heap.size 5 rfl
      refine hK.out _ _ (But.alloc _ _) ?_
      clear hK K
      try simp only [Act.put, List.getElem_toArray, List.getElem_cons_zero, List.getElem_cons_succ, List.setIfInBounds_toArray, List.set_cons_zero, List.set_cons_succ]
      refine pt_f ?_ ?_
      · refine pt_app2 (n := 0) rfl (by rfl) (.tmp 22) (.tmp 23) 43 rfl slAc (Wd.heap.size) rfl hown0 rfl (hvd.up (below_alloc Wd (.cells #[] 54))) (one_ac l) (by simp only [maxLen]; omega) (by omega) (by first | omega | (simp only [World.size_alloc]; omega)) (fun k hk => by omega) (fun v2 w2 hown2 hb2 => ?_)
        try simp only [Act.put, List.getElem_toArray, List.getElem_cons_zero, List.getElem_cons_succ, List.setIfInBounds_toArray, List.set_cons_zero, List.set_cons_succ]
        simp only [Nat.zero_add, List.nil_append] at hown2
        obtain ⟨a2, c2, rfl⟩ := own_slice hown2
        have hz2 := hb2.size
        simp only [World.size_alloc] at hz2
        have hbl2 := (below_alloc Wd (.cells #[] 54)).trans (own_below (B := Wd.heap.size) hown0 hb2 (Nat.le_refl _) (by simp only [World.size_alloc]; omega))
        refine pt_c ?_
        refine pt_step rfl (by rfl) (fun K hK => ?_)
        go_simp
        have hTw := sl_two w2 x0 x1
        refine hK.out _ _ (But.alloc _ _) ?_
        clear hK K
        try simp only [Act.put, List.getElem_toArray, List.getElem_cons_zero, List.getElem_cons_succ, List.setIfInBounds_toArray, List.set_cons_zero, List.set_cons_succ]
        have hown2b := own_up hown2 (below_alloc w2 (.cells (twC x0 x1).toArray 54))
        have hbl2b := hbl2.trans ((below_alloc w2 (.cells (twC x0 x1).toArray 54)).mono (show Wd.heap.size ≤ w2.heap.size by omega))
        refine pt_c ?_
        refine pt_app2 (n := n) rfl (by rfl) (.tmp 24) (.tmp 29) 43 rfl slAc (Wd.heap.size) rfl hown2b rfl hTw (one_ac [x0, x1]) (by simp only [maxLen]; omega) (by omega) (by first | omega | (simp only [World.size_alloc]; omega)) (fun k hk => by omega) (fun v3 w3 hown3 hb3 => ?_)
        try simp only [Act.put, List.getElem_toArray, List.getElem_cons_zero, List.getElem_cons_succ, List.setIfInBounds_toArray, List.set_cons_zero, List.set_cons_succ]
        obtain ⟨a3, c3, rfl⟩ := own_slice hown3
        have hbl3 := hbl2b.trans (own_below (B := Wd.heap.size) hown2b hb3 (by omega) (by first | omega | (simp only [World.size_alloc]; omega)))
        refine pt_c ?_
        refine pt_step rfl (by rfl) (fun K hK => ?_)
        go_simp
        have hS3 : Sl w3 5 (.slice a3 (n + 2) c3) (n + 2) ((l ++ [x0, x1]).flatMap acC) := by have := Sl.of_own hown3; rw [List.flatMap_append]; exact this
        have hfw := dFew_c (l ++ [x0, x1]) 22 (by decide) _ (n + 2) w3 hS3
        rw [← HR.out] at hfw
        refine hfw.mono ?_
        rintro en w9 ⟨rfl, hb9⟩
        refine hK.out _ _ (But.of_below hb9) ?_
        clear hK K
        try simp only [Act.put, List.getElem_toArray, List.getElem_cons_zero, List.getElem_cons_succ, List.setIfInBounds_toArray, List.set_cons_zero, List.set_cons_succ]
        have hB9 := below_up hBd (hbl3.trans (hb9.mono hbl3.size))
        refine pt_q (v := ?_) rfl (by rfl) ?_ ?_
        rotate_left
        · intro w' hBw'
          first | (go_simp; done) | (go_simp; with_reducible rfl)
        try simp only [Act.put, List.getElem_toArray, List.getElem_cons_zero, List.getElem_cons_succ, List.setIfInBounds_toArray, List.set_cons_zero, List.set_cons_succ]
        refine pt_done ?_
        refine ⟨rfl, ⟨_, _, _, _, rfl⟩, hB9⟩
      · refine pt_step rfl (by rfl) (fun K hK => ?_)
        go_simp
        have hTw0 : Sl ((Wd.alloc (.cells #[] 54)).alloc (.cells (twC x0 x1).toArray 54)) 5 (.slice (some ⟨Wd.heap.size + 1, 0, none⟩) 2 2) 2 ([x0, x1].flatMap acC) := by have := sl_two (Wd.alloc (.cells #[] 54)) x0 x1; rwa [World.size_alloc] at this
        have hown0b := own_up hown0 (below_alloc (Wd.alloc (.cells #[] 54)) (.cells (twC x0 x1).toArray 54))
        refine hK.out _ _ (But.alloc _ _) ?_
        clear hK K
        try simp only [Act.put, List.getElem_toArray, List.getElem_cons_zero, List.getElem_cons_succ, List.setIfInBounds_toArray, List.set_cons_zero, List.set_cons_succ]
        refine pt_c ?_
        refine pt_app2 (n := 0) rfl (by rfl) (.tmp 22) (.tmp 23) 43 rfl slAc (Wd.heap.size) rfl hown0b rfl ((hvd.up (below_alloc Wd (.cells #[] 54))).up (below_alloc (Wd.alloc (.cells #[] 54)) (.cells (twC x0 x1).toArray 54))) (one_ac l) (by simp only [maxLen]; omega) (by omega) (by first | omega | (simp only [World.size_alloc]; omega)) (fun k hk => by omega) (fun v2 w2 hown2 hb2 => ?_)
        try simp only [Act.put, List.getElem_toArray, List.getElem_cons_zero, List.getElem_cons_succ, List.setIfInBounds_toArray, List.set_cons_zero, List.set_cons_succ]
        simp only [Nat.zero_add, List.nil_append] at hown2
        obtain ⟨a2, c2, rfl⟩ := own_slice hown2
        have hz2 := hb2.size
        simp only [World.size_alloc] at hz2
        have hTw := Sl.keep hTw0 hb2 (by intro e; have e2 : Wd.heap.size = Wd.heap.size + 1 := Option.some.inj e; omega)
        have hbl2 := ((below_alloc Wd (.cells #[] 54)).trans ((below_alloc (Wd.alloc (.cells #[] 54)) (.cells (twC x0 x1).toArray 54)).mono (show Wd.heap.size ≤ (Wd.alloc (.cells #[] 54)).heap.size by simp))).trans (own_below (B := Wd.heap.size) hown0b hb2 (Nat.le_refl _) (by simp only [World.size_alloc]; omega))
        refine pt_c ?_
        refine pt_app2 (n := n) rfl (by rfl) (.tmp 24) (.tmp 29) 43 rfl slAc (Wd.heap.size) rfl hown2 rfl hTw (one_ac [x0, x1]) (by simp only [maxLen]; omega) (by omega) (by first | omega | (simp only [World.size_alloc]; omega)) (fun k hk => by omega) (fun v3 w3 hown3 hb3 => ?_)
        try simp only [Act.put, List.getElem_toArray, List.getElem_cons_zero, List.getElem_cons_succ, List.setIfInBounds_toArray, List.set_cons_zero, List.set_cons_succ]
        obtain ⟨a3, c3, rfl⟩ := own_slice hown3
        have hbl3 := hbl2.trans (own_below (B := Wd.heap.size) hown2 hb3 (by omega) (by first | omega | (simp only [World.size_alloc]; omega)))
        refine pt_c ?_
        refine pt_step rfl (by rfl) (fun K hK => ?_)
        go_simp
        have hS3 : Sl w3 5 (.slice a3 (n + 2) c3) (n + 2) ((l ++ [x0, x1]).flatMap acC) := by have := Sl.of_own hown3; rw [List.flatMap_append]; exact this
        have hfw := dFew_c (l ++ [x0, x1]) 22 (by decide) _ (n + 2) w3 hS3
        rw [← HR.out] at hfw
        refine hfw.mono ?_
        rintro en w9 ⟨rfl, hb9⟩
        refine hK.out _ _ (But.of_below hb9) ?_
        clear hK K
        try simp only [Act.put, List.getElem_toArray, List.getElem_cons_zero, List.getElem_cons_succ, List.setIfInBounds_toArray, List.set_cons_zero, List.set_cons_succ]
        have hB9 := below_up hBd (hbl3.trans (hb9.mono hbl3.size))
        refine pt_q (v := ?_) rfl (by rfl) ?_ ?_
        rotate_left
        · intro w' hBw'
          first | (go_simp; done) | (go_simp; with_reducible rfl)
        try simp only [Act.put, List.getElem_toArray, List.getElem_cons_zero, List.getElem_cons_succ, List.setIfInBounds_toArray, List.set_cons_zero, List.set_cons_succ]
        refine pt_done ?_
        refine ⟨rfl, ⟨_, _, _, _, rfl⟩, hB9⟩
    · refine pt_step rfl (by rfl) (fun K hK => ?_)
      go_simp
      refine hK.out _ _ (But.alloc _ _) ?_
      clear hK K
      try simp only [Act.put, List.getElem_toArray, List.getElem_cons_zero, List.getElem_cons_succ, List.setIfInBounds_toArray, List.set_cons_zero, List.set_cons_succ]
      refine pt_c ?_
      refine pt_step rfl (by rfl) (fun K hK => ?_)
      go_simp
      have hown0 := own_empty (Wd.alloc (.cells (twC x0 x1).toArray 54)) 54 (Wd.heap.size + 1) 5 (by simp)
      refine hK.out _ _ (But.alloc _ _) ?_
      clear hK K
      try simp only [Act.put, List.getElem_toArray, List.getElem_cons_zero, List.getElem_cons_succ, List.setIfInBounds_toArray, List.set_cons_zero, List.set_cons_succ]
      have hTw0 := (sl_two Wd x0 x1).up (below_alloc (Wd.alloc (.cells (twC x0 x1).toArray 54)) (.cells #[] 54))
      refine pt_c ?_
      refine pt_app2 (n := 0) rfl (by rfl) (.tmp 22) (.tmp 23) 43 rfl slAc (Wd.heap.size + 1) rfl hown0 rfl ((hvd.up (below_alloc Wd (.cells (twC x0 x1).toArray 54))).up (below_alloc (Wd.alloc (.cells (twC x0 x1).toArray 54)) (.cells #[] 54))) (one_ac l) (by simp only [maxLen]; omega) (by omega) (by first | omega | (simp only [World.size_alloc]; omega)) (fun k hk => by omega) (fun v2 w2 hown2 hb2 => ?_)
      try simp only [Act.put, List.getElem_toArray, List.getElem_cons_zero, List.getElem_cons_succ, List.setIfInBounds_toArray, List.set_cons_zero, List.set_cons_succ]
      simp only [Nat.zero_add, List.nil_append] at hown2
      obtain ⟨a2, c2, rfl⟩ := own_slice hown2
      have hz2 := hb2.size
      simp only [World.size_alloc] at hz2
      have hTw := Sl.keep hTw0 hb2 (by intro e; have e2 : Wd.heap.size + 1 = Wd.heap.size := Option.some.inj e; omega)
      have hbl2 := ((below_alloc Wd (.cells (twC x0 x1).toArray 54)).trans ((below_alloc (Wd.alloc (.cells (twC x0 x1).toArray 54)) (.cells #[] 54)).mono (show Wd.heap.size ≤ (Wd.alloc (.cells (twC x0 x1).toArray 54)).heap.size by simp))).trans (own_below (B := Wd.heap.size) hown0 hb2 (Nat.le_succ _) (by simp only [World.size_alloc]; omega))
      refine pt_c ?_
      refine pt_app2 (n := n) rfl (by rfl) (.tmp 24) (.tmp 29) 43 rfl slAc (Wd.heap.size + 1) rfl hown2 rfl hTw (one_ac [x0, x1]) (by simp only [maxLen]; omega) (by omega) (by first | omega | (simp only [World.size_alloc]; omega)) (fun k hk => by omega) (fun v3 w3 hown3 hb3 => ?_)
      try simp only [Act.put, List.getElem_toArray, List.getElem_cons_zero, List.getElem_cons_succ, List.setIfInBounds_toArray, List.set_cons_zero, List.set_cons_succ]
      obtain ⟨a3, c3, rfl⟩ := own_slice hown3
      have hbl3 := hbl2.trans (own_below (B := Wd.heap.size) hown2 hb3 (by omega) (by first | omega | (simp only [World.size_alloc]; omega)))
      refine pt_c ?_
      refine pt_step rfl (by rfl) (fun K hK => ?_)
      go_simp
      have hS3 : Sl w3 5 (.slice a3 (n + 2) c3) (n + 2) ((l ++ [x0, x1]).flatMap acC) := by have := Sl.of_own hown3; rw [List.flatMap_append]; exact this
      have hfw := dFew_c (l ++ [x0, x1]) 22 (by decide) _ (n + 2) w3 hS3
      rw [← HR.out] at hfw
      refine hfw.mono ?_
      rintro en w9 ⟨rfl, hb9⟩
      refine hK.out _ _ (But.of_below hb9) ?_
      clear hK K
      try simp only [Act.put, List.getElem_toArray, List.getElem_cons_zero, List.getElem_cons_succ, List.setIfInBounds_toArray, List.set_cons_zero, List.set_cons_succ]
      have hB9 := below_up hBd (hbl3.trans (hb9.mono hbl3.size))
      refine pt_q (v := ?_) rfl (by rfl) ?_ ?_
      rotate_left
      · intro w' hBw'
        first | (go_simp; done) | (go_simp; with_reducible rfl)
      try simp only [Act.put, List.getElem_toArray, List.getElem_cons_zero, List.getElem_cons_succ, List.setIfInBounds_toArray, List.set_cons_zero, List.set_cons_succ]
      refine pt_done ?_
      refine ⟨rfl, ⟨_, _, _, _, rfl⟩, hB9⟩
  case rest =>
    rintro _ W3 ⟨⟨x22, x24, x29, x30, rfl⟩, hB3⟩
    dsimp only
    have O1 := O0.up hB3
    clear O0 hB3
    cases R with
    | false =>
      go_wp2_with (go_at_call 6; refine (dWorks_c _).mono ?_; rintro en w4 ⟨rfl, hb4⟩; have O4 := O1.up hb4; have rc := O4.res.cell (i := 0) (v := .bool false) rfl; have rf := O4.res.fz 0)
      have hx4 := O4.res.set 0 (.bool true)
      refine leaves_marks [] _ (by simp) (fun D2 hD2 => by cases hD2) (fun w9 hb9 => ?_)
      have hx5 : RowAt w9 (w.heap.size + 1 + 1) #[.bool true] 4 := (hb9.same _ hx4.lt (by simp)).trans hx4
      have hx5c := hx5.cell (i := 0) (v := .bool true) rfl
      refine ⟨.bool true, by simp [results, Try.results5, go_sem, hx5c], rfl, ?_⟩
      have hB3 := O4.below.setCell (show w.heap.size ≤ (⟨w.heap.size + 1 + 1, 0, none⟩ : Addr).block by simp; omega) (.bool true)
      exact hB3.trans (hb9.below (fun D2 hD2 => by cases hD2) hB3.size)
    | true =>
      have hf := HR.out.symm
      have hn20 : n ≤ 20 := by
        unfold fewB at hf
        rw [Bool.and_eq_true] at hf
        have := of_decide_eq_true hf.2
        rw [List.length_append, Hln.out] at this
        simp at this; omega
      have hall : ∀ x ∈ l ++ [x0, x1], acOk x = true := by
        unfold fewB at hf
        rw [Bool.and_eq_true] at hf
        exact List.all_eq_true.1 hf.1
      have HOK := Lib.hid (And.intro (fun x hx => hall x (List.mem_append_left _ hx)) (And.intro (hall x0 (by simp)) (hall x1 (by simp))))
      clear hf hall HR
      have hO3 := O1.res.lt
      go_wp2_with (first
        | (go_at_call 7; refine (dNew_c 6 (by decide) (by decide) _).mono ?_; rintro en w1 ⟨rfl, hD1, hb1⟩)
        | (go_at_call 17; refine (rNew_c 6 (by decide) (by decide) _).mono ?_; rintro en w2 ⟨v2, rfl, hR2, hb2⟩; obtain ⟨la0, lc0, wa0, wc0, rfl, I0⟩ := PyI.start (w := W3) (n := 6) (below_up hb1 hb2) (hD1.below hb2) hR2 (by decide) (Nat.le_succ _) (Nat.le_refl _); have O2 := ((O1.up hb1).up hb2).up (below_alloc w2 (.cells #[.slice la0 6 lc0, .slice wa0 0 wc0, .int .i64 (-1)] 47)))
        | (go_at_call 8; refine (dNum_c _ _).mono ?_; rintro en w3 ⟨rfl, rfl⟩))
      go_loopw [11] (fun i wr => ∃ (k : Nat) (d : Disk) (la : Option Addr) (lc : Nat) (wa : Option Addr) (wc : Nat) (r : RDisk), k ≤ n ∧ i = .int .i64 k ∧ PyI W3 wr (W3.heap.size + 1) W3.heap.size w2.heap.size d la lc wa wc r k ∧ OwD w wr x0 x1 many) (fun i _ => n - (intOf i).toNat)
      case atStart => exact ⟨0, _, _, _, _, _, _, Nat.zero_le _, rfl, I0, O2⟩
      case round =>
        clear I0 O2 hR2 hD1 hb1 hb2 O1
        obtain ⟨k, d, la, lc, wa, wc, r, hk, rfl, I, O1⟩ := hrel
        have hlw := I.low
        have hne := I.ne
        have hlt3 := I.lt
        have hTl := I.p.lt
        by_cases hlt : k < n
        · have hltI : (k : Int) < (n : Int) := by omega
          have hlt' : k < l.length := by rw [Hln.out]; exact hlt
          obtain ⟨b, off, rfl, hr0⟩ := hv.rec_at (cells := acC) (sz := 5) (fun _ => rfl) hlt hlt'
          have hr := rangeAt_up O1.below hr0
          have hb0 : b < w.heap.size := World.block_lt_of_cell? w ⟨b, off + k * 5 + 0, none⟩ (hr0 0 _ rfl)
          have hxa := HAC.out l[k] (List.getElem_mem hlt')
          have hxb := HOK.out.1 l[k] (List.getElem_mem hlt')
          generalize l[k] = x at *
          have hx2 := hxa.up O1.below
          have hsl := stepR_len r x
          have hWn : r.W.length ≤ 100000 := by have := I.len; omega
          have hact := fun u v w' (hd : DiskAt w' (W3.heap.size + 1) W3.heap.size u d) (hr : RefAt w' v r) (hx : AcAt w' x) => act_c x w' hd hr I.rel hx hWn hxb
          obtain ⟨R', hR'⟩ : ∃ R', stepR r x = R' := ⟨_, rfl⟩
          rw [hR'] at hact hsl
          have HACT := Lib.hid hact
          have HX2 := Lib.hid hx2
          have HR := Lib.hid hr
          have HSL := Lib.hid hsl
          clear hact hx2 hxa hxb hr hR' hsl
          go_wp2
          refine wp_onlyN (wp_region_pt (fun i => i = W3.heap.size + 1 ∨ i = W3.heap.size ∨ i = w2.heap.size) (.q 0 (.q 2 (.q 3 (.q 4 (.q 5 (.c 1 (.c 6 (.q 7 (.q 8 (.q 9 (.c 10 .done))))))))))) (by kernel_rfl) (by kernel_rfl) (by kernel_rfl) (by decide) onlyN_panic (fun Wd hBd => ?_))
          try simp only [Act.put, List.getElem_toArray, List.getElem_cons_zero, List.getElem_cons_succ, List.setIfInBounds_toArray, List.set_cons_zero, List.set_cons_succ]
          have I2 := I.up hBd
          have OD := O1.up hBd
          have hz2 := hBd.size
          have hr2 := rangeAt_up hBd HR.out
          have hxD := HX2.out.up hBd
          obtain ⟨uD, hDD⟩ := I2.disk
          have q0 : Wd.cell? ⟨w2.heap.size, 0, none⟩ = some (.slice la r.L.length lc) := I2.p.cell (i := 0) rfl
          have q1 : Wd.cell? ⟨w2.heap.size, 1, none⟩ = some (.slice wa r.W.length wc) := I2.p.cell (i := 1) rfl
          have q2 : Wd.cell? ⟨w2.heap.size, 2, none⟩ = some (.int .i64 r.armed) := I2.p.cell (i := 2) rfl
          refine pt_q (v := ?_) rfl (by rfl) ?_ ?_
          rotate_left
          · intro w' hBw'
            first | (go_simp; done) | (go_simp; with_reducible rfl)
          try simp only [Act.put, List.getElem_toArray, List.getElem_cons_zero, List.getElem_cons_succ, List.setIfInBounds_toArray, List.set_cons_zero, List.set_cons_succ]
          refine pt_q (v := ?_) rfl (by rfl) ?_ ?_
          rotate_left
          · intro w' hBw'
            first | (go_simp; done) | (go_simp; with_reducible rfl)
          try simp only [Act.put, List.getElem_toArray, List.getElem_cons_zero, List.getElem_cons_succ, List.setIfInBounds_toArray, List.set_cons_zero, List.set_cons_succ]
          refine pt_q (v := ?_) rfl (by rfl) ?_ ?_
          rotate_left
          · intro w' hBw'
            first | (go_simp; done) | (go_simp; with_reducible rfl)
          try simp only [Act.put, List.getElem_toArray, List.getElem_cons_zero, List.getElem_cons_succ, List.setIfInBounds_toArray, List.set_cons_zero, List.set_cons_succ]
          refine pt_q (v := ?_) rfl (by rfl) ?_ ?_
          rotate_left
          · intro w' hBw'
            first | (go_simp; done) | (go_simp; with_reducible rfl)
          try simp only [Act.put, List.getElem_toArray, List.getElem_cons_zero, List.getElem_cons_succ, List.setIfInBounds_toArray, List.set_cons_zero, List.set_cons_succ]
          refine pt_load rfl (by rfl) 54 (.tmp 56) rfl b (off + k * 5) rfl (acC x) _ hr2 (by omega) Try.underlying54 rfl (by kernel_rfl) ?_
          try simp only [Act.put, List.getElem_toArray, List.getElem_cons_zero, List.getElem_cons_succ, List.setIfInBounds_toArray, List.set_cons_zero, List.set_cons_succ]
          refine pt_c ?_
          refine pt_step rfl (by rfl) (fun K hK => ?_)
          go_simp
          refine hK.out _ _ (But.refl _ _) ?_
          clear hK K
          try simp only [Act.put, List.getElem_toArray, List.getElem_cons_zero, List.getElem_cons_succ, List.setIfInBounds_toArray, List.set_cons_zero, List.set_cons_succ]
          refine pt_c ?_
          refine pt_step rfl (by rfl) (fun K hK => ?_)
          go_simp
          refine (HACT.out _ (.agg #[.slice la r.L.length lc, .slice wa r.W.length wc, .int .i64 r.armed]) _ hDD I2.want hxD).mono ?_
          rintro en w6 ⟨v6, u6, d6, rfl, hR6, hD6, hrel6, hb6⟩
          obtain ⟨a6, n6, a7, n7, rfl⟩ := hR6.apart
          refine hK.out _ _ (hb6.mono fun _ _ e => e.elim .inl fun e => .inr (.inl e)) ?_
          clear hK K
          try simp only [Act.put, List.getElem_toArray, List.getElem_cons_zero, List.getElem_cons_succ, List.setIfInBounds_toArray, List.set_cons_zero, List.set_cons_succ]
          have p6 := I2.p.other_but hb6 (by omega)
          refine pt_q (v := ?_) rfl (by rfl) ?_ ?_
          rotate_left
          · intro w' hBw'
            first | (go_simp; done) | (go_simp; with_reducible rfl)
          try simp only [Act.put, List.getElem_toArray, List.getElem_cons_zero, List.getElem_cons_succ, List.setIfInBounds_toArray, List.set_cons_zero, List.set_cons_succ]
          refine pt_q (v := ?_) rfl (by rfl) ?_ ?_
          rotate_left
          · intro w' hBw'
            first | (go_simp; done) | (go_simp; with_reducible rfl)
          try simp only [Act.put, List.getElem_toArray, List.getElem_cons_zero, List.getElem_cons_succ, List.setIfInBounds_toArray, List.set_cons_zero, List.set_cons_succ]
          refine pt_q (v := ?_) rfl (by rfl) ?_ ?_
          rotate_left
          · intro w' hBw'
            first | (go_simp; done) | (go_simp; with_reducible rfl)
          try simp only [Act.put, List.getElem_toArray, List.getElem_cons_zero, List.getElem_cons_succ, List.setIfInBounds_toArray, List.set_cons_zero, List.set_cons_succ]
          refine pt_c ?_
          refine pt_put_row rfl (by rfl) 47 _ _ rfl w2.heap.size [(.slice a6 R'.L.length n6), (.slice a7 R'.W.length n7), (.int .i64 R'.armed)] rfl rfl p6 rfl (by kernel_rfl) rfl (.inr (.inr rfl)) (fun wA hRA hbA => ?_)
          try simp only [Act.put, List.getElem_toArray, List.getElem_cons_zero, List.getElem_cons_succ, List.setIfInBounds_toArray, List.set_cons_zero, List.set_cons_succ]
          refine pt_done ?_
          have J := Lib.hid (PyI.next I2 hb6 ⟨_, hD6⟩ hR6 hrel6 (by have := HSL.out; have := I.len; omega) hbA hRA)
          have OJ := Lib.hid ((OD.but hb6 (fun j e => by omega)).but hbA (fun j e => by omega))
          clear p6 hRA hbA q0 q1 q2 hr2 I2 I hb6 hD6 hR6 hBd hz2 hDD hxD OD O1
          refine ⟨rfl, ?_⟩
          go_wp2
          go_roundw
          case rel => exact ⟨k + 1, _, _, _, _, _, _, by omega, by go_num, J.out, OJ.out⟩
          case measure => simp [intOf]; omega
        · obtain rfl : k = n := by omega
          obtain ⟨uD, hDD⟩ := I.disk
          go_wp2_with (go_at_call 23; refine (dWaitsP_c _ hDD).mono ?_; rintro en w4 ⟨rfl, hP4, hb4, hz4⟩)
          have hbl := hP4.sl.blk (by decide)
          have hb5 := below_alloc w4 (.cells #[.int .i64 0] 3)
          have hP5 := hP4.but (O := fun _ => False) (But.of_below hb5) (fun h => h) (.inr fun _ _ h => h)
          have HI := Lib.hid (I.up hb4)
          have HO := Lib.hid (O1.up hb4)
          have hLn : d.W.length = r.W.length := by rw [I.rel.waits]
          have HWT := Lib.hid I.rel.waits
          have hrl := Lib.hid I.rel
          have hIl := I.len
          have hO1l := O1.res.lt
          clear I O1 hb4 hDD hP4
          refine wpIn_wide.1 (wp_range_brk (n := 3) (S := fun q => q = wr.heap.size ∨ (0 < d.W.length ∧ uD.ownBlock = some q)) (gf := 49) (lb := #[.pointer (some ⟨wr.heap.size, 0, none⟩)]) rfl dEnters_wt1
            (waits1_x d.W _ d.W.length uD _ _ hP5 ⟨.inl rfl, (Nat.eq_zero_or_pos d.W.length).elim .inl fun h => .inr fun k hk => .inr ⟨h, hk⟩⟩) (Below.refl _ _) (fun _ => rfl)
            (fun q => q = w4.heap.size) (fun k h => by simp only [World.size_alloc]; omega) ?hS
            (fun q G W => CtR w4 q G W ∧ (q = 0 ∨ (q : Int) < many))
            (fun q a' G W => a' = { tmps := #[.slice a k c, .agg (twC x0 x1).toArray, .int .i64 many, undef, .pointer (some ⟨w.heap.size, 0, none⟩), .pointer (some ⟨w.heap.size + 1, 0, none⟩), .pointer (some ⟨w.heap.size + 1 + 1, 0, none⟩), .pointer (some ⟨W3.heap.size + 1, 0, none⟩), .int .i64 0, .pointer (some ⟨w2.heap.size, 0, none⟩), .bool true, .int .i64 (k : Int), .func (.func 49) #[] #[.pointer (some ⟨wr.heap.size, 0, none⟩)], .pointer (some ⟨wr.heap.size + 1, 0, none⟩), .int .i64 (q : Int), .int .i64 (ptAt d.W q).1, undef, undef, undef, undef, undef, undef, x22, .slice a k c, x24, .pointer (some ⟨w.heap.size, 0, none⟩), .agg (acC x0).toArray, .pointer (some ⟨w.heap.size, 5, none⟩), .agg (acC x1).toArray, x29, x30, .bool true, .bool false, undef, .tuple #[.pointer (some ⟨W3.heap.size + 1, 0, none⟩), .int .i64 0], .tuple #[.pointer (some ⟨W3.heap.size + 1, 0, none⟩), .int .i64 0], .pointer (some ⟨W3.heap.size + 1, 0, none⟩), .int .i64 0, .tuple #[.agg #[.slice la0 6 lc0, .slice wa0 0 wc0, .int .i64 (-1)], .bool true], .tuple #[.agg #[.slice la0 6 lc0, .slice wa0 0 wc0, .int .i64 (-1)], .bool true], .agg #[.slice la0 6 lc0, .slice wa0 0 wc0, .int .i64 (-1)], .bool true, .int .i64 0, .int .i64 0, .bool false, .int .i64 (k : Int), .slice a k c, .int .i64 (k : Int), .bool false, u49, u50, u51, u52, u53, u54, u55, u56, u57, u58, u59, u60, .pointer (some ⟨W3.heap.size + 1, 0, none⟩), .func (.func 49) #[] #[.pointer (some ⟨wr.heap.size, 0, none⟩)], .func (.func 49) #[] #[.pointer (some ⟨wr.heap.size, 0, none⟩)], .bool false, .func (.func 49) #[] #[.pointer (some ⟨wr.heap.size, 0, none⟩)], .int .i64 (q : Int), .int .i64 (ptAt d.W q).1, undef, undef, undef, undef, undef, undef, undef, undef, undef, undef, undef, undef, undef, undef, undef, undef, undef, undef, undef, undef, undef, undef, undef, undef, undef, undef, undef, undef, undef, undef, undef, undef, undef, undef, undef, undef, undef, undef, undef, undef, undef, undef, undef, undef, undef, undef, undef, undef, undef, undef, undef, undef, undef, undef, undef, undef, undef, undef, undef, undef, undef, undef, undef, undef, undef, undef, undef, undef, undef, undef, undef, undef, undef, undef, undef, undef, undef, undef, undef, undef, undef, undef, undef, undef, undef, undef, undef, undef, undef, undef, undef, undef], defers := [] } ∧ CtR w4 q G W ∧ (q = 0 ∨ (q : Int) < many))
            (fun q G W => CtR w4 q G W ∧ many ≤ (q : Int) ∧ 1 ≤ q ∧ (q = 1 ∨ (q : Int) - 1 < many))
            ?abI ?abM ?abX ⟨CtR.start w4, .inl rfl⟩ ?assign ?body ?done)
          case hS =>
            rintro q (rfl | ⟨hp, hq⟩)
            · exact ⟨by simp only [World.size_alloc]; omega, by omega⟩
            · rcases hbl with h | h
              · omega
              · have := h q hq
                exact ⟨by simp only [World.size_alloc]; omega, by omega⟩
          case abI => exact fun q G A B h hb => ⟨CtR.abide (by simp only [World.size_alloc]; omega) G A B h.1 hb, h.2⟩
          case abM => exact fun q a' G A B h hb => ⟨h.1, CtR.abide (by simp only [World.size_alloc]; omega) G A B h.2.1 hb, h.2.2⟩
          case abX => exact fun q G A B h hb => ⟨CtR.abide (by simp only [World.size_alloc]; omega) G A B h.1 hb, h.2⟩
          case assign =>
            intro l2 q G W K3 hq hi hK3
            simp only [waitArgs]
            gi_wp2
            refine hK3 _ _ (But.refl _ _) ⟨rfl, ?_⟩
            rw [newG_same rfl]; exact hi
          case body =>
            rintro l2 q a' G W hq hl2 _ hGl ⟨rfl, hR, hqm⟩
            have I5 := HI.out.up hR.below
            have O5 := HO.out.up hR.below
            obtain ⟨lv, wv, he1, _, hs2⟩ := I5.want.ex
            simp only [Value.agg.injEq, Array.mk.injEq, List.cons.injEq] at he1
            obtain ⟨rfl, rfl, _⟩ := he1
            have hq' : q < r.W.length := by omega
            obtain ⟨b, off, rfl, hr⟩ := hs2.rec_at (cells := rpC) (sz := 2) (fun _ => rfl) hq' hq'
            have hpe : (ptAt d.W q).1 = r.W[q].1 := by rw [HWT.out, ptAt_get hq']
            rw [hpe]
            generalize r.W[q] = e at *
            have r0 := hr 0 (.int .i64 e.1) rfl
            simp only [Nat.add_zero] at r0
            have hstep := hR.stepQ
            rw [hz4] at hstep
            have Hstep := Lib.hid hstep
            have hqi : (q : Int) < (r.W.length : Int) := by omega
            have hqn : ¬ (r.W.length : Int) ≤ (q : Int) := by omega
            have p1 := I5.p.cell (i := 1) (v := .slice (some ⟨b, off, none⟩) r.W.length wc) rfl
            have a1 : W.cell? ⟨wr.heap.size + 1, 0, none⟩ = some (.int .i64 (q : Int)) := hz4 ▸ hR.cnt.cell (i := 0) rfl
            have f1 : W.frozen? ⟨wr.heap.size + 1, 0, none⟩ = false := hz4 ▸ hR.cnt.fz 0
            have m1 := O5.num.cell (i := 0) (v := .int .i64 many) rfl
            have hq9 : (q : Int) ≤ 100000 := by omega
            have hnn1 : ¬ wr.heap.size + 1 = w.heap.size + 1 := by omega
            have hnn2 : ¬ w.heap.size + 1 = wr.heap.size + 1 := by omega
            have hnn3 : ¬ wr.heap.size = w.heap.size := by omega
            clear hr hR I5 O5 hs2 hpe hstep
            by_cases hmq : many ≤ (q : Int) + 1
            · have d1 : decide (many ≤ (q : Int) + 1) = true := decide_eq_true hmq
              gi_wp2
              refine ⟨Hstep.out.1, rfl, Hstep.out.2, by omega, by omega, by omega⟩
            · have d1 : decide (many ≤ (q : Int) + 1) = false := decide_eq_false hmq
              gi_wp2
              refine ⟨Hstep.out.1, Hstep.out.2, .inr (by omega)⟩
          case done =>
            rintro D G W q hD hGD hcase hKD
            have hR : CtR w4 q G W := hcase.elim (fun h => h.2.1) (fun h => h.2.1)
            have hmin : (q : Int) = min (r.W.length : Int) (max 1 many) := by
              rcases hcase with ⟨h1, _, h2⟩ | ⟨h1, _, h2, h3, h4⟩
              · rw [hLn] at h1; omega
              · rw [hLn] at h1; omega
            clear hcase
            have I5 := HI.out.up hR.below
            have O5 := HO.out.up hR.below
            have cnt5 : RowAt W (wr.heap.size + 1) #[.int .i64 (q : Int)] 3 := hz4 ▸ hR.cnt
            have hDl : w.heap.size + 1 + 1 < D := by simp only [World.size_alloc] at hD; omega
            have hWn : r.W.length ≤ 100000 := by omega
            have hs0 := stepR_len r x0
            have hs1 := stepR_len r x1
            have hact0 := fun u v w' (hd : DiskAt w' (W3.heap.size + 1) W3.heap.size u d) (hr : RefAt w' v r) (hx : AcAt w' x0) => act_c x0 w' hd hr hrl.out hx hWn HOK.out.2.1
            have hact1 := fun B2 M2 u v w' (hd : DiskAt w' B2 M2 u d) (hr : RefAt w' v r) (hx : AcAt w' x1) => act_c x1 w' hd hr hrl.out hx hWn HOK.out.2.2
            obtain ⟨R1, hR1⟩ : ∃ R', stepR r x0 = R' := ⟨_, rfl⟩
            obtain ⟨R2, hR2⟩ : ∃ R', stepR r x1 = R' := ⟨_, rfl⟩
            rw [hR1] at hact0 hs0
            rw [hR2] at hact1 hs1
            obtain ⟨Sb, hSb⟩ : ∃ b, sameR R1 R2 = b := ⟨_, rfl⟩
            have HA0 := Lib.hid hact0
            have HA1 := Lib.hid hact1
            have HSB := Lib.hid hSb
            obtain ⟨mx, hmx⟩ : ∃ m : Int, (if (1 : Int) < many then many else 1) = m := ⟨_, rfl⟩
            have hmax := max_int2 1 many
            have hmn := min_int2 (r.W.length : Int) mx
            rw [hmx] at hmax
            rw [show (if mx < (r.W.length : Int) then mx else (r.W.length : Int)) = (q : Int) by
              rw [hmin, ← hmx]
              split <;> split <;> omega] at hmn
            have hWd : d.W.length ≤ 1000000 := by omega
            have HX0 := Lib.hid hx0
            have HX1 := Lib.hid hx1
            have hlt5 := I5.lt
            have hTl5 := I5.p.lt
            have hcl5 := cnt5.lt
            have hOl5 := O5.res.lt
            clear hact0 hact1 hSb hR1 hR2 hmx hmin hR hx0 hx1
            obtain ⟨u5, hD5⟩ := I5.disk
            have c5 := I5.p.cell (i := 0) (v := .slice la r.L.length lc) rfl
            have t1 := Lib.hid True.intro
            have t2 := Lib.hid True.intro
            have t3 := Lib.hid True.intro
            have t4 := Lib.hid True.intro
            go_wp2_with (first
              | (go_at_call 12; refine (dCopy_c _ hD5 hWd).mono ?_; rintro en w6 ⟨B2, M2, u6, rfl, hK6, hB2, hM2, _, hb6⟩; have I6 := I5.up hb6; have O6 := O5.up hb6; have cnt6 := cnt5.below hb6; have hD6 := hD5.below hb6; have hlB2 := hK6.var.lt; have hlM2 := hK6.map.lt; have hz6 := hb6.size; have k0 := I6.p.cell (i := 0) (v := .slice la r.L.length lc) rfl; have k1 := I6.p.cell (i := 1) (v := .slice wa r.W.length wc) rfl; have k2 := I6.p.cell (i := 2) (v := .int .i64 r.armed) rfl)
              | (refine wpList_load_mid rfl 54 (.tmp 98) rfl w.heap.size 0 rfl (acC x0) _ (rangeAt_sub O6.two.range 0 0 rfl (twC_0 x0 x1)) Try.underlying54 rfl (by kernel_rfl) ?_)
              | (go_at_call 20; have Tz := t1; clear Tz t1; refine (HA0.out _ (.agg #[.slice la r.L.length lc, .slice wa r.W.length wc, .int .i64 r.armed]) _ hD6 I6.want (HX0.out.up O6.below)).mono ?_; rintro en w7 ⟨v7, u7, d7, rfl, hR7, hD7, hrel7, hb7⟩; obtain ⟨a7, n7, b7, m7, rfl⟩ := hR7.apart; have hz7 := hb7.size; have K7 := (hK6.pastD hD6 (by omega) (by omega) hb7).below (below_alloc w7 (.cells #[.slice a7 R1.L.length n7, .slice b7 R1.W.length m7, .int .i64 R1.armed] 47)); have W7 := (I6.want.pastD hD6 hb7).up (below_alloc w7 (.cells #[.slice a7 R1.L.length n7, .slice b7 R1.W.length m7, .int .i64 R1.armed] 47)); have P7 := (I6.p.other_but hb7 (by omega)).below (below_alloc w7 (.cells #[.slice a7 R1.L.length n7, .slice b7 R1.W.length m7, .int .i64 R1.armed] 47)); have C7 := (cnt6.other_but hb7 (by omega)).below (below_alloc w7 (.cells #[.slice a7 R1.L.length n7, .slice b7 R1.W.length m7, .int .i64 R1.armed] 47)); have O7 := (O6.but hb7 (fun j e => by omega)).up (below_alloc w7 (.cells #[.slice a7 R1.L.length n7, .slice b7 R1.W.length m7, .int .i64 R1.armed] 47)); have E7 := hD7.below (below_alloc w7 (.cells #[.slice a7 R1.L.length n7, .slice b7 R1.W.length m7, .int .i64 R1.armed] 47)); have F7 := hR7.up (below_alloc w7 (.cells #[.slice a7 R1.L.length n7, .slice b7 R1.W.length m7, .int .i64 R1.armed] 47)); have Q7 := RowAt.new w7 #[.slice a7 R1.L.length n7, .slice b7 R1.W.length m7, .int .i64 R1.armed] 47; have hl7 := hD7.var.lt; have j0 := P7.cell (i := 0) (v := .slice la r.L.length lc) rfl; have j1 := P7.cell (i := 1) (v := .slice wa r.W.length wc) rfl; have j2 := P7.cell (i := 2) (v := .int .i64 r.armed) rfl)
              | (refine wpList_load_mid rfl 54 (.tmp 106) rfl w.heap.size 5 rfl (acC x1) _ (rangeAt_sub O7.two.range 5 5 rfl (twC_1 x0 x1)) Try.underlying54 rfl (by kernel_rfl) ?_)
              | (go_at_call 20; refine (HA1.out _ _ _ (.agg #[.slice la r.L.length lc, .slice wa r.W.length wc, .int .i64 r.armed]) _ K7 W7 (HX1.out.up O7.below)).mono ?_; rintro en w8 ⟨v8, u8, d8, rfl, hR8, hD8, hrel8, hb8⟩; obtain ⟨a8, n8, b8, m8, rfl⟩ := hR8.apart; have hz8 := hb8.size; have E8 := (E7.pastD K7 (by omega) (by omega) hb8).below (below_alloc w8 (.cells #[.slice a8 R2.L.length n8, .slice b8 R2.W.length m8, .int .i64 R2.armed] 47)); have F8 := (F7.pastD K7 hb8).up (below_alloc w8 (.cells #[.slice a8 R2.L.length n8, .slice b8 R2.W.length m8, .int .i64 R2.armed] 47)); have P8 := (P7.other_but hb8 (by omega)).below (below_alloc w8 (.cells #[.slice a8 R2.L.length n8, .slice b8 R2.W.length m8, .int .i64 R2.armed] 47)); have C8 := (C7.other_but hb8 (by omega)).below (below_alloc w8 (.cells #[.slice a8 R2.L.length n8, .slice b8 R2.W.length m8, .int .i64 R2.armed] 47)); have Q8 := (Q7.other_but hb8 (by omega)).below (below_alloc w8 (.cells #[.slice a8 R2.L.length n8, .slice b8 R2.W.length m8, .int .i64 R2.armed] 47)); have O8 := (O7.but hb8 (fun j e => by omega)).up (below_alloc w8 (.cells #[.slice a8 R2.L.length n8, .slice b8 R2.W.length m8, .int .i64 R2.armed] 47)); have G8 := hD8.below (below_alloc w8 (.cells #[.slice a8 R2.L.length n8, .slice b8 R2.W.length m8, .int .i64 R2.armed] 47)); have H8 := hR8.up (below_alloc w8 (.cells #[.slice a8 R2.L.length n8, .slice b8 R2.W.length m8, .int .i64 R2.armed] 47)); have J8 := RowAt.new w8 #[.slice a8 R2.L.length n8, .slice b8 R2.W.length m8, .int .i64 R2.armed] 47; have V8 : CpW w (w8.alloc (.cells #[.slice a8 R2.L.length n8, .slice b8 R2.W.length m8, .int .i64 R2.armed] 47)) (W3.heap.size + 1) W3.heap.size B2 M2 w2.heap.size (wr.heap.size + 1) w7.heap.size w8.heap.size d7 d8 la lc wa wc r a7 n7 b7 m7 R1 a8 n8 b8 m8 R2 q x0 x1 many := ⟨O8, ⟨_, E8⟩, ⟨_, G8⟩, P8, C8, Q8, J8, F8, H8⟩; have i0 := Q8.cell (i := 0) (v := .slice a7 R1.L.length n7) rfl; have i1 := Q8.cell (i := 1) (v := .slice b7 R1.W.length m7) rfl; have i2 := Q8.cell (i := 2) (v := .int .i64 R1.armed) rfl; have h0 := J8.cell (i := 0) (v := .slice a8 R2.L.length n8) rfl; have h1 := J8.cell (i := 1) (v := .slice b8 R2.W.length m8) rfl; have h2 := J8.cell (i := 2) (v := .int .i64 R2.armed) rfl)
              | (go_at_call 24; have hrs := rSameAll_c R1 R2 _ _ _ V8.f1 V8.f2; rw [HSB.out] at hrs; refine hrs.mono ?_; rintro en w10 ⟨rfl, hb10⟩; have V10 := V8.up hb10; have cn := V10.cn.cell (i := 0) (v := .int .i64 (q : Int)) rfl; have cm := V10.own.num.cell (i := 0) (v := .int .i64 many) rfl; have g0 := V10.p.cell (i := 0) (v := .slice la r.L.length lc) rfl; have g1 := V10.p.cell (i := 1) (v := .slice wa r.W.length wc) rfl; have g2 := V10.p.cell (i := 2) (v := .int .i64 r.armed) rfl; have f0 := V10.p1.cell (i := 0) (v := .slice a7 R1.L.length n7) rfl; have f1 := V10.p1.cell (i := 1) (v := .slice b7 R1.W.length m7) rfl; have f2 := V10.p1.cell (i := 2) (v := .int .i64 R1.armed) rfl)
              | (go_at_call 21; have Tz := t2; clear Tz t2; obtain ⟨y1, hy1⟩ := V10.k1; refine (is_c _ hy1 V10.f1 hrel7 (by omega)).mono ?_; rintro en w11 ⟨rfl, hb11⟩; have V11 := V10.up hb11; have e0 := V11.p2.cell (i := 0) (v := .slice a8 R2.L.length n8) rfl; have e1 := V11.p2.cell (i := 1) (v := .slice b8 R2.W.length m8) rfl; have e2 := V11.p2.cell (i := 2) (v := .int .i64 R2.armed) rfl)
              | (go_at_call 21; obtain ⟨y2, hy2⟩ := V11.k2; refine (is_c _ hy2 V11.f2 hrel8 (by omega)).mono ?_; rintro en w12 ⟨rfl, hb12⟩; have V12 := V11.up hb12)
              | (go_at_call 14; have Tz := t3; clear Tz t3; obtain ⟨y1, hy1⟩ := V12.k1; obtain ⟨y2, hy2⟩ := V12.k2; have hss := dSameAll_c _ hy1 hy2 hrel7 hrel8; rw [HSB.out] at hss; refine hss.mono ?_; rintro en w13 ⟨rfl, hb13⟩; have V13 := V12.up hb13)
              | (go_at_call 14; have Tz := t4; clear Tz t4; obtain ⟨y1, hy1⟩ := V13.k1; obtain ⟨y2, hy2⟩ := V13.k2; have hss := dSameAll_c _ hy2 hy1 hrel8 hrel7; rw [sameR_comm R2 R1, HSB.out] at hss; refine hss.mono ?_; rintro en w14 ⟨rfl, hb14⟩; have V14 := V13.up hb14)
              | (go_at_call 14; obtain ⟨y1, hy1⟩ := V14.k1; refine (dSameNil_c _ hy1).mono ?_; rintro en w15 ⟨rfl, rfl⟩)
              | (go_at_call 6; refine (dWorks_c _).mono ?_; rintro en w16 ⟨rfl, hb16⟩; have V16 := V14.up hb16; have rc := V16.own.res.cell (i := 0) (v := .bool false) rfl; have rf := V16.own.res.fz 0))
            have hx4 := V16.own.res.set 0 (.bool true)
            have hmD : w16.heap[D]? = some (.deferred (some [])) := by
              have e6 : w6.heap[D]? = some (.deferred (some [])) := (hb6.block D (Array.getElem?_eq_some_iff.1 hKD).1).trans hKD
              have nd7 : ¬ (D = W3.heap.size + 1 ∨ D = W3.heap.size) := fun e => by
                rcases e with e | e
                · have h1 := hD5.var; unfold RowAt at h1; rw [← e, hKD] at h1; cases h1
                · obtain ⟨es, clock, hmm, _⟩ := hD5.map.ex; rw [← e, hKD] at hmm; cases hmm
              have e7 : w7.heap[D]? = some (.deferred (some [])) := (hb7.same D (Array.getElem?_eq_some_iff.1 e6).1 nd7).trans e6
              have e7b : (w7.alloc (.cells #[.slice a7 R1.L.length n7, .slice b7 R1.W.length m7, .int .i64 R1.armed] 47)).heap[D]? = some (.deferred (some [])) := ((below_alloc w7 (.cells #[.slice a7 R1.L.length n7, .slice b7 R1.W.length m7, .int .i64 R1.armed] 47)).block D (Array.getElem?_eq_some_iff.1 e7).1).trans e7
              have nd8 : ¬ (D = B2 ∨ D = M2) := fun e => by
                have := (Array.getElem?_eq_some_iff.1 hKD).1
                omega
              have e8 : w8.heap[D]? = some (.deferred (some [])) := (hb8.same D (Array.getElem?_eq_some_iff.1 e7b).1 nd8).trans e7b
              have hbE : Below w8.heap.size w8 w16 := below_up (below_alloc w8 (.cells #[.slice a8 R2.L.length n8, .slice b8 R2.W.length m8, .int .i64 R2.armed] 47)) (below_up (below_up (below_up (below_up (below_up hb10 hb11) hb12) hb13) hb14) hb16)
              exact (hbE.block D (Array.getElem?_eq_some_iff.1 e8).1).trans e8
            have hne : D ≠ w.heap.size + 1 + 1 := by omega
            refine leaves_marks [D] _ (by simp) (fun D2 hD2 => ?_) (fun w9 hb9 => ?_)
            · obtain rfl : D2 = D := by simpa using hD2
              exact (Below.heap_setCell w16 ⟨w.heap.size + 1 + 1, 0, none⟩ (.bool true) D2 (by simpa using hne)).trans hmD
            · have hne2 : w.heap.size + 1 + 1 ∉ [D] := fun h => hne (List.mem_singleton.1 h).symm
              have hx5 : RowAt w9 (w.heap.size + 1 + 1) #[.bool true] 4 := (hb9.same _ hx4.lt hne2).trans hx4
              have hx5c := hx5.cell (i := 0) (v := .bool true) rfl
              refine ⟨.bool true, by simp [results, Try.results5, go_sem, hx5c], rfl, ?_⟩
              have hB3 := V16.own.below.setCell (show w.heap.size ≤ (⟨w.heap.size + 1 + 1, 0, none⟩ : Addr).block by simp; omega) (.bool true)
              exact hB3.trans (hb9.below (fun D2 hD2 => by have := List.mem_singleton.1 hD2; omega) hB3.size)

theorem diskCopies_law {H : Type} {enc : TypeId × Value → H} {w : World} {base : Nat} {spare : Nat → Bool} {held : Bool} {v : Value} {n : Nat} {vs : List Value} (x0 x1 : Ac) (many : Int) (hx0 : AcAt w x0) (hx1 : AcAt w x1) (hs : Sl w 5 v n vs)
    (hl : ∀ i, i < n → ∀ (j : Nat) (U : TypeId), acTs[j]? = some U → ∃ c, vs[i * 5 + j]? = some c ∧ Leaf enc Try.prog w base spare held U c) (hbd : n * 56 ≤ 140737488351232) : Calls Try.prog 5 #[v, .agg (twC x0 x1).toArray, .int .i64 many] w (Ret (.bool true) w) := by
  obtain ⟨l, rfl, hac⟩ := acs_of hs hl
  exact diskCopies_c l x0 x1 many v n w hs hbd hac hx0 hx1
theorem acAt_mk {w : World} {what sec more : Int} {byte : Int} {a : Option Addr} {n c : Nat} {keep : List Bool} (h1 : (Lit.int .i64 sec).wf = true) (h2 : (Lit.int .i64 more).wf = true) (h3 : (Lit.int .u8 byte).wf = true) (hs : Sl w 1 (.slice a n c) n (keep.map Value.bool)) : ∃ y : UInt8, byte = (y.toNat : Int) ∧ AcAt w ⟨what, sec, more, y, a, n, c, keep⟩ := by
  obtain ⟨y, hy⟩ := u8_ofA h3
  exact ⟨y, hy, hs, h1, h2⟩
end Go.Proofs.Ytekpjbablcoahaa
