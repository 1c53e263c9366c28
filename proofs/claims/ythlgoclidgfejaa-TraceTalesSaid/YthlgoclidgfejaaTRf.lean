/-
  TRef, TRefB: several texts in one (merge.py).
-/
import Derived.Test.YthlgoclidgfejaaTKs
import Derived.Deep.DeepCutAuto
import Derived.Test.YthlgoclidgfejaaNmRef
namespace Go.Proofs.Ythlgoclidgfejaa
open Go.RowKit Go.Maps Srt Trc
set_option linter.unusedSimpArgs false
set_option linter.unusedVariables false

/-- A tale's cells, by its parts. -/
abbrev rowT (n : Nm) (s c : Int) (g : Int → Nat) (f la d : Int) : List Value := [.int .u32 n.node, .int .u32 n.service, .int .u64 n.time, .int .u32 n.seq, .int .i64 s, .int .i64 c,
  .int .i64 (g 0), .int .i64 (g 1), .int .i64 (g 2), .int .i64 (g 3), .int .i64 (g 4), .int .i64 (g 5), .int .i64 (g 6), .int .u64 f, .int .u64 la, .int .u64 d]
theorem tlC_row (n : Nm) (f : Int) (es : List Ev) : tlC n f es = rowT n (sentN es) (cameN es) (cnt es) f (lastA es) (doneA es) := rfl
theorem exec_nmne {ρ : Operand → Value} {o : Oper} {x y : Operand} {t : TypeId} (ho : o.op = .binOp .neq 39 x y t) {p q : Nm} (hx : ρ x = nmV p) (hy : ρ y = nmV q) {b : Bool} (hb : decide (p = q) = b) (w : World) :
    (execOp ρ o).run Try.prog w = .ok (.value (.bool (!b))) w := by
  subst hb
  unfold execOp
  simp only [ho, hx, hy]
  have h : decide (p = q) = (decide (p.node = q.node) && (decide (p.service = q.service) && (decide (p.time = q.time) && decide (p.seq = q.seq)))) := by
    rw [Bool.eq_iff_iff]; simp [Nm.ext_iff]
  rw [h]
  by_cases h1 : p.node = q.node <;> by_cases h2 : p.service = q.service <;> by_cases h3 : p.time = q.time <;> by_cases h4 : p.seq = q.seq <;> simp [go_sem, h1, h2, h3, h4]
theorem wpList_nmne {ops : Array Oper} {rest : List Oper} {o : Oper} {a : Act} {w : World} {Q : Exit → Act → World → Prop} (hw : Region.wanted o (yielded ops a.tmps) = true) (x y : Operand) (t : TypeId)
    (ho : o.op = .binOp .neq 39 x y t) (p q : Nm) (hx : a.eval x = nmV p) (hy : a.eval y = nmV q) {b : Bool} (hb : decide (p = q) = b)
    (h : wpList Try.prog ops Q rest (a.put o.dst (.bool (!b))) w) : wpList Try.prog ops Q (o :: rest) a w :=
  wpList_valG hw (exec_nmne ho hx hy hb w) h
theorem evsOf_take {x : Nm} {l : List Ev} {i : Nat} (hi : i < l.length) : evsOf x (l.take (i + 1)) = evsOf x (l.take i) ++ if l[i].name = x then [l[i]] else [] := by
  rw [List.take_succ_eq_append_getElem hi, evsOf_snoc]
/-- What Of answers. -/
def ofC (x : Nm) (l : List Ev) : List Value := if evsOf x l = [] then zeroTale else tlOf l x
def ofE (x : Nm) (l : List Ev) : Int := if evsOf x l = [] then 5 else 0
/-- What Of's round has at hand: the tale lies in its block, the event in block eb. -/
structure OfI (w wx : World) (x : Nm) (e : Ev) (eb : Nat) (row : List Value) : Prop where
  nm : RowAt wx w.heap.size (nmC x).toArray 39
  res : RowAt wx (w.heap.size + 1) zeroTale.toArray 51
  row : RowAt wx (w.heap.size + 1 + 1) row.toArray 51
  ev : RowAt wx eb (evA e) 48
  below : Below w.heap.size w wx
  apart : w.heap.size + 1 + 1 < eb
theorem OfI.up {w wx wy : World} {x : Nm} {e : Ev} {eb : Nat} {row : List Value} (h : OfI w wx x e eb row) (hb : Below wx.heap.size wx wy) : OfI w wy x e eb row :=
  ⟨h.nm.below hb, h.res.below hb, h.row.below hb, h.ev.below hb, below_up h.below hb, h.apart⟩
theorem OfI.set {w wx : World} {x : Nm} {e : Ev} {eb : Nat} {row : List Value} (h : OfI w wx x e eb row) (i : Nat) (v : Value) {row' : List Value} (hr : row.set i v = row') : OfI w (wx.setCell ⟨w.heap.size + 1 + 1, i, none⟩ v) x e eb row' := by
  have ha := h.apart
  refine ⟨h.nm.other (by show ¬ _ = _; simp; omega) v, h.res.other (by show ¬ _ = _; simp) v, ?_, h.ev.other (by show ¬ _ = _; simp; omega) v, h.below.setCell (p := ⟨w.heap.size + 1 + 1, i, none⟩) (by show w.heap.size ≤ w.heap.size + 1 + 1; omega) v, ha⟩
  have := h.row.set i v
  rwa [List.setIfInBounds_toArray, hr] at this
set_option maxHeartbeats 16000000 in
set_option maxRecDepth 100000 in
theorem rOf_c (x : Nm) (l : List Ev) (v : Value) (n : Nat) (w : World) (hv : Sl w 16 v n (l.flatMap evC)) (hn : n ≤ 4096) :
    Calls Try.prog 14 #[nmV x, v] w (Ret (.tuple #[.agg (ofC x l).toArray, .int .i64 (ofE x l)]) w) := by
  have HL := Lib.hid (Sl.recs (cells := evC) (sz := 16) (fun _ => rfl) (by decide) hv)
  obtain ⟨a, c, rfl⟩ := hv.len
  have HV := Lib.hid hv
  clear hv
  have hB2 := (below_alloc w (.cells (nmC x).toArray 39)).alloc (by simp) (.cells zeroTale.toArray 51)
  have N2 := (RowAt.new w (nmC x).toArray 39).alloc (.cells zeroTale.toArray 51)
  have Z2 := RowAt.new (w.alloc (.cells (nmC x).toArray 39)) zeroTale.toArray 51
  rw [show (w.alloc (.cells (nmC x).toArray 39)).heap.size = w.heap.size + 1 by simp] at Z2
  have T0 : tlC x 0 [] = rowT x 0 0 (fun _ => 0) 0 0 4611686018427387903 := rfl
  have hnd : decide ((4096 : Int) < (n : Int)) = false := by simp; omega
  go_enter Try.func14, Try.ntmps14
  go_wp2_with (refine wpList_load_mid rfl 39 (.tmp 2) rfl w.heap.size 0 rfl (nmC x) _ N2.range Try.underlying39 rfl (by kernel_rfl) ?_)
  have hB3 := hB2.alloc (by simp; omega) (.cells (rowT x 0 0 (fun _ => 0) 0 0 4611686018427387903).toArray 51)
  have N3 := N2.alloc (.cells (rowT x 0 0 (fun _ => 0) 0 0 4611686018427387903).toArray 51)
  have Z3 := Z2.alloc (.cells (rowT x 0 0 (fun _ => 0) 0 0 4611686018427387903).toArray 51)
  have T3 := RowAt.new ((w.alloc (.cells (nmC x).toArray 39)).alloc (.cells zeroTale.toArray 51)) (rowT x 0 0 (fun _ => 0) 0 0 4611686018427387903).toArray 51
  rw [show ((w.alloc (.cells (nmC x).toArray 39)).alloc (.cells zeroTale.toArray 51)).heap.size = w.heap.size + 1 + 1 by simp] at T3
  obtain ⟨W0, hW0⟩ : ∃ W0, (((w.alloc (.cells (nmC x).toArray 39)).alloc (.cells zeroTale.toArray 51)).alloc (.cells (rowT x 0 0 (fun _ => 0) 0 0 4611686018427387903).toArray 51)) = W0 := ⟨_, rfl⟩
  rw [hW0] at hB3 N3 Z3 T3
  change Code.wp _ _ _ _ (((w.alloc (.cells (nmC x).toArray 39)).alloc (.cells zeroTale.toArray 51)).alloc (.cells (rowT x 0 0 (fun _ => 0) 0 0 4611686018427387903).toArray 51))
  rw [hW0]
  clear hW0 hB2 N2 Z2 T0
  go_loopw [7, 8] (fun vf vi wr => ∃ (i : Nat) (fb : Bool), i ≤ n ∧ vi = .int .i64 i ∧ vf = .bool fb ∧ RowKit.Hid (fb = !decide (evsOf x (l.take i) = [])) ∧ RowAt wr w.heap.size (nmC x).toArray 39 ∧ RowAt wr (w.heap.size + 1) zeroTale.toArray 51 ∧
    RowAt wr (w.heap.size + 1 + 1) (tlC x (firstA (evsOf x (l.take i))) (evsOf x (l.take i))).toArray 51 ∧ Below w.heap.size w wr) (fun _ vi _ => n - (intOf vi).toNat)
  case atStart => exact ⟨0, false, Nat.zero_le _, rfl, rfl, Lib.hid rfl, N3, Z3, T3, hB3⟩
  case round =>
    clear hB3 N3 Z3 T3
    obtain ⟨i, fb, hi, rfl, rfl, HF, N1, Z1, R1, hB⟩ := hrel
    have hTl := R1.lt
    by_cases hlt : i < n
    · have hil : i < l.length := by rw [HL.out]; exact hlt
      obtain ⟨b, off, rfl, hr⟩ := (HV.out.up hB).rec_at (cells := evC) (sz := 16) (fun _ => rfl) hlt hil
      have hin : (i : Int) < (n : Int) := by omega
      have HX := Lib.hid (evsOf_take (x := x) hil)
      have hes := evsOf_len x (l.take i)
      rw [List.length_take, Nat.min_eq_left (by omega)] at hes
      generalize l[i] = e at *
      generalize evsOf x (l.take i) = es at *
      have E1 := RowAt.new wr (evA e) 48
      have N2 := N1.alloc (.cells (evA e) 48)
      have Z2 := Z1.alloc (.cells (evA e) 48)
      have R2 := R1.alloc (.cells (evA e) 48)
      have hB2 := hB.alloc hB.size (.cells (evA e) 48)
      have hBs := hB.size
      have hsz1 : (wr.alloc (.cells (evA e) 48)).heap.size = wr.heap.size + 1 := by simp
      by_cases hnm : e.name = x
      · subst hnm
        rw [if_pos rfl] at HX
        have I0 : OfI w (wr.alloc (.cells (evA e) 48)) e.name e wr.heap.size (tlC e.name (firstA es) es) := ⟨N2, Z2, R2, E1, hB2, hTl⟩
        rw [tlC_row] at I0
        have hq4 : sentN es ≤ es.length := List.countP_le_length
        have hq5 : cameN es ≤ es.length := List.countP_le_length
        obtain ⟨f', hf'⟩ : ∃ f', firstA (es ++ [e]) = f' := ⟨_, rfl⟩
        have e1 := E1.cell (i := 1) (v := .int .u64 e.at_) rfl
        have r13 := I0.row.cell (i := 13) (v := .int .u64 (firstA es)) rfl
        have z13 := I0.row.fz 13
        have hFB := Lib.hid HF.out
        clear hB2 Z2 R2 N1 Z1 R1
        go_upto_if 32 with (first
          | (refine wpList_load_mid rfl 48 (.tmp 25) rfl b (off + i * 16) rfl (evC e) _ hr Try.underlying48 rfl (by kernel_rfl) ?_)
          | (refine wpList_load_mid rfl 39 (.tmp 27) rfl wr.heap.size 5 rfl (nmC e.name) _ (rangeAt_sub E1.range 5 5 rfl (evC_name e)) Try.underlying39 rfl (by kernel_rfl) ?_)
          | (refine wpList_load_mid rfl 39 (.tmp 2) rfl w.heap.size 0 rfl (nmC e.name) _ N2.range Try.underlying39 rfl (by kernel_rfl) ?_)
          | (refine wpList_nmne rfl (.tmp 28) (.tmp 29) _ rfl e.name e.name rfl rfl (decide_eq_true rfl) ?_))
        obtain ⟨W1, hW1⟩ : ∃ W1, wr.alloc (.cells (evA e) 48) = W1 := ⟨_, rfl⟩
        change Code.wp _ _ _ _ (wr.alloc (.cells (evA e) 48))
        rw [hW1] at I0 e1 r13 z13 hsz1 ⊢
        have I0' := Lib.hid I0
        clear hW1 I0 N2 E1
        go_cut [] (fun wx => OfI w wx e.name e wr.heap.size (rowT e.name (sentN es) (cameN es) (cnt es) f' (lastA es) (doneA es)) ∧ wr.heap.size < wx.heap.size)
        case first =>
          cases fb with
          | false =>
            have h0 : es = [] := by have := hFB.out; simpa using this
            have hfe : f' = e.at_ := by rw [← hf', h0]; rfl
            have HFE := Lib.hid hfe
            clear hfe h0 hf'
            go_wp2
            go_meet
            case rel => exact ⟨by rw [HFE.out]; exact I0'.out.set 13 (.int .u64 e.at_) (row' := rowT e.name (sentN es) (cameN es) (cnt es) e.at_ (lastA es) (doneA es)) rfl, by simp [hsz1]⟩
          | true =>
            have h0 : es ≠ [] := by have := hFB.out; simpa using this
            have hfe : firstA es = f' := by rw [← hf', firstA_app h0]
            have HFE := Lib.hid hfe
            clear hfe h0 hf'
            go_wp2
            go_meet
            case rel => exact ⟨by rw [← HFE.out]; exact I0'.out, by omega⟩
        case rest =>
          obtain ⟨I1, hlt1⟩ := hcut
          clear I0' e1 r13 z13 hsz1
          have hE1 := I1.ev
          have d1 := hE1.cell (i := 1) (v := .int .u64 e.at_) rfl
          have r14 := I1.row.cell (i := 14) (v := .int .u64 (lastA es)) rfl
          have z14 := I1.row.fz 14
          have I2 := I1.set 14 (.int .u64 e.at_) (row' := rowT e.name (sentN es) (cameN es) (cnt es) f' e.at_ (doneA es)) rfl
          have hE2 := I2.ev
          have hsz2 : (wc.setCell ⟨w.heap.size + 1 + 1, 14, none⟩ (.int .u64 e.at_)).heap.size = wc.heap.size := by simp
          have hsy := fun w1 => saysR_c e w1
          obtain ⟨sb, hsb⟩ : ∃ sb, saysB e = sb := ⟨_, rfl⟩
          rw [hsb] at hsy
          have HSY := Lib.hid hsy
          have HSB := Lib.hid hsb
          have HI2 := Lib.hid I2
          have HFF := Lib.hid hf'
          clear hsy hsb hf' I1 I2 hE1
          go_upto_if 40 with (first
            | (refine wpList_load_mid rfl 48 (.tmp 9) rfl wr.heap.size 0 rfl (evC e) _ hE2.range Try.underlying48 rfl (by kernel_rfl) ?_)
            | (go_at_call 23; go_loud (refine (HSY.out _).mono ?_; rintro en w3 ⟨rfl, hb3⟩; have I3 := HI2.out.up hb3; have hlt3 : wr.heap.size < w3.heap.size := (by have := hb3.size; rw [hsz2] at this; omega))))
          have r4 := I3.row.cell (i := 4) (v := .int .i64 (sentN es)) rfl
          have z4 := I3.row.fz 4
          have HI3 := Lib.hid I3
          clear I3 hE2 d1 r14 z14 HI2 hb3
          go_cut [] (fun wx => OfI w wx e.name e wr.heap.size (rowT e.name (sentN (es ++ [e])) (cameN es) (cnt es) f' e.at_ (doneA es)) ∧ wr.heap.size < wx.heap.size)
          case first =>
            cases sb with
            | false =>
              go_wp2
              go_meet
              case rel => exact ⟨by rw [sentN_snoc, HSB.out]; exact HI3.out, hlt3⟩
            | true =>
              go_wp2
              go_meet
              case rel => exact ⟨by rw [sentN_snoc, HSB.out]; exact HI3.out.set 4 _ rfl, by simpa using hlt3⟩
          case rest =>
            obtain ⟨I4, hlt4⟩ := hcut
            clear HI3 r4 z4
            have hq4' : sentN (es ++ [e]) ≤ es.length + 1 := by have h1 := List.countP_le_length (p := saysB) (l := es ++ [e]); simpa [sentN] using h1
            have d0 := I4.ev.cell (i := 0) (v := .int .i64 e.kind) rfl
            have r5 := I4.row.cell (i := 5) (v := .int .i64 (cameN es)) rfl
            have z5 := I4.row.fz 5
            have HI4 := Lib.hid I4
            clear I4
            go_upto_if 47 with fail
            go_cut [] (fun wx => OfI w wx e.name e wr.heap.size (rowT e.name (sentN (es ++ [e])) (cameN (es ++ [e])) (cnt es) f' e.at_ (doneA es)) ∧ wr.heap.size < wx.heap.size)
            case first =>
              by_cases hk : e.kind = 11
              · have hkb : (e.kind == 11) = true := by simp [hk]
                have HK := Lib.hid hk
                clear hk
                go_wp2
                go_meet
                case rel => exact ⟨by rw [cameN_snoc, if_pos HK.out]; exact HI4.out.set 5 _ rfl, by simpa using hlt4⟩
              · have hkb : (e.kind == 11) = false := by simp [hk]
                have HK := Lib.hid hk
                clear hk
                go_wp2
                go_meet
                case rel => exact ⟨by rw [cameN_snoc, if_neg HK.out]; exact HI4.out, hlt4⟩
            case rest =>
              obtain ⟨I5, hlt5⟩ := hcut
              clear HI4 r5 z5 d0
              have d9 := I5.ev.cell (i := 9) (v := .int .i64 e.got) rfl
              have d1 := I5.ev.cell (i := 1) (v := .int .u64 e.at_) rfl
              have hcl := fun k => cnt_le es k
              have HI5 := Lib.hid I5
              have hB5 := I5.below
              have HFIN := Lib.hid (fun (W' : World) (h : OfI w W' e.name e wr.heap.size (rowT e.name (sentN (es ++ [e])) (cameN (es ++ [e])) (cnt (es ++ [e])) f' e.at_ (doneA (es ++ [e])))) => show RowAt W' w.heap.size (nmC e.name).toArray 39 ∧ RowAt W' (w.heap.size + 1) zeroTale.toArray 51 ∧ RowAt W' (w.heap.size + 1 + 1) (tlC e.name (firstA (evsOf e.name (l.take (i + 1)))) (evsOf e.name (l.take (i + 1)))).toArray 51 ∧ Below w.heap.size w W' from ⟨h.nm, h.res, by rw [HX.out, tlC_row, HFF.out, lastA_snoc]; exact h.row, h.below⟩)
              have HTR := Lib.hid (show true = !decide (evsOf e.name (l.take (i + 1)) = []) by rw [HX.out]; simp)
              clear I5
              cases hg : gotB e.got with
              | false =>
                have hn : ∀ i : Int, 0 ≤ i → i ≤ 6 → ¬ e.got = i := fun i h1 h2 he => by simp [gotB] at hg; omega
                have HC := Lib.hid (show cnt (es ++ [e]) = cnt es ∨ True from .inr trivial)
                have HROW := Lib.hid (show rowT e.name (sentN (es ++ [e])) (cameN (es ++ [e])) (cnt (es ++ [e])) f' e.at_ (doneA (es ++ [e])) = rowT e.name (sentN (es ++ [e])) (cameN (es ++ [e])) (cnt es) f' e.at_ (doneA es) by
                  simp only [rowT, cnt_snoc, doneA_snoc]
                  simp [hn 0 (by decide) (by decide), hn 1 (by decide) (by decide), hn 2 (by decide) (by decide), hn 3 (by decide) (by decide), hn 4 (by decide) (by decide), hn 5 (by decide) (by decide), hn 6 (by decide) (by decide)])
                have h3 : (e.got == 3) = false := by rw [beq_eq_false_iff_ne]; exact hn 3 (by decide) (by decide)
                have hlo : e.got < 0 ∨ 6 < e.got := by simp [gotB] at hg; omega
                clear hn hg hcl HC
                rcases hlo with h | h
                · have g1 : decide (0 ≤ e.got) = false := by simp; omega
                  clear h
                  go_wp2
                  obtain ⟨k1, k2, k3, k4⟩ := HFIN.out _ (by rw [HROW.out]; exact HI5.out)
                  go_roundw
                  case rel => exact ⟨i + 1, true, by omega, by go_num, rfl, HTR, k1, k2, k3, k4⟩
                  case measure => simp [intOf]; omega
                · have g1 : decide (0 ≤ e.got) = true := by simp; omega
                  have g2 : decide (e.got ≤ 6) = false := by simp; omega
                  clear h
                  go_wp2
                  obtain ⟨k1, k2, k3, k4⟩ := HFIN.out _ (by rw [HROW.out]; exact HI5.out)
                  go_roundw
                  case rel => exact ⟨i + 1, true, by omega, by go_num, rfl, HTR, k1, k2, k3, k4⟩
                  case measure => simp [intOf]; omega
              | true =>
                rcases got7 hg with hgt | hgt | hgt | hgt | hgt | hgt | hgt
                · have hq := hcl 0
                  have HROW := Lib.hid (show rowT e.name (sentN (es ++ [e])) (cameN (es ++ [e])) (cnt (es ++ [e])) f' e.at_ (doneA (es ++ [e])) = (rowT e.name (sentN (es ++ [e])) (cameN (es ++ [e])) (cnt es) f' e.at_ (doneA es)).set 6 (.int .i64 ((cnt es 0 : Int) + 1)) by
                    simp only [rowT, cnt_snoc, doneA_snoc]
                    simp [hgt])
                  rw [hgt] at d9
                  have rk := HI5.out.row.cell (i := 6) (v := .int .i64 (cnt es 0)) rfl
                  have zk := HI5.out.row.fz 6
                  clear hgt hg hcl
                  go_wp2
                  obtain ⟨k1, k2, k3, k4⟩ := HFIN.out _ (by rw [HROW.out]; exact HI5.out.set 6 _ rfl)
                  go_roundw
                  case rel => exact ⟨i + 1, true, by omega, by go_num, rfl, HTR, k1, k2, k3, k4⟩
                  case measure => simp [intOf]; omega
                · have hq := hcl 1
                  have HROW := Lib.hid (show rowT e.name (sentN (es ++ [e])) (cameN (es ++ [e])) (cnt (es ++ [e])) f' e.at_ (doneA (es ++ [e])) = (rowT e.name (sentN (es ++ [e])) (cameN (es ++ [e])) (cnt es) f' e.at_ (doneA es)).set 7 (.int .i64 ((cnt es 1 : Int) + 1)) by
                    simp only [rowT, cnt_snoc, doneA_snoc]
                    simp [hgt])
                  rw [hgt] at d9
                  have rk := HI5.out.row.cell (i := 7) (v := .int .i64 (cnt es 1)) rfl
                  have zk := HI5.out.row.fz 7
                  clear hgt hg hcl
                  go_wp2
                  obtain ⟨k1, k2, k3, k4⟩ := HFIN.out _ (by rw [HROW.out]; exact HI5.out.set 7 _ rfl)
                  go_roundw
                  case rel => exact ⟨i + 1, true, by omega, by go_num, rfl, HTR, k1, k2, k3, k4⟩
                  case measure => simp [intOf]; omega
                · have hq := hcl 2
                  have HROW := Lib.hid (show rowT e.name (sentN (es ++ [e])) (cameN (es ++ [e])) (cnt (es ++ [e])) f' e.at_ (doneA (es ++ [e])) = (rowT e.name (sentN (es ++ [e])) (cameN (es ++ [e])) (cnt es) f' e.at_ (doneA es)).set 8 (.int .i64 ((cnt es 2 : Int) + 1)) by
                    simp only [rowT, cnt_snoc, doneA_snoc]
                    simp [hgt])
                  rw [hgt] at d9
                  have rk := HI5.out.row.cell (i := 8) (v := .int .i64 (cnt es 2)) rfl
                  have zk := HI5.out.row.fz 8
                  clear hgt hg hcl
                  go_wp2
                  obtain ⟨k1, k2, k3, k4⟩ := HFIN.out _ (by rw [HROW.out]; exact HI5.out.set 8 _ rfl)
                  go_roundw
                  case rel => exact ⟨i + 1, true, by omega, by go_num, rfl, HTR, k1, k2, k3, k4⟩
                  case measure => simp [intOf]; omega
                · have hq := hcl 3
                  by_cases h0 : cnt es 3 = 0
                  · have HROW := Lib.hid (show rowT e.name (sentN (es ++ [e])) (cameN (es ++ [e])) (cnt (es ++ [e])) f' e.at_ (doneA (es ++ [e])) = ((rowT e.name (sentN (es ++ [e])) (cameN (es ++ [e])) (cnt es) f' e.at_ (doneA es)).set 9 (.int .i64 1)).set 15 (.int .u64 e.at_) by
                      simp only [rowT, cnt_snoc, doneA_snoc]
                      simp [hgt, h0])
                    rw [hgt] at d9
                    have rk := HI5.out.row.cell (i := 9) (v := .int .i64 0) (by show some (Value.int .i64 (cnt es 3 : Int)) = _; rw [h0]; rfl)
                    have zk := HI5.out.row.fz 9
                    have r15 := HI5.out.row.cell (i := 15) (v := .int .u64 (doneA es)) rfl
                    have z15 := HI5.out.row.fz 15
                    clear hgt hg hcl h0 hq
                    go_wp2
                    obtain ⟨k1, k2, k3, k4⟩ := HFIN.out _ (by rw [HROW.out]; exact (HI5.out.set 9 _ rfl).set 15 _ rfl)
                    go_roundw
                    case rel => exact ⟨i + 1, true, by omega, by go_num, rfl, HTR, k1, k2, k3, k4⟩
                    case measure => simp [intOf]; omega
                  · have HROW := Lib.hid (show rowT e.name (sentN (es ++ [e])) (cameN (es ++ [e])) (cnt (es ++ [e])) f' e.at_ (doneA (es ++ [e])) = (rowT e.name (sentN (es ++ [e])) (cameN (es ++ [e])) (cnt es) f' e.at_ (doneA es)).set 9 (.int .i64 ((cnt es 3 : Int) + 1)) by
                      simp only [rowT, cnt_snoc, doneA_snoc]
                      simp [hgt, h0])
                    rw [hgt] at d9
                    have rk := HI5.out.row.cell (i := 9) (v := .int .i64 (cnt es 3)) rfl
                    have zk := HI5.out.row.fz 9
                    have hc1 : (((cnt es 3 : Int) + 1) == 1) = false := by simp; omega
                    clear hgt hg hcl h0
                    go_wp2
                    obtain ⟨k1, k2, k3, k4⟩ := HFIN.out _ (by rw [HROW.out]; exact HI5.out.set 9 _ rfl)
                    go_roundw
                    case rel => exact ⟨i + 1, true, by omega, by go_num, rfl, HTR, k1, k2, k3, k4⟩
                    case measure => simp [intOf]; omega
                · have hq := hcl 4
                  have HROW := Lib.hid (show rowT e.name (sentN (es ++ [e])) (cameN (es ++ [e])) (cnt (es ++ [e])) f' e.at_ (doneA (es ++ [e])) = (rowT e.name (sentN (es ++ [e])) (cameN (es ++ [e])) (cnt es) f' e.at_ (doneA es)).set 10 (.int .i64 ((cnt es 4 : Int) + 1)) by
                    simp only [rowT, cnt_snoc, doneA_snoc]
                    simp [hgt])
                  rw [hgt] at d9
                  have rk := HI5.out.row.cell (i := 10) (v := .int .i64 (cnt es 4)) rfl
                  have zk := HI5.out.row.fz 10
                  clear hgt hg hcl
                  go_wp2
                  obtain ⟨k1, k2, k3, k4⟩ := HFIN.out _ (by rw [HROW.out]; exact HI5.out.set 10 _ rfl)
                  go_roundw
                  case rel => exact ⟨i + 1, true, by omega, by go_num, rfl, HTR, k1, k2, k3, k4⟩
                  case measure => simp [intOf]; omega
                · have hq := hcl 5
                  have HROW := Lib.hid (show rowT e.name (sentN (es ++ [e])) (cameN (es ++ [e])) (cnt (es ++ [e])) f' e.at_ (doneA (es ++ [e])) = (rowT e.name (sentN (es ++ [e])) (cameN (es ++ [e])) (cnt es) f' e.at_ (doneA es)).set 11 (.int .i64 ((cnt es 5 : Int) + 1)) by
                    simp only [rowT, cnt_snoc, doneA_snoc]
                    simp [hgt])
                  rw [hgt] at d9
                  have rk := HI5.out.row.cell (i := 11) (v := .int .i64 (cnt es 5)) rfl
                  have zk := HI5.out.row.fz 11
                  clear hgt hg hcl
                  go_wp2
                  obtain ⟨k1, k2, k3, k4⟩ := HFIN.out _ (by rw [HROW.out]; exact HI5.out.set 11 _ rfl)
                  go_roundw
                  case rel => exact ⟨i + 1, true, by omega, by go_num, rfl, HTR, k1, k2, k3, k4⟩
                  case measure => simp [intOf]; omega
                · have hq := hcl 6
                  have HROW := Lib.hid (show rowT e.name (sentN (es ++ [e])) (cameN (es ++ [e])) (cnt (es ++ [e])) f' e.at_ (doneA (es ++ [e])) = (rowT e.name (sentN (es ++ [e])) (cameN (es ++ [e])) (cnt es) f' e.at_ (doneA es)).set 12 (.int .i64 ((cnt es 6 : Int) + 1)) by
                    simp only [rowT, cnt_snoc, doneA_snoc]
                    simp [hgt])
                  rw [hgt] at d9
                  have rk := HI5.out.row.cell (i := 12) (v := .int .i64 (cnt es 6)) rfl
                  have zk := HI5.out.row.fz 12
                  clear hgt hg hcl
                  go_wp2
                  obtain ⟨k1, k2, k3, k4⟩ := HFIN.out _ (by rw [HROW.out]; exact HI5.out.set 12 _ rfl)
                  go_roundw
                  case rel => exact ⟨i + 1, true, by omega, by go_num, rfl, HTR, k1, k2, k3, k4⟩
                  case measure => simp [intOf]; omega
      · have HN := Lib.hid hnm
        clear hnm
        go_wp2_with (first
          | (refine wpList_load_mid rfl 48 (.tmp 25) rfl b (off + i * 16) rfl (evC e) _ hr Try.underlying48 rfl (by kernel_rfl) ?_)
          | (refine wpList_load_mid rfl 39 (.tmp 27) rfl wr.heap.size 5 rfl (nmC e.name) _ (rangeAt_sub E1.range 5 5 rfl (evC_name e)) Try.underlying39 rfl (by kernel_rfl) ?_)
          | (refine wpList_load_mid rfl 39 (.tmp 2) rfl w.heap.size 0 rfl (nmC x) _ N2.range Try.underlying39 rfl (by kernel_rfl) ?_)
          | (refine wpList_nmne rfl (.tmp 28) (.tmp 29) _ rfl e.name x rfl rfl (decide_eq_false HN.out) ?_))
        go_roundw
        case rel => exact ⟨i + 1, fb, by omega, by go_num, rfl, by rw [HX.out, if_neg HN.out, List.append_nil]; exact HF, N2, Z2, by rw [HX.out, if_neg HN.out, List.append_nil]; exact R2, hB2⟩
        case measure => simp [intOf]; omega
    · obtain rfl : i = n := by omega
      have hall : l.take i = l := List.take_of_length_le (by rw [HL.out]; exact Nat.le_refl _)
      rw [hall] at HF R1
      have HF' := Lib.hid HF.out
      by_cases h0 : evsOf x l = []
      · obtain rfl : fb = false := by rw [HF'.out]; simp [h0]
        go_wp2_with (refine wpList_put_row rfl 51 (.tmp 4) (.tmp 83) rfl (w.heap.size + 1) zeroTale rfl rfl Z1 rfl (by kernel_rfl) rfl ?_; intro w4 R4 hb4)
        have c0 := R4.cell (i := 0) rfl
        have c1 := R4.cell (i := 1) rfl
        have c2 := R4.cell (i := 2) rfl
        have c3 := R4.cell (i := 3) rfl
        have c4 := R4.cell (i := 4) rfl
        have c5 := R4.cell (i := 5) rfl
        have c6 := R4.cell (i := 6) rfl
        have c7 := R4.cell (i := 7) rfl
        have c8 := R4.cell (i := 8) rfl
        have c9 := R4.cell (i := 9) rfl
        have c10 := R4.cell (i := 10) rfl
        have c11 := R4.cell (i := 11) rfl
        have c12 := R4.cell (i := 12) rfl
        have c13 := R4.cell (i := 13) rfl
        have c14 := R4.cell (i := 14) rfl
        have c15 := R4.cell (i := 15) rfl
        exact bodyPost_ret (v := .tuple #[.agg zeroTale.toArray, .int .i64 5]) (by simp [results, Try.results14, go_sem, c0, c1, c2, c3, c4, c5, c6, c7, c8, c9, c10, c11, c12, c13, c14, c15]) rfl ⟨by rw [show ofC x l = zeroTale from if_pos h0, show ofE x l = 5 from if_pos h0], hB.trans (hb4.below (fun k hk => by omega) hB.size)⟩
      · obtain rfl : fb = true := by rw [HF'.out]; simp [h0]
        have H0 := Lib.hid h0
        clear h0
        obtain ⟨cs, hcs⟩ : ∃ cs, tlC x (firstA (evsOf x l)) (evsOf x l) = cs := ⟨_, rfl⟩
        go_wp2_with (first
          | (refine wpList_load_mid rfl 51 (.tmp 6) rfl (w.heap.size + 1 + 1) 0 rfl (tlC x (firstA (evsOf x l)) (evsOf x l)) _ R1.range Try.underlying51 rfl (by kernel_rfl) ?_)
          | (refine wpList_put_row rfl 51 (.tmp 4) (.tmp 84) rfl (w.heap.size + 1) (tlC x (firstA (evsOf x l)) (evsOf x l)) rfl rfl Z1 rfl (by kernel_rfl) rfl ?_; intro w4 R4 hb4))
        have c0 := R4.cell (i := 0) rfl
        have c1 := R4.cell (i := 1) rfl
        have c2 := R4.cell (i := 2) rfl
        have c3 := R4.cell (i := 3) rfl
        have c4 := R4.cell (i := 4) rfl
        have c5 := R4.cell (i := 5) rfl
        have c6 := R4.cell (i := 6) rfl
        have c7 := R4.cell (i := 7) rfl
        have c8 := R4.cell (i := 8) rfl
        have c9 := R4.cell (i := 9) rfl
        have c10 := R4.cell (i := 10) rfl
        have c11 := R4.cell (i := 11) rfl
        have c12 := R4.cell (i := 12) rfl
        have c13 := R4.cell (i := 13) rfl
        have c14 := R4.cell (i := 14) rfl
        have c15 := R4.cell (i := 15) rfl
        exact bodyPost_ret (v := .tuple #[.agg (tlC x (firstA (evsOf x l)) (evsOf x l)).toArray, .int .i64 0]) (by simp [results, Try.results14, go_sem, c0, c1, c2, c3, c4, c5, c6, c7, c8, c9, c10, c11, c12, c13, c14, c15]) rfl ⟨by rw [show ofC x l = tlOf l x from if_neg H0.out, show ofE x l = 0 from if_neg H0.out], hB.trans (hb4.below (fun k hk => by omega) hB.size)⟩
end Go.Proofs.Ythlgoclidgfejaa

namespace Go.Proofs.Ythlgoclidgfejaa
open Go.RowKit Go.Maps Srt Trc
set_option linter.unusedSimpArgs false
set_option linter.unusedVariables false

theorem slT_tl : SlT Try.prog 56 51 16 120 := SlT.mk' Try.underlying56 (z := .agg zeroTale.toArray) (by kernel_rfl) rfl (by decide)
theorem one_nm (l : List Nm) : ∀ u ∈ l.flatMap nmC, u.oneCell' = true := fun u hu => by
  obtain ⟨x, _, hx⟩ := List.mem_flatMap.1 hu
  simp only [List.mem_cons, List.not_mem_nil, or_false] at hx
  rcases hx with rfl | rfl | rfl | rfl <;> rfl
theorem one_tl (l : List Ev) (P : List Nm) : ∀ u ∈ P.flatMap (tlOf l), u.oneCell' = true := fun u hu => by
  obtain ⟨x, _, hx⟩ := List.mem_flatMap.1 hu
  simp only [List.mem_cons, List.not_mem_nil, or_false] at hx
  rcases hx with h | h | h | h | h | h | h | h | h | h | h | h | h | h | h | h <;> (rw [h]; rfl)
theorem pos_app (A B : List Nm) : pos (A ++ B) = pos A ++ pos B := List.filter_append ..
theorem pos_snoc_new {l : List Ev} {e : Ev} (hp : 0 < e.name.node) (hn : e.name ∉ nmsOf l) : pos (nmsOf (l ++ [e])) = pos (nmsOf l) ++ [e.name] := by
  rw [nmsOf_snoc, nmsStep, if_neg hn, pos_app]; simp [pos, hp]
theorem pos_snoc_old {l : List Ev} {e : Ev} (h : 0 < e.name.node → e.name ∈ nmsOf l) : pos (nmsOf (l ++ [e])) = pos (nmsOf l) := by
  rw [nmsOf_snoc, nmsStep]
  split
  · rfl
  · rename_i hn
    have : ¬ 0 < e.name.node := fun hp => hn (h hp)
    rw [pos_app]; simp [pos, this]
theorem pos_len (l : List Ev) : (pos (nmsOf l)).length ≤ l.length := by
  refine snoc_ind (p := fun l => (pos (nmsOf l)).length ≤ l.length) (Nat.le_refl 0) (fun l x ih => ?_) l
  by_cases h : 0 < x.name.node → x.name ∈ nmsOf l
  · rw [pos_snoc_old h]; simp; omega
  · rw [pos_snoc_new (Decidable.byContradiction fun k => h fun k' => absurd k' k) (fun k => h fun _ => k)]; simp; omega
theorem pos_wf {l : List Ev} (hwf : ∀ e ∈ l, e.name.wf) : ∀ x ∈ pos (nmsOf l), x.wf := fun x hx => by
  obtain ⟨e, he, rfl⟩ := (nmsOf_mem l x).1 (List.mem_filter.1 hx).1
  exact hwf e he
/-- Is none of these of that name? -/
def freshB (x : Nm) (L : List Ev) : Bool := decide (0 < x.node) && !(L.any fun e => decide (e.name = x))
theorem freshB_succ (x : Nm) {l : List Ev} {k : Nat} (hk : k < l.length) : freshB x (l.take (k + 1)) = (freshB x (l.take k) && !decide (l[k].name = x)) := by
  unfold freshB
  rw [List.take_succ_eq_append_getElem hk, List.any_append]
  simp [Bool.and_assoc]
theorem freshB_no {x : Nm} {L : List Ev} (h : freshB x L = false) : 0 < x.node → x ∈ nmsOf L := fun hp => by
  simp only [freshB, hp, decide_true, Bool.true_and, Bool.not_eq_false', List.any_eq_true, decide_eq_true_eq] at h
  exact (nmsOf_mem L x).2 h
theorem freshB_yes {x : Nm} {L : List Ev} (h : freshB x L = true) : 0 < x.node ∧ x ∉ nmsOf L := by
  simp only [freshB, Bool.and_eq_true, decide_eq_true_eq, Bool.not_eq_true', List.any_eq_false] at h
  exact ⟨h.1, fun hm => by obtain ⟨e, he, hx⟩ := (nmsOf_mem L x).1 hm; exact h.2 e he hx⟩
set_option maxHeartbeats 16000000 in
set_option maxRecDepth 100000 in
theorem rTales_c (l : List Ev) (v : Value) (n : Nat) (w : World) (hv : Sl w 16 v n (l.flatMap evC)) (hn : n ≤ 4096) (hwf : ∀ e ∈ l, e.name.wf) :
    Calls Try.prog 15 #[v] w fun en w' => ∃ (v' : Value) (m : Nat) (W : List WN), en = .returned v' ∧ W.Perm (wns (pos (nmsOf l)) (pos_wf hwf)) ∧ Sorted (ltc wnCmp) W ∧ w'.ownsRow w.heap.size 51 16 v' m ((W.map (·.1)).flatMap (tlOf l)) ∧ Below w.heap.size w w' := by
  have HL := Lib.hid (Sl.recs (cells := evC) (sz := 16) (fun _ => rfl) (by decide) hv)
  obtain ⟨a, c, rfl⟩ := hv.len
  have HV := Lib.hid hv
  have HWF := Lib.hid hwf
  clear hv
  go_enter Try.func15, Try.ntmps15
  go_wp2
  go_loopg [3, 4, 5, 6] (n + 1) (fun gh va vi vf vk wr => ∃ (ao : Option Addr) (m co i : Nat), va = .slice ao m co ∧ vi = .int .i64 i ∧ i ≤ n ∧ gh = n + 1 - i ∧ m ≤ i ∧ wr.ownsRow w.heap.size 39 4 (.slice ao m co) m ((pos (nmsOf (l.take i))).flatMap nmC) ∧ Below w.heap.size w wr)
  case atStart => exact ⟨none, 0, 0, 0, rfl, rfl, Nat.zero_le _, rfl, Nat.le_refl _, World.ownsRow_nil _ _ _ _, Below.refl _ _⟩
  case round =>
    obtain ⟨ao, m, co, i, rfl, rfl, hi, rfl, hmi, ho, hB⟩ := hrel
    have hs' := HV.out.up hB
    by_cases hlt : i < n
    · have hil : i < l.length := by rw [HL.out]; exact hlt
      obtain ⟨b, off, rfl, hr⟩ := hs'.rec_at (cells := evC) (sz := 16) (fun _ => rfl) hlt hil
      have hiI : (i : Int) < (n : Int) := by omega
      have HX := Lib.hid (List.take_succ_eq_append_getElem hil)
      have hwx := HWF.out _ (List.getElem_mem hil)
      have HR0 := Lib.hid hr
      have hnode : wr.cell? ⟨b, off + i * 16 + 5, none⟩ = some (.int .u32 l[i].name.node) := hr 5 _ rfl
      generalize l[i] = e at *
      obtain ⟨wo, hwo⟩ : ∃ wo : World, wo = wr := ⟨_, rfl⟩
      rw [← hwo] at ho hB hs' HR0 hr hnode ⊢
      clear hwo
      have HO := Lib.hid ho
      clear ho
      go_wp2
      go_loopg [5, 6] i (fun gh vf vk wj => ∃ (k : Nat), k ≤ i ∧ gh = i - k ∧ vk = .int .i64 k ∧ vf = .bool (freshB e.name (l.take k)) ∧ Below wo.heap.size wo wj)
      case atStart => exact ⟨0, Nat.zero_le _, rfl, rfl, by simp [freshB], Below.refl _ _⟩
      case round =>
        obtain ⟨k, hk, rfl, rfl, rfl, hBj⟩ := hrel
        have hBw := below_up hB hBj
        by_cases hki : k < i
        · have hkl : k < l.length := by omega
          obtain ⟨b2, off2, he2, hrk⟩ := (HV.out.up hBw).rec_at (cells := evC) (sz := 16) (fun _ => rfl) (show k < n by omega) hkl
          obtain ⟨rfl, rfl⟩ : b = b2 ∧ off = off2 := by simpa using he2
          have hkI : (k : Int) < (i : Int) := by omega
          have hkn : (k : Int) < (n : Int) := by omega
          have HY := Lib.hid (freshB_succ e.name hkl)
          have hrn := rangeAt_sub hrk 5 (off + k * 16 + 5) rfl (evC_name l[k])
          have hri := rangeAt_sub (rangeAt_up hBj HR0.out) 5 (off + i * 16 + 5) rfl (evC_name e)
          generalize l[k] = y at *
          obtain ⟨bb, hbb⟩ : ∃ bb, decide (y.name = e.name) = bb := ⟨_, rfl⟩
          rw [hbb] at HY
          have HBB := Lib.hid hbb
          have HBJ := Lib.hid hBj
          clear hbb he2 hrk hBj hBw
          cases hfb : freshB e.name (l.take k) with
          | true =>
            have HFB := Lib.hid hfb
            clear hfb
            go_wp2
            refine wp_region_pt (fun _ => False) (.q 0 (.q 1 (.q 2 (.q 3 (.q 4 (.q 5 (.q 6 (.q 7 (.q 8 (.q 9 (.q 10 (.q 11 (.q 12 (.q 13 (.q 14 .done))))))))))))))) (by kernel_rfl) (by kernel_rfl) (by kernel_rfl) (by decide) (fun _ _ d _ _ h => by cases d <;> exact h) (fun Wd hBd => ?_)
            try simp only [Act.put, List.getElem_toArray, List.getElem_cons_zero, List.getElem_cons_succ, List.setIfInBounds_toArray, List.set_cons_zero, List.set_cons_succ]
            have hrn2 := rangeAt_up hBd hrn
            have hri2 := rangeAt_up hBd hri
            refine pt_q (v := ?_) rfl (by rfl) ?_ ?_
            rotate_left
            · intro w' hBw'
              first | (go_simp; done) | (go_simp; with_reducible rfl)
            try simp only [Act.put, List.getElem_toArray, List.getElem_cons_zero, List.getElem_cons_succ, List.setIfInBounds_toArray, List.set_cons_zero, List.set_cons_succ]
            refine pt_q (v := ?_) rfl (by rfl) ?_ ?_
            rotate_left
            · intro w' hBw'
              first | (go_simp; done) | (go_simp; with_reducible rfl)
            try simp only [Act.put, List.getElem_toArray, List.getElem_cons_zero, List.getElem_cons_succ, List.setIfInBounds_toArray, List.set_cons_zero, List.set_cons_succ]
            refine pt_q (v := ?_) rfl (by rfl) ?_ ?_
            rotate_left
            · intro w' hBw'
              first | (go_simp; done) | (go_simp; with_reducible rfl)
            try simp only [Act.put, List.getElem_toArray, List.getElem_cons_zero, List.getElem_cons_succ, List.setIfInBounds_toArray, List.set_cons_zero, List.set_cons_succ]
            refine pt_q (v := ?_) rfl (by rfl) ?_ ?_
            rotate_left
            · intro w' hBw'
              first | (go_simp; done) | (go_simp; with_reducible rfl)
            try simp only [Act.put, List.getElem_toArray, List.getElem_cons_zero, List.getElem_cons_succ, List.setIfInBounds_toArray, List.set_cons_zero, List.set_cons_succ]
            refine pt_q (v := ?_) rfl (by rfl) ?_ ?_
            rotate_left
            · intro w' hBw'
              first | (go_simp; done) | (go_simp; with_reducible rfl)
            try simp only [Act.put, List.getElem_toArray, List.getElem_cons_zero, List.getElem_cons_succ, List.setIfInBounds_toArray, List.set_cons_zero, List.set_cons_succ]
            refine pt_q (v := ?_) rfl (by rfl) ?_ ?_
            rotate_left
            · intro w' hBw'
              first | (go_simp; done) | (go_simp; with_reducible rfl)
            try simp only [Act.put, List.getElem_toArray, List.getElem_cons_zero, List.getElem_cons_succ, List.setIfInBounds_toArray, List.set_cons_zero, List.set_cons_succ]
            refine pt_load rfl (by rfl) 39 (.tmp 35) rfl b (off + k * 16 + 5) rfl (nmC y.name) _ hrn2 (fun h => h) Try.underlying39 rfl (by kernel_rfl) ?_
            try simp only [Act.put, List.getElem_toArray, List.getElem_cons_zero, List.getElem_cons_succ, List.setIfInBounds_toArray, List.set_cons_zero, List.set_cons_succ]
            refine pt_q (v := ?_) rfl (by rfl) ?_ ?_
            rotate_left
            · intro w' hBw'
              first | (go_simp; done) | (go_simp; with_reducible rfl)
            try simp only [Act.put, List.getElem_toArray, List.getElem_cons_zero, List.getElem_cons_succ, List.setIfInBounds_toArray, List.set_cons_zero, List.set_cons_succ]
            refine pt_q (v := ?_) rfl (by rfl) ?_ ?_
            rotate_left
            · intro w' hBw'
              first | (go_simp; done) | (go_simp; with_reducible rfl)
            try simp only [Act.put, List.getElem_toArray, List.getElem_cons_zero, List.getElem_cons_succ, List.setIfInBounds_toArray, List.set_cons_zero, List.set_cons_succ]
            refine pt_q (v := ?_) rfl (by rfl) ?_ ?_
            rotate_left
            · intro w' hBw'
              first | (go_simp; done) | (go_simp; with_reducible rfl)
            try simp only [Act.put, List.getElem_toArray, List.getElem_cons_zero, List.getElem_cons_succ, List.setIfInBounds_toArray, List.set_cons_zero, List.set_cons_succ]
            refine pt_q (v := ?_) rfl (by rfl) ?_ ?_
            rotate_left
            · intro w' hBw'
              first | (go_simp; done) | (go_simp; with_reducible rfl)
            try simp only [Act.put, List.getElem_toArray, List.getElem_cons_zero, List.getElem_cons_succ, List.setIfInBounds_toArray, List.set_cons_zero, List.set_cons_succ]
            refine pt_load rfl (by rfl) 39 (.tmp 40) rfl b (off + i * 16 + 5) rfl (nmC e.name) _ hri2 (fun h => h) Try.underlying39 rfl (by kernel_rfl) ?_
            try simp only [Act.put, List.getElem_toArray, List.getElem_cons_zero, List.getElem_cons_succ, List.setIfInBounds_toArray, List.set_cons_zero, List.set_cons_succ]
            refine pt_q rfl (by rfl) (fun w2 _ => exec_nmne (p := y.name) (q := e.name) rfl rfl rfl HBB.out w2) ?_
            try simp only [Act.put, List.getElem_toArray, List.getElem_cons_zero, List.getElem_cons_succ, List.setIfInBounds_toArray, List.set_cons_zero, List.set_cons_succ]
            refine pt_q (v := ?_) rfl (by rfl) ?_ ?_
            rotate_left
            · intro w' hBw'
              first | (go_simp; done) | (go_simp; with_reducible rfl)
            try simp only [Act.put, List.getElem_toArray, List.getElem_cons_zero, List.getElem_cons_succ, List.setIfInBounds_toArray, List.set_cons_zero, List.set_cons_succ]
            refine pt_q (v := ?_) rfl (by rfl) ?_ ?_
            rotate_left
            · intro w' hBw'
              first | (go_simp; done) | (go_simp; with_reducible rfl)
            try simp only [Act.put, List.getElem_toArray, List.getElem_cons_zero, List.getElem_cons_succ, List.setIfInBounds_toArray, List.set_cons_zero, List.set_cons_succ]
            refine pt_done ?_
            go_wp2
            go_roundg (i - (k + 1))
            case rel => exact ⟨k + 1, by omega, rfl, by go_num, by rw [HY.out, HFB.out]; rfl, below_up HBJ.out hBd⟩
            case measure => omega
          | false =>
            have HFB := Lib.hid hfb
            clear hfb
            go_wp2
            refine wp_region_pt (fun _ => False) (.q 0 (.q 1 (.q 2 (.q 3 (.q 4 (.q 5 (.q 6 (.q 7 (.q 8 (.q 9 (.q 10 (.q 11 (.q 12 (.q 13 (.q 14 .done))))))))))))))) (by kernel_rfl) (by kernel_rfl) (by kernel_rfl) (by decide) (fun _ _ d _ _ h => by cases d <;> exact h) (fun Wd hBd => ?_)
            try simp only [Act.put, List.getElem_toArray, List.getElem_cons_zero, List.getElem_cons_succ, List.setIfInBounds_toArray, List.set_cons_zero, List.set_cons_succ]
            refine pt_q (v := ?_) rfl (by rfl) ?_ ?_
            rotate_left
            · intro w' hBw'
              first | (go_simp; done) | (go_simp; with_reducible rfl)
            try simp only [Act.put, List.getElem_toArray, List.getElem_cons_zero, List.getElem_cons_succ, List.setIfInBounds_toArray, List.set_cons_zero, List.set_cons_succ]
            refine pt_q (v := ?_) rfl (by rfl) ?_ ?_
            rotate_left
            · intro w' hBw'
              first | (go_simp; done) | (go_simp; with_reducible rfl)
            try simp only [Act.put, List.getElem_toArray, List.getElem_cons_zero, List.getElem_cons_succ, List.setIfInBounds_toArray, List.set_cons_zero, List.set_cons_succ]
            refine pt_no rfl (by rfl) ?_
            try simp only [Act.put, List.getElem_toArray, List.getElem_cons_zero, List.getElem_cons_succ, List.setIfInBounds_toArray, List.set_cons_zero, List.set_cons_succ]
            refine pt_no rfl (by rfl) ?_
            try simp only [Act.put, List.getElem_toArray, List.getElem_cons_zero, List.getElem_cons_succ, List.setIfInBounds_toArray, List.set_cons_zero, List.set_cons_succ]
            refine pt_no rfl (by rfl) ?_
            try simp only [Act.put, List.getElem_toArray, List.getElem_cons_zero, List.getElem_cons_succ, List.setIfInBounds_toArray, List.set_cons_zero, List.set_cons_succ]
            refine pt_no rfl (by rfl) ?_
            try simp only [Act.put, List.getElem_toArray, List.getElem_cons_zero, List.getElem_cons_succ, List.setIfInBounds_toArray, List.set_cons_zero, List.set_cons_succ]
            refine pt_no rfl (by rfl) ?_
            try simp only [Act.put, List.getElem_toArray, List.getElem_cons_zero, List.getElem_cons_succ, List.setIfInBounds_toArray, List.set_cons_zero, List.set_cons_succ]
            refine pt_no rfl (by rfl) ?_
            try simp only [Act.put, List.getElem_toArray, List.getElem_cons_zero, List.getElem_cons_succ, List.setIfInBounds_toArray, List.set_cons_zero, List.set_cons_succ]
            refine pt_no rfl (by rfl) ?_
            try simp only [Act.put, List.getElem_toArray, List.getElem_cons_zero, List.getElem_cons_succ, List.setIfInBounds_toArray, List.set_cons_zero, List.set_cons_succ]
            refine pt_no rfl (by rfl) ?_
            try simp only [Act.put, List.getElem_toArray, List.getElem_cons_zero, List.getElem_cons_succ, List.setIfInBounds_toArray, List.set_cons_zero, List.set_cons_succ]
            refine pt_no rfl (by rfl) ?_
            try simp only [Act.put, List.getElem_toArray, List.getElem_cons_zero, List.getElem_cons_succ, List.setIfInBounds_toArray, List.set_cons_zero, List.set_cons_succ]
            refine pt_no rfl (by rfl) ?_
            try simp only [Act.put, List.getElem_toArray, List.getElem_cons_zero, List.getElem_cons_succ, List.setIfInBounds_toArray, List.set_cons_zero, List.set_cons_succ]
            refine pt_no rfl (by rfl) ?_
            try simp only [Act.put, List.getElem_toArray, List.getElem_cons_zero, List.getElem_cons_succ, List.setIfInBounds_toArray, List.set_cons_zero, List.set_cons_succ]
            refine pt_q (v := ?_) rfl (by rfl) ?_ ?_
            rotate_left
            · intro w' hBw'
              first | (go_simp; done) | (go_simp; with_reducible rfl)
            try simp only [Act.put, List.getElem_toArray, List.getElem_cons_zero, List.getElem_cons_succ, List.setIfInBounds_toArray, List.set_cons_zero, List.set_cons_succ]
            refine pt_q (v := ?_) rfl (by rfl) ?_ ?_
            rotate_left
            · intro w' hBw'
              first | (go_simp; done) | (go_simp; with_reducible rfl)
            try simp only [Act.put, List.getElem_toArray, List.getElem_cons_zero, List.getElem_cons_succ, List.setIfInBounds_toArray, List.set_cons_zero, List.set_cons_succ]
            refine pt_done ?_
            go_wp2
            go_roundg (i - (k + 1))
            case rel => exact ⟨k + 1, by omega, rfl, by go_num, by rw [HY.out, HFB.out]; rfl, below_up HBJ.out hBd⟩
            case measure => omega
        · obtain rfl : k = i := by omega
          have HBJ := Lib.hid hBj
          have HBW := Lib.hid hBw
          cases hfb : freshB e.name (l.take k) with
          | true =>
            obtain ⟨hp, hnew⟩ := freshB_yes hfb
            have HNEW := Lib.hid (pos_snoc_new hp hnew)
            have hri := rangeAt_sub (rangeAt_up hBj HR0.out) 5 (off + k * 16 + 5) rfl (evC_name e)
            have ho1 := own_but HO.out (But.of_below (O := fun _ => False) hBj) (fun _ _ e => e)
            have ho2 := ho1.alloc (.cells (nmC e.name).toArray 39)
            have hs2 : Sl (wr.alloc (.cells (nmC e.name).toArray 39)) 4 (.slice (some ⟨wr.heap.size, 0, none⟩) 1 1) 1 ([e.name].flatMap nmC) := Sl.of_own (World.ownsRow_lit wr (nmC e.name).toArray 1 (size := 4) (e := 39) (Nat.le_refl _) (by decide) rfl)
            have hB2 := hBw.alloc hBw.size (.cells (nmC e.name).toArray 39)
            have hBs := hBw.size
            clear hfb hp hnew ho1 hBj hBw hB
            go_wp2_with (first
              | (refine wpList_load_mid rfl 39 (.tmp 49) rfl b (off + k * 16 + 5) rfl (nmC e.name) _ hri Try.underlying39 rfl (by kernel_rfl) ?_)
              | (at_builtin; refine wpList_app rfl (.tmp 45) (.tmp 51) 75 rfl slN w.heap.size rfl ho2 rfl hs2 (one_nm [e.name]) (by simp [maxLen]; omega) (by omega) (by simp; omega) ?_; intro v3 w3 ho3 hg3 _; have hb3 := grown_below hB2 hg3 (fun k hk => (own_of_some ho2 hk).1); obtain ⟨a3, c3, rfl⟩ := own_slice ho3; clear ho2 hs2 hg3 hB2 hri))
            go_roundg (n + 1 - (k + 1))
            case rel => exact ⟨a3, m + 1, c3, k + 1, rfl, by go_num, by omega, rfl, by omega, by rw [HX.out, HNEW.out, List.flatMap_append]; exact ho3, hb3⟩
            case measure => omega
          | false =>
            have HOLD := Lib.hid (pos_snoc_old (freshB_no hfb))
            clear hfb
            go_wp2
            go_roundg (n + 1 - (k + 1))
            case rel => exact ⟨ao, m, co, k + 1, rfl, by go_num, by omega, rfl, by omega, by rw [HX.out, HOLD.out]; exact own_but HO.out (But.of_below (O := fun _ => False) HBJ.out) (fun _ _ e => e), HBW.out⟩
            case measure => omega
    · obtain rfl : i = n := by omega
      have hall : l.take i = l := List.take_of_length_le (by rw [HL.out]; exact Nat.le_refl _)
      rw [hall] at ho
      have hq : (pos (nmsOf l)).length = m := Sl.recs (cells := nmC) (sz := 4) (fun _ => rfl) (by decide) (Sl.of_own ho)
      rw [← wns_flat _ (pos_wf HWF.out)] at ho
      have hsn := Sl.of_own ho
      clear hall hs'
      go_wp2_with (go_at_call 28; go_loud (refine (rnSorted_c _ _ _ _ hsn (by omega)).mono ?_; rintro en w2 ⟨v2, W, rfl, ho2, hp2, hs2, hb2⟩; obtain ⟨a2, c2, rfl⟩ := own_slice ho2))
      have hs3 := Sl.of_own ho2
      have hWl : W.length = m := Sl.recs (cells := wnC) (sz := 4) (fun _ => rfl) (by decide) hs3
      rw [wn_flat] at hs3
      obtain ⟨P, hP⟩ : ∃ P, W.map (·.1) = P := ⟨_, rfl⟩
      have hPl : P.length = m := by rw [← hP, List.length_map]; exact hWl
      have hin : ∀ x ∈ P, x ∈ nmsOf l := fun x hx => by
        rw [← hP] at hx
        have := (hp2.map (fun y : WN => y.1)).mem_iff.1 hx
        rw [wns_val] at this
        exact (List.mem_filter.1 this).1
      rw [hP] at hs3
      have HP := Lib.hid hP
      have HIN := Lib.hid hin
      have HPL := Lib.hid hPl
      have hBW := below_up hB hb2
      have HS3 := Lib.hid hs3
      have HQ := Lib.hid (And.intro hp2 hs2)
      have hm4 : m ≤ 4096 := by omega
      clear hP hin hPl hWl hq ho ho2 hs3 hp2 hs2 hB hb2 hsn
      go_loopg [7, 8, 9, 10] (m + 1) (fun gh va vi v9 v10 wr => ∃ (ao : Option Addr) (co j : Nat), va = .slice ao j co ∧ vi = .int .i64 j ∧ j ≤ m ∧ gh = m + 1 - j ∧ wr.ownsRow w2.heap.size 51 16 (.slice ao j co) j ((P.take j).flatMap (tlOf l)) ∧ Below w2.heap.size w2 wr)
      case atStart => exact ⟨none, 0, 0, rfl, rfl, Nat.zero_le _, rfl, World.ownsRow_nil _ _ _ _, Below.refl _ _⟩
      case round =>
        obtain ⟨ao, co, j, rfl, rfl, hj, rfl, ho, hB⟩ := hrel
        have hBx := below_up hBW hB
        by_cases hlt : j < m
        · have hjl : j < P.length := by rw [HPL.out]; exact hlt
          obtain ⟨b, off, he, hr⟩ := (HS3.out.up hB).rec_at (cells := nmC) (sz := 4) (fun _ => rfl) hlt hjl
          obtain rfl := he
          have hjm : (j : Int) < (m : Int) := by omega
          have HX := Lib.hid (List.take_succ_eq_append_getElem hjl)
          have hne : evsOf P[j] l ≠ [] := evsOf_some (HIN.out _ (List.getElem_mem hjl))
          generalize P[j] = x at *
          have hof := fun w1 hs => rOf_c x l (.slice a i c) i w1 hs hn
          rw [show ofC x l = tlOf l x from if_neg hne, show ofE x l = 0 from if_neg hne] at hof
          have HOF := Lib.hid hof
          have HVV := Lib.hid (HV.out.up hBx)
          have hBxs := hBx.size
          clear hof hne
          go_wp2_with (first
            | (refine wpList_load_mid rfl 39 (.tmp 64) rfl b (off + j * 4) rfl (nmC x) _ hr Try.underlying39 rfl (by kernel_rfl) ?_)
            | (go_at_call 14; go_loud (refine (HOF.out _ HVV.out).mono ?_; rintro en w5 ⟨rfl, hb5⟩; have hb5s := hb5.size; have hC5 := (below_up hB hb5).alloc (by have := hB.size; omega) (.cells (tlOf l x).toArray 51); have R5 := RowAt.new w5 (tlOf l x).toArray 51; have ho5 := (own_but ho (But.of_below (O := fun _ => False) hb5) (fun _ _ e => e)).alloc (.cells (tlOf l x).toArray 51); have ho6 := ho5.alloc (.cells (tlOf l x).toArray 51); have hs6 : Sl ((w5.alloc (.cells (tlOf l x).toArray 51)).alloc (.cells (tlOf l x).toArray 51)) 16 (.slice (some ⟨w5.heap.size + 1, 0, none⟩) 1 1) 1 ([x].flatMap (tlOf l)) := (by have := Sl.of_own (World.ownsRow_lit (w5.alloc (.cells (tlOf l x).toArray 51)) (tlOf l x).toArray 1 (size := 16) (e := 51) (Nat.le_refl _) (by decide) rfl); simpa using this); have hC6 := hC5.alloc (by have := hB.size; simp; omega) (.cells (tlOf l x).toArray 51)))
            | (refine wpList_load_mid rfl 51 (.tmp 9) rfl w5.heap.size 0 rfl (tlOf l x) _ R5.range Try.underlying51 rfl (by kernel_rfl) ?_)
            | (at_builtin; refine wpList_app rfl (.tmp 70) (.tmp 72) 56 rfl slT_tl w2.heap.size rfl ho6 rfl hs6 (one_tl l [x]) (by simp [maxLen]; omega) (by omega) (by have := hB.size; simp; omega) ?_; intro v3 w3 ho3 hg3 _; have hb3 := grown_below hC6 hg3 (fun k hk => (own_of_some ho6 hk).1); obtain ⟨a3, c3, rfl⟩ := own_slice ho3))
          go_roundg (m + 1 - (j + 1))
          case rel => exact ⟨a3, c3, j + 1, rfl, by go_num, by omega, rfl, by rw [HX.out, List.flatMap_append]; exact ho3, hb3⟩
          case measure => omega
        · obtain rfl : j = m := by omega
          have hall : P.take j = P := List.take_of_length_le (by rw [HPL.out]; exact Nat.le_refl _)
          rw [hall] at ho
          go_wp2
          go_ret
          exact ⟨_, j, W, rfl, HQ.out.1, HQ.out.2, by rw [HP.out]; exact own_down ho hBW.size, hBx⟩
end Go.Proofs.Ythlgoclidgfejaa
