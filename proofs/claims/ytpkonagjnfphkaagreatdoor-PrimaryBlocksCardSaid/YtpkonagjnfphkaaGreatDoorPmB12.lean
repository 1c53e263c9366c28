/-
  OctetH, CbM, CbX, PtApp, CbY: several texts in one (bundle.py).
-/
import Derived.Test.YtpkonagjnfphkaaGreatDoorPmB11
import Derived.Test.YtpkonagjnfphkaaGreatDoorPmB08
import Derived.Test.YtpkonagjnfphkaaGreatDoorPmB10
import Derived.Test.YtpkonagjnfphkaaGreatDoorPmB06
import Derived.Laws.IdiomStrings
import Derived.Test.YtpkonagjnfphkaaGreatDoorPmB01
namespace Go.Proofs.YtpkonagjnfphkaaGreatDoor
open Go.RowKit
set_option linter.unusedSimpArgs false
set_option linter.unusedVariables false

/-- The block of the slice v holds elements of type e. -/
def Ty (w : World) (v : Value) (e : TypeId) : Prop := ∀ k, v.ownBlock = some k → ∃ cur f, w.heap[k]? = some (.cells cur e f)
theorem own_ty {w : World} {base : Nat} {e : TypeId} {sz : Nat} {v : Value} {n : Nat} {xs : List Value} (h : w.ownsRow base e sz v n xs) : Ty w v e := by
  intro k hk
  rcases h.2 with ⟨rfl, _⟩ | ⟨g, cap, cur, rfl, _, hc, _⟩
  · cases hk
  · cases hk; exact ⟨_, _, hc⟩
theorem Ty.ne {w : World} {base : Nat} {e e' : TypeId} {sz : Nat} {u v : Value} {n : Nat} {xs : List Value} (h : Ty w u e) (ho : w.ownsRow base e' sz v n xs) (hne : e ≠ e') : ∀ k, u.ownBlock = some k → v.ownBlock ≠ some k := by
  intro k hk hv
  obtain ⟨cur, f, h1⟩ := h k hk
  obtain ⟨cur', f', h2⟩ := own_ty ho k hv
  rw [h1] at h2
  simp only [Option.some.injEq, Obj.cells.injEq] at h2
  exact hne h2.2.1
theorem Ty.up {w w' : World} {u : Value} {e : TypeId} (h : Ty w u e) (hb : Below w.heap.size w w') : Ty w' u e := by
  intro k hk
  obtain ⟨cur, f, h1⟩ := h k hk
  exact ⟨cur, f, by rw [hb.block k (lt_of_block h1)]; exact h1⟩
theorem Ty.grown {w w' : World} {u : Value} {e : TypeId} {row : Option Nat} (h : Ty w u e) (hg : w.grownBy w' row) (hn : ∀ k, u.ownBlock = some k → row ≠ some k) : Ty w' u e := by
  intro k hk
  obtain ⟨cur, f, h1⟩ := h k hk
  exact ⟨cur, f, by rw [hg.block k (lt_of_block h1) (fun e => hn k hk e.symm)]; exact h1⟩
theorem Sl.grown {w w' : World} {sz : Nat} {u : Value} {m : Nat} {cs : List Value} {row : Option Nat} (h : Sl w sz u m cs) (hg : w.grownBy w' row) (hn : ∀ k, u.ownBlock = some k → row ≠ some k) : Sl w' sz u m cs := by
  obtain ⟨hl, ⟨a, c, rfl, rfl⟩ | ⟨b, off, cap, rfl, hn', hm, hc⟩⟩ := h
  · exact ⟨hl, .inl ⟨a, c, rfl, rfl⟩⟩
  · exact ⟨hl, .inr ⟨b, off, cap, rfl, hn', hm, fun j u hj => hg.cell (hc j u hj) (fun e => hn b rfl e.symm)⟩⟩

theorem each_snocT {w w' : World} {e : TypeId} {vs : List Value} {ls : List (List UInt8)} {u : Value} {p : List UInt8} (hl : vs.length = ls.length)
    (h : ∀ (i : Nat) (u : Value) (l' : List UInt8), vs[i]? = some u → ls[i]? = some l' → Sl w 1 u l'.length (by8 l') ∧ Ty w u e)
    (hu : Sl w 1 u p.length (by8 p)) (hr : Ty w u e) (hk : ∀ (u : Value) (m : Nat) (cs : List Value), Sl w 1 u m cs → Ty w u e → Sl w' 1 u m cs ∧ Ty w' u e) :
    ∀ (i : Nat) (u' : Value) (l' : List UInt8), (vs ++ [u])[i]? = some u' → (ls ++ [p])[i]? = some l' → Sl w' 1 u' l'.length (by8 l') ∧ Ty w' u' e := by
  intro i u' l' h1 h2
  rcases Nat.lt_or_ge i vs.length with hi | hi
  · rw [List.getElem?_append_left hi] at h1
    rw [List.getElem?_append_left (by omega)] at h2
    obtain ⟨h3, h4⟩ := h i u' l' h1 h2
    exact hk _ _ _ h3 h4
  · rw [List.getElem?_append_right hi] at h1
    rw [List.getElem?_append_right (by omega)] at h2
    have e : i - vs.length = 0 := by
      rcases Nat.eq_zero_or_pos (i - vs.length) with h | h
      · exact h
      · rw [List.getElem?_eq_none (by simp; omega)] at h1; cases h1
    rw [e] at h1
    rw [← hl, e] at h2
    simp at h1 h2
    subst h1 h2
    exact hk _ _ _ hu hr

/-- What the reference's Split answers. -/
def SplitPostR (l : List UInt8) (at_ : List Int) (w : World) (e : Ending) (w' : World) : Prop :=
  Below w.heap.size w w' ∧ ∃ v vs, e = .returned (.tuple #[v, .int .i64 (Oct.splitE l at_)]) ∧ SlB w' v (Oct.splitL l at_).length vs (Oct.splitL l at_)

end Go.Proofs.YtpkonagjnfphkaaGreatDoor

namespace Go.Proofs.YtpkonagjnfphkaaGreatDoor
open Go.RowKit Cb
set_option linter.unusedSimpArgs false
set_option linter.unusedVariables false
theorem own_grown {w w' : World} {base : Nat} {e : TypeId} {sz : Nat} {v : Value} {n : Nat} {xs : List Value} {row : Option Nat} (h : w.ownsRow base e sz v n xs) (hg : w.grownBy w' row) (hn : ∀ k, v.ownBlock = some k → row ≠ some k) : w'.ownsRow base e sz v n xs :=
  own_but (O := fun k => row = some k) h (But.grown hg (fun r e => .inl e)) (fun k hk => hn k hk)
/-- Slices of bytes, each in a block of its own. -/
structure EB (w : World) (vs : List Value) (ls : List (List UInt8)) : Prop where
  len : vs.length = ls.length
  each : ∀ (i : Nat) (u : Value) (l : List UInt8), vs[i]? = some u → ls[i]? = some l → ∃ base, w.ownsRow base 5 1 u l.length (by8 l)
theorem EB.nil (w : World) : EB w [] [] := ⟨rfl, fun i u l h => by simp at h⟩
theorem EB.up {w w' : World} {vs : List Value} {ls : List (List UInt8)} (h : EB w vs ls) (hb : Below w.heap.size w w') : EB w' vs ls :=
  ⟨h.len, fun i u l h1 h2 => by obtain ⟨b, h3⟩ := h.each i u l h1 h2; exact ⟨b, own_up h3 hb⟩⟩
theorem EB.grown {w w' : World} {vs : List Value} {ls : List (List UInt8)} (h : EB w vs ls) {e : TypeId} {base sz : Nat} {v : Value} {n : Nat} {xs : List Value} (ho : w.ownsRow base e sz v n xs) (hne : 5 ≠ e) (hg : w.grownBy w' v.ownBlock) : EB w' vs ls :=
  ⟨h.len, fun i u l h1 h2 => by
    obtain ⟨b, h3⟩ := h.each i u l h1 h2
    exact ⟨b, own_grown h3 hg ((own_ty h3).ne ho hne)⟩⟩
theorem EB.snoc {w : World} {vs : List Value} {ls : List (List UInt8)} (h : EB w vs ls) {u : Value} {p : List UInt8} {base : Nat} (hu : w.ownsRow base 5 1 u p.length (by8 p)) : EB w (vs ++ [u]) (ls ++ [p]) := by
  refine ⟨by simp [h.len], fun i u' l' h1 h2 => ?_⟩
  have hl := h.len
  rcases Nat.lt_or_ge i vs.length with hi | hi
  · rw [List.getElem?_append_left hi] at h1
    rw [List.getElem?_append_left (by omega)] at h2
    exact h.each i u' l' h1 h2
  · rw [List.getElem?_append_right hi] at h1
    rw [List.getElem?_append_right (by omega)] at h2
    have e : i - vs.length = 0 := by
      rcases Nat.eq_zero_or_pos (i - vs.length) with h | h
      · exact h
      · rw [List.getElem?_eq_none (by simp; omega)] at h1; cases h1
    rw [e] at h1
    rw [← hl, e] at h2
    simp at h1 h2
    subst h1 h2
    exact ⟨base, hu⟩
theorem EB.slB {w : World} {vs : List Value} {ls : List (List UInt8)} (h : EB w vs ls) {v : Value} {n : Nat} (hv : Sl w 1 v n vs) : SlB w v n vs ls :=
  ⟨hv, h.len, fun i u l h1 h2 => by obtain ⟨b, h3⟩ := h.each i u l h1 h2; exact Sl.of_own h3⟩
abbrev WrC (S : Nat → Prop) (x : It) : Prop := ∀ (r : Rw) (w : World), ItR S w x r → cnt x ≤ 1000000 → rightB x = true → Calls Tryz.prog 137 #[rwV r] w fun en w' => ∃ v, en = .returned v ∧ w'.ownsRow w.heap.size 5 1 v (bytesOf x).length (by8 (bytesOf x)) ∧ Below w.heap.size w w'
set_option maxHeartbeats 2000000 in
set_option maxRecDepth 100000 in
theorem madeB_c (S : Nat → Prop) (l : List It) (hp : ∀ x ∈ l, WrC S x) (hri : rightL l = true) (hc : cntL l ≤ 1000000) (u : Value) (n : Nat) (rows : List Rw) (w : World) (hu : SlS S w 5 u n (rows.flatMap rwC)) (hl : ItsR S w l rows) :
    Calls Tryz.prog 174 #[u, .func (.func 137) #[] #[]] w fun en w' => ∃ v vs, en = .returned v ∧ w'.ownsRow w.heap.size 48 1 v n vs ∧ EB w' vs (l.map bytesOf) ∧ Below w.heap.size w w' := by
  have Hrn := Lib.hid (show rows.length = n from Sl.recs (cells := rwC) (sz := 5) (fun _ => rfl) (by decide) hu.1)
  have Hln := Lib.hid (show l.length = n by rw [← hl.len]; exact Hrn.out)
  have hn : n ≤ 1000000 := by have := cntL_len l; have := Hln.out; omega
  obtain ⟨a, c, rfl⟩ := hu.1.len
  go_enter Tryz.func174, Tryz.ntmps174
  go_wp2
  go_loopw [4, 9] (fun o i wr => ∃ (j : Nat) (vs : List Value), j ≤ n ∧ i = .int .i64 j ∧ wr.ownsRow w.heap.size 48 1 o j vs ∧ EB wr vs ((l.take j).map bytesOf) ∧ Below w.heap.size w wr) (fun _ i _ => n - (intOf i).toNat)
  case atStart => exact ⟨0, [], Nat.zero_le _, rfl, World.ownsRow_nil _ _ _ _, EB.nil _, Below.refl _ _⟩
  case round =>
    obtain ⟨j, vs, hj, rfl, ho, hE, hB⟩ := hrel
    have HE := Lib.hid hE
    by_cases hlt : j < n
    · have hl' : j < l.length := by rw [Hln.out]; exact hlt
      have hr' : j < rows.length := by rw [Hrn.out]; exact hlt
      obtain ⟨b, off, rfl, hr⟩ := (hu.1.up hB).rec_at (cells := rwC) (sz := 5) (fun _ => rfl) hlt hr'
      have hs1 := Lib.hid (show (l.take (j + 1)).map bytesOf = (l.take j).map bytesOf ++ [bytesOf l[j]] by rw [List.take_succ_eq_append_getElem hl', List.map_append]; rfl)
      have hbq : Below w.heap.size w (wr.alloc (.cells (rwC rows[j]).toArray 62)) := hB.alloc hB.size _
      have hcl := hp l[j] (List.getElem_mem hl') rows[j] _ ((hl.get hl' hr').up hbq) (by have := cntL_mem (List.getElem_mem hl'); omega) (rightL_mem hri (List.getElem_mem hl'))
      have Hbq := Lib.hid hbq
      have Ho := Lib.hid ho
      have HB := Lib.hid hB
      have hsx := (hl.get hl' hr').shape
      clear hbq ho hE
      generalize rows[j] = rx at *
      obtain ⟨k1, n1, ba1, bn1, bc1, s1, la1, ln1, lc1, rfl⟩ := hsx
      generalize l[j] = x at *
      generalize bytesOf x = bs at *
      obtain ⟨ao, co, rfl⟩ := own_slice Ho.out
      go_wp2_with (first
        | (refine wpList_load_mid rfl 62 (.tmp 11) rfl b (off + j * 5) rfl (rwC ⟨k1, n1, .slice ba1 bn1 bc1, s1, .slice la1 ln1 lc1⟩) _ hr Tryz.underlying62 rfl (by kernel_rfl) ?_)
        | (go_at_call 137; refine hcl.mono ?_; rintro en w1 ⟨v1, rfl, ho1, hb1⟩; obtain ⟨a1, c1, rfl⟩ := own_slice ho1)
        | (at_builtin; refine wpList_app rfl _ _ 150 rfl slT_bb w.heap.size rfl ((own_up (own_up Ho.out (below_alloc _ _)) hb1).alloc _) rfl (sl1 _ _ rfl (.slice a1 bs.length c1) _) (by intro u hu; simp at hu; subst hu; rfl) (by simp only [maxLen]; omega) (by omega) (by have := Hbq.out.size; have := hb1.size; simp at *; omega) ?_; intro o' w3 ho' hg' _))
      have hE1 := (HE.out.up (below_alloc _ _)).up hb1
      have hz : w1.heap.size ≤ (w1.alloc (.cells #[.slice a1 bs.length c1] 48)).heap.size := by simp
      have hE3 := ((hE1.up (below_alloc w1 (.cells #[.slice a1 bs.length c1] 48))).snoc (own_up ho1 (below_alloc _ _))).grown ((own_up (own_up Ho.out (below_alloc _ _)) hb1).alloc _) (by decide) hg'
      have hB3 := grown_below (below_up (below_up Hbq.out hb1) (below_alloc w1 (.cells #[.slice a1 bs.length c1] 48))) hg' (fun q hq => (own_of_some Ho.out hq).1)
      go_roundw
      case rel => exact ⟨j + 1, _, by omega, by go_num, ho', by rw [hs1.out]; exact hE3, hB3⟩
      case measure => simp [intOf]; omega
    · obtain rfl : j = n := by omega
      have hall : l.take j = l := List.take_of_length_le (by rw [Hln.out]; exact Nat.le_refl _)
      have Hall := Lib.hid hall
      clear hall hE
      obtain ⟨ao, co, rfl⟩ := own_slice ho
      go_wp2
      go_ret
      exact ⟨_, vs, rfl, ho, by rw [← Hall.out]; exact HE.out, hB⟩
end Go.Proofs.YtpkonagjnfphkaaGreatDoor

namespace Go.Proofs.YtpkonagjnfphkaaGreatDoor
open Go.RowKit Go.Maps Cb
set_option linter.unusedSimpArgs false
set_option linter.unusedVariables false
theorem str_bytes {P : Program} (w : World) {src dst e : TypeId} (s : ByteArray) (hs : P.underlying src = some .string) (hd : P.underlying dst = some (.slice e)) (he : P.underlying e = some (.int .u8)) (hm : s.size ≤ maxLen) :
    ∃ c w', (convert src dst (.string s)).run P w = .ok (.slice (some ⟨w.heap.size, 0, none⟩) s.size c) w' ∧ Sl w' 1 (.slice (some ⟨w.heap.size, 0, none⟩) s.size c) s.data.toList.length (by8 s.data.toList) ∧ Below w.heap.size w w' := by
  refine ⟨_, _, run_bytes_of_string w src dst e s hs hd he, ?_, (Below.refl _ _).drew.alloc (Nat.le_refl _) _⟩
  have hg := grownCap_ge w s.size 0 e
  refine ⟨by rw [by8_len]; simp, .inr ⟨w.heap.size, 0, _, ?_, ?_, grownCap_le_maxLen w s.size 0 e hm, fun j u hj => ?_⟩⟩
  · congr 1
  · exact hg
  · have hsz : (bytesRow s (grownCap w s.size 0 e))[j]? = some u := by
      have hj' : j < s.data.size := by
        have := (List.getElem?_eq_some_iff.1 hj).1
        rw [by8_len] at this
        simpa using this
      unfold bytesRow
      rw [Array.getElem?_append_left (by simpa using hj')]
      simp only [by8, List.getElem?_map, Array.getElem?_toList] at hj
      simp only [Array.getElem?_map]
      exact hj
    show (w.drew.alloc _).cell? ⟨w.heap.size, 0 + j, none⟩ = some u
    rw [Nat.zero_add]
    simp only [World.cell?, World.alloc, World.drew, Array.getElem?_push_size]
    exact hsz
abbrev Byt (x : It) (w : World) (en : Ending) (w' : World) : Prop := ∃ v, en = .returned v ∧ w'.ownsRow w.heap.size 5 1 v (bytesOf x).length (by8 (bytesOf x)) ∧ Below w.heap.size w w'
theorem wrap_u64 (n : Nat) (h : n ≤ 1000000) : IntKind.u64.wrap (n : Int) = n := by simp [IntKind.wrap, go_sem]; omega
theorem flat2 (a b : List UInt8) : [a, b].flatten = a ++ b := by simp
theorem enters_head : Enters Tryz.prog 164 := enters_of Tryz.func164 (by kernel_rfl) rfl
theorem enters_join : Enters Tryz.prog 171 := enters_of Tryz.func171 (by kernel_rfl) rfl
theorem enters_writes : Enters Tryz.prog 155 := enters_of Tryz.func155 (by kernel_rfl) rfl
theorem enters_madeB : Enters Tryz.prog 174 := enters_of Tryz.func174 (by kernel_rfl) rfl
set_option maxHeartbeats 2000000 in
set_option maxRecDepth 100000 in
theorem write1_c (S : Nat → Prop) (x : It) (r : Rw) (w : World) (hr : ItR S w x r) (hcx : cnt x ≤ 1000000) (hk : x.k = 1) : Calls Tryz.prog 169 #[rwV r] w (Byt x w) := by
  obtain ⟨k1, n1, ba1, bn1, bc1, s1, la1, ln1, lc1, rfl⟩ := hr.shape
  obtain ⟨rows, p⟩ := hr.parts
  have hB1 := below_alloc w (.cells (rwC ⟨k1, n1, .slice ba1 bn1 bc1, s1, .slice la1 ln1 lc1⟩).toArray 62)
  have e1 := rangeAt_new w (rwC ⟨k1, n1, .slice ba1 bn1 bc1, s1, .slice la1 ln1 lc1⟩) 62 (0, 0)
  have hby := bytesOf_eq x
  rw [hk] at hby
  rw [if_pos rfl] at hby
  have hn : n1 = x.n := p.n
  have h0 := p.lo; have h1 := p.hi
  rw [← hn] at hby h0 h1
  have Hby := Lib.hid hby
  clear p hr hby hk hn hcx
  go_enter Tryz.func169, Tryz.ntmps169
  go_wp2_with (go_at_call 164; refine (head_c 0 n1 _ (by decide) (by decide) h0 h1).mono ?_; rintro en w1 ⟨v1, rfl, ho1, hb1⟩)
  go_ret
  exact ⟨_, rfl, by rw [Hby.out]; exact own_down ho1 (by simp), below_up hB1 hb1⟩
set_option maxHeartbeats 2000000 in
set_option maxRecDepth 100000 in
theorem write5_c (S : Nat → Prop) (x : It) (r : Rw) (w : World) (hr : ItR S w x r) (hcx : cnt x ≤ 1000000) (hk : x.k = 5) : Calls Tryz.prog 175 #[rwV r] w (Byt x w) := by
  obtain ⟨k1, n1, ba1, bn1, bc1, s1, la1, ln1, lc1, rfl⟩ := hr.shape
  obtain ⟨rows, p⟩ := hr.parts
  have hB1 := below_alloc w (.cells (rwC ⟨k1, n1, .slice ba1 bn1 bc1, s1, .slice la1 ln1 lc1⟩).toArray 62)
  have e1 := rangeAt_new w (rwC ⟨k1, n1, .slice ba1 bn1 bc1, s1, .slice la1 ln1 lc1⟩) 62 (0, 0)
  have hby := bytesOf_eq x
  rw [hk] at hby
  simp only [show ¬ ((5 : Int) = 1) by decide, show ¬ ((5 : Int) = 2) by decide, show ¬ ((5 : Int) = 3) by decide, if_false, if_true] at hby
  have hn : n1 = x.n := p.n
  have h0 := p.lo
  rw [← hn] at hby h0
  have Hby := Lib.hid hby
  clear p hr hby hk hn hcx
  go_enter Tryz.func175, Tryz.ntmps175
  go_wp2
  go_ret
  refine ⟨_, rfl, ?_, hB1.alloc hB1.size _⟩
  have hbv : by8 [UInt8.ofNat (244 + n1).toNat] = [.int .u8 ((244 + n1) % 256)] := by
    simp only [by8, List.map_cons, List.map_nil, UInt8.toNat_ofNat']
    congr 2
    omega
  rw [Hby.out, hbv]
  have hown := World.ownsRow_lit (w.alloc (.cells (rwC ⟨k1, n1, .slice ba1 bn1 bc1, s1, .slice la1 ln1 lc1⟩).toArray 62)) #[.int .u8 ((244 + n1) % 256)] 1 (size := 1) (base := w.heap.size) (e := 5) (by simp) (by decide) rfl
  rw [World.size_alloc] at hown
  exact hown
set_option maxHeartbeats 2000000 in
set_option maxRecDepth 100000 in
theorem write6_c (S : Nat → Prop) (x : It) (r : Rw) (w : World) (hr : ItR S w x r) (hcx : cnt x ≤ 1000000) (hk : x.k = 6) : Calls Tryz.prog 176 #[rwV r] w (Byt x w) := by
  obtain ⟨k1, n1, ba1, bn1, bc1, s1, la1, ln1, lc1, rfl⟩ := hr.shape
  obtain ⟨rows, p⟩ := hr.parts
  have hB1 := below_alloc w (.cells (rwC ⟨k1, n1, .slice ba1 bn1 bc1, s1, .slice la1 ln1 lc1⟩).toArray 62)
  have e1 := rangeAt_new w (rwC ⟨k1, n1, .slice ba1 bn1 bc1, s1, .slice la1 ln1 lc1⟩) 62 (0, 0)
  have hby := bytesOf_eq x
  rw [hk] at hby
  simp only [show ¬ ((6 : Int) = 1) by decide, show ¬ ((6 : Int) = 2) by decide, show ¬ ((6 : Int) = 3) by decide, show ¬ ((6 : Int) = 5) by decide, if_false, if_true] at hby
  have Hby := Lib.hid hby
  clear p hr hby hk hcx
  go_enter Tryz.func176, Tryz.ntmps176
  go_wp2
  go_ret
  refine ⟨_, rfl, ?_, hB1.alloc hB1.size _⟩
  rw [Hby.out]
  have hown := World.ownsRow_lit (w.alloc (.cells (rwC ⟨k1, n1, .slice ba1 bn1 bc1, s1, .slice la1 ln1 lc1⟩).toArray 62)) #[.int .u8 246] 1 (size := 1) (base := w.heap.size) (e := 5) (by simp) (by decide) rfl
  rw [World.size_alloc] at hown
  exact hown
set_option maxHeartbeats 2000000 in
set_option maxRecDepth 100000 in
theorem write2_c (S : Nat → Prop) (x : It) (r : Rw) (w : World) (hr : ItR S w x r) (hcx : cnt x ≤ 1000000) (hk : x.k = 2) : Calls Tryz.prog 170 #[rwV r] w (Byt x w) := by
  obtain ⟨k1, n1, ba1, bn1, bc1, s1, la1, ln1, lc1, rfl⟩ := hr.shape
  obtain ⟨rows, p⟩ := hr.parts
  have hB1 := below_alloc w (.cells (rwC ⟨k1, n1, .slice ba1 bn1 bc1, s1, .slice la1 ln1 lc1⟩).toArray 62)
  have e1 := rangeAt_new w (rwC ⟨k1, n1, .slice ba1 bn1 bc1, s1, .slice la1 ln1 lc1⟩) 62 (0, 0)
  have hby := bytesOf_eq x
  rw [hk] at hby
  simp only [show ¬ ((2 : Int) = 1) by decide, if_false, if_true] at hby
  have hbl : x.b.length ≤ 1000000 := by cases x; simp only [cnt, It.b] at *; omega
  have hv := p.b
  have e2 := rangeAt_up (Below.refl _ _) e1
  have hbn : bn1 = x.b.length := by obtain ⟨a, c, h⟩ := p.b.cell; simp at h; exact h.2.1
  have Hby := Lib.hid hby
  clear p hr hby hk hcx
  generalize x.b = bs at *
  subst hbn
  go_enter Tryz.func170, Tryz.ntmps170
  go_wp2
  refine wp_region_pi [(0, false), (1, false), (2, false), (3, false), (5, false), (6, false), (4, true), (7, true), (8, true), (9, false)] (by kernel_rfl) (by kernel_rfl) (by kernel_rfl) rfl (fun _ _ d _ _ h => by cases d <;> exact h) (fun Wd hBd => ?_)
  try simp only [Act.put, List.getElem_toArray, List.getElem_cons_zero, List.getElem_cons_succ, List.setIfInBounds_toArray, List.set_cons_zero, List.set_cons_succ]
  have c1 : ∀ w', Below Wd.heap.size Wd w' → w'.cell? ⟨w.heap.size, 0 + 2, none⟩ = some (.slice ba1 bs.length bc1) := fun w' h => rangeAt_up h (rangeAt_up hBd e1) 2 _ rfl
  iterate 3
    refine pi_q (v := ?_) rfl (by rfl) ?_ ?_
    rotate_left
    · intro w' hBw'
      first | (go_simp; done) | (go_simp; with_reducible rfl)
    try simp only [Act.put, List.getElem_toArray, List.getElem_cons_zero, List.getElem_cons_succ, List.setIfInBounds_toArray, List.set_cons_zero, List.set_cons_succ]
  refine pi_q (v := .int .u64 (bs.length : Int)) rfl (by rfl) (fun w' hBw' => by go_simp; exact wrap_u64 _ hbl) ?_
  iterate 2
    try simp only [Act.put, List.getElem_toArray, List.getElem_cons_zero, List.getElem_cons_succ, List.setIfInBounds_toArray, List.set_cons_zero, List.set_cons_succ]
    refine pi_q (v := ?_) rfl (by rfl) ?_ ?_
    rotate_left
    · intro w' hBw'
      first | (go_simp; done) | (go_simp; with_reducible rfl)
  try simp only [Act.put, List.getElem_toArray, List.getElem_cons_zero, List.getElem_cons_succ, List.setIfInBounds_toArray, List.set_cons_zero, List.set_cons_succ]
  refine pi_call rfl (by rfl) ((head_c 2 bs.length Wd (by decide) (by decide) (by omega) (by omega))) enters_head (by rfl) (by kernel_rfl) ?_
  rintro en wN ⟨v1, rfl, ho1, hb1⟩
  obtain ⟨a1, c1', rfl⟩ := own_slice ho1
  have c1 : ∀ w', Below wN.heap.size wN w' → w'.cell? ⟨w.heap.size, 0 + 2, none⟩ = some (.slice ba1 bs.length bc1) := fun w' h => c1 w' (below_up hb1 h)
  refine ⟨_, rfl, hb1, ?_⟩
  try simp only [Act.put, List.getElem_toArray, List.getElem_cons_zero, List.getElem_cons_succ, List.setIfInBounds_toArray, List.set_cons_zero, List.set_cons_succ]
  refine pi_c rfl (by rfl) (fun K hK => ?_)
  go_simp
  refine hK.out _ _ (below_alloc _ _) ?_
  clear hK K
  try simp only [Act.put, List.getElem_toArray, List.getElem_cons_zero, List.getElem_cons_succ, List.setIfInBounds_toArray, List.set_cons_zero, List.set_cons_succ]
  refine pi_call rfl (by rfl) ((join_c [headB 2 bs.length, bs] _ _ _ _ (slB2 (T := 48) (Sl.of_own ho1) ((hv.1.up (below_up hB1 hBd)).up hb1) rfl rfl _ rfl) (by omega) (by have := headB_len 2 bs.length; simp; omega))) enters_join (by rfl) (by kernel_rfl) ?_
  rintro en wN ⟨v2, rfl, ho2, hb2⟩
  refine ⟨_, rfl, hb2, ?_⟩
  try simp only [Act.put, List.getElem_toArray, List.getElem_cons_zero, List.getElem_cons_succ, List.setIfInBounds_toArray, List.set_cons_zero, List.set_cons_succ]
  refine pi_q (v := ?_) rfl (by rfl) ?_ ?_
  rotate_left
  · intro w' hBw'
    first | (go_simp; done) | (go_simp; with_reducible rfl)
  try simp only [Act.put, List.getElem_toArray, List.getElem_cons_zero, List.getElem_cons_succ, List.setIfInBounds_toArray, List.set_cons_zero, List.set_cons_succ]
  refine pi_nil ?_
  go_wp2
  go_ret
  rw [flat2] at ho2
  refine ⟨_, rfl, ?_, below_up (below_up (below_up (below_up hB1 hBd) hb1) (below_alloc _ _)) hb2⟩
  rw [Hby.out]
  exact own_down ho2 ((below_up (below_up (below_up hB1 hBd) hb1) (below_alloc _ _)).size)
end Go.Proofs.YtpkonagjnfphkaaGreatDoor

namespace Go.Proofs.YtpkonagjnfphkaaGreatDoor
open Go.RowKit
set_option linter.unusedSimpArgs false
set_option linter.unusedVariables false

section
variable {P : Program} {ops : Array Oper} {Q : Exit → Act → World → Prop} {O : Nat → Prop}
theorem pt_app2 {i : Nat} {o : Oper} {R : Act → World → Prop} {a : Act} {w : World} (hi : ops[i]? = some o) (hw : Region.wanted o (yielded ops a.tmps) = true) (s x : Operand) (t : TypeId)
    (ho : o.op = .call { callee := .builtin .append, args := #[s, x], argTypes := #[t, t] })
    {e : TypeId} {sz bytes : Nat} (T : SlT P t e sz bytes) (base : Nat) {v : Value} {n : Nat} {xs : List Value} (hs : a.eval s = v) (hown : w.ownsRow base e sz v n xs)
    {xv : Value} {m : Nat} {news : List Value} (hx : a.eval x = xv) (hsl : Sl w sz xv m news) (h1 : ∀ u ∈ news, u.oneCell' = true)
    (h63 : n + m ≤ maxLen) (hbytes : (n + m) * bytes ≤ 140737488355328) (hbase : base ≤ w.heap.size) (hO : ∀ k, base ≤ k → O k)
    (h : ∀ v' w', w'.ownsRow base e sz v' (n + m) (xs ++ news) → But (fun k => v.ownBlock = some k) w w' → R (a.put o.dst v') w') : ptStep P O ops Q i R a w :=
  ⟨o, hi, hw, by
    obtain ⟨v', w', hr, h2, h3, h4, h5⟩ := run_app_at T o.type w base v n xs hown xv m news hsl h1 h63 hbytes hbase
    have hb : But (fun k => v.ownBlock = some k) w w' := But.grown h3 (fun r hr => .inl hr)
    unfold Oper.wp execOp
    simp only [ho, resolve, invoke, builtin, Sem.run_bind, Sem.run_pure, Result.andThen_ok, List.map_toArray, List.map_cons, List.map_nil, hs, hx, hr]
    exact ⟨hb.mono fun j _ e => hO j (own_of_some hown e).1, h v' w' h2 hb⟩⟩
end

section
variable {α : Type} {cells : α → List Value} {sz : Nat}
theorem blk_of (k j t : Nat) (hk : 0 < k) : (j * k ≤ t ∧ t < j * k + k) ↔ t / k = j := by
  constructor
  · rintro ⟨h1, h2⟩
    exact Nat.div_eq_of_lt_le h1 (by rw [Nat.add_mul, Nat.one_mul]; exact h2)
  · rintro rfl
    have a := Nat.div_mul_le_self t k
    have b := Nat.lt_mul_div_succ t hk
    rw [Nat.mul_add, Nat.mul_one, Nat.mul_comm] at b
    exact ⟨a, b⟩
theorem set_recG (hsz : ∀ x, (cells x).length = sz) (h0 : 0 < sz) {M : List α} {cur : Array Value} {i : Nat} (x : α) (hi : i < M.length) (hc : M.length * sz ≤ cur.size) (h : cur.toList.take (M.length * sz) = M.flatMap cells) :
    (setAllA cur (i * sz) (cells x)).toList.take (M.length * sz) = (M.set i x).flatMap cells := by
  have hil : i * sz + (cells x).length ≤ cur.size := by
    rw [hsz]
    have := Nat.mul_le_mul_right sz (show i + 1 ≤ M.length from hi)
    rw [Nat.add_mul, Nat.one_mul] at this; omega
  refine List.ext_getElem? fun q => ?_
  by_cases hq : q < M.length * sz
  · have hj : q / sz < M.length := (Nat.div_lt_iff_lt_mul h0).2 hq
    have hqe : q / sz * sz + q % sz = q := by rw [Nat.mul_comm]; exact Nat.div_add_mod q sz
    have hr : q % sz < sz := Nat.mod_lt _ h0
    have hold : cur[q]? = (cells M[q / sz])[q % sz]? := by
      have h1 : (cur.toList.take (M.length * sz))[q]? = cur[q]? := by rw [List.getElem?_take_of_lt hq, Array.getElem?_toList]
      rw [← h1, h]
      have := rec_get hsz M (q / sz) hj (q % sz) hr
      rwa [hqe] at this
    rw [List.getElem?_take_of_lt hq, Array.getElem?_toList, setAllA_get _ _ _ _ hil, hsz]
    have hrhs := rec_get hsz (M.set i x) (q / sz) (by simpa using hj) (q % sz) hr
    rw [hqe] at hrhs
    rw [hrhs]
    by_cases hji : q / sz = i
    · rw [if_pos ((blk_of sz i q h0).2 hji)]
      have : (M.set i x)[q / sz]'(by simpa using hj) = x := by simp [hji]
      rw [this, show q - i * sz = q % sz by rw [← hji]; omega]
    · rw [if_neg (fun e => hji ((blk_of sz i q h0).1 e)), hold]
      have : (M.set i x)[q / sz]'(by simpa using hj) = M[q / sz] := by rw [List.getElem_set_ne (fun e => hji e.symm)]
      rw [this]
  · rw [List.getElem?_eq_none (by rw [List.length_take]; omega), List.getElem?_eq_none (by rw [rec_len hsz, List.length_set]; omega)]
theorem sl_of_rowG (hsz : ∀ x, (cells x).length = sz) {w : World} {T : TypeId} {g cap n : Nat} {cur : Array Value} {M : List α} (h : RowAt w g cur T) (hn : M.length = n) (hcap : n ≤ cap) (hmx : cap ≤ maxLen) (ht : cur.toList.take (n * sz) = M.flatMap cells) :
    Sl w sz (.slice (some ⟨g, 0, none⟩) n cap) n (M.flatMap cells) := by
  refine ⟨by rw [rec_len hsz, hn], .inr ⟨g, 0, cap, rfl, hcap, hmx, fun j u hj => ?_⟩⟩
  have hlt : j < n * sz := by
    have := (List.getElem?_eq_some_iff.1 hj).1
    rwa [rec_len hsz, hn] at this
  rw [← ht, List.getElem?_take_of_lt hlt, Array.getElem?_toList] at hj
  rw [Nat.zero_add]
  exact h.cell hj
/-- What owns a row: its block. -/
theorem own_row {w : World} {base : Nat} {T : TypeId} {v : Value} {n : Nat} {xs : List Value} (h : w.ownsRow base T sz v n xs) (hn : 0 < n) :
    ∃ g cap cur, v = .slice (some ⟨g, 0, none⟩) n cap ∧ base ≤ g ∧ RowAt w g cur T ∧ n ≤ cap ∧ cap ≤ maxLen ∧ cur.size = cap * sz ∧ cur.toList.take (n * sz) = xs := by
  rcases h.2 with ⟨_, h0⟩ | ⟨g, cap, cur, h1, h2, h3, h4, h5, h6, h7⟩
  · omega
  · exact ⟨g, cap, cur, h1, h2, h3, h4, h5, h6, h7⟩
end
end Go.Proofs.YtpkonagjnfphkaaGreatDoor

namespace Go.Proofs.YtpkonagjnfphkaaGreatDoor
open Go.RowKit Go.Maps Cb
set_option linter.unusedSimpArgs false
set_option linter.unusedVariables false
section
variable {P : Program} {ops : Array Oper} {Q : Exit → Act → World → Prop}
/-- A call of a function by a value that is one. -/
theorem exec_callV {o : Oper} {a : Act} {w : World} {f : FuncId} {z : Operand} {xs : Array Operand} {ts : Array TypeId} (ho : o.op = .call { callee := .value z, args := xs, argTypes := ts }) (hz : a.eval z = .func (.func f) #[] #[]) {args : List Value} (hx : xs.toList.map a.eval = args)
    (he : Enters P f) : (execOp a.eval o).run P w = .ok (.enter f args.toArray) w := by
  have e : xs.map a.eval = args.toArray := by rw [← hx, ← Array.toList_map]
  unfold execOp
  simp only [ho, resolve, Sem.run_bind]
  rw [e, hz]
  simp only [Deferred.ofValue, Sem.run_pure, Result.andThen_ok, invoke]
  rw [Array.append_empty, Array.empty_append]
  exact he _ _
theorem pi_callV {i : Nat} {o : Oper} {r : List (Nat × Bool)} {a : Act} {w : World} (hi : ops[i]? = some o) (hw : Region.wanted o (yielded ops a.tmps) = true)
    {f : FuncId} {z : Operand} {xs : Array Operand} {ts : Array TypeId} {args : List Value} {R : Ending → World → Prop} (hc : Calls P f args.toArray w R)
    (he : Enters P f) (ho : o.op = .call { callee := .value z, args := xs, argTypes := ts }) (hz : a.eval z = .func (.func f) #[] #[]) (hx : xs.toList.map a.eval = args) (h : ∀ e w', R e w' → ∃ v, e = .returned v ∧ Below w.heap.size w w' ∧ wpPi P ops Q r (a.put o.dst v) w') : wpPi P ops Q ((i, true) :: r) a w :=
  ⟨o, hi, hw, by
    unfold Oper.wp
    rw [exec_callV ho hz hx he]
    refine Calls.mono hc fun e w' hr => ?_
    obtain ⟨v, rfl, hb, hk⟩ := h e w' hr
    exact ⟨hb, hk⟩⟩
end
theorem flat1 (a : List UInt8) (ls : List (List UInt8)) : ([a] ++ ls).flatten = a ++ ls.flatten := by simp
theorem below_but {w w1 w2 : World} {O : Nat → Prop} (h : Below w.heap.size w w1) (hb : But O w1 w2) (hO : ∀ k, O k → w.heap.size + 1 ≤ k) : Below w.heap.size w w2 := h.trans (hb.below (fun k hk => by have := hO k hk; omega) h.size)
theorem eb_one {w : World} {vs : List Value} {ls : List (List UInt8)} (h : EB w vs ls) : ∀ u ∈ vs, u.oneCell' = true := by
  intro u hu
  obtain ⟨i, hi, rfl⟩ := List.getElem_of_mem hu
  have hl := h.len
  obtain ⟨b, h3⟩ := h.each i vs[i] ls[i] (List.getElem?_eq_getElem hi) (List.getElem?_eq_getElem (by omega))
  obtain ⟨a, c, e⟩ := own_slice h3
  rw [e]; rfl
theorem own_size {w : World} {base : Nat} {e : TypeId} {sz : Nat} {a : Addr} {n c : Nat} {xs : List Value} (h : w.ownsRow base e sz (.slice (some a) n c) n xs) : base ≤ w.heap.size := by
  have := own_of_some h rfl
  omega
theorem eb_app_but {w w' : World} {u v : Value} {p : List UInt8} {vs : List Value} {ls : List (List UInt8)} {base base2 sz n : Nat} {xs : List Value} (hu : w.ownsRow base 5 1 u p.length (by8 p)) (hE : EB w vs ls) (ho : w.ownsRow base2 48 sz v n xs) (hb : But (fun k => v.ownBlock = some k) w w') : EB w' ([u] ++ vs) ([p] ++ ls) := by
  refine ⟨by simp [hE.len], fun i x l h1 h2 => ?_⟩
  have hk : ∃ b, w.ownsRow b 5 1 x l.length (by8 l) := by
    cases i with
    | zero => simp at h1 h2; subst h1 h2; exact ⟨_, hu⟩
    | succ i => exact hE.each i x l (by simpa using h1) (by simpa using h2)
  obtain ⟨b, h3⟩ := hk
  exact ⟨b, own_but h3 hb (fun k hk => (own_ty h3).ne ho (by decide) k hk)⟩
set_option maxHeartbeats 4000000 in
set_option maxRecDepth 100000 in
theorem write3_c (S : Nat → Prop) (x : It) (r : Rw) (w : World) (hr : ItR S w x r) (hcx : cnt x ≤ 1000000) (hk : x.k = 3) : Calls Tryz.prog 172 #[rwV r] w (Byt x w) := by
  obtain ⟨k1, n1, ba1, bn1, bc1, s1, la1, ln1, lc1, rfl⟩ := hr.shape
  obtain ⟨rows, p⟩ := hr.parts
  have hB1 := below_alloc w (.cells (rwC ⟨k1, n1, .slice ba1 bn1 bc1, s1, .slice la1 ln1 lc1⟩).toArray 62)
  have e1 := rangeAt_new w (rwC ⟨k1, n1, .slice ba1 bn1 bc1, s1, .slice la1 ln1 lc1⟩) 62 (0, 0)
  have hby := bytesOf_eq x
  rw [hk] at hby
  simp only [show ¬ ((3 : Int) = 1) by decide, show ¬ ((3 : Int) = 2) by decide, if_false, if_true] at hby
  have hbl : s1.size ≤ 1000000 := by have := p.s; cases x; simp only [cnt, It.s] at *; subst this; omega
  rw [← (show s1 = x.s from p.s)] at hby
  have Hby := Lib.hid hby
  clear p hr hby hk hcx
  go_enter Tryz.func172, Tryz.ntmps172
  go_wp2
  refine wp_region_pt (fun _ => False) (.q 0 (.q 1 (.q 2 (.q 3 (.q 5 (.q 6 (.f 4 (.c 7 (.c 8 (.c 9 (.q 10 .done)))) 7 (.c 4 (.c 8 (.c 9 (.q 10 .done))))))))))) (by kernel_rfl) (by kernel_rfl) (by kernel_rfl) (by decide) (fun _ _ d _ _ h => by cases d <;> exact h) (fun Wd hBd => ?_)
  try simp only [Act.put, List.getElem_toArray, List.getElem_cons_zero, List.getElem_cons_succ, List.setIfInBounds_toArray, List.set_cons_zero, List.set_cons_succ]
  have c1 : ∀ w', But (fun _ => False) Wd w' → w'.cell? ⟨w.heap.size, 0 + 3, none⟩ = some (.string s1) := fun w' h => h.cell (rangeAt_up hBd e1 3 _ rfl) (fun h => h)
  have hlen : s1.data.size = s1.size := rfl
  iterate 3
    refine pt_q (v := ?_) rfl (by rfl) ?_ ?_
    rotate_left
    · intro w' hBw'
      first | (go_simp; done) | (go_simp; with_reducible rfl)
    try simp only [Act.put, List.getElem_toArray, List.getElem_cons_zero, List.getElem_cons_succ, List.setIfInBounds_toArray, List.set_cons_zero, List.set_cons_succ]
  refine pt_q (v := .int .u64 (s1.size : Int)) rfl (by rfl) (fun w' hBw' => by go_simp; exact wrap_u64 _ hbl) ?_
  iterate 2
    try simp only [Act.put, List.getElem_toArray, List.getElem_cons_zero, List.getElem_cons_succ, List.setIfInBounds_toArray, List.set_cons_zero, List.set_cons_succ]
    refine pt_q (v := ?_) rfl (by rfl) ?_ ?_
    rotate_left
    · intro w' hBw'
      first | (go_simp; done) | (go_simp; with_reducible rfl)
  try simp only [Act.put, List.getElem_toArray, List.getElem_cons_zero, List.getElem_cons_succ, List.setIfInBounds_toArray, List.set_cons_zero, List.set_cons_succ]
  refine pt_f ?_ ?_
  · refine pt_call rfl (by rfl) (head_c 3 s1.size Wd (by decide) (by decide) (by omega) (by omega)) enters_head (by rfl) (by kernel_rfl) ?_
    rintro en wA ⟨v1, rfl, ho1, hb1⟩
    obtain ⟨a1, c1', rfl⟩ := own_slice ho1
    refine ⟨_, rfl, But.of_below hb1, ?_⟩
    try simp only [Act.put, List.getElem_toArray, List.getElem_cons_zero, List.getElem_cons_succ, List.setIfInBounds_toArray, List.set_cons_zero, List.set_cons_succ]
    refine pt_c ?_
    obtain ⟨cS, wS, hrunS, hsS, hbS⟩ := str_bytes (P := Tryz.prog) wA (src := 9) (dst := 48) s1 Tryz.underlying9 Tryz.underlying48 Tryz.underlying5 (by simp only [maxLen]; omega)
    refine pt_step rfl (by rfl) (fun K hK => ?_)
    go_simp
    refine hK.out _ _ (But.of_below hbS) ?_
    clear hK K
    try simp only [Act.put, List.getElem_toArray, List.getElem_cons_zero, List.getElem_cons_succ, List.setIfInBounds_toArray, List.set_cons_zero, List.set_cons_succ]
    have hu := (Sl.of_own ho1).up hbS
    have hv := hsS
    have hBW := below_up (below_up (below_up hB1 hBd) hb1) hbS
    refine pt_c ?_
    refine pt_step rfl (by rfl) (fun K hK => ?_)
    go_simp
    refine hK.out _ _ (But.alloc _ _) ?_
    clear hK K
    try simp only [Act.put, List.getElem_toArray, List.getElem_cons_zero, List.getElem_cons_succ, List.setIfInBounds_toArray, List.set_cons_zero, List.set_cons_succ]
    refine pt_c ?_
    refine pt_call rfl (by rfl) (join_c [headB 3 s1.size, s1.data.toList] _ _ _ _ (slB2 (T := 48) hu hv rfl rfl _ rfl) (by omega) (by have := headB_len 3 s1.size; simp; omega)) enters_join (by rfl) (by kernel_rfl) ?_
    rintro en wJ ⟨v2, rfl, ho2, hb2⟩
    refine ⟨_, rfl, But.of_below hb2, ?_⟩
    try simp only [Act.put, List.getElem_toArray, List.getElem_cons_zero, List.getElem_cons_succ, List.setIfInBounds_toArray, List.set_cons_zero, List.set_cons_succ]
    refine pt_q (v := ?_) rfl (by rfl) ?_ ?_
    rotate_left
    · intro w' hBw'
      first | (go_simp; done) | (go_simp; with_reducible rfl)
    try simp only [Act.put, List.getElem_toArray, List.getElem_cons_zero, List.getElem_cons_succ, List.setIfInBounds_toArray, List.set_cons_zero, List.set_cons_succ]
    refine pt_done ?_
    go_wp2
    go_ret
    rw [flat2] at ho2
    refine ⟨_, rfl, ?_, below_up (below_up hBW (below_alloc _ _)) hb2⟩
    rw [Hby.out]
    exact own_down ho2 ((below_up hBW (below_alloc _ _)).size)
  · obtain ⟨cS, wS, hrunS, hsS, hbS⟩ := str_bytes (P := Tryz.prog) Wd (src := 9) (dst := 48) s1 Tryz.underlying9 Tryz.underlying48 Tryz.underlying5 (by simp only [maxLen]; omega)
    refine pt_step rfl (by rfl) (fun K hK => ?_)
    go_simp
    refine hK.out _ _ (But.of_below hbS) ?_
    clear hK K
    try simp only [Act.put, List.getElem_toArray, List.getElem_cons_zero, List.getElem_cons_succ, List.setIfInBounds_toArray, List.set_cons_zero, List.set_cons_succ]
    refine pt_c ?_
    refine pt_call rfl (by rfl) (head_c 3 s1.size wS (by decide) (by decide) (by omega) (by omega)) enters_head (by rfl) (by kernel_rfl) ?_
    rintro en wA ⟨v1, rfl, ho1, hb1⟩
    obtain ⟨a1, c1', rfl⟩ := own_slice ho1
    refine ⟨_, rfl, But.of_below hb1, ?_⟩
    try simp only [Act.put, List.getElem_toArray, List.getElem_cons_zero, List.getElem_cons_succ, List.setIfInBounds_toArray, List.set_cons_zero, List.set_cons_succ]
    have hu := Sl.of_own ho1
    have hv := hsS.up hb1
    have hBW := below_up (below_up (below_up hB1 hBd) hbS) hb1
    refine pt_c ?_
    refine pt_step rfl (by rfl) (fun K hK => ?_)
    go_simp
    refine hK.out _ _ (But.alloc _ _) ?_
    clear hK K
    try simp only [Act.put, List.getElem_toArray, List.getElem_cons_zero, List.getElem_cons_succ, List.setIfInBounds_toArray, List.set_cons_zero, List.set_cons_succ]
    refine pt_c ?_
    refine pt_call rfl (by rfl) (join_c [headB 3 s1.size, s1.data.toList] _ _ _ _ (slB2 (T := 48) hu hv rfl rfl _ rfl) (by omega) (by have := headB_len 3 s1.size; simp; omega)) enters_join (by rfl) (by kernel_rfl) ?_
    rintro en wJ ⟨v2, rfl, ho2, hb2⟩
    refine ⟨_, rfl, But.of_below hb2, ?_⟩
    try simp only [Act.put, List.getElem_toArray, List.getElem_cons_zero, List.getElem_cons_succ, List.setIfInBounds_toArray, List.set_cons_zero, List.set_cons_succ]
    refine pt_q (v := ?_) rfl (by rfl) ?_ ?_
    rotate_left
    · intro w' hBw'
      first | (go_simp; done) | (go_simp; with_reducible rfl)
    try simp only [Act.put, List.getElem_toArray, List.getElem_cons_zero, List.getElem_cons_succ, List.setIfInBounds_toArray, List.set_cons_zero, List.set_cons_succ]
    refine pt_done ?_
    go_wp2
    go_ret
    rw [flat2] at ho2
    refine ⟨_, rfl, ?_, below_up (below_up hBW (below_alloc _ _)) hb2⟩
    rw [Hby.out]
    exact own_down ho2 ((below_up hBW (below_alloc _ _)).size)
set_option maxHeartbeats 4000000 in
set_option maxRecDepth 100000 in
theorem write4_c (S : Nat → Prop) (x : It) (r : Rw) (w : World) (hr : ItR S w x r) (hcx : cnt x ≤ 1000000) (hk : x.k = 4) (hw : ∀ y ∈ x.l, WrC S y) (hri : rightL x.l = true) : Calls Tryz.prog 173 #[rwV r] w (Byt x w) := by
  obtain ⟨k1, n1, ba1, bn1, bc1, s1, la1, ln1, lc1, rfl⟩ := hr.shape
  obtain ⟨rows, p⟩ := hr.parts
  have hB1 := below_alloc w (.cells (rwC ⟨k1, n1, .slice ba1 bn1 bc1, s1, .slice la1 ln1 lc1⟩).toArray 62)
  have e1 := rangeAt_new w (rwC ⟨k1, n1, .slice ba1 bn1 bc1, s1, .slice la1 ln1 lc1⟩) 62 (0, 0)
  have hby := bytesOf_eq x
  rw [hk] at hby
  simp only [show ¬ ((4 : Int) = 1) by decide, show ¬ ((4 : Int) = 2) by decide, show ¬ ((4 : Int) = 3) by decide, show ¬ ((4 : Int) = 5) by decide, show ¬ ((4 : Int) = 6) by decide, if_false] at hby
  have hcl : cntL x.l ≤ 1000000 := by cases x; simp only [cnt, It.l] at *; omega
  have hln : ln1 = x.l.length := by obtain ⟨a, c, h⟩ := p.l.cell; simp at h; exact h.2.1
  have hlen := cntL_len x.l
  have hm := fun W (hb : Below w.heap.size w W) => madeB_c S x.l hw hri hcl _ _ rows W (p.l.up hb) (p.each.up hb)
  have hbb := bytesL_le x.l
  rw [bytesL_eq] at hby hbb
  have Hby := Lib.hid hby
  simp only at hm
  subst hln
  clear p hr hby hk hcx hw hri
  generalize x.l.length = n at *
  generalize x.l.map bytesOf = ls at *
  have hbl : n ≤ 1000000 := by omega
  go_enter Tryz.func173, Tryz.ntmps173
  go_wp2
  refine wp_region_pt (fun k => w.heap.size + 1 ≤ k) (.q 0 (.q 1 (.q 2 (.q 3 (.q 6 (.q 7 (.c 4 (.f 5 (.c 8 (.c 9 (.c 10 (.q 11 .done)))) 8 (.c 5 (.c 9 (.c 10 (.q 11 .done)))))))))))) (by kernel_rfl) (by kernel_rfl) (by kernel_rfl) (by decide) (fun _ _ d _ _ h => by cases d <;> exact h) (fun Wd hBd => ?_)
  try simp only [Act.put, List.getElem_toArray, List.getElem_cons_zero, List.getElem_cons_succ, List.setIfInBounds_toArray, List.set_cons_zero, List.set_cons_succ]
  have c1 : ∀ w', But (fun k => w.heap.size + 1 ≤ k) Wd w' → w'.cell? ⟨w.heap.size, 0 + 4, none⟩ = some (.slice la1 n lc1) := fun w' h => h.cell (rangeAt_up hBd e1 4 _ rfl) (by omega)
  iterate 3
    refine pt_q (v := ?_) rfl (by rfl) ?_ ?_
    rotate_left
    · intro w' hBw'
      first | (go_simp; done) | (go_simp; with_reducible rfl)
    try simp only [Act.put, List.getElem_toArray, List.getElem_cons_zero, List.getElem_cons_succ, List.setIfInBounds_toArray, List.set_cons_zero, List.set_cons_succ]
  refine pt_q (v := .int .u64 (n : Int)) rfl (by rfl) (fun w' hBw' => by go_simp; exact wrap_u64 _ hbl) ?_
  iterate 2
    try simp only [Act.put, List.getElem_toArray, List.getElem_cons_zero, List.getElem_cons_succ, List.setIfInBounds_toArray, List.set_cons_zero, List.set_cons_succ]
    refine pt_q (v := ?_) rfl (by rfl) ?_ ?_
    rotate_left
    · intro w' hBw'
      first | (go_simp; done) | (go_simp; with_reducible rfl)
  try simp only [Act.put, List.getElem_toArray, List.getElem_cons_zero, List.getElem_cons_succ, List.setIfInBounds_toArray, List.set_cons_zero, List.set_cons_succ]
  refine pt_c ?_
  refine pt_call rfl (by rfl) (head_c 4 n Wd (by decide) (by decide) (by omega) (by omega)) enters_head (by rfl) (by kernel_rfl) ?_
  rintro en wA ⟨v1, rfl, ho1, hb1⟩
  obtain ⟨a1, c1', rfl⟩ := own_slice ho1
  refine ⟨_, rfl, But.of_below hb1, ?_⟩
  have hBA := below_up (below_up hB1 hBd) hb1
  have hzA := (below_up hBd hb1).size
  simp only [World.size_alloc] at hzA
  obtain ⟨wB, hwB⟩ : ∃ wB, wB = wA := ⟨_, rfl⟩
  try simp only [Act.put, List.getElem_toArray, List.getElem_cons_zero, List.getElem_cons_succ, List.setIfInBounds_toArray, List.set_cons_zero, List.set_cons_succ]
  refine pt_f ?_ ?_
  · refine pt_step rfl (by rfl) (fun K hK => ?_)
    go_simp
    refine hK.out _ _ (But.alloc _ _) ?_
    clear hK K
    try simp only [Act.put, List.getElem_toArray, List.getElem_cons_zero, List.getElem_cons_succ, List.setIfInBounds_toArray, List.set_cons_zero, List.set_cons_succ]
    refine pt_c ?_
    refine pt_call rfl (by rfl) (hm (wA.alloc (.cells #[.slice a1 (headB 4 n).length c1'] 48)) (below_up hBA (below_alloc _ _))) enters_madeB (by rfl) (by kernel_rfl) ?_
    rintro en wM ⟨v2, vs, rfl, ho2, hE, hb2⟩
    obtain ⟨a2, c2, rfl⟩ := own_slice ho2
    refine ⟨_, rfl, But.of_below hb2, ?_⟩
    try simp only [Act.put, List.getElem_toArray, List.getElem_cons_zero, List.getElem_cons_succ, List.setIfInBounds_toArray, List.set_cons_zero, List.set_cons_succ]
    have hzM := hb2.size
    have hrow := own_up (World.ownsRow_lit wA #[.slice a1 (headB 4 n).length c1'] 1 (size := 1) (base := w.heap.size + 1) (e := 48) (by omega) (by decide) rfl) hb2
    have hvs := ho2
    have hEh := own_up (own_up ho1 (below_alloc wA (.cells #[.slice a1 (headB 4 n).length c1'] 48))) hb2
    have hBW := below_up (below_up hBA (below_alloc wA (.cells #[.slice a1 (headB 4 n).length c1'] 48))) hb2
    have hvl : vs.length = n := by have := (Sl.of_own hvs).1; omega
    have hone : ∀ u ∈ vs, u.oneCell' = true := eb_one hE
    have hbase := Nat.le_trans (show w.heap.size + 1 ≤ w.heap.size + 1 from Nat.le_refl _) (show w.heap.size + 1 ≤ _ from (own_size hrow))
    refine pt_c ?_
    refine pt_app2 rfl (by rfl) (.tmp 8) (.tmp 11) 150 rfl slT_bb (w.heap.size + 1) rfl hrow rfl (Sl.of_own hvs) hone (by simp only [maxLen]; omega) (by omega) hbase (fun k h => h) ?_
    intro v3 w3 ho3 hbt3
    try simp only [Act.put, List.getElem_toArray, List.getElem_cons_zero, List.getElem_cons_succ, List.setIfInBounds_toArray, List.set_cons_zero, List.set_cons_succ]
    refine pt_c ?_
    have hS := (EB.slB (eb_app_but hEh hE hrow hbt3) (Sl.of_own ho3))
    refine pt_call rfl (by rfl) (join_c ([headB 4 n] ++ ls) _ _ _ _ hS (by omega) (by have := headB_len 4 n; rw [flat1, List.length_append]; omega)) enters_join (by rfl) (by kernel_rfl) ?_
    rintro en wJ ⟨v4, rfl, ho4, hb4⟩
    refine ⟨_, rfl, But.of_below hb4, ?_⟩
    try simp only [Act.put, List.getElem_toArray, List.getElem_cons_zero, List.getElem_cons_succ, List.setIfInBounds_toArray, List.set_cons_zero, List.set_cons_succ]
    refine pt_q (v := ?_) rfl (by rfl) ?_ ?_
    rotate_left
    · intro w' hBw'
      first | (go_simp; done) | (go_simp; with_reducible rfl)
    try simp only [Act.put, List.getElem_toArray, List.getElem_cons_zero, List.getElem_cons_succ, List.setIfInBounds_toArray, List.set_cons_zero, List.set_cons_succ]
    refine pt_done ?_
    go_wp2
    go_ret
    rw [flat1] at ho4
    have hBJ := below_up (below_but hBW hbt3 (fun k hk => (own_of_some hrow hk).1)) hb4
    refine ⟨_, rfl, ?_, hBJ⟩
    rw [Hby.out]
    exact own_down ho4 (below_but hBW hbt3 (fun k hk => (own_of_some hrow hk).1)).size
  · refine pt_call rfl (by rfl) (hm wA hBA) enters_madeB (by rfl) (by kernel_rfl) ?_
    rintro en wM ⟨v2, vs, rfl, ho2, hE, hb2⟩
    obtain ⟨a2, c2, rfl⟩ := own_slice ho2
    refine ⟨_, rfl, But.of_below hb2, ?_⟩
    try simp only [Act.put, List.getElem_toArray, List.getElem_cons_zero, List.getElem_cons_succ, List.setIfInBounds_toArray, List.set_cons_zero, List.set_cons_succ]
    refine pt_c ?_
    refine pt_step rfl (by rfl) (fun K hK => ?_)
    go_simp
    refine hK.out _ _ (But.alloc _ _) ?_
    clear hK K
    try simp only [Act.put, List.getElem_toArray, List.getElem_cons_zero, List.getElem_cons_succ, List.setIfInBounds_toArray, List.set_cons_zero, List.set_cons_succ]
    have hzM := hb2.size
    have hrow := World.ownsRow_lit wM #[.slice a1 (headB 4 n).length c1'] 1 (size := 1) (base := w.heap.size + 1) (e := 48) (by omega) (by decide) rfl
    have hvs := own_up ho2 (below_alloc wM (.cells #[.slice a1 (headB 4 n).length c1'] 48))
    have hEh := own_up (own_up ho1 hb2) (below_alloc wM (.cells #[.slice a1 (headB 4 n).length c1'] 48))
    have hE := hE.up (below_alloc wM (.cells #[.slice a1 (headB 4 n).length c1'] 48))
    have hBW := below_up (below_up hBA hb2) (below_alloc wM (.cells #[.slice a1 (headB 4 n).length c1'] 48))
    have hvl : vs.length = n := by have := (Sl.of_own hvs).1; omega
    have hone : ∀ u ∈ vs, u.oneCell' = true := eb_one hE
    have hbase := Nat.le_trans (show w.heap.size + 1 ≤ w.heap.size + 1 from Nat.le_refl _) (show w.heap.size + 1 ≤ _ from (own_size hrow))
    refine pt_c ?_
    refine pt_app2 rfl (by rfl) (.tmp 8) (.tmp 11) 150 rfl slT_bb (w.heap.size + 1) rfl hrow rfl (Sl.of_own hvs) hone (by simp only [maxLen]; omega) (by omega) hbase (fun k h => h) ?_
    intro v3 w3 ho3 hbt3
    try simp only [Act.put, List.getElem_toArray, List.getElem_cons_zero, List.getElem_cons_succ, List.setIfInBounds_toArray, List.set_cons_zero, List.set_cons_succ]
    refine pt_c ?_
    have hS := (EB.slB (eb_app_but hEh hE hrow hbt3) (Sl.of_own ho3))
    refine pt_call rfl (by rfl) (join_c ([headB 4 n] ++ ls) _ _ _ _ hS (by omega) (by have := headB_len 4 n; rw [flat1, List.length_append]; omega)) enters_join (by rfl) (by kernel_rfl) ?_
    rintro en wJ ⟨v4, rfl, ho4, hb4⟩
    refine ⟨_, rfl, But.of_below hb4, ?_⟩
    try simp only [Act.put, List.getElem_toArray, List.getElem_cons_zero, List.getElem_cons_succ, List.setIfInBounds_toArray, List.set_cons_zero, List.set_cons_succ]
    refine pt_q (v := ?_) rfl (by rfl) ?_ ?_
    rotate_left
    · intro w' hBw'
      first | (go_simp; done) | (go_simp; with_reducible rfl)
    try simp only [Act.put, List.getElem_toArray, List.getElem_cons_zero, List.getElem_cons_succ, List.setIfInBounds_toArray, List.set_cons_zero, List.set_cons_succ]
    refine pt_done ?_
    go_wp2
    go_ret
    rw [flat1] at ho4
    have hBJ := below_up (below_but hBW hbt3 (fun k hk => (own_of_some hrow hk).1)) hb4
    refine ⟨_, rfl, ?_, hBJ⟩
    rw [Hby.out]
    exact own_down ho4 (below_but hBW hbt3 (fun k hk => (own_of_some hrow hk).1)).size
end Go.Proofs.YtpkonagjnfphkaaGreatDoor
