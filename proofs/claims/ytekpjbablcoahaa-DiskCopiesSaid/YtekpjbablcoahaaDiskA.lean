/-
  A disk: sectors, its map, what waits; contracts of none, fails, done, is, New, num.
-/
import Derived.Test.YtekpjbablcoahaaMapB
import Derived.Test.YtekpjbablcoahaaFork
import Derived.Test.YtekpjbablcoahaaPtM
import Derived.Test.YtekpjbablcoahaaBytes
import Derived.Test.YtekpjbablcoahaaRec
namespace Go.Proofs.Ytekpjbablcoahaa
open Go.RowKit Go.Maps
set_option linter.unusedSimpArgs false
set_option linter.unusedVariables false

namespace Dk
/-- A sector. -/
abbrev Sec := { l : List UInt8 // l.length = 64 }
def zsec : Sec := ⟨List.replicate 64 0, by simp⟩
def find (E : List (Int × Sec)) (k : Int) : Option Sec := (E.find? fun p => decide (p.1 = k)).map (·.2)
/-- What lies in a sector. -/
def lie (E : List (Int × Sec)) (k : Int) : Sec := (find E k).getD zsec
/-- A sector laid. -/
def putF : List (Int × Sec) → Int → Sec → List (Int × Sec)
  | [], k, s => [(k, s)]
  | p :: r, k, s => if p.1 = k then (k, s) :: r else p :: putF r k s
theorem putF_none {E : List (Int × Sec)} {k : Int} {s : Sec} (h : ∀ p ∈ E, p.1 ≠ k) : putF E k s = E ++ [(k, s)] := by
  induction E with
  | nil => rfl
  | cons p r ih => rw [putF, if_neg (h p (by simp)), ih (fun q hq => h q (by simp [hq]))]; rfl
theorem putF_some {E : List (Int × Sec)} {k : Int} {s : Sec} (h : ∃ p ∈ E, p.1 = k) : ∃ a b v, E = a ++ (k, v) :: b ∧ putF E k s = a ++ (k, s) :: b := by
  induction E with
  | nil => obtain ⟨p, hp, _⟩ := h; cases hp
  | cons p r ih =>
    by_cases e : p.1 = k
    · exact ⟨[], r, p.2, by rw [← e]; rfl, by rw [putF, if_pos e]; rfl⟩
    · obtain ⟨q, hq, hk⟩ := h
      have : q ∈ r := by
        rcases List.mem_cons.1 hq with rfl | h
        · exact absurd hk e
        · exact h
      obtain ⟨a, b, v, e1, e2⟩ := ih ⟨q, this, hk⟩
      exact ⟨p :: a, b, v, by rw [e1]; rfl, by rw [putF, if_neg e, e2]; rfl⟩
theorem find_put (E : List (Int × Sec)) (k j : Int) (s : Sec) : find (putF E k s) j = if j = k then some s else find E j := by
  induction E with
  | nil =>
    by_cases h : j = k
    · subst h; simp [find, putF]
    · rw [if_neg h]; simp [find, putF, Ne.symm h]
  | cons p r ih =>
    unfold find at *
    rw [putF]
    by_cases e : p.1 = k
    · rw [if_pos e]
      by_cases h : j = k
      · subst h; simp
      · rw [if_neg h, List.find?_cons, List.find?_cons]
        rw [show decide ((k, s).1 = j) = false by simp [Ne.symm h], show decide (p.1 = j) = false by rw [e]; simp [Ne.symm h]]
    · rw [if_neg e, List.find?_cons]
      by_cases h : p.1 = j
      · rw [show decide (p.1 = j) = true by simp [h]]
        rw [if_neg (by rw [← h]; exact e), List.find?_cons, show decide (p.1 = j) = true by simp [h]]
      · rw [show decide (p.1 = j) = false by simp [h], ih, List.find?_cons, show decide (p.1 = j) = false by simp [h]]
theorem lie_put (E : List (Int × Sec)) (k j : Int) (s : Sec) : lie (putF E k s) j = if j = k then s else lie E j := by
  unfold lie
  rw [find_put]
  split <;> rfl
end Dk
open Dk
abbrev secC (s : Sec) : List Value := by8 s.1
theorem secC_len (s : Sec) : (secC s).length = 64 := by rw [by8_len]; exact s.2
abbrev secV (s : Sec) : Value := .agg (secC s).toArray
abbrev putC (p : Int × Sec) : List Value := .int .i64 p.1 :: secC p.2
theorem putC_len (p : Int × Sec) : (putC p).length = 65 := by rw [List.length_cons, secC_len]
abbrev putV (p : Int × Sec) : Value := .agg (putC p).toArray
abbrev dEnt (p : Int × Sec) : Value × Value := (.int .i64 p.1, secV p.2)
abbrev DMap (w : World) (M : Nat) (E : List (Int × Sec)) : Prop := MapAt Try.prog 3 w M (E.map dEnt)

theorem dkKeyed : Keyed Try.prog 3 := int_keyed Try.underlying3
theorem sec_zero : Try.t76.zero = some (secV zsec) := by kernel_rfl
theorem dlook {w : World} {M : Nat} {E : List (Int × Sec)} (h : DMap w M E) {k : Int} (hk : (Lit.int .i64 k).wf = true) :
    (Instr.lookup 67 (.map (some M)) (.int .i64 k) false).run Try.prog w = .ok (secV (lie E k)) w := by
  have hl := keyOf_int_mk Try.underlying3 hk
  unfold lie
  cases hg : find E k with
  | none =>
    have hz := sec_zero
    refine h.look_none dkKeyed Try.underlying67 (z := secV zsec) (by simp [go_sem, zeroValue, hz]) hl (fun p hp e => ?_) false
    obtain ⟨q, hq, rfl⟩ := List.mem_map.1 hp
    unfold find at hg
    rw [Option.map_eq_none_iff] at hg
    have := List.find?_eq_none.1 hg q hq
    simp only [dEnt, Value.int.injEq, true_and] at e
    exact this (by simp [e])
  | some s =>
    unfold find at hg
    obtain ⟨q, hq, rfl⟩ := Option.map_eq_some_iff.1 hg
    have hm := List.mem_of_find?_eq_some hq
    have he := List.find?_some hq
    simp only [decide_eq_true_eq] at he
    exact h.look_some dkKeyed Try.underlying67 hl (List.mem_map.2 ⟨q, hm, by show (Value.int .i64 q.1, secV q.2) = _; rw [he]; rfl⟩) false
theorem dput {w : World} {M : Nat} {E : List (Int × Sec)} (h : DMap w M E) {k : Int} (s : Sec) (hk : (Lit.int .i64 k).wf = true) :
    ∃ w', (Instr.mapUpdate 67 (.map (some M)) (.int .i64 k) (secV s)).run Try.prog w = .ok () w' ∧ DMap w' M (putF E k s) ∧ But (· = M) w w' := by
  have hl := keyOf_int_mk Try.underlying3 hk
  by_cases hx : ∃ p ∈ E, p.1 = k
  · obtain ⟨a, b, v, e1, e2⟩ := putF_some (s := s) hx
    rw [e2]
    have h' : MapAt Try.prog 3 w M (a.map dEnt ++ (.int .i64 k, secV v) :: b.map dEnt) := by
      have := h
      unfold DMap at this
      rwa [e1, List.map_append, List.map_cons] at this
    obtain ⟨w', h1, h2, h3⟩ := h'.put_old dkKeyed Try.underlying67 (v := secV s) hl
    exact ⟨w', h1, by unfold DMap; rw [List.map_append, List.map_cons]; exact h2, h3⟩
  · have hn : ∀ p ∈ E, p.1 ≠ k := fun p hp e => hx ⟨p, hp, e⟩
    rw [putF_none hn]
    obtain ⟨w', h1, h2, h3⟩ := h.put_new dkKeyed Try.underlying67 (v := secV s) hl (fun p hp e => by
      obtain ⟨q, hq, rfl⟩ := List.mem_map.1 hp
      simp only [dEnt, Value.int.injEq, true_and] at e
      exact hn q hq e)
    exact ⟨w', h1, by unfold DMap; rw [List.map_append]; exact h2, h3⟩

/-- Records of 65 cells do not lie in a row of fewer. -/
theorem Sl.apart65 {w : World} {v : Value} {n H : Nat} {cs : List Value} {rs : Array Value} {T : TypeId} (h : Sl w 65 v n cs) (hr : RowAt w H rs T) (hs : rs.size < 65) : n = 0 ∨ ∀ k, v.ownBlock = some k → k ≠ H := by
  obtain ⟨hl, ⟨a, c, rfl, rfl⟩ | ⟨b, off, cap, rfl, hn, hm, hc⟩⟩ := h
  · exact .inl rfl
  · rcases Nat.eq_zero_or_pos n with h0 | h0
    · exact .inl h0
    · refine .inr fun k hk e => ?_
      have hb : b = k := Option.some.inj hk
      subst hb
      subst e
      have := hc 64 cs[64] (List.getElem?_eq_getElem (by omega))
      simp only [World.cell?, show w.heap[b]? = _ from hr] at this
      rw [Array.getElem?_eq_none (by omega)] at this
      cases this
theorem Sl.apartMap {w : World} {sz n M : Nat} {v : Value} {cs : List Value} {E : List (Int × Sec)} (h : Sl w sz v n cs) (hsz : 0 < sz) (hM : DMap w M E) : n = 0 ∨ ∀ k, v.ownBlock = some k → k ≠ M := by
  rcases Nat.eq_zero_or_pos n with h0 | h0
  · exact .inl h0
  · refine .inr fun k hk e => ?_
    obtain ⟨es, clock, hmm, _⟩ := hM.ex
    have hl := h.1
    rcases h.2 with ⟨a, c, rfl, h1⟩ | ⟨b, off, cap, rfl, hn, hm, hc⟩
    · omega
    · simp only [Value.ownBlock, Option.some.injEq] at hk
      have hp : 0 < n * sz := Nat.mul_pos h0 hsz
      have hc0 := hc 0 cs[0] (List.getElem?_eq_getElem (by omega))
      rw [hk, e] at hc0
      simp [World.cell?, hmm] at hc0
/-- A disk: its variable in block B, its map in block M; how many more calls, how many sectors, what lies, what waits. -/
structure Dk.Disk where
  left : Int
  many : Int
  E : List (Int × Sec)
  W : List (Int × Sec)
structure DiskAt (w : World) (B M : Nat) (u : Value) (d : Disk) : Prop where
  var : RowAt w B #[.int .i64 d.left, .int .i64 d.many, .map (some M), u] 70
  map : DMap w M d.E
  sl : Sl w 65 u d.W.length (d.W.flatMap putC)
  ne : B ≠ M
  keys : ∀ p ∈ d.W, (Lit.int .i64 p.1).wf = true
theorem DiskAt.but {w w' : World} {B M : Nat} {u : Value} {d : Disk} (h : DiskAt w B M u d) {O : Nat → Prop} (hb : But O w w') (hB : ¬ O B) (hM : ¬ O M) (hu : d.W.length = 0 ∨ ∀ k, u.ownBlock = some k → ¬ O k) : DiskAt w' B M u d :=
  ⟨(hb.same B h.var.lt hB).trans h.var, h.map.heap (hb.same M h.map.lt hM), h.sl.but hb hu, h.ne, h.keys⟩
theorem DiskAt.below {w w' : World} {B M : Nat} {u : Value} {d : Disk} (h : DiskAt w B M u d) (hb : Below w.heap.size w w') : DiskAt w' B M u d :=
  h.but (O := fun _ => False) (But.of_below hb) (fun h => h) (fun h => h) (.inr fun _ _ h => h)

theorem dNum_c (e : Int) (w : World) : Calls Try.prog 8 #[.int .i64 e] w (fun en w' => en = .returned (.int .i64 e) ∧ w = w') := by
  go_enter Try.func8, Try.ntmps8
  go_wp2
  go_ret
  exact ⟨rfl, rfl⟩
set_option maxRecDepth 100000 in
theorem dNone_c {B M : Nat} {u : Value} {d : Disk} (w : World) (h : DiskAt w B M u d) : Calls Try.prog 35 #[.pointer (some ⟨B, 0, none⟩)] w fun en w' => en = .returned (.bool false) ∧ w = w' := by
  have hc := h.var.cell (i := 2) (v := .map (some M)) rfl
  have hm := fun w => run_eql_map_nil (P := Try.prog) w 67 _ _ (some M) Try.underlying67
  go_enter Try.func35, Try.ntmps35
  go_wp2
  go_ret
  exact ⟨rfl, rfl⟩
set_option maxRecDepth 100000 in
theorem dNoneNil_c (w : World) : Calls Try.prog 35 #[.pointer none] w fun en w' => en = .returned (.bool true) ∧ w = w' := by
  go_enter Try.func35, Try.ntmps35
  go_wp2
  go_ret
  exact ⟨rfl, rfl⟩
set_option maxRecDepth 100000 in
theorem dNoneZ_c {B : Nat} (w : World) (hc : w.cell? ⟨B, 2, none⟩ = some (.map none)) : Calls Try.prog 35 #[.pointer (some ⟨B, 0, none⟩)] w fun en w' => en = .returned (.bool true) ∧ w = w' := by
  have hm := fun w => run_eql_map_nil (P := Try.prog) w 67 _ _ none Try.underlying67
  go_enter Try.func35, Try.ntmps35
  go_wp2
  go_ret
  exact ⟨rfl, rfl⟩
set_option maxRecDepth 100000 in
theorem dFails_c {B : Nat} (l : Int) (w : World) (hc : w.cell? ⟨B, 0, none⟩ = some (.int .i64 l)) : Calls Try.prog 31 #[.pointer (some ⟨B, 0, none⟩)] w fun en w' => en = .returned (.bool (decide (l = 0))) ∧ w = w' := by
  go_enter Try.func31, Try.ntmps31
  go_wp2
  go_ret
  exact ⟨rfl, rfl⟩
set_option maxRecDepth 100000 in
theorem dNew_c (n : Int) (h1 : 1 ≤ n) (h2 : n ≤ 4096) (w : World) : Calls Try.prog 7 #[.int .i64 n] w fun en w' => en = .returned (.tuple #[.pointer (some ⟨w.heap.size + 1, 0, none⟩), .int .i64 0]) ∧ DiskAt w' (w.heap.size + 1) w.heap.size (.slice none 0 0) ⟨-1, n, [], []⟩ ∧ Below w.heap.size w w' := by
  have hmk := run_makeMap (P := Try.prog) 67 w
  have k1 : ¬ n < 1 := by omega
  have k2 : ¬ 4096 < n := by omega
  go_enter Try.func7, Try.ntmps7
  go_wp2
  refine bodyPost_ret (v := .tuple #[.pointer (some ⟨w.heap.size + 1, 0, none⟩), .int .i64 0]) (by simp [results, Try.results7, go_sem]) rfl ?_
  refine ⟨rfl, ⟨?_, ?_, Sl.nil _ _, by omega, fun m hm => by cases hm⟩, (below_alloc w _).alloc (by simp) _⟩
  · have := RowAt.new (w.alloc (.map #[] 0)) #[.int .i64 (-1), .int .i64 n, .map (some w.heap.size), .slice none 0 0] 70
    rwa [show (w.alloc (.map #[] 0)).heap.size = w.heap.size + 1 by simp] at this
  · exact (MapAt.new w).heap (heap_alloc_old _ _ (MapAt.new (P := Try.prog) (k := 3) w).lt)
set_option maxRecDepth 100000 in
theorem dNewBad_c (n : Int) (h : n < 1 ∨ 4096 < n) (w : World) : Calls Try.prog 7 #[.int .i64 n] w (Ret (.tuple #[.pointer none, .int .i64 2]) w) := by
  by_cases k1 : n < 1
  · go_enter Try.func7, Try.ntmps7
    go_wp2
    exact bodyPost_ret (v := .tuple #[.pointer none, .int .i64 2]) (by simp [results, Try.results7, go_sem]) rfl ⟨rfl, Below.refl _ _⟩
  · have k2 : 4096 < n := by omega
    go_enter Try.func7, Try.ntmps7
    go_wp2
    exact bodyPost_ret (v := .tuple #[.pointer none, .int .i64 2]) (by simp [results, Try.results7, go_sem]) rfl ⟨rfl, Below.refl _ _⟩
end Go.Proofs.Ytekpjbablcoahaa
