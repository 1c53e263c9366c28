/-
  Equality of arrays of integers.
-/
import Derived.Test.YtekpjbablcoahaaBytes
import Derived.Laws.StructEq
namespace Go.Proofs.Ytekpjbablcoahaa
open Go.RowKit
variable {P : Program}

theorem arr_loop (w : World) (l m : List Int) (len : Nat) (hl : l.length = len) (hm : m.length = len) {σ : Type} (body : Nat → Option Bool × σ → Sem (ForInStep (Option Bool × σ))) (post : Option Bool × σ → World → Result Bool) {u : σ}
    (hb : ∀ (j : Nat) (s : Option Bool × σ) (w : World) (h1 : j < l.length) (h2 : j < m.length), (body j s).run P w = if l[j] = m[j] then .ok (.yield (none, u)) w else .ok (.done (some false, u)) w)
    (h0 : ∀ w, post (none, u) w = .ok true w) (h1 : ∀ w, post (some false, u) w = .ok false w) :
    ((forIn (List.range' 0 len 1) (none, u) body).run P w).andThen post = .ok (decide (l = m)) w := by
  suffices h : ∀ (n j : Nat) (w : World), j + n = len → l.take j = m.take j → ((forIn (List.range' j n 1) (none, u) body).run P w).andThen post = .ok (decide (l = m)) w from h len 0 w (by omega) rfl
  intro n
  induction n with
  | zero =>
    intro j w hj ht
    rw [List.take_of_length_le (by omega), List.take_of_length_le (by omega)] at ht
    subst ht
    simp [h0]
  | succ n ih =>
    intro j w hj ht
    rw [List.range'_succ, List.forIn_cons]
    simp only [Sem.run_bind, hb j _ w (by omega) (by omega)]
    by_cases hq : l[j] = m[j]
    · simp only [hq, if_true, Result.andThen_ok]
      exact ih (j + 1) w (by omega) (by rw [List.take_succ_eq_append_getElem (by omega), List.take_succ_eq_append_getElem (by omega), ht, hq])
    · have hne : l ≠ m := fun e => hq (by subst e; rfl)
      simp [hq, hne, h1]
theorem run_equalIn_arr (w : World) (d : Nat) (t e : TypeId) (k : IntKind) (len : Nat) (ht : P.underlying t = some (.array len e)) (he : P.underlying e = some (.int k)) (hs : (P.info? e).map (·.size) = some 1) (l m : List Int) (hl : l.length = len) (hm : m.length = len) :
    (Op.equalIn (d + 2) t (.agg (l.map (Value.int k)).toArray) (.agg (m.map (Value.int k)).toArray)).run P w = .ok (decide (l = m)) w := by
  obtain ⟨ie, hie, hsz⟩ : ∃ ie, P.info? e = some ie ∧ ie.size = 1 := by
    cases hq : P.info? e with
    | none => simp [hq] at hs
    | some ie => exact ⟨ie, rfl, by simpa [hq] using hs⟩
  have hso : ∀ w, (sizeOf e).run P w = .ok 1 w := fun w => by simp [sizeOf, typeInfo, hie, hsz]
  have hag : ∀ w, (isAgg e).run P w = .ok false w := fun w => by unfold isAgg; rw [Sem.run_bind, run_underlying he w]; simp
  have hpart : ∀ (l : List Int) (j : Nat) (w : World) (hj : j < l.length), (part e (l.map (Value.int k)).toArray j).run P w = .ok (.int k l[j]) w := fun l j w hj => by
    simp [part, hag, hj]
  rw [Op.equalIn]
  simp only [Sem.run_bind, run_underlying ht, Result.andThen_ok, hso, Nat.mul_one, Std.Legacy.Range.forIn_eq_forIn_range']
  rw [show [:len].size = len by simp [Std.Legacy.Range.size]]
  refine arr_loop w l m len hl hm _ _ (fun j s w h1 h2 => ?_) (fun w => rfl) (fun w => rfl)
  simp only [Sem.run_bind, hpart l j w (by omega), hpart m j w (by omega), Result.andThen_ok, run_equalIn_int w d e k k _ _ he]
  by_cases hq : l[j] = m[j]
  · simp [hq]
  · simp [hq]
theorem run_equalIn_by8 (w : World) (d : Nat) (t e : TypeId) (len : Nat) (ht : P.underlying t = some (.array len e)) (he : P.underlying e = some (.int .u8)) (hs : (P.info? e).map (·.size) = some 1) (l m : List UInt8) (hl : l.length = len) (hm : m.length = len) :
    (Op.equalIn (d + 2) t (.agg (by8 l).toArray) (.agg (by8 m).toArray)).run P w = .ok (decide (l = m)) w := by
  have e8 : ∀ l : List UInt8, by8 l = (l.map fun x => (x.toNat : Int)).map (Value.int .u8) := fun l => by simp [by8]
  rw [e8, e8, run_equalIn_arr w d t e .u8 len ht he hs _ _ (by simpa using hl) (by simpa using hm)]
  congr 1
  rw [decide_eq_decide]
  constructor
  · intro h
    apply by8_inj
    rw [e8, e8, h]
  · rintro rfl; rfl
end Go.Proofs.Ytekpjbablcoahaa
