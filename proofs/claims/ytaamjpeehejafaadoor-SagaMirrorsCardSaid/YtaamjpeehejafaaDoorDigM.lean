/- The graph's plain functions. -/
import Derived.Test.YtaamjpeehejafaaDoorBv
set_option linter.unusedSimpArgs false
set_option linter.unusedVariables false
namespace Go.Proofs.YtaamjpeehejafaaDoor
open Go Go.RowKit

def Es := List (Int × Int)
def badE (n : Int) (e : Int × Int) : Bool := decide (min e.1 e.2 < 0) || decide (max e.1 e.2 ≥ n)
/-- digraph.Graph.Check -/
def chk (n : Int) (es : List (Int × Int)) : Int := if n < 0 ∨ n > 64 ∨ (es.length : Int) > 4096 then 20 else if es.any (badE n) then 20 else 0
def aheadOf (es : List (Int × Int)) (i : Nat) : BitVec 64 := es.foldl (fun s e => if e.2 = (i : Int) then s ||| one e.1.toNat else s) 0#64
def u64s (l : List (BitVec 64)) : List Value := l.map fun b => .int .u64 (nb b : Int)
theorem u64s_len (l : List (BitVec 64)) : (u64s l).length = l.length := by simp [u64s]
theorem u64s_get (l : List (BitVec 64)) (j : Nat) (h : j < l.length) : (u64s l)[j]? = some (.int .u64 (nb l[j] : Int)) := by simp [u64s, h]
theorem u64s_one (l : List (BitVec 64)) : ∀ u ∈ u64s l, u.oneCell' = true := by
  intro u hu; obtain ⟨b, _, rfl⟩ := List.mem_map.1 hu; rfl
def aheads (n : Nat) (es : List (Int × Int)) : List (BitVec 64) := (List.range n).map (aheadOf es)
theorem aheads_len (n : Nat) (es : List (Int × Int)) : (aheads n es).length = n := by simp [aheads]
theorem aheads_get (n : Nat) (es : List (Int × Int)) (i : Nat) (h : i < n) : (aheads n es)[i]'(by rw [aheads_len]; exact h) = aheadOf es i := by simp [aheads]
theorem chk_ok {n : Int} {es : List (Int × Int)} (h : chk n es = 0) : 0 ≤ n ∧ n ≤ 64 ∧ (es.length : Int) ≤ 4096 ∧ ∀ e ∈ es, 0 ≤ e.1 ∧ 0 ≤ e.2 ∧ e.1 < n ∧ e.2 < n := by
  unfold chk at h
  by_cases h1 : n < 0 ∨ n > 64 ∨ (es.length : Int) > 4096
  · rw [if_pos h1] at h; cases h
  · rw [if_neg h1] at h
    cases h2 : es.any (badE n) with
    | true => rw [h2] at h; simp at h
    | false =>
      refine ⟨by omega, by omega, by omega, fun e he => ?_⟩
      have := List.any_eq_false.1 h2 e he
      simp only [badE, Bool.or_eq_true, decide_eq_true_eq, not_or] at this
      omega
theorem aheadOf_snoc (es : List (Int × Int)) (k : Nat) (h : k < es.length) (i : Nat) : aheadOf (es.take (k + 1)) i = if es[k].2 = (i : Int) then aheadOf (es.take k) i ||| one es[k].1.toNat else aheadOf (es.take k) i := by
  unfold aheadOf; rw [List.take_succ_eq_append_getElem h, List.foldl_append]; rfl
theorem aheads_nil (n : Nat) : aheads n [] = List.replicate n 0#64 := by
  apply List.ext_getElem
  · simp [aheads]
  · intro i h1 h2; simp [aheads, aheadOf]
theorem u64s_zero (n : Nat) : u64s (List.replicate n 0#64) = List.replicate n (.int .u64 0) := by
  simp [u64s, nb_zero]
theorem aheads_snoc (n : Nat) (es : List (Int × Int)) (k : Nat) (h : k < es.length) (x0 x1 : Nat) (h0 : es[k] = ((x0 : Int), (x1 : Int))) (hx : x1 < n) :
    (u64s (aheads n (es.take k))).set x1 (.int .u64 (nb (aheadOf (es.take k) x1 ||| one x0) : Int)) = u64s (aheads n (es.take (k + 1))) := by
  apply List.ext_getElem?
  intro j
  rw [List.getElem?_set]
  by_cases hj : j < n
  · have e1 : (u64s (aheads n (es.take k)))[j]? = some (.int .u64 (nb (aheadOf (es.take k) j) : Int)) := by
      rw [u64s_get _ j (by rw [aheads_len]; exact hj)]; rw [aheads_get n _ j hj]
    have e2 : (u64s (aheads n (es.take (k + 1))))[j]? = some (.int .u64 (nb (aheadOf (es.take (k + 1)) j) : Int)) := by
      rw [u64s_get _ j (by rw [aheads_len]; exact hj)]; rw [aheads_get n _ j hj]
    rw [e1, e2, aheadOf_snoc es k h j, h0]
    by_cases he : x1 = j
    · subst he
      rw [if_pos rfl, if_pos (by rw [u64s_len, aheads_len]; exact hj), if_pos rfl, Int.toNat_natCast]
    · rw [if_neg he, if_neg (by simp only; omega)]
  · have hl : ∀ es, (u64s (aheads n es)).length = n := fun es => by rw [u64s_len, aheads_len]
    rw [List.getElem?_eq_none (by rw [hl]; omega), List.getElem?_eq_none (by rw [hl]; omega), if_neg (by omega)]
/-- digraph.Graph.ready -/
def mayNext (es : List (Int × Int)) (s : BitVec 64) (i : Nat) : Bool := !bit s i && (aheadOf es i &&& ~~~s == 0#64)
def readyTo (es : List (Int × Int)) (s : BitVec 64) : Nat → BitVec 64
  | 0 => 0#64
  | k + 1 => if mayNext es s k then readyTo es s k ||| one k else readyTo es s k
end Go.Proofs.YtaamjpeehejafaaDoor
