/- The plain law of SagaClosed: the checks hold of a good state. -/
import Derived.Test.YtaamjpeehejafaaDoorLaw2
set_option linter.unusedSimpArgs false
set_option linter.unusedVariables false
namespace Go.Proofs.YtaamjpeehejafaaDoor
open Go Go.RowKit

theorem closed_of {es : List (Int × Int)} {b : BitVec 64} (h : ∀ p ∈ es, bit b p.2.toNat = true → bit b p.1.toNat = true) : closedB es b = true := by
  unfold closedB
  rw [Bool.not_eq_true', List.any_eq_false]
  intro p hp
  unfold edge
  cases h2 : bit b p.2.toNat with
  | false => simp
  | true => simp [h p hp h2]
theorem bit_setOf {xs : List Int} (h : ∀ k ∈ xs, 0 ≤ k ∧ k < 64) {x : Int} (hx : 0 ≤ x) : bit (setOf xs) x.toNat = true ↔ x ∈ xs := by
  unfold bit
  rw [setOf_get xs h, decide_eq_true_eq]
  have : ((x.toNat : Nat) : Int) = x := by omega
  rw [this]
/-- a set of steps that holds the befores of each of its own is closed -/
theorem closed_list {s : St} (h : s.good) (xs : List Int) (hx : ∀ x ∈ xs, 0 ≤ x ∧ x < s.plan.steps.length) (hc : ∀ x ∈ xs, ∀ p ∈ s.plan.before, p.2 = x → p.1 ∈ xs) : closedB s.plan.before (setOf xs) = true := by
  have hr : ∀ k ∈ xs, 0 ≤ k ∧ k < 64 := fun k hk => by have := hx k hk; have := h.small; omega
  refine closed_of fun p hp hb => ?_
  obtain ⟨⟨e1, _⟩, e2, _⟩ := h.edges p hp
  rw [bit_setOf hr e1]
  rw [bit_setOf hr e2] at hb
  exact hc _ hb p hp rfl
theorem good_done_closed {s : St} (h : s.good) : closedB s.plan.before (setOf s.done) = true := by
  refine closed_list h s.done h.drange fun x hx p hp hpx => ?_
  obtain ⟨l, r, he⟩ := List.append_of_mem hx
  have := h.order l x r he p hp hpx
  rw [he]; simp [this]
theorem good_open_closed {s : St} (h : s.good) (x : Int) (hx : x ∈ s.opn) : closedB s.plan.before (setOf (s.done ++ [x])) = true := by
  refine closed_list h _ ?_ fun y hy p hp hpy => ?_
  · intro y hy; simp at hy; rcases hy with hy | rfl
    · exact h.drange y hy
    · exact h.orange _ hx
  · simp at hy ⊢
    rcases hy with hy | rfl
    · obtain ⟨l, r, he⟩ := List.append_of_mem hy
      have := h.order l y r he p hp hpy
      left; rw [he]; simp [this]
    · exact .inl (h.open_ _ hx p hp hpy)
theorem good_all_closed {s : St} (h : s.good) : closedB s.plan.before (setOf (s.done ++ s.opn)) = true := by
  refine closed_list h _ ?_ fun y hy p hp hpy => ?_
  · intro y hy; simp at hy; rcases hy with hy | hy
    · exact h.drange y hy
    · exact h.orange _ hy
  · simp at hy ⊢
    rcases hy with hy | hy
    · obtain ⟨l, r, he⟩ := List.append_of_mem hy
      have := h.order l y r he p hp hpy
      left; rw [he]; simp [this]
    · exact .inl (h.open_ _ hy p hp hpy)
end Go.Proofs.YtaamjpeehejafaaDoor
