/- The plain law of SagaClosed: what a state keeps. -/
import Derived.Test.YtaamjpeehejafaaDoorSagaM
set_option linter.unusedSimpArgs false
set_option linter.unusedVariables false
namespace Go.Proofs.YtaamjpeehejafaaDoor
open Go Go.RowKit

/-- What every state that the records make keeps. -/
structure St.good (s : St) : Prop where
  small : s.plan.steps.length ≤ 64
  edges : ∀ p ∈ s.plan.before, (0 ≤ p.1 ∧ p.1 < s.plan.steps.length) ∧ 0 ≤ p.2 ∧ p.2 < s.plan.steps.length
  dnodup : s.done.Nodup
  onodup : s.opn.Nodup
  apart : ∀ x ∈ s.opn, x ∉ s.done
  drange : ∀ x ∈ s.done, 0 ≤ x ∧ x < s.plan.steps.length
  orange : ∀ x ∈ s.opn, 0 ≤ x ∧ x < s.plan.steps.length
  /-- each done step's befores stand ahead of it -/
  order : ∀ l x r, s.done = l ++ x :: r → ∀ p ∈ s.plan.before, p.2 = x → p.1 ∈ l
  open_ : ∀ x ∈ s.opn, ∀ p ∈ s.plan.before, p.2 = x → p.1 ∈ s.done
theorem good_open {s : St} (h : s.good) (x : Int) (hr : 0 ≤ x ∧ x < s.plan.steps.length) (ho : x ∉ s.opn) (hd : x ∉ s.done) (hw : ∀ p ∈ s.plan.before, p.2 = x → p.1 ∈ s.done) : ({ s with opn := s.opn ++ [x] } : St).good := by
  refine ⟨h.small, h.edges, h.dnodup, ?_, ?_, h.drange, ?_, h.order, ?_⟩
  · exact List.nodup_append.2 ⟨h.onodup, by simp, by intro a ha b hb; simp at hb; subst hb; intro e; subst e; exact ho ha⟩
  · intro y hy; simp at hy; rcases hy with hy | rfl
    · exact h.apart y hy
    · exact hd
  · intro y hy; simp at hy; rcases hy with hy | rfl
    · exact h.orange y hy
    · exact hr
  · intro y hy; simp at hy; rcases hy with hy | rfl
    · exact h.open_ y hy
    · exact hw
/-- the list without one of its members (a plain filter) -/
def less (xs : List Int) (y : Int) : List Int := xs.filter (fun x => !(x == y))
theorem mem_less {xs : List Int} {y x : Int} : x ∈ less xs y ↔ x ∈ xs ∧ x ≠ y := by simp [less]
theorem good_close {s : St} (h : s.good) (x : Int) (ho : x ∈ s.opn) : ({ s with opn := less s.opn x, done := s.done ++ [x] } : St).good := by
  have hx := h.apart x ho
  refine ⟨h.small, h.edges, ?_, h.onodup.filter _, ?_, ?_, ?_, ?_, ?_⟩
  · exact List.nodup_append.2 ⟨h.dnodup, by simp, by intro a ha b hb; simp at hb; subst hb; intro e; subst e; exact hx ha⟩
  · intro y hy hy2
    obtain ⟨h1, h2⟩ := mem_less.1 hy
    simp at hy2
    rcases hy2 with h3 | h3
    · exact h.apart y h1 h3
    · exact h2 h3
  · intro y hy; simp at hy; rcases hy with hy | rfl
    · exact h.drange y hy
    · exact h.orange _ ho
  · intro y hy; exact h.orange y (mem_less.1 hy).1
  · intro l y r he p hp hpy
    replace he : s.done ++ [x] = l ++ y :: r := he
    rcases List.eq_nil_or_concat r with rfl | ⟨r', z, rfl⟩
    · have := List.append_inj' he rfl
      obtain ⟨rfl, h2⟩ := this
      simp at h2; subst h2
      exact h.open_ _ ho p hp hpy
    · rw [List.concat_eq_append, ← List.cons_append, ← List.append_assoc] at he
      have := List.append_inj' he rfl
      exact h.order l y r' this.1 p hp hpy
  · intro y hy p hp hpy
    simp; exact .inl (h.open_ y (mem_less.1 hy).1 p hp hpy)
theorem less_none {xs : List Int} {x : Int} (h : x ∉ xs) : less xs x = xs := by
  rw [less, List.filter_eq_self]; intro a ha
  simp; intro e; subst e; exact h ha
theorem good_undo_open {s : St} (h : s.good) (x : Int) (ho : x ∈ s.opn) : ({ s with opn := less s.opn x, done := less s.done x } : St).good := by
  rw [less_none (h.apart x ho)]
  exact ⟨h.small, h.edges, h.dnodup, h.onodup.filter _, fun y hy => h.apart y (mem_less.1 hy).1, h.drange, fun y hy => h.orange y (mem_less.1 hy).1, h.order, fun y hy => h.open_ y (mem_less.1 hy).1⟩
theorem good_undo_done {s : St} (h : s.good) (l : List Int) (x : Int) (hd : s.done = l ++ [x]) (ho : s.opn = []) : ({ s with opn := less s.opn x, done := less s.done x } : St).good := by
  have hn := h.dnodup
  rw [hd] at hn
  have hx : x ∉ l := by
    intro hx
    exact (List.nodup_append.1 hn).2.2 x hx x (by simp) rfl
  have hl : less s.done x = l := by
    rw [hd, less, List.filter_append]
    have := less_none hx
    rw [less] at this
    rw [this]; simp
  have hs : ∀ y ∈ l, y ∈ s.done := fun y hy => by rw [hd]; simp [hy]
  rw [hl, ho]
  refine ⟨h.small, h.edges, (List.nodup_append.1 hn).1, by simp [less], by simp [less], fun y hy => h.drange y (hs y hy), by simp [less], ?_, by simp [less]⟩
  intro l1 y r he p hp hpy
  replace he : l = l1 ++ y :: r := he
  exact h.order l1 y (r ++ [x]) (by rw [hd, he]; simp) p hp hpy
end Go.Proofs.YtaamjpeehejafaaDoor
