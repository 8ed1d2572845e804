/- The plain law of SagaClosed: the masks. -/
import Derived.Test.YtaamjpeehejafaaDoorLaw3
set_option linter.unusedSimpArgs false
set_option linter.unusedVariables false
namespace Go.Proofs.YtaamjpeehejafaaDoor
open Go Go.RowKit

theorem setOf_ext {xs ys : List Int} (hx : ∀ k ∈ xs, 0 ≤ k ∧ k < 64) (hy : ∀ k ∈ ys, 0 ≤ k ∧ k < 64) (h : ∀ k, k ∈ xs ↔ k ∈ ys) : setOf xs = setOf ys := by
  apply BitVec.eq_of_getLsbD_eq
  intro i _
  rw [setOf_get xs hx, setOf_get ys hy]
  simp [h]
theorem good_reached {s : St} (h : s.good) : setOf (s.opn ++ s.done) = setOf (s.done ++ s.opn) := by
  have hr : ∀ k, k ∈ s.opn ∨ k ∈ s.done → 0 ≤ k ∧ k < 64 := by
    intro k hk
    have := h.small
    rcases hk with hk | hk
    · have := h.orange k hk; omega
    · have := h.drange k hk; omega
  exact setOf_ext (fun k hk => hr k (by simpa using hk)) (fun k hk => hr k (by simp at hk; exact hk.symm)) (fun k => by simp [or_comm])
theorem nodup_next {xs : List Int} (hr : ∀ k ∈ xs, 0 ≤ k ∧ k < 64) (hn : xs.Nodup) (j : Nat) (hj : j < xs.length) : bit (setOf (xs.take j)) xs[j].toNat = false := by
  have h1 : ¬ bit (setOf (xs.take j)) xs[j].toNat = true := by
    rw [bit_setOf (fun k hk => hr k (List.mem_of_mem_take hk)) (hr _ (List.getElem_mem hj)).1]
    intro hm
    obtain ⟨i, hi, he⟩ := List.getElem_of_mem hm
    rw [List.getElem_take] at he
    have h2 : i < j := by simp at hi; omega
    exact List.pairwise_iff_getElem.1 hn i j (by omega) hj h2 he
  simpa using h1
end Go.Proofs.YtaamjpeehejafaaDoor
