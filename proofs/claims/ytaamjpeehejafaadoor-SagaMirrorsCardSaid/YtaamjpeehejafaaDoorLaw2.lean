/- The plain law of SagaClosed: a record that is taken keeps it. -/
import Derived.Test.YtaamjpeehejafaaDoorRef4
import Derived.Test.YtaamjpeehejafaaDoorLaw1
set_option linter.unusedSimpArgs false
set_option linter.unusedVariables false
namespace Go.Proofs.YtaamjpeehejafaaDoor
open Go Go.RowKit

theorem good_begin (s : St) (r : Rec) (h : r.plan.begins = true) : ({ number := s.number + 1, phase := 1, plan := r.plan, opn := [], done := [] } : St).good := by
  have h0 : chk r.plan.steps.length r.plan.before = 0 := by
    unfold Plan.begins at h
    simp only [Bool.and_eq_true, beq_iff_eq] at h
    have h1 := h.1.1
    unfold orderE at h1
    split at h1
    · rename_i hc; first | exact hc | (exact absurd h1 hc)
    · first | assumption | (rename_i hc; exact absurd h1 hc)
  obtain ⟨_, h1, _, h2⟩ := chk_ok h0
  exact ⟨by simp only; omega, fun p hp => by have := h2 p hp; simp only; omega, by simp, by simp, by simp, by simp, by simp, by intro l x r' he; simp at he, by simp⟩
theorem take_ask {s : St} {r : Rec} (h : (s.take r).2 = 0) : r.formed = true ∧ when r.kind s.phase = true ∧ s.ask r = 0 := by
  unfold St.take at h
  split at h
  · simp at h
  split at h
  · simp at h
  split at h
  · rename_i a b c; exact ⟨by simpa using a, by simpa using b, c⟩
  · rename_i a b c; exact absurd h c
theorem has_mem {xs : List Int} {x : Int} : has xs x = true ↔ x ∈ xs := by
  unfold has; simp
theorem may_ok {s : St} {k : Int} (h : s.may k = true) : (0 ≤ k ∧ k < s.plan.steps.length) ∧ k ∉ s.opn ∧ k ∉ s.done ∧ ∀ p ∈ s.plan.before, p.2 = k → p.1 ∈ s.done := by
  unfold St.may at h
  split at h
  · cases h
  rename_i h1
  split at h
  · cases h
  rename_i h2
  simp only at h
  split at h
  · cases h
  rw [Bool.not_eq_true', List.any_eq_false] at h
  refine ⟨by omega, fun hm => h2 (.inl (has_mem.2 hm)), fun hm => h2 (.inr (has_mem.2 hm)), fun p hp hk => ?_⟩
  have := h p hp
  unfold St.waits at this
  cases hh : has s.done p.1 with
  | true => exact has_mem.1 hh
  | false => rw [hh, hk] at this; simp at this
theorem good_phase {s : St} (h : s.good) (ph : Int) : ({ s with phase := ph } : St).good := ⟨h.small, h.edges, h.dnodup, h.onodup, h.apart, h.drange, h.orange, h.order, h.open_⟩
theorem good_take {s : St} {r : Rec} (h : s.good) (ht : (s.take r).2 = 0) : (s.take r).1.good := by
  obtain ⟨hf, _, ha⟩ := take_ask ht
  obtain ⟨k1, k2⟩ := formed_kind hf
  rw [St.take_ok ht]
  show (s.step r).good
  unfold St.ask at ha
  unfold St.step
  by_cases c1 : r.kind = 1
  · rw [if_pos c1] at ha ⊢
    refine good_begin s r ?_
    unfold St.ask1 at ha; split at ha
    · assumption
    · cases ha
  rw [if_neg c1] at ha ⊢
  by_cases c2 : r.kind = 2
  · rw [if_pos c2] at ha ⊢
    unfold St.ask2 at ha; split at ha
    · rename_i hm
      obtain ⟨m1, m2, m3, m4⟩ := may_ok hm
      exact good_open h r.step m1 m2 m3 m4
    · cases ha
  rw [if_neg c2] at ha ⊢
  by_cases c3 : r.kind = 3
  · rw [if_pos (.inl c3)] at ha
    rw [if_pos c3]
    unfold St.ask3 at ha; split at ha
    · rename_i hm; exact good_close h r.step (has_mem.1 hm)
    · cases ha
  rw [if_neg c3]
  by_cases c4 : r.kind = 4 ∨ r.kind = 5
  · rw [if_pos c4]; exact good_phase h 2
  rw [if_neg c4]
  by_cases c6 : r.kind = 6
  · rw [if_pos c6]
    rw [if_neg (by omega), if_neg (by omega), if_pos c6] at ha
    unfold St.ask6 at ha; split at ha
    · rename_i hm
      simp only [Bool.and_eq_true, beq_iff_eq] at hm
      obtain ⟨hm1, hm2⟩ := hm
      unfold topOf at hm1 hm2
      split at hm1
      · rename_i hp
        rw [if_pos hp] at hm2
        cases ho : s.opn.getLast? with
        | some k =>
          rw [ho] at hm2
          have : k = r.step := hm2
          subst this
          exact good_undo_open h _ (List.mem_of_getLast? ho)
        | none =>
          have he : s.opn = [] := by simpa using ho
          rw [ho] at hm1 hm2
          cases hd : s.done.getLast? with
          | none => rw [hd] at hm1; cases hm1
          | some k =>
            rw [hd] at hm2
            have : k = r.step := hm2
            subst this
            obtain ⟨l, hl⟩ := List.getLast?_eq_some_iff.1 hd
            exact good_undo_done h l _ hl he
      · cases hm1
    · cases ha
  rw [if_neg c6]
  split
  · exact good_phase h 3
  · exact good_phase h _
theorem good_zero : St.zero.good := ⟨by decide, by simp [St.zero, Plan.none], by simp [St.zero], by simp [St.zero], by simp [St.zero], by simp [St.zero], by simp [St.zero], by intro l x r he; simp [St.zero] at he, by simp [St.zero]⟩
end Go.Proofs.YtaamjpeehejafaaDoor
