/- The plain law of SagaMirrors: a play forward and back. -/
import Derived.Test.YtaamjpeehejafaaDoorLaw4
set_option linter.unusedSimpArgs false
set_option linter.unusedVariables false
namespace Go.Proofs.YtaamjpeehejafaaDoor
open Go Go.RowKit

def mir (p : Plan) (ph : Int) (o D : List Int) : St := ⟨1, ph, p, o, D⟩
theorem take_mk {s : St} {r : Rec} (h1 : r.formed = true) (h2 : when r.kind s.phase = true) (h3 : s.ask r = 0) : s.take r = (s.step r, 0) := by
  unfold St.take; rw [if_neg (by rw [h1]; decide), if_neg (by rw [h2]; decide), if_pos h3]
theorem bare_none : Plan.none.bare = true := by decide
theorem formed_step (k x : Int) (h : k = 2 ∨ k = 3 ∨ k = 6) : Rec.formed ⟨k, x, Plan.none⟩ = true := by
  unfold Rec.formed stepped
  simp only [bare_none]
  rcases h with rfl | rfl | rfl <;> simp
theorem mir_begin {p : Plan} (h : (St.zero.take ⟨1, 0, p⟩).2 = 0) : St.zero.take ⟨1, 0, p⟩ = (mir p 1 [] [], 0) := by
  rw [St.take_ok h]; rfl
theorem mir_begin_good {p : Plan} (h : (St.zero.take ⟨1, 0, p⟩).2 = 0) : (mir p 1 [] []).good := by
  have := good_take (r := ⟨1, 0, p⟩) good_zero h
  rw [mir_begin h] at this; exact this
theorem mir_begin_len {p : Plan} (h : (St.zero.take ⟨1, 0, p⟩).2 = 0) : p.steps.length ≤ 36 := by
  obtain ⟨_, _, ha⟩ := take_ask h
  unfold St.ask at ha
  rw [if_pos rfl] at ha
  unfold St.ask1 at ha
  split at ha
  · rename_i hb
    unfold Plan.begins at hb
    simp only [Bool.and_eq_true, decide_eq_true_eq] at hb
    omega
  · cases ha
theorem mir_open {p : Plan} {D : List Int} {x : Int} (h : (mir p 1 [] D).may x = true) : (mir p 1 [] D).take ⟨2, x, Plan.none⟩ = (mir p 1 [x] D, 0) := by
  rw [take_mk (formed_step 2 x (.inl rfl)) (by simp [when, mir]) (by simp [St.ask, St.ask2, h])]
  rfl
theorem has_one (x : Int) : has [x] x = true := has_mem.2 (by simp)
theorem without_one (x : Int) : without [x] x = [] := by simp [without]
theorem mir_close {p : Plan} {D : List Int} {x : Int} : (mir p 1 [x] D).take ⟨3, x, Plan.none⟩ = (mir p 1 [] (D ++ [x]), 0) := by
  rw [take_mk (formed_step 3 x (.inr (.inl rfl))) (by simp [when, mir]) (by simp [St.ask, St.ask3, mir, has_one])]
  simp [St.step, mir, without_one]
theorem mir_abort {p : Plan} {D : List Int} : (mir p 1 [] D).take ⟨5, 0, Plan.none⟩ = (mir p 2 [] D, 0) := by
  rw [take_mk (by unfold Rec.formed stepped; simp only [bare_none]; simp) (by simp [when, mir]) (by simp [St.ask])]
  simp [St.step, mir]
theorem mir_next_good {p : Plan} {D : List Int} {x : Int} (hg : (mir p 1 [] D).good) (h : (mir p 1 [] D).may x = true) : (mir p 1 [] (D ++ [x])).good := by
  have h1 := good_take (r := ⟨2, x, Plan.none⟩) hg (by rw [mir_open h])
  rw [mir_open h] at h1
  have h2 := good_take (s := mir p 1 [x] D) (r := ⟨3, x, Plan.none⟩) h1 (by rw [mir_close])
  rw [mir_close] at h2
  exact h2
theorem mir_top {p : Plan} {D : List Int} {x : Int} : topOf (mir p 2 [] (D ++ [x])) = (x, true) := by
  simp [topOf, mir]
theorem without_last {D : List Int} {x : Int} (h : (D ++ [x]).Nodup) : without (D ++ [x]) x = D := by
  have hx : x ∉ D := fun hx => (List.nodup_append.1 h).2.2 x hx x (by simp) rfl
  rw [without, List.filter_append]
  have : D.filter (fun y => !(y == x)) = D := by
    rw [List.filter_eq_self]; intro a ha
    simp; intro e; subst e; exact hx ha
  rw [this]; simp
theorem mir_undo {p : Plan} {D : List Int} {x : Int} (hg : (mir p 2 [] (D ++ [x])).good) : (mir p 2 [] (D ++ [x])).take ⟨6, x, Plan.none⟩ = (mir p 2 [] D, 0) := by
  rw [take_mk (formed_step 6 x (.inr (.inr rfl))) (by simp [when, mir]) (by simp [St.ask, St.ask6, mir_top])]
  simp [St.step, mir]
  exact ⟨by simp [without], without_last hg.dnodup⟩
theorem mir_undo_good {p : Plan} {D : List Int} {x : Int} (hg : (mir p 2 [] (D ++ [x])).good) : (mir p 2 [] D).good := by
  have h1 := good_take (r := ⟨6, x, Plan.none⟩) hg (by rw [mir_undo hg])
  rw [mir_undo hg] at h1; exact h1
theorem mir_ends {p : Plan} : (mir p 2 [] []).ends = true := by simp [St.ends, mir]
/-- what the play writes down of the way there -/
def setsOf (D : List Int) : List (BitVec 64) := (List.range D.length).map fun i => setOf (D.take i)
theorem setsOf_len (D : List Int) : (setsOf D).length = D.length := by simp [setsOf]
theorem setsOf_snoc (D : List Int) (x : Int) : setsOf (D ++ [x]) = setsOf D ++ [setOf D] := by
  unfold setsOf
  rw [List.length_append, List.length_singleton, List.range_succ, List.map_append]
  congr 1
  · apply List.map_congr_left
    intro i hi
    have := List.mem_range.1 hi
    rw [List.take_append_of_le_length (by omega)]
  · simp
theorem setsOf_get (D : List Int) (i : Nat) (h : i < D.length) : (setsOf D)[i]'(by rw [setsOf_len]; exact h) = setOf (D.take i) := by simp [setsOf]
/-- the steps that may be begun -/
def mayList (s : St) (k : Nat) : List Int := ((List.range k).map (fun i : Nat => (i : Int))).filter s.may
theorem mayList_zero (s : St) : mayList s 0 = [] := rfl
theorem mayList_yes {s : St} {k : Nat} (h : s.may (k : Int) = true) : mayList s (k + 1) = mayList s k ++ [(k : Int)] := by
  simp [mayList, List.range_succ, h]
theorem mayList_no {s : St} {k : Nat} (h : s.may (k : Int) = false) : mayList s (k + 1) = mayList s k := by
  simp [mayList, List.range_succ, h]
theorem mayList_len (s : St) (k : Nat) : (mayList s k).length ≤ k := by
  have := List.length_filter_le s.may ((List.range k).map (fun i : Nat => (i : Int)))
  simpa [mayList] using this
theorem mayList_may {s : St} {k : Nat} {x : Int} (h : x ∈ mayList s k) : s.may x = true := (List.mem_filter.1 h).2
end Go.Proofs.YtaamjpeehejafaaDoor
