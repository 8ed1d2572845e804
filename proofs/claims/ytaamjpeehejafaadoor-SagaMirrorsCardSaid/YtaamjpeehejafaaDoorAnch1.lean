/- The anchor's data: what the model answers there. -/
import Derived.Test.YtaamjpeehejafaaDoorRef4
set_option linter.unusedSimpArgs false
set_option linter.unusedVariables false
namespace Go.Proofs.YtaamjpeehejafaaDoor
open Go Go.RowKit

def aPlan : Plan := ⟨[], [], [(0, 2), (1, 2)], [(1, 0)]⟩
def aRecs : List Rec := [⟨1, 0, aPlan⟩, ⟨2, 1, Plan.none⟩, ⟨4, 1, Plan.none⟩]
def a1 : St := ⟨1, 1, aPlan, [], []⟩
def a2 : St := ⟨1, 1, aPlan, [1], []⟩
def a3 : St := ⟨1, 2, aPlan, [1], []⟩
def a4 : St := ⟨1, 2, aPlan, [], []⟩
def a5 : St := ⟨1, 5, aPlan, [], []⟩
theorem aTake1 : St.zero.take ⟨1, 0, aPlan⟩ = (a1, 0) := by kernel_rfl
theorem aTake2 : a1.take ⟨2, 1, Plan.none⟩ = (a2, 0) := by kernel_rfl
theorem aTake3 : a2.take ⟨4, 1, Plan.none⟩ = (a3, 0) := by kernel_rfl
theorem aTake4 : a3.take ⟨6, 1, Plan.none⟩ = (a4, 0) := by kernel_rfl
theorem aTake5 : a4.take ⟨8, 0, Plan.none⟩ = (a5, 0) := by kernel_rfl
theorem aTop : topOf a3 = (1, true) := by kernel_rfl
theorem aMay : a3.may 0 = false := by kernel_rfl
theorem aRan {k : Nat} {s : St} (h : Ran aRecs k s) : (k = 0 ∧ s = St.zero) ∨ (k = 1 ∧ s = a1) ∨ (k = 2 ∧ s = a2) ∨ (k = 3 ∧ s = a3) := by
  induction h with
  | zero => exact .inl ⟨rfl, rfl⟩
  | @next k s hk _ ht ih =>
    rcases ih with ⟨rfl, rfl⟩ | ⟨rfl, rfl⟩ | ⟨rfl, rfl⟩ | ⟨rfl, rfl⟩
    · exact .inr (.inl ⟨rfl, congrArg Prod.fst aTake1⟩)
    · exact .inr (.inr (.inl ⟨rfl, congrArg Prod.fst aTake2⟩))
    · exact .inr (.inr (.inr ⟨rfl, congrArg Prod.fst aTake3⟩))
    · exact absurd hk (by decide)
theorem aEnd {k : Nat} {s : St} {er : Int} (h : Ran aRecs k s) (he : k = aRecs.length ∧ er = 0 ∨ ErrAt aRecs k s er) : k = 3 ∧ s = a3 ∧ er = 0 := by
  rcases he with ⟨rfl, rfl⟩ | ⟨hk, h1, h2⟩
  · rcases aRan h with ⟨h, _⟩ | ⟨h, _⟩ | ⟨h, _⟩ | ⟨_, h⟩
    · exact absurd h (by decide)
    · exact absurd h (by decide)
    · exact absurd h (by decide)
    · exact ⟨rfl, h, rfl⟩
  · exfalso
    rcases aRan h with ⟨rfl, rfl⟩ | ⟨rfl, rfl⟩ | ⟨rfl, rfl⟩ | ⟨rfl, rfl⟩
    · exact h2 (h1.trans (congrArg Prod.snd aTake1))
    · exact h2 (h1.trans (congrArg Prod.snd aTake2))
    · exact h2 (h1.trans (congrArg Prod.snd aTake3))
    · exact absurd hk (by decide)
end Go.Proofs.YtaamjpeehejafaaDoor
