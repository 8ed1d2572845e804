/- Contracts: the anchor's walk. -/
import Derived.Test.YtaamjpeehejafaaDoorAnch2
import Derived.Deep.Cut
set_option linter.unusedSimpArgs false
set_option linter.unusedVariables false
namespace Go.Proofs.YtaamjpeehejafaaDoor
open Go Go.RowKit

theorem four_new (w : World) (o1 o2 o3 o4 : Obj) : ((((w.alloc o1).alloc o2).alloc o3).alloc o4).heap[w.heap.size]? = some o1 ∧ ((((w.alloc o1).alloc o2).alloc o3).alloc o4).heap[w.heap.size + 1]? = some o2 ∧ ((((w.alloc o1).alloc o2).alloc o3).alloc o4).heap[w.heap.size + 1 + 1 + 1]? = some o4 := by
  obtain ⟨h1, h2, _⟩ := three_new w o1 o2 o3
  refine ⟨?_, ?_, ?_⟩
  · rw [Below.heap_alloc _ _ _ (by simp; omega)]; exact h1
  · rw [Below.heap_alloc _ _ _ (by simp)]; exact h2
  · have := heap_alloc_new (((w.alloc o1).alloc o2).alloc o3) o4
    simpa using this
theorem bd3 : a3.bd := ⟨⟨by decide, by decide, by decide, by decide⟩, by decide, by decide⟩
theorem bd4 : a4.bd := ⟨⟨by decide, by decide, by decide, by decide⟩, by decide, by decide⟩
theorem bd5 : a5.bd := ⟨⟨by decide, by decide, by decide, by decide⟩, by decide, by decide⟩
theorem bd0 : Plan.none.bd := ⟨by decide, by decide, by decide, by decide⟩
theorem aTopC (A1 : Option Addr) (c1 : Nat) (A2 : Option Addr) (c2 : Nat) (A3 : Option Addr) (c3 : Nat) (A4 : Option Addr) (c4 : Nat) (A5 : Option Addr) (c5 : Nat) (A6 : Option Addr) (c6 : Nat) (w : World) (h : RSt w (.slice A1 0 c1) (.slice A2 0 c2) (.slice A3 2 c3) (.slice A4 1 c4) (.slice A5 1 c5) (.slice A6 0 c6) a3) : Calls Tryd.prog 14 #[.agg #[.int .i64 1, .int .i64 2, .slice A1 0 c1, .slice A2 0 c2, .slice A3 2 c3, .slice A4 1 c4, .slice A5 1 c5, .slice A6 0 c6]] w fun e w' => e = .returned (.tuple #[.int .i64 1, .bool true]) ∧ Below w.heap.size w w' :=
  top_c 1 _ _ _ _ _ _ a3 w h
theorem aMayC (A1 : Option Addr) (c1 : Nat) (A2 : Option Addr) (c2 : Nat) (A3 : Option Addr) (c3 : Nat) (A4 : Option Addr) (c4 : Nat) (A5 : Option Addr) (c5 : Nat) (A6 : Option Addr) (c6 : Nat) (w : World) (h : RSt w (.slice A1 0 c1) (.slice A2 0 c2) (.slice A3 2 c3) (.slice A4 1 c4) (.slice A5 1 c5) (.slice A6 0 c6) a3) : Calls Tryd.prog 13 #[.agg #[.int .i64 1, .int .i64 2, .slice A1 0 c1, .slice A2 0 c2, .slice A3 2 c3, .slice A4 1 c4, .slice A5 1 c5, .slice A6 0 c6], .int .i64 0] w fun e w' => e = .returned (.bool false) ∧ Below w.heap.size w w' :=
  (may_c 0 1 2 _ _ _ _ _ _ a3 w h rfl).mono fun e w' ⟨he, hb⟩ => ⟨by rw [he, aMay], hb⟩
theorem aTake6C (A1 : Option Addr) (c1 : Nat) (A2 : Option Addr) (c2 : Nat) (A3 : Option Addr) (c3 : Nat) (A4 : Option Addr) (c4 : Nat) (A5 : Option Addr) (c5 : Nat) (A6 : Option Addr) (c6 : Nat) (w : World) (h : RSt w (.slice A1 0 c1) (.slice A2 0 c2) (.slice A3 2 c3) (.slice A4 1 c4) (.slice A5 1 c5) (.slice A6 0 c6) a3) (hT : Tab w) : Calls Tryd.prog 8 #[.agg #[.int .i64 1, .int .i64 2, .slice A1 0 c1, .slice A2 0 c2, .slice A3 2 c3, .slice A4 1 c4, .slice A5 1 c5, .slice A6 0 c6], .agg #[.int .i64 6, .int .i64 1, .slice none 0 0, .slice none 0 0, .slice none 0 0, .slice none 0 0]] w fun e w' => ∃ A1 c1 A2 c2 A3 c3 A4 c4 A5 c5 A6 c6, e = .returned (.tuple #[.agg #[.int .i64 1, .int .i64 2, .slice A1 0 c1, .slice A2 0 c2, .slice A3 2 c3, .slice A4 1 c4, .slice A5 0 c5, .slice A6 0 c6], .int .i64 0]) ∧ RowSt w' w.heap.size (.slice A1 0 c1) (.slice A2 0 c2) (.slice A3 2 c3) (.slice A4 1 c4) (.slice A5 0 c5) (.slice A6 0 c6) a4 ∧ Below w.heap.size w w' := by
  refine (take_c _ _ _ _ _ _ _ _ _ _ a3 ⟨6, 1, Plan.none⟩ w h (RPlan.nil w) hT bd0 bd3 bd4 (by decide)).mono ?_
  rw [aTake4]
  rintro e w' ⟨u1, u2, u3, u4, u5, u6, rfl, hrow, hb⟩
  obtain ⟨A1, c1, A2, c2, A3, c3, A4, c4, A5, c5, A6, c6, rfl, rfl, rfl, rfl, rfl, rfl⟩ := hrow.slices
  exact ⟨A1, c1, A2, c2, A3, c3, A4, c4, A5, c5, A6, c6, rfl, hrow, hb⟩
theorem aTake8C (A1 : Option Addr) (c1 : Nat) (A2 : Option Addr) (c2 : Nat) (A3 : Option Addr) (c3 : Nat) (A4 : Option Addr) (c4 : Nat) (A5 : Option Addr) (c5 : Nat) (A6 : Option Addr) (c6 : Nat) (w : World) (h : RSt w (.slice A1 0 c1) (.slice A2 0 c2) (.slice A3 2 c3) (.slice A4 1 c4) (.slice A5 0 c5) (.slice A6 0 c6) a4) (hT : Tab w) : Calls Tryd.prog 8 #[.agg #[.int .i64 1, .int .i64 2, .slice A1 0 c1, .slice A2 0 c2, .slice A3 2 c3, .slice A4 1 c4, .slice A5 0 c5, .slice A6 0 c6], .agg #[.int .i64 8, .int .i64 0, .slice none 0 0, .slice none 0 0, .slice none 0 0, .slice none 0 0]] w fun e w' => ∃ A1 c1 A2 c2 A3 c3 A4 c4 A5 c5 A6 c6, e = .returned (.tuple #[.agg #[.int .i64 1, .int .i64 5, .slice A1 0 c1, .slice A2 0 c2, .slice A3 2 c3, .slice A4 1 c4, .slice A5 0 c5, .slice A6 0 c6], .int .i64 0]) ∧ RowSt w' w.heap.size (.slice A1 0 c1) (.slice A2 0 c2) (.slice A3 2 c3) (.slice A4 1 c4) (.slice A5 0 c5) (.slice A6 0 c6) a5 ∧ Below w.heap.size w w' := by
  refine (take_c _ _ _ _ _ _ _ _ _ _ a4 ⟨8, 0, Plan.none⟩ w h (RPlan.nil w) hT bd0 bd4 bd5 (by decide)).mono ?_
  rw [aTake5]
  rintro e w' ⟨u1, u2, u3, u4, u5, u6, rfl, hrow, hb⟩
  obtain ⟨A1, c1, A2, c2, A3, c3, A4, c4, A5, c5, A6, c6, rfl, rfl, rfl, rfl, rfl, rfl⟩ := hrow.slices
  exact ⟨A1, c1, A2, c2, A3, c3, A4, c4, A5, c5, A6, c6, rfl, hrow, hb⟩
end Go.Proofs.YtaamjpeehejafaaDoor
