/- Contracts: the anchor. -/
import Derived.Test.YtaamjpeehejafaaDoorAnch1
set_option linter.unusedSimpArgs false
set_option linter.unusedVariables false
namespace Go.Proofs.YtaamjpeehejafaaDoor
open Go Go.RowKit

theorem Sl.lit {w : World} {b n : Nat} {cs : Array Value} {t : TypeId} {fr : Nat × Nat} (h : w.heap[b]? = some (.cells cs t fr)) (hn : n ≤ 140737488355328) : Sl w (.slice (some ⟨b, 0, none⟩) n n) n cs.toList := by
  refine ⟨⟨some ⟨b, 0, none⟩, n, rfl, Nat.le_refl _, by unfold maxLen; omega, ⟨by simp, hn⟩, fun _ => ⟨b, 0, rfl, fun j x hj => ?_⟩⟩⟩
  rw [Nat.zero_add, cell_of_row _ _ _ _ _ _ h, ← Array.getElem?_toList]; exact hj
theorem RPlan.nil (w : World) : RPlan w (.slice none 0 0) (.slice none 0 0) (.slice none 0 0) (.slice none 0 0) Plan.none := ⟨Sl.nil w, Sl.nil w, Sl.nil w, Sl.nil w⟩
def aVals (g : Nat) : List PV := [(.slice none 0 0, .slice none 0 0, .slice (some ⟨g, 0, none⟩) 2 2, .slice (some ⟨g + 1, 0, none⟩) 1 1), (.slice none 0 0, .slice none 0 0, .slice none 0 0, .slice none 0 0), (.slice none 0 0, .slice none 0 0, .slice none 0 0, .slice none 0 0)]
theorem aReads {W : World} {g b : Nat} {t1 t2 t3 : TypeId} {f1 f2 f3 : Nat × Nat} (h1 : W.heap[g]? = some (.cells #[.int .i64 0, .int .i64 2, .int .i64 1, .int .i64 2] t1 f1)) (h2 : W.heap[g + 1]? = some (.cells #[.int .i64 1, .int .i64 0] t2 f2))
    (h3 : W.heap[b]? = some (.cells #[.int .i64 1, .int .i64 0, .slice none 0 0, .slice none 0 0, .slice (some ⟨g, 0, none⟩) 2 2, .slice (some ⟨g + 1, 0, none⟩) 1 1, .int .i64 2, .int .i64 1, .slice none 0 0, .slice none 0 0, .slice none 0 0, .slice none 0 0, .int .i64 4, .int .i64 1, .slice none 0 0, .slice none 0 0, .slice none 0 0, .slice none 0 0] t3 f3)) :
    RRecs W (.slice (some ⟨b, 0, none⟩) 3 3) aRecs (aVals g) := by
  refine ⟨rfl, Sl.lit h3 (by decide), fun j hj hv => ?_⟩
  match j with
  | 0 => exact ⟨Sl.nil W, Sl.nil W, Sl.lit h1 (by decide), Sl.lit h2 (by decide)⟩
  | 1 => exact RPlan.nil W
  | 2 => exact RPlan.nil W
  | j + 3 => exact absurd hj (by simp [aRecs])
theorem aBd : ∀ r ∈ aRecs, r.plan.bd := by
  intro r hr
  simp [aRecs] at hr
  rcases hr with rfl | rfl | rfl <;> exact ⟨by decide, by decide, by decide, by decide⟩
theorem aReplay (v : Value) (vs : List PV) (w : World) (hs : RRecs w v aRecs vs) (hT : Tab w) :
    Calls Tryd.prog 22 #[v] w fun e w' => ∃ A1 c1 A2 c2 A3 c3 A4 c4 A5 c5 A6 c6, e = .returned (.tuple #[.agg #[.int .i64 1, .int .i64 2, .slice A1 0 c1, .slice A2 0 c2, .slice A3 2 c3, .slice A4 1 c4, .slice A5 1 c5, .slice A6 0 c6], .int .i64 3, .int .i64 0]) ∧ RowSt w' w.heap.size (.slice A1 0 c1) (.slice A2 0 c2) (.slice A3 2 c3) (.slice A4 1 c4) (.slice A5 1 c5) (.slice A6 0 c6) a3 ∧ Below w.heap.size w w' := by
  refine (replay_c v aRecs vs w hs hT aBd (by decide)).mono ?_
  rintro e w' ⟨k, s, er, u1, u2, u3, u4, u5, u6, _, hr, he, rfl, hrow, hb⟩
  obtain ⟨rfl, rfl, rfl⟩ := aEnd hr he
  obtain ⟨A1, c1, A2, c2, A3, c3, A4, c4, A5, c5, A6, c6, rfl, rfl, rfl, rfl, rfl, rfl⟩ := hrow.slices
  exact ⟨A1, c1, A2, c2, A3, c3, A4, c4, A5, c5, A6, c6, rfl, hrow, hb⟩
end Go.Proofs.YtaamjpeehejafaaDoor
