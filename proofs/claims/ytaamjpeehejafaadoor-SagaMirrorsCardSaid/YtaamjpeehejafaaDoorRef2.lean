/- Contracts: slipwaymade.Plan. -/
import Derived.Test.YtaamjpeehejafaaDoorRef1
import Derived.Test.YtaamjpeehejafaaDoorSaga14
set_option linter.unusedSimpArgs false
set_option linter.unusedVariables false
namespace Go.Proofs.YtaamjpeehejafaaDoor
open Go Go.RowKit

def madeOk (p : Plan) : Bool := decide (p.fr.length ≤ 50) && decide (p.to.length ≤ 50) && decide (p.steps.length ≤ 100) && decide (p.before.length ≤ 200)
def MadePost (w : World) (v1 v2 v4 : Value) (p : Plan) (e : Ending) (w' : World) : Prop :=
  if madeOk p = true then ∃ u3, e = .returned (.tuple #[.agg #[v1, v2, u3, v4], .bool true]) ∧ w'.ownsRow w.heap.size 81 2 u3 p.steps.length (pairs p.steps) ∧ Below w.heap.size w w'
  else e = .returned (.tuple #[.agg #[v1, v2, .slice none 0 0, v4], .bool false]) ∧ Below w.heap.size w w'
theorem pairs_app (xs ys : List (Int × Int)) : pairs (xs ++ ys) = pairs xs ++ pairs ys := by simp [pairs]
theorem pairs_take (xs : List (Int × Int)) (k : Nat) (h : k < xs.length) : pairs (xs.take (k + 1)) = pairs (xs.take k) ++ [.int .i64 xs[k].1, .int .i64 xs[k].2] := by
  rw [List.take_succ_eq_append_getElem h, pairs_app]; rfl
theorem Sl.twoAt {w : World} {b : Nat} {v u : Value} {t : TypeId} {fr : Nat × Nat} (h : w.heap[b]? = some (.cells #[v, u] t fr)) : Sl w (.slice (some ⟨b, 0, none⟩) 1 1) 1 [v, u] := by
  refine ⟨⟨some ⟨b, 0, none⟩, 1, rfl, Nat.le_refl _, by unfold maxLen; omega, ⟨by simp, by omega⟩, fun _ => ⟨b, 0, rfl, fun j x hj => ?_⟩⟩⟩
  match j with
  | 0 =>
    have hu : v = x := by simpa using hj
    subst hu
    rw [cell_of_row _ _ _ _ _ _ h]; rfl
  | 1 =>
    have hu : u = x := by simpa using hj
    subst hu
    rw [cell_of_row _ _ _ _ _ _ h]; rfl
  | j + 2 => simp at hj
set_option maxRecDepth 100000 in
set_option maxHeartbeats 1000000 in
theorem made_no (v1 v2 v3 v4 : Value) (p : Plan) (w : World) (h : RPlan w v1 v2 v3 v4 p) (hm : madeOk p = false) :
    Calls Tryd.prog 12 #[.agg #[v1, v2, v3, v4]] w (MadePost w v1 v2 v4 p) := by
  obtain ⟨A1, c1, rfl⟩ := h.fr.len
  obtain ⟨A2, c2, rfl⟩ := h.to.len
  obtain ⟨A3, c3, rfl⟩ := h.steps.len
  obtain ⟨A4, c4, rfl⟩ := h.before.len
  have HM := hd hm
  have hm2 : ¬ (p.fr.length ≤ 50 ∧ p.to.length ≤ 50 ∧ p.steps.length ≤ 100 ∧ p.before.length ≤ 200) := by
    intro ⟨a1, a2, a3, a4⟩
    rw [madeOk, decide_eq_true a1, decide_eq_true a2, decide_eq_true a3, decide_eq_true a4] at hm; cases hm
  have HM2 := hd hm2
  clear h hm hm2
  go_enter Tryd.func12, Tryd.ntmps12
  have fin : ∀ (e : Ending) (w' : World), e = .returned (.tuple #[.agg #[.slice A1 p.fr.length c1, .slice A2 p.to.length c2, .slice none 0 0, .slice A4 p.before.length c4], .bool false]) → Below w.heap.size w w' → MadePost w (.slice A1 p.fr.length c1) (.slice A2 p.to.length c2) (.slice A4 p.before.length c4) p e w' := by
    intro e w' he hb
    unfold MadePost
    rw [if_neg (by rw [HM.out]; decide)]
    exact ⟨he, hb⟩
  have FIN := hd fin
  clear fin
  by_cases h1 : p.fr.length ≤ 50
  · by_cases h2 : p.to.length ≤ 50
    · by_cases h3 : p.steps.length ≤ 100
      · have h4 : ¬ p.before.length ≤ 200 := fun h4 => HM2.out ⟨h1, h2, h3, h4⟩
        go_wp2
        all_goals first | (exfalso; omega) | exact bodyPost_ret (v := .tuple #[.agg #[.slice A1 p.fr.length c1, .slice A2 p.to.length c2, .slice none 0 0, .slice A4 p.before.length c4], .bool false]) (by simp [results, Tryd.results12, go_sem]) rfl (FIN.out _ _ rfl (by repeat (first | (with_reducible refine hd ?_) | (with_reducible exact Below.refl _ _) | (with_reducible assumption) | (with_reducible refine Below.alloc ?_ (by first | (simp; done) | (simp; omega) | omega) _) | (with_reducible refine Below.setCell ?_ (by first | (simp; done) | (simp; omega) | omega) _) | (with_reducible refine Below.drew ?_) | (with_reducible refine Below.drewN ?_ _) | (with_reducible refine Below.step ?_ (by with_reducible assumption)))))
      · go_wp2
        all_goals first | (exfalso; omega) | exact bodyPost_ret (v := .tuple #[.agg #[.slice A1 p.fr.length c1, .slice A2 p.to.length c2, .slice none 0 0, .slice A4 p.before.length c4], .bool false]) (by simp [results, Tryd.results12, go_sem]) rfl (FIN.out _ _ rfl (by repeat (first | (with_reducible refine hd ?_) | (with_reducible exact Below.refl _ _) | (with_reducible assumption) | (with_reducible refine Below.alloc ?_ (by first | (simp; done) | (simp; omega) | omega) _) | (with_reducible refine Below.setCell ?_ (by first | (simp; done) | (simp; omega) | omega) _) | (with_reducible refine Below.drew ?_) | (with_reducible refine Below.drewN ?_ _) | (with_reducible refine Below.step ?_ (by with_reducible assumption)))))
    · go_wp2
      all_goals first | (exfalso; omega) | exact bodyPost_ret (v := .tuple #[.agg #[.slice A1 p.fr.length c1, .slice A2 p.to.length c2, .slice none 0 0, .slice A4 p.before.length c4], .bool false]) (by simp [results, Tryd.results12, go_sem]) rfl (FIN.out _ _ rfl (by repeat (first | (with_reducible refine hd ?_) | (with_reducible exact Below.refl _ _) | (with_reducible assumption) | (with_reducible refine Below.alloc ?_ (by first | (simp; done) | (simp; omega) | omega) _) | (with_reducible refine Below.setCell ?_ (by first | (simp; done) | (simp; omega) | omega) _) | (with_reducible refine Below.drew ?_) | (with_reducible refine Below.drewN ?_ _) | (with_reducible refine Below.step ?_ (by with_reducible assumption)))))
  · go_wp2
    all_goals first | (exfalso; omega) | exact bodyPost_ret (v := .tuple #[.agg #[.slice A1 p.fr.length c1, .slice A2 p.to.length c2, .slice none 0 0, .slice A4 p.before.length c4], .bool false]) (by simp [results, Tryd.results12, go_sem]) rfl (FIN.out _ _ rfl (by repeat (first | (with_reducible refine hd ?_) | (with_reducible exact Below.refl _ _) | (with_reducible assumption) | (with_reducible refine Below.alloc ?_ (by first | (simp; done) | (simp; omega) | omega) _) | (with_reducible refine Below.setCell ?_ (by first | (simp; done) | (simp; omega) | omega) _) | (with_reducible refine Below.drew ?_) | (with_reducible refine Below.drewN ?_ _) | (with_reducible refine Below.step ?_ (by with_reducible assumption)))))
set_option maxRecDepth 100000 in
set_option maxHeartbeats 1000000 in
theorem made_yes (v1 v2 v3 v4 : Value) (p : Plan) (w : World) (h : RPlan w v1 v2 v3 v4 p) (hm : madeOk p = true) :
    Calls Tryd.prog 12 #[.agg #[v1, v2, v3, v4]] w (MadePost w v1 v2 v4 p) := by
  obtain ⟨A1, c1, rfl⟩ := h.fr.len
  obtain ⟨A2, c2, rfl⟩ := h.to.len
  obtain ⟨A3, c3, rfl⟩ := h.steps.len
  obtain ⟨A4, c4, rfl⟩ := h.before.len
  obtain ⟨⟨⟨h1, h2⟩, h3⟩, h4⟩ : ((p.fr.length ≤ 50 ∧ p.to.length ≤ 50) ∧ p.steps.length ≤ 100) ∧ p.before.length ≤ 200 := by
    simpa [madeOk, Bool.and_eq_true] using hm
  have HS := hd h.steps
  have HM := hd hm
  clear h hm
  go_enter Tryd.func12, Tryd.ntmps12
  go_wp2
  go_loopw [6, 40] (fun _ i wr => ∃ (k : Nat) (A : Option Addr) (cc : Nat), k ≤ p.steps.length ∧ i = .int .i64 k ∧ Hid (wr.heap[w.heap.size + 1 + 1]? = some (.cells #[.slice A1 p.fr.length c1, .slice A2 p.to.length c2, .slice A k cc, .slice A4 p.before.length c4] 46 (0, 0))) ∧ Hid (wr.heap[w.heap.size + 1]? = some (.cells #[.slice none 0 0, .slice none 0 0, .slice none 0 0, .slice none 0 0] 46 (0, 0))) ∧ Hid (wr.ownsRow (w.heap.size + 3) 81 2 (.slice A k cc) k (pairs (p.steps.take k))) ∧ Hid (Below w.heap.size w wr) ∧ w.heap.size + 3 ≤ wr.heap.size) (fun _ i _ => p.steps.length - (intOf i).toNat)
  case atStart => exact ⟨0, none, 0, Nat.zero_le _, rfl, (three_new w _ _ _).2.2, (three_new w _ _ _).2.1, ⟨by simp [pairs], .inl ⟨rfl, rfl⟩⟩, (by repeat (first | (with_reducible refine hd ?_) | (with_reducible exact Below.refl _ _) | (with_reducible assumption) | (with_reducible refine Below.alloc ?_ (by first | (simp; done) | (simp; omega) | omega) _) | (with_reducible refine Below.setCell ?_ (by first | (simp; done) | (simp; omega) | omega) _) | (with_reducible refine Below.drew ?_) | (with_reducible refine Below.drewN ?_ _) | (with_reducible refine Below.step ?_ (by with_reducible assumption)))), by simp⟩
  case round =>
    obtain ⟨k, A, cc, hk, rfl, h2, h1, ho, hb, hz⟩ := hrel
    have hy2 : w.heap.size + 1 + 1 < wr.heap.size := by omega
    have hy1 : w.heap.size + 1 < wr.heap.size := by omega
    by_cases hlt : k < p.steps.length
    · obtain ⟨bb, off, rfl, hc⟩ := (HS.out.below hb.out).cells (pairs_ne _ _ hlt)
      have k0 := hc _ _ (pairs_get0 _ _ hlt)
      have k1 := hc _ _ (pairs_get1 _ _ hlt)
      rw [← Nat.add_assoc] at k1
      have hbl := lt_of_cells k0
      have HT := hd (pairs_take p.steps k hlt)
      generalize p.steps[k].1 = x0 at k0 HT
      generalize p.steps[k].2 = x1 at k1 HT
      have d0 := cell_of_row wr _ 0 _ _ _ h2.out
      have d1 := cell_of_row wr _ 1 _ _ _ h2.out
      have d2 := cell_of_row wr _ 2 _ _ _ h2.out
      have d3 := cell_of_row wr _ 3 _ _ _ h2.out
      clear hc
      go_wp2_with (at_builtin; go_must (refine wpList_append_sl rfl _ _ _ rfl (w.heap.size + 3) 81 (.agg #[.int .i64 0, .int .i64 0]) 2 16 Tryd.underlying44 (by kernel_rfl) rfl (by decide) _ rfl _ _ (own_below (own_below ho.out (Below.box _ _)) (Below.box _ _)) _ rfl 1 [.int .i64 x0, .int .i64 x1] (Sl.twoAt (two_new _ _ _).2) rfl (by intro u hu; simp at hu; rcases hu with rfl | rfl <;> rfl) (by unfold maxLen; omega) (by omega) (by simp; omega) ?_))
      intro v5 w5 hown hgr
      obtain ⟨A5, d5, rfl⟩ := own_slice hown
      have hg5 : wr.grownBy w5 (Value.slice A k cc).ownBlock := below_grown _ (below_grown _ hgr)
      have hlow : ∀ g, (Value.slice A k cc).ownBlock = some g → w.heap.size + 3 ≤ g := fun g hg => (ho.out.lt g hg).1
      have g2 : w5.heap[w.heap.size + 1 + 1]? = some (.cells #[.slice A1 p.fr.length c1, .slice A2 p.to.length c2, .slice A k cc, .slice A4 p.before.length c4] 46 (0, 0)) := by
        rw [hg5.block _ (by omega) (by intro e; have := hlow _ e.symm; omega)]; exact h2.out
      have g1 : w5.heap[w.heap.size + 1]? = some (.cells #[.slice none 0 0, .slice none 0 0, .slice none 0 0, .slice none 0 0] 46 (0, 0)) := by
        rw [hg5.block _ (by omega) (by intro e; have := hlow _ e.symm; omega)]; exact h1.out
      have e2 := cell_of_row w5 _ 2 _ _ _ g2
      have z2 := fun j => frozen_of_row w5 _ j _ _ g2
      have hy5 : w.heap.size + 1 + 1 < w5.heap.size := Nat.lt_of_lt_of_le hy2 hg5.size
      have HO5 := hd hown; have HG5 := hd hg5; have G1 := hd g1; have G2 := hd g2; have HL := hd hlow
      clear hown hgr hg5 g1 g2 hlow
      go_wp2
      go_roundw
      case rel =>
        have q := set_grown w5 (w.heap.size + 1 + 1) 2 (.slice A5 (k + 1) d5)
        have hb5 : Below w.heap.size w w5 := Below.grown hb.out HG5.out (by omega) (fun g hg => by have := HL.out g hg; omega)
        have hs5 := HG5.out.size
        have ho5 := own_kept HO5.out q (by omega)
        rw [← HT.out] at ho5
        refine ⟨k + 1, A5, d5, by omega, by go_num, heap_setCell_same _ _ 2 _ _ _ G2.out, ?_, ho5, Below.setCell hb5 (by show w.heap.size ≤ w.heap.size + 1 + 1; omega) _, by have := q.size; omega⟩
        rw [Hid, q.block _ (by omega) (by simp)]; exact G1.out
      case measure => simp [intOf]; omega
    · have : k = p.steps.length := by omega
      subst this
      rw [List.take_length] at ho
      have d0 := cell_of_row wr _ 0 _ _ _ h2.out
      have d1 := cell_of_row wr _ 1 _ _ _ h2.out
      have d2 := cell_of_row wr _ 2 _ _ _ h2.out
      have d3 := cell_of_row wr _ 3 _ _ _ h2.out
      have o0 := cell_of_row wr _ 0 _ _ _ h1.out
      have o1 := cell_of_row wr _ 1 _ _ _ h1.out
      have o2 := cell_of_row wr _ 2 _ _ _ h1.out
      have o3 := cell_of_row wr _ 3 _ _ _ h1.out
      have z1 := fun j => frozen_of_row wr _ j _ _ h1.out
      go_wp2
      refine bodyPost_ret (v := .tuple #[.agg #[.slice A1 p.fr.length c1, .slice A2 p.to.length c2, .slice A p.steps.length cc, .slice A4 p.before.length c4], .bool true]) (by simp [results, Tryd.results12, go_sem, o0, o1, o2, o3]) rfl ?_
      unfold MadePost
      rw [if_pos HM.out]
      have q := grown_trans (grown_trans (grown_trans (set_grown wr (w.heap.size + 1) 0 (.slice A1 p.fr.length c1)) (set_grown _ (w.heap.size + 1) 1 (.slice A2 p.to.length c2))) (set_grown _ (w.heap.size + 1) 2 (.slice A p.steps.length cc))) (set_grown _ (w.heap.size + 1) 3 (.slice A4 p.before.length c4))
      exact ⟨_, rfl, own_mono (own_kept ho.out q (by omega)) (by omega), Below.grown hb.out q (by omega) (by intro k hk; injection hk with hk; omega)⟩
theorem MadePost.yes {w : World} {v1 v2 v4 : Value} {p : Plan} {e : Ending} {w' : World} (h : MadePost w v1 v2 v4 p e w') (hm : madeOk p = true) : ∃ A c, e = .returned (.tuple #[.agg #[v1, v2, .slice A p.steps.length c, v4], .bool true]) ∧ w'.ownsRow w.heap.size 81 2 (.slice A p.steps.length c) p.steps.length (pairs p.steps) ∧ Below w.heap.size w w' := by
  unfold MadePost at h
  rw [if_pos hm] at h
  obtain ⟨u3, he, ho, hb⟩ := h
  obtain ⟨A, c, rfl⟩ := own_slice ho
  exact ⟨A, c, he, ho, hb⟩
theorem MadePost.no {w : World} {v1 v2 v4 : Value} {p : Plan} {e : Ending} {w' : World} (h : MadePost w v1 v2 v4 p e w') (hm : madeOk p = false) : e = .returned (.tuple #[.agg #[v1, v2, .slice none 0 0, v4], .bool false]) ∧ Below w.heap.size w w' := by
  unfold MadePost at h
  rw [if_neg (by rw [hm]; decide)] at h
  exact h
theorem made_c (v1 v2 v3 v4 : Value) (p : Plan) (w : World) (h : RPlan w v1 v2 v3 v4 p) :
    Calls Tryd.prog 12 #[.agg #[v1, v2, v3, v4]] w (MadePost w v1 v2 v4 p) := by
  cases hm : madeOk p with
  | true => exact made_yes v1 v2 v3 v4 p w h hm
  | false => exact made_no v1 v2 v3 v4 p w h hm
end Go.Proofs.YtaamjpeehejafaaDoor
