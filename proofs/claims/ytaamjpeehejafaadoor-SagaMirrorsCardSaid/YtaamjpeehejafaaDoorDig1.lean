/- Contracts: digraph.Graph.Check, ahead, ready. -/
import Derived.Test.YtaamjpeehejafaaDoorSaga4
import Derived.Test.YtaamjpeehejafaaDoorDigM
import Derived.BigRegion
set_option linter.unusedSimpArgs false
set_option linter.unusedVariables false
namespace Go.Proofs.YtaamjpeehejafaaDoor
open Go Go.RowKit

theorem any_take_no {α : Type} {p : α → Bool} {l : List α} (h : ∀ j (h2 : j < l.length), p l[j] = false) : l.any p = false := by
  rw [List.any_eq_false]; intro x hx
  obtain ⟨j, hj, rfl⟩ := List.getElem_of_mem hx
  rw [h j hj]; simp
theorem any_at {α : Type} {p : α → Bool} {l : List α} (j : Nat) (h2 : j < l.length) (h : p l[j] = true) : l.any p = true := List.any_eq_true.2 ⟨_, List.getElem_mem h2, h⟩

set_option maxRecDepth 100000 in
set_option maxHeartbeats 1000000 in
theorem check_c (n : Int) (v : Value) (es : List (Int × Int)) (w : World) (hs : Sl w v es.length (pairs es)) :
    Calls Tryd.prog 86 #[.agg #[.int .i64 n, v]] w fun e w' => e = .returned (.int .i64 (chk n es)) ∧ Below w.heap.size w w' := by
  obtain ⟨A, c, rfl⟩ := hs.len
  have hlb := hs.small
  have HS := hd hs
  clear hs
  by_cases h1 : n < 0 ∨ n > 64 ∨ (es.length : Int) > 4096
  · have Hr : Hid (chk n es = 20) := by unfold Hid chk; rw [if_pos h1]
    go_enter Tryd.func86, Tryd.ntmps86
    go_wp2
    all_goals (go_ret; exact ⟨ret_int Hr.out.symm, (by repeat (first | (with_reducible refine hd ?_) | (with_reducible exact Below.refl _ _) | (with_reducible assumption) | (with_reducible refine Below.alloc ?_ (by first | (simp; done) | (simp; omega) | omega) _) | (with_reducible refine Below.setCell ?_ (by first | (simp; done) | (simp; omega) | omega) _) | (with_reducible refine Below.drew ?_) | (with_reducible refine Below.drewN ?_ _) | (with_reducible refine Below.step ?_ (by with_reducible assumption))))⟩)
  · have hn : 0 ≤ n ∧ n ≤ 64 ∧ (es.length : Int) ≤ 4096 := by omega
    obtain ⟨hn0, hn1, hn2⟩ := hn
    have H1 := hd h1
    clear h1
    go_enter Tryd.func86, Tryd.ntmps86
    go_wp2
    go_loopw [2, 4, 22] (fun _ _ i wr => ∃ k : Nat, k ≤ es.length ∧ i = .int .i64 k ∧ Hid (∀ j, j < k → ∀ (h2 : j < es.length), badE n es[j] = false) ∧ Hid (Below (w.alloc (.cells #[.int .i64 n, .slice A es.length c] 131)).heap.size (w.alloc (.cells #[.int .i64 n, .slice A es.length c] 131)) wr)) (fun _ _ i _ => es.length - (intOf i).toNat)
    case atStart => exact ⟨0, Nat.zero_le _, rfl, fun j h => by omega, Below.refl _ _⟩
    case round =>
      obtain ⟨k, hk, rfl, hall, hB⟩ := hrel
      have hb0 := hB.out
      have hbw : Below w.heap.size w wr := (by repeat (first | (with_reducible refine hd ?_) | (with_reducible exact Below.refl _ _) | (with_reducible assumption) | (with_reducible refine Below.alloc ?_ (by first | (simp; done) | (simp; omega) | omega) _) | (with_reducible refine Below.setCell ?_ (by first | (simp; done) | (simp; omega) | omega) _) | (with_reducible refine Below.drew ?_) | (with_reducible refine Below.drewN ?_ _) | (with_reducible refine Below.step ?_ (by with_reducible assumption))))
      obtain ⟨hc1, hf1⟩ := bcell hb0
      have hsz : w.heap.size < wr.heap.size := by have := hb0.size; simp at this; omega
      by_cases hlt : k < es.length
      · obtain ⟨b, off, rfl, hc⟩ := (HS.out.below hbw).cells (pairs_ne _ _ hlt)
        have c0 := hc _ _ (pairs_get0 _ _ hlt)
        have c1 := hc _ _ (pairs_get1 _ _ hlt)
        rw [← Nat.add_assoc] at c1
        have hbl := lt_of_cells c0
        have HBad : Hid (badE n es[k] = (decide (min es[k].1 es[k].2 < 0) || decide (max es[k].1 es[k].2 ≥ n))) := rfl
        generalize es[k].1 = x0 at c0 HBad
        generalize es[k].2 = x1 at c1 HBad
        have HBW := hd hbw
        clear hc hb0 hbw
        by_cases hin : 0 ≤ x0 ∧ 0 ≤ x1 ∧ x0 < n ∧ x1 < n
        · have HG : Hid (badE n es[k] = false) := by
            rw [Hid, HBad.out, Bool.or_eq_false_iff]; simp only [decide_eq_false_iff_not]; omega
          obtain ⟨i0, i1, i2, i3⟩ := hin
          go_wp2
          all_goals
            have hx0 := hB.out
            go_roundw
            case rel => exact ⟨k + 1, by omega, by go_num, all_snoc hall.out (fun _ => HG.out), (by repeat (first | (with_reducible refine hd ?_) | (with_reducible exact Below.refl _ _) | (with_reducible assumption) | (with_reducible refine Below.alloc ?_ (by first | (simp; done) | (simp; omega) | omega) _) | (with_reducible refine Below.setCell ?_ (by first | (simp; done) | (simp; omega) | omega) _) | (with_reducible refine Below.drew ?_) | (with_reducible refine Below.drewN ?_ _) | (with_reducible refine Below.step ?_ (by with_reducible assumption))))⟩
            case measure => simp [intOf]; omega
        · have HG : Hid (badE n es[k] = true) := by
            rw [Hid, HBad.out, Bool.or_eq_true]; simp only [decide_eq_true_eq]; omega
          have Hr : Hid (chk n es = 20) := by unfold Hid chk; rw [if_neg H1.out, any_at k hlt HG.out]; rfl
          go_wp2
          all_goals first | (exfalso; omega) | (have hx0 := hB.out; have hx1 := HBW.out; go_ret; exact ⟨ret_int Hr.out.symm, (by repeat (first | (with_reducible refine hd ?_) | (with_reducible exact Below.refl _ _) | (with_reducible assumption) | (with_reducible refine Below.alloc ?_ (by first | (simp; done) | (simp; omega) | omega) _) | (with_reducible refine Below.setCell ?_ (by first | (simp; done) | (simp; omega) | omega) _) | (with_reducible refine Below.drew ?_) | (with_reducible refine Below.drewN ?_ _) | (with_reducible refine Below.step ?_ (by with_reducible assumption))))⟩)
      · have : k = es.length := by omega
        subst this
        have Hr : Hid (chk n es = 0) := by
          unfold Hid chk
          rw [if_neg H1.out, any_take_no (fun j h2 => hall.out j h2 h2)]; rfl
        go_wp2
        go_ret
        exact ⟨ret_int Hr.out.symm, (by repeat (first | (with_reducible refine hd ?_) | (with_reducible exact Below.refl _ _) | (with_reducible assumption) | (with_reducible refine Below.alloc ?_ (by first | (simp; done) | (simp; omega) | omega) _) | (with_reducible refine Below.setCell ?_ (by first | (simp; done) | (simp; omega) | omega) _) | (with_reducible refine Below.drew ?_) | (with_reducible refine Below.drewN ?_ _) | (with_reducible refine Below.step ?_ (by with_reducible assumption))))⟩

def GraphPost (w : World) (n : Nat) (es : List (Int × Int)) (e : Ending) (w' : World) : Prop := ∃ u, e = .returned (.agg #[.int .i64 n, u]) ∧ w'.ownsRow w.heap.size 70 2 u es.length (pairs es) ∧ Below w.heap.size w w'

def GraphF (g : Nat) (v3 v4 : Value) (p : Plan) : Nat → Value → World → Prop
  | 0, v, _ => v = .pointer (some ⟨g, 2, none⟩)
  | 1, v, _ => v = v3
  | 2, v, _ => v = .int .i64 p.steps.length
  | 3, v, _ => v = .pointer (some ⟨g, 3, none⟩)
  | 4, v, _ => v = v4
  | 5, v, w => w.ownsRow (g + 2) 70 2 v p.before.length (pairs p.before)
  | 6, v, w => ∃ u, v = .agg #[.int .i64 p.steps.length, u] ∧ w.ownsRow (g + 2) 70 2 u p.before.length (pairs p.before)
  | _, _, _ => True
theorem GraphF.keep {g : Nat} {v3 v4 : Value} {p : Plan} (i : Nat) (v : Value) (w w' : World) (h : GraphF g v3 v4 p i v w) (hR : w.grownBy w' (some (g + 1))) : GraphF g v3 v4 p i v w' := by
  unfold GraphF at h ⊢
  split at h <;> first | exact h | exact own_kept h hR | (obtain ⟨u, rfl, h1⟩ := h; exact ⟨u, rfl, own_kept h1 hR⟩)

def GraphS (w0 : World) (v1 v2 v3 v4 : Value) (p : Plan) (k : Nat) (w : World) : Prop :=
  Below w0.heap.size w0 w ∧ w0.heap.size + 2 ≤ w.heap.size ∧ w.heap[w0.heap.size]? = some (.cells #[v1, v2, v3, v4] 29 (0, 0)) ∧
  if k ≤ 1 then w.heap[w0.heap.size + 1]? = some (.cells #[.int .i64 0, .slice none 0 0] 131 (0, 0)) else
    ∃ u, w.heap[w0.heap.size + 1]? = some (.cells #[.int .i64 p.steps.length, u] 131 (0, 0)) ∧ w.ownsRow (w0.heap.size + 2) 70 2 u p.before.length (pairs p.before)
theorem GraphS.below {w0 w w' : World} {v1 v2 v3 v4 : Value} {p : Plan} {k k' : Nat} (h : GraphS w0 v1 v2 v3 v4 p k w) (hb : Below w.heap.size w w') (hk : k ≤ 1) (hk' : k' ≤ 1) : GraphS w0 v1 v2 v3 v4 p k' w' := by
  obtain ⟨h1, h2, h3, h4⟩ := h
  rw [if_pos hk] at h4
  refine ⟨Below.step h1 hb, Nat.le_trans h2 hb.size, ?_, ?_⟩
  · rw [hb.block _ (by omega)]; exact h3
  · rw [if_pos hk', hb.block _ (by omega)]; exact h4

set_option maxRecDepth 100000 in
set_option maxHeartbeats 1000000 in
theorem graph_c (v1 v2 v3 v4 : Value) (p : Plan) (w : World) (h : RPlan w v1 v2 v3 v4 p) (hb : p.bd) :
    Calls Tryd.prog 75 #[.agg #[v1, v2, v3, v4]] w (GraphPost w p.steps.length p.before) := by
  obtain ⟨A3, c3, rfl⟩ := h.steps.len
  have hlb := h.steps.small
  go_enter Tryd.func75, Tryd.ntmps75
  go_wp2
  refine wp_region_turns 10 [5, 7] [(0, 1, false), (0, 1, false), (0, 1, false), (0, 0, false), (0, 0, false), (0, 0, true), (1, 1, false), (1, 1, true)] (by kernel_rfl) (by kernel_rfl) (fun a b => a.grownBy b (some (w.heap.size + 1))) (GraphF w.heap.size (.slice A3 p.steps.length c3) v4 p) (GraphS w v1 v2 (.slice A3 p.steps.length c3) v4 p) (fun w => World.grownBy.refl _ _) (fun _ _ _ a b => grown_trans a b) GraphF.keep ?_ rfl ?_ ?_ ?_
  · intro i v w' h
    match i with
    | 0 | 1 | 2 | 3 | 4 | 5 | 6 => simp at h
    | _ + 7 => trivial
  · exact ⟨(by repeat (first | (with_reducible refine hd ?_) | (with_reducible exact Below.refl _ _) | (with_reducible assumption) | (with_reducible refine Below.alloc ?_ (by first | (simp; done) | (simp; omega) | omega) _) | (with_reducible refine Below.setCell ?_ (by first | (simp; done) | (simp; omega) | omega) _) | (with_reducible refine Below.drew ?_) | (with_reducible refine Below.drewN ?_ _) | (with_reducible refine Below.step ?_ (by with_reducible assumption)))), by simp, (two_new w _ _).1, by rw [if_pos (by decide)]; exact (two_new w _ _).2⟩
  · refine ⟨?_, ?_, ?_, ?_, ?_, ?_, ?_, ?_, trivial⟩
    · intro k a w1 hlo hhi ht
      refine step_of_list rfl ?_
      have s1 := ht.old 1 (.pointer (some ⟨w.heap.size, 0, none⟩)) rfl (by kernel_rfl)
      have HT := hd ht
      clear ht
      go_wp2
      exact ⟨_, rfl, World.grownBy.refl _ _, rfl, HT.out.st⟩
    · intro k a w1 hlo hhi ht
      refine step_of_list rfl ?_
      have f0 : a.tmps.getD 3 undef = .pointer (some ⟨w.heap.size, 2, none⟩) := ht.fact 0 (by kernel_rfl)
      have c0 := cell_of_row w1 _ 2 _ _ _ ht.st.2.2.1
      have HT := hd ht
      clear ht
      go_wp2
      exact ⟨_, rfl, World.grownBy.refl _ _, rfl, HT.out.st⟩
    · intro k a w1 hlo hhi ht
      refine step_of_list rfl ?_
      have f0 : a.tmps.getD 4 undef = .slice A3 p.steps.length c3 := ht.fact 1 (by kernel_rfl)
      have HT := hd ht
      clear ht
      go_wp2
      exact ⟨_, rfl, World.grownBy.refl _ _, rfl, HT.out.st⟩
    · intro k a w1 hlo hhi ht
      refine step_of_list rfl ?_
      have s1 := ht.old 1 (.pointer (some ⟨w.heap.size, 0, none⟩)) rfl (by kernel_rfl)
      have HT := hd ht
      clear ht
      go_wp2
      exact ⟨_, rfl, World.grownBy.refl _ _, rfl, HT.out.st⟩
    · intro k a w1 hlo hhi ht
      refine step_of_list rfl ?_
      have f0 : a.tmps.getD 6 undef = .pointer (some ⟨w.heap.size, 3, none⟩) := ht.fact 3 (by kernel_rfl)
      have c0 := cell_of_row w1 _ 3 _ _ _ ht.st.2.2.1
      have HT := hd ht
      clear ht
      go_wp2
      exact ⟨_, rfl, World.grownBy.refl _ _, rfl, HT.out.st⟩
    · intro k a w1 hlo hhi ht
      refine step_of_list rfl ?_
      have f0 : a.tmps.getD 7 undef = v4 := ht.fact 4 (by kernel_rfl)
      have HS := hd (h.before.below ht.st.1)
      have HT := hd ht
      have HB := hd hb
      clear ht
      go_wp2_with (go_at_call 50; (with_reducible refine (cloneP_c _ _ _ _ HS.out (pairs_len _) (pairs_one _) HB.out.before).mono ?_); rintro e w2 ⟨v', rfl, ho, hb2⟩)
      exact ⟨_, rfl, grown_of_below hb2 _, own_mono ho HT.out.st.2.1, HT.out.st.below hb2 (Nat.le_trans hhi (by decide)) (Nat.succ_le_succ (Nat.le_trans hhi (by decide : _ ≤ 0)))⟩
    · intro k a w1 hlo hhi ht
      refine step_of_list rfl ?_
      have f2 : a.tmps.getD 5 undef = .int .i64 p.steps.length := ht.fact 2 (by kernel_rfl)
      have f5 : w1.ownsRow _ _ _ (a.tmps.getD 8 undef) _ _ := ht.fact 5 (by kernel_rfl)
      obtain ⟨A1, c1, e1⟩ := own_slice f5
      rw [e1] at f5
      rw [Array.getD_eq_getD_getElem?] at e1 f2
      have HT := hd ht
      have G5 := hd f5
      clear ht f5
      go_wp2
      exact ⟨_, rfl, World.grownBy.refl _ _, ⟨_, rfl, G5.out⟩, HT.out.st⟩
    · intro k a w1 hlo hhi ht
      refine step_of_list rfl ?_
      have s2 := ht.old 2 (.pointer (some ⟨w.heap.size + 1, 0, none⟩)) rfl (by kernel_rfl)
      obtain ⟨u1, f12, o1⟩ := ht.fact 6 (by kernel_rfl)
      replace f12 : a.tmps.getD 9 undef = .agg #[.int .i64 p.steps.length, u1] := f12
      obtain ⟨A1, d1, rfl⟩ := own_slice o1
      obtain ⟨h1, h2, h3, h4⟩ := ht.st
      rw [if_pos (Nat.le_trans hhi (by decide))] at h4
      have c0 := cell_of_row w1 _ 0 _ _ _ h4
      have c1 := cell_of_row w1 _ 1 _ _ _ h4
      have z0 := fun j => frozen_of_row w1 _ j _ _ h4
      have G2 := hd o1
      have HG := hd h4; have H1 := hd h1; have H2 := hd h2; have H3 := hd h3
      have hk : k = 1 := Nat.le_antisymm hhi hlo
      clear o1 ht h1 h2 h3 h4
      go_wp2
      have q2 : ∀ x y, w1.grownBy ((w1.setCell ⟨w.heap.size + 1, 0, none⟩ x).setCell ⟨w.heap.size + 1, 1, none⟩ y) (some (w.heap.size + 1)) := fun _ _ => grown_trans (set_grown _ _ _ _) (set_grown _ _ _ _)
      refine ⟨rfl, q2 _ _, ⟨undef, trivial⟩, ?_, ?_, ?_, ?_⟩
      · exact Below.setCell (Below.setCell H1.out (by simp) _) (by simp) _
      · have := H2.out; simp [World.setCell]; omega
      · rw [(q2 _ _).block _ (by have := H2.out; omega) (by simp)]; exact H3.out
      · rw [if_neg (by decide)]
        exact ⟨_, heap_setCell_same _ _ 1 _ _ _ (heap_setCell_same _ _ 0 _ _ _ HG.out), own_kept G2.out (q2 _ _)⟩
  · intro vs w2 hS hR hF
    obtain ⟨h1, h2, h3, h4⟩ := hS
    rw [if_neg (by decide)] at h4
    obtain ⟨u1, hg, o1⟩ := h4
    have c0 := cell_of_row w2 _ 0 _ _ _ hg
    have c1 := cell_of_row w2 _ 1 _ _ _ hg
    have H1 := hd h1; have G2 := hd o1
    clear hR hF hg h1 h2 h3 o1 h hb
    simp only [putAll, Act.put, List.setIfInBounds_toArray, List.set_cons_succ, List.set_cons_zero, Nat.zero_add, Nat.reduceAdd]
    go_wp2
    exact bodyPost_ret (v := .agg #[.int .i64 p.steps.length, u1]) (by simp [results, Tryd.results75, go_sem, c0, c1]) rfl ⟨u1, rfl, own_mono G2.out (by omega), H1.out⟩
end Go.Proofs.YtaamjpeehejafaaDoor
