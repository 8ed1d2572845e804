/- Contracts: saga.copied, own, drop. -/
import Derived.Test.YtaamjpeehejafaaDoorSl3
import Derived.Test.YtaamjpeehejafaaDoorPairs
set_option linter.unusedSimpArgs false
set_option linter.unusedVariables false
namespace Go.Proofs.YtaamjpeehejafaaDoor
open Go Go.RowKit

theorem own_mono {w : World} {base base' : Nat} {e : TypeId} {size : Nat} {v : Value} {n : Nat} {xs : List Value} (h : w.ownsRow base e size v n xs) (hb : base' ≤ base) : w.ownsRow base' e size v n xs := by
  refine ⟨h.1, ?_⟩
  rcases h.2 with h2 | ⟨g, cap, cur, rfl, hbg, hrest⟩
  · exact .inl h2
  · exact .inr ⟨g, cap, cur, rfl, by omega, hrest⟩

theorem own_slice {w : World} {base : Nat} {e : TypeId} {size : Nat} {v : Value} {n : Nat} {xs : List Value} (h : w.ownsRow base e size v n xs) : ∃ A c, v = .slice A n c := by
  rcases h.2 with ⟨rfl, rfl⟩ | ⟨g, cap, cur, rfl, _⟩
  · exact ⟨_, _, rfl⟩
  · exact ⟨_, _, rfl⟩
/-- A row of the call's own is kept where just one elder block is written. -/
theorem own_kept {w w' : World} {g base : Nat} {e : TypeId} {size : Nat} {v : Value} {n : Nat} {xs : List Value} (h : w.ownsRow base e size v n xs) (hg : w.grownBy w' (some g)) (hlt : g < base := by omega) : w'.ownsRow base e size v n xs :=
  h.kept hg (by
    cases hb : v.ownBlock with
    | none => exact .inl rfl
    | some k => have := (h.lt k hb).1; exact .inr (by intro e; injection e with e; omega))

def CopiedF (g : Nat) (v1 v2 v3 v4 : Value) (p : Plan) : Nat → Value → World → Prop
  | 0, v, _ => v = .pointer (some ⟨g, 0, none⟩)
  | 1, v, _ => v = v1
  | 2, v, w => w.ownsRow (g + 2) 3 1 v p.fr.length (ints p.fr)
  | 3, v, _ => v = .pointer (some ⟨g, 1, none⟩)
  | 4, v, _ => v = v2
  | 5, v, w => w.ownsRow (g + 2) 3 1 v p.to.length (ints p.to)
  | 6, v, _ => v = .pointer (some ⟨g, 2, none⟩)
  | 7, v, _ => v = v3
  | 8, v, w => w.ownsRow (g + 2) 69 2 v p.steps.length (pairs p.steps)
  | 9, v, _ => v = .pointer (some ⟨g, 3, none⟩)
  | 10, v, _ => v = v4
  | 11, v, w => w.ownsRow (g + 2) 70 2 v p.before.length (pairs p.before)
  | 12, v, w => ∃ u1 u2 u3 u4, v = .agg #[u1, u2, u3, u4] ∧ w.ownsRow (g + 2) 3 1 u1 p.fr.length (ints p.fr) ∧ w.ownsRow (g + 2) 3 1 u2 p.to.length (ints p.to) ∧ w.ownsRow (g + 2) 69 2 u3 p.steps.length (pairs p.steps) ∧ w.ownsRow (g + 2) 70 2 u4 p.before.length (pairs p.before)
  | _, _, _ => True
theorem CopiedF.keep {g : Nat} {v1 v2 v3 v4 : Value} {p : Plan} (i : Nat) (v : Value) (w w' : World) (h : CopiedF g v1 v2 v3 v4 p i v w) (hR : w.grownBy w' (some (g + 1))) : CopiedF g v1 v2 v3 v4 p i v w' := by
  unfold CopiedF at h ⊢
  split at h <;> first | exact h | exact own_kept h hR | (obtain ⟨u1, u2, u3, u4, rfl, h1, h2, h3, h4⟩ := h; exact ⟨u1, u2, u3, u4, rfl, own_kept h1 hR, own_kept h2 hR, own_kept h3 hR, own_kept h4 hR⟩)

def CopiedS (w0 : World) (v1 v2 v3 v4 : Value) (p : Plan) (k : Nat) (w : World) : Prop :=
  Below w0.heap.size w0 w ∧ w0.heap.size + 2 ≤ w.heap.size ∧ w.heap[w0.heap.size]? = some (.cells #[v1, v2, v3, v4] 29 (0, 0)) ∧
  if k ≤ 4 then (∃ cs : Array Value, cs.size = 4 ∧ w.heap[w0.heap.size + 1]? = some (.cells cs 29 (0, 0))) else
    ∃ u1 u2 u3 u4, w.heap[w0.heap.size + 1]? = some (.cells #[u1, u2, u3, u4] 29 (0, 0)) ∧ w.ownsRow (w0.heap.size + 2) 3 1 u1 p.fr.length (ints p.fr) ∧ w.ownsRow (w0.heap.size + 2) 3 1 u2 p.to.length (ints p.to) ∧ w.ownsRow (w0.heap.size + 2) 69 2 u3 p.steps.length (pairs p.steps) ∧ w.ownsRow (w0.heap.size + 2) 70 2 u4 p.before.length (pairs p.before)

structure Plan.bd (p : Plan) : Prop where
  fr : p.fr.length ≤ 1099511627776
  to : p.to.length ≤ 1099511627776
  steps : p.steps.length ≤ 1099511627776
  before : p.before.length ≤ 1099511627776

/-- A plan in rows of the call's own. -/
structure OPlan (w : World) (base : Nat) (u1 u2 u3 u4 : Value) (p : Plan) : Prop where
  fr : w.ownsRow base 3 1 u1 p.fr.length (ints p.fr)
  to : w.ownsRow base 3 1 u2 p.to.length (ints p.to)
  steps : w.ownsRow base 69 2 u3 p.steps.length (pairs p.steps)
  before : w.ownsRow base 70 2 u4 p.before.length (pairs p.before)
theorem OPlan.reads {w : World} {base : Nat} {u1 u2 u3 u4 : Value} {p : Plan} (h : OPlan w base u1 u2 u3 u4 p) (hb : p.bd) : RPlan w u1 u2 u3 u4 p :=
  ⟨Sl.of_own h.fr (by have := hb.fr; omega), Sl.of_own h.to (by have := hb.to; omega), Sl.of_own h.steps (by have := hb.steps; omega), Sl.of_own h.before (by have := hb.before; omega)⟩
theorem OPlan.mono {w : World} {base base' : Nat} {u1 u2 u3 u4 : Value} {p : Plan} (h : OPlan w base u1 u2 u3 u4 p) (hb : base' ≤ base) : OPlan w base' u1 u2 u3 u4 p :=
  ⟨own_mono h.fr hb, own_mono h.to hb, own_mono h.steps hb, own_mono h.before hb⟩
theorem OPlan.kept {w w' : World} {g base : Nat} {u1 u2 u3 u4 : Value} {p : Plan} (h : OPlan w base u1 u2 u3 u4 p) (hg : w.grownBy w' (some g)) (hlt : g < base := by omega) : OPlan w' base u1 u2 u3 u4 p :=
  ⟨own_kept h.fr hg, own_kept h.to hg, own_kept h.steps hg, own_kept h.before hg⟩
theorem OPlan.below {w w' : World} {base : Nat} {u1 u2 u3 u4 : Value} {p : Plan} (h : OPlan w base u1 u2 u3 u4 p) (hg : Below w.heap.size w w') : OPlan w' base u1 u2 u3 u4 p :=
  ⟨own_below h.fr hg, own_below h.to hg, own_below h.steps hg, own_below h.before hg⟩
theorem OPlan.slices {w : World} {base : Nat} {u1 u2 u3 u4 : Value} {p : Plan} (h : OPlan w base u1 u2 u3 u4 p) : ∃ A1 c1 A2 c2 A3 c3 A4 c4, u1 = .slice A1 p.fr.length c1 ∧ u2 = .slice A2 p.to.length c2 ∧ u3 = .slice A3 p.steps.length c3 ∧ u4 = .slice A4 p.before.length c4 := by
  obtain ⟨A1, c1, h1⟩ := own_slice h.fr
  obtain ⟨A2, c2, h2⟩ := own_slice h.to
  obtain ⟨A3, c3, h3⟩ := own_slice h.steps
  obtain ⟨A4, c4, h4⟩ := own_slice h.before
  exact ⟨A1, c1, A2, c2, A3, c3, A4, c4, h1, h2, h3, h4⟩
def PlanPost (w : World) (p : Plan) (e : Ending) (w' : World) : Prop := ∃ u1 u2 u3 u4, e = .returned (.agg #[u1, u2, u3, u4]) ∧ OPlan w' w.heap.size u1 u2 u3 u4 p ∧ Below w.heap.size w w'

theorem four_set (w : World) (g : Nat) (x1 x2 x3 x4 u1 u2 u3 u4 : Value) (t : TypeId) (hg : w.heap[g]? = some (.cells #[x1, x2, x3, x4] t (0, 0))) :
    ((((w.setCell ⟨g, 0, none⟩ u1).setCell ⟨g, 1, none⟩ u2).setCell ⟨g, 2, none⟩ u3).setCell ⟨g, 3, none⟩ u4).heap[g]? = some (.cells #[u1, u2, u3, u4] t (0, 0)) ∧
    w.grownBy ((((w.setCell ⟨g, 0, none⟩ u1).setCell ⟨g, 1, none⟩ u2).setCell ⟨g, 2, none⟩ u3).setCell ⟨g, 3, none⟩ u4) (some g) := by
  have s1 : ∀ (w : World) (j : Nat) (u : Value), w.grownBy (w.setCell ⟨g, j, none⟩ u) (some g) := fun w j u => ⟨rfl, rfl, rfl, by simp [World.setCell], fun k _ hk => heap_setCell_other w ⟨g, j, none⟩ k u (fun e => hk (by rw [e]))⟩
  refine ⟨?_, grown_trans (grown_trans (grown_trans (s1 _ _ _) (s1 _ _ _)) (s1 _ _ _)) (s1 _ _ _)⟩
  exact heap_setCell_same _ g 3 _ t u4 (heap_setCell_same _ g 2 _ t u3 (heap_setCell_same _ g 1 _ t u2 (heap_setCell_same _ g 0 _ t u1 hg)))
theorem CopiedS.below {w0 w w' : World} {v1 v2 v3 v4 : Value} {p : Plan} {k k' : Nat} (h : CopiedS w0 v1 v2 v3 v4 p k w) (hb : Below w.heap.size w w') (hk : k ≤ 4) (hk' : k' ≤ 4) : CopiedS w0 v1 v2 v3 v4 p k' w' := by
  obtain ⟨h1, h2, h3, h4⟩ := h
  rw [if_pos hk] at h4
  obtain ⟨cs, hcs, hg⟩ := h4
  refine ⟨Below.step h1 hb, Nat.le_trans h2 hb.size, ?_, ?_⟩
  · rw [hb.block _ (by omega)]; exact h3
  · rw [if_pos hk']; exact ⟨cs, hcs, by rw [hb.block _ (by omega)]; exact hg⟩

set_option maxRecDepth 100000 in
set_option maxHeartbeats 1000000 in
theorem copied_c (v1 v2 v3 v4 : Value) (p : Plan) (w : World) (h : RPlan w v1 v2 v3 v4 p) (hb : p.bd) :
    Calls Tryd.prog 27 #[.agg #[v1, v2, v3, v4]] w (PlanPost w p) := by
  go_enter Tryd.func27, Tryd.ntmps27
  go_wp2
  refine wp_region_turns 16 [2, 5, 8, 11, 13] [(0, 0, false), (0, 0, false), (0, 0, true), (0, 1, false), (0, 1, false), (1, 1, true), (0, 2, false), (0, 2, false), (2, 2, true), (0, 3, false), (0, 3, false), (3, 3, true), (4, 4, false), (4, 4, true)] (by kernel_rfl) (by kernel_rfl) (fun a b => a.grownBy b (some (w.heap.size + 1))) (CopiedF w.heap.size v1 v2 v3 v4 p) (CopiedS w v1 v2 v3 v4 p) (fun w => World.grownBy.refl _ _) (fun _ _ _ a b => grown_trans a b) CopiedF.keep ?_ rfl ?_ ?_ ?_
  · intro i v w' h
    match i with
    | 0 | 1 | 2 | 3 | 4 | 5 | 6 | 7 | 8 | 9 | 10 | 11 | 12 => simp at h
    | _ + 13 => trivial
  · refine ⟨(by repeat (first | (with_reducible refine hd ?_) | (with_reducible exact Below.refl _ _) | (with_reducible assumption) | (with_reducible refine Below.alloc ?_ (by first | (simp; done) | (simp; omega) | omega) _) | (with_reducible refine Below.setCell ?_ (by first | (simp; done) | (simp; omega) | omega) _) | (with_reducible refine Below.drew ?_) | (with_reducible refine Below.drewN ?_ _) | (with_reducible refine Below.step ?_ (by with_reducible assumption)))), by simp, ?_, ?_⟩
    · exact (two_new w _ _).1
    · rw [if_pos (by decide)]
      exact ⟨_, by rfl, (two_new w _ _).2⟩
  · refine ⟨?_, ?_, ?_, ?_, ?_, ?_, ?_, ?_, ?_, ?_, ?_, ?_, ?_, ?_, trivial⟩
    · intro k a w1 hlo hhi ht
      refine step_of_list rfl ?_
      have s1 := ht.old 1 (.pointer (some ⟨w.heap.size, 0, none⟩)) rfl (by kernel_rfl)
      have HT := hd ht
      clear ht
      go_wp2
      exact ⟨_, rfl, World.grownBy.refl _ _, rfl, HT.out.st⟩
    · intro k a w1 hlo hhi ht
      refine step_of_list rfl ?_
      have f0 : a.tmps.getD 3 undef = .pointer (some ⟨w.heap.size, 0, none⟩) := ht.fact 0 (by kernel_rfl)
      obtain ⟨hbl, hsz, hg, hg2⟩ := ht.st
      have c0 : w1.cell? ⟨w.heap.size, 0, none⟩ = some v1 := cell_of_row w1 _ 0 _ _ _ hg
      have HT := hd ht
      clear ht hbl hsz hg hg2
      go_wp2
      exact ⟨_, rfl, World.grownBy.refl _ _, rfl, HT.out.st⟩
    · intro k a w1 hlo hhi ht
      refine step_of_list rfl ?_
      have f0 : a.tmps.getD 4 undef = v1 := ht.fact 1 (by kernel_rfl)
      have hbl := ht.st.1
      have HS := hd (h.fr.below hbl)
      have HT := hd ht
      have HB := hd hb
      clear ht hbl
      go_wp2_with (go_at_call 48; (with_reducible refine (cloneI_c _ _ _ _ HS.out (by rw [ints_len]; omega) (ints_one _) HB.out.fr).mono ?_); rintro e w2 ⟨v', rfl, ho, hb2⟩)
      exact ⟨_, rfl, grown_of_below hb2 _, own_mono ho HT.out.st.2.1, HT.out.st.below hb2 (Nat.le_trans hhi (by decide)) (Nat.succ_le_succ (Nat.le_trans hhi (by decide : _ ≤ 3)))⟩
    · intro k a w1 hlo hhi ht
      refine step_of_list rfl ?_
      have s1 := ht.old 1 (.pointer (some ⟨w.heap.size, 0, none⟩)) rfl (by kernel_rfl)
      have HT := hd ht
      clear ht
      go_wp2
      exact ⟨_, rfl, World.grownBy.refl _ _, rfl, HT.out.st⟩
    · intro k a w1 hlo hhi ht
      refine step_of_list rfl ?_
      have f0 : a.tmps.getD 6 undef = .pointer (some ⟨w.heap.size, 1, none⟩) := ht.fact 3 (by kernel_rfl)
      obtain ⟨hbl, hsz, hg, hg2⟩ := ht.st
      have c0 : w1.cell? ⟨w.heap.size, 1, none⟩ = some v2 := cell_of_row w1 _ 1 _ _ _ hg
      have HT := hd ht
      clear ht hbl hsz hg hg2
      go_wp2
      exact ⟨_, rfl, World.grownBy.refl _ _, rfl, HT.out.st⟩
    · intro k a w1 hlo hhi ht
      refine step_of_list rfl ?_
      have f0 : a.tmps.getD 7 undef = v2 := ht.fact 4 (by kernel_rfl)
      have hbl := ht.st.1
      have HS := hd (h.to.below hbl)
      have HT := hd ht
      have HB := hd hb
      clear ht hbl
      go_wp2_with (go_at_call 48; (with_reducible refine (cloneI_c _ _ _ _ HS.out (by rw [ints_len]; omega) (ints_one _) HB.out.to).mono ?_); rintro e w2 ⟨v', rfl, ho, hb2⟩)
      exact ⟨_, rfl, grown_of_below hb2 _, own_mono ho HT.out.st.2.1, HT.out.st.below hb2 (Nat.le_trans hhi (by decide)) (Nat.succ_le_succ (Nat.le_trans hhi (by decide : _ ≤ 3)))⟩
    · intro k a w1 hlo hhi ht
      refine step_of_list rfl ?_
      have s1 := ht.old 1 (.pointer (some ⟨w.heap.size, 0, none⟩)) rfl (by kernel_rfl)
      have HT := hd ht
      clear ht
      go_wp2
      exact ⟨_, rfl, World.grownBy.refl _ _, rfl, HT.out.st⟩
    · intro k a w1 hlo hhi ht
      refine step_of_list rfl ?_
      have f0 : a.tmps.getD 9 undef = .pointer (some ⟨w.heap.size, 2, none⟩) := ht.fact 6 (by kernel_rfl)
      obtain ⟨hbl, hsz, hg, hg2⟩ := ht.st
      have c0 : w1.cell? ⟨w.heap.size, 2, none⟩ = some v3 := cell_of_row w1 _ 2 _ _ _ hg
      have HT := hd ht
      clear ht hbl hsz hg hg2
      go_wp2
      exact ⟨_, rfl, World.grownBy.refl _ _, rfl, HT.out.st⟩
    · intro k a w1 hlo hhi ht
      refine step_of_list rfl ?_
      have f0 : a.tmps.getD 10 undef = v3 := ht.fact 7 (by kernel_rfl)
      have hbl := ht.st.1
      have HS := hd (h.steps.below hbl)
      have HT := hd ht
      have HB := hd hb
      clear ht hbl
      go_wp2_with (go_at_call 49; (with_reducible refine (cloneS_c _ _ _ _ HS.out (pairs_len _) (pairs_one _) HB.out.steps).mono ?_); rintro e w2 ⟨v', rfl, ho, hb2⟩)
      exact ⟨_, rfl, grown_of_below hb2 _, own_mono ho HT.out.st.2.1, HT.out.st.below hb2 (Nat.le_trans hhi (by decide)) (Nat.succ_le_succ (Nat.le_trans hhi (by decide : _ ≤ 3)))⟩
    · intro k a w1 hlo hhi ht
      refine step_of_list rfl ?_
      have s1 := ht.old 1 (.pointer (some ⟨w.heap.size, 0, none⟩)) rfl (by kernel_rfl)
      have HT := hd ht
      clear ht
      go_wp2
      exact ⟨_, rfl, World.grownBy.refl _ _, rfl, HT.out.st⟩
    · intro k a w1 hlo hhi ht
      refine step_of_list rfl ?_
      have f0 : a.tmps.getD 12 undef = .pointer (some ⟨w.heap.size, 3, none⟩) := ht.fact 9 (by kernel_rfl)
      obtain ⟨hbl, hsz, hg, hg2⟩ := ht.st
      have c0 : w1.cell? ⟨w.heap.size, 3, none⟩ = some v4 := cell_of_row w1 _ 3 _ _ _ hg
      have HT := hd ht
      clear ht hbl hsz hg hg2
      go_wp2
      exact ⟨_, rfl, World.grownBy.refl _ _, rfl, HT.out.st⟩
    · intro k a w1 hlo hhi ht
      refine step_of_list rfl ?_
      have f0 : a.tmps.getD 13 undef = v4 := ht.fact 10 (by kernel_rfl)
      have hbl := ht.st.1
      have HS := hd (h.before.below hbl)
      have HT := hd ht
      have HB := hd hb
      clear ht hbl
      go_wp2_with (go_at_call 50; (with_reducible refine (cloneP_c _ _ _ _ HS.out (pairs_len _) (pairs_one _) HB.out.before).mono ?_); rintro e w2 ⟨v', rfl, ho, hb2⟩)
      exact ⟨_, rfl, grown_of_below hb2 _, own_mono ho HT.out.st.2.1, HT.out.st.below hb2 (Nat.le_trans hhi (by decide)) (Nat.succ_le_succ (Nat.le_trans hhi (by decide : _ ≤ 3)))⟩
    · intro k a w1 hlo hhi ht
      refine step_of_list rfl ?_
      have f2 : w1.ownsRow _ _ _ (a.tmps.getD 5 undef) _ _ := ht.fact 2 (by kernel_rfl)
      have f5 : w1.ownsRow _ _ _ (a.tmps.getD 8 undef) _ _ := ht.fact 5 (by kernel_rfl)
      have f8 : w1.ownsRow _ _ _ (a.tmps.getD 11 undef) _ _ := ht.fact 8 (by kernel_rfl)
      have f11 : w1.ownsRow _ _ _ (a.tmps.getD 14 undef) _ _ := ht.fact 11 (by kernel_rfl)
      obtain ⟨A1, c1, e1⟩ := own_slice f2
      obtain ⟨A2, c2, e2⟩ := own_slice f5
      obtain ⟨A3, c3, e3⟩ := own_slice f8
      obtain ⟨A4, c4, e4⟩ := own_slice f11
      rw [e1] at f2; rw [e2] at f5; rw [e3] at f8; rw [e4] at f11
      rw [Array.getD_eq_getD_getElem?] at e1 e2 e3 e4
      have HT := hd ht
      have G2 := hd f2; have G5 := hd f5; have G8 := hd f8; have G11 := hd f11
      clear ht f2 f5 f8 f11
      go_wp2
      exact ⟨_, rfl, World.grownBy.refl _ _, ⟨_, _, _, _, rfl, G2.out, G5.out, G8.out, G11.out⟩, HT.out.st⟩
    · intro k a w1 hlo hhi ht
      refine step_of_list rfl ?_
      have s2 := ht.old 2 (.pointer (some ⟨w.heap.size + 1, 0, none⟩)) rfl (by kernel_rfl)
      obtain ⟨u1, u2, u3, u4, f12, o1, o2, o3, o4⟩ := ht.fact 12 (by kernel_rfl)
      replace f12 : a.tmps.getD 15 undef = .agg #[u1, u2, u3, u4] := f12
      obtain ⟨A1, d1, rfl⟩ := own_slice o1
      obtain ⟨A2, d2, rfl⟩ := own_slice o2
      obtain ⟨A3, d3, rfl⟩ := own_slice o3
      obtain ⟨A4, d4, rfl⟩ := own_slice o4
      obtain ⟨h1, h2, h3, h4⟩ := ht.st
      rw [if_pos (Nat.le_trans hhi (by decide))] at h4
      obtain ⟨⟨cs⟩, hcs, hg⟩ := h4
      match cs, hcs with
      | [x1, x2, x3, x4], _ =>
      have c0 := cell_of_row w1 _ 0 _ _ _ hg
      have c1 := cell_of_row w1 _ 1 _ _ _ hg
      have c2 := cell_of_row w1 _ 2 _ _ _ hg
      have c3 := cell_of_row w1 _ 3 _ _ _ hg
      have z0 := fun j => frozen_of_row w1 _ j _ _ hg
      have G2 := hd o1; have G5 := hd o2; have G8 := hd o3; have G11 := hd o4
      have HG := hd hg; have H1 := hd h1; have H2 := hd h2; have H3 := hd h3
      have hk : k = 4 := Nat.le_antisymm hhi hlo
      clear o1 o2 o3 o4 ht hg h1 h2 h3
      go_wp2
      obtain ⟨q1, q2⟩ := four_set w1 (w.heap.size + 1) x1 x2 x3 x4 (.slice A1 p.fr.length d1) (.slice A2 p.to.length d2) (.slice A3 p.steps.length d3) (.slice A4 p.before.length d4) _ HG.out
      refine ⟨rfl, q2, ⟨undef, trivial⟩, ?_, ?_, ?_, ?_⟩
      · exact Below.setCell (Below.setCell (Below.setCell (Below.setCell H1.out (by simp) _) (by simp) _) (by simp) _) (by simp) _
      · have := H2.out; simp [World.setCell]; omega
      · rw [q2.block _ (by have := H2.out; omega) (by simp)]; exact H3.out
      · rw [if_neg (by decide)]
        exact ⟨_, _, _, _, q1, own_kept G2.out q2, own_kept G5.out q2, own_kept G8.out q2, own_kept G11.out q2⟩
  · intro vs w2 hS hR hF
    obtain ⟨h1, h2, h3, h4⟩ := hS
    rw [if_neg (by decide)] at h4
    obtain ⟨u1, u2, u3, u4, hg, o1, o2, o3, o4⟩ := h4
    have c0 := cell_of_row w2 _ 0 _ _ _ hg
    have c1 := cell_of_row w2 _ 1 _ _ _ hg
    have c2 := cell_of_row w2 _ 2 _ _ _ hg
    have c3 := cell_of_row w2 _ 3 _ _ _ hg
    have H1 := hd h1; have H2 := hd h2; have H3 := hd h3
    have G2 := hd o1; have G5 := hd o2; have G8 := hd o3; have G11 := hd o4
    clear hR hF hg h1 h2 h3 o1 o2 o3 o4 h hb
    simp only [putAll, Act.put, List.setIfInBounds_toArray, List.set_cons_succ, List.set_cons_zero, Nat.zero_add, Nat.reduceAdd]
    go_wp2
    exact bodyPost_ret (v := .agg #[u1, u2, u3, u4]) (by simp [results, Tryd.results27, go_sem, c0, c1, c2, c3]) rfl ⟨u1, u2, u3, u4, rfl, ⟨own_mono G2.out (by omega), own_mono G5.out (by omega), own_mono G8.out (by omega), own_mono G11.out (by omega)⟩, H1.out⟩

structure St.bd (s : St) : Prop where
  plan : s.plan.bd
  opn : s.opn.length ≤ 1099511627776
  done : s.done.length ≤ 1099511627776

/-- The row is none of the others'. -/
def apartL (v : Value) (l : List Value) : Prop := ∀ g, v.ownBlock = some g → ∀ u ∈ l, u.ownBlock ≠ some g
theorem apartL_new {w : World} {base base2 : Nat} {e e2 : TypeId} {size size2 n n2 : Nat} {v u : Value} {xs ys : List Value} {w' : World} (h : w'.ownsRow base e size v n xs) (hu : w.ownsRow base2 e2 size2 u n2 ys) (hb : base = w.heap.size) : ∀ g, v.ownBlock = some g → u.ownBlock ≠ some g := by
  intro g hg hug
  have h1 := (h.lt g hg).1
  have h2 := (hu.lt g hug).2
  omega
/-- A state in rows of the call's own. -/
structure OSt (w : World) (base : Nat) (u1 u2 u3 u4 u5 u6 : Value) (s : St) : Prop where
  plan : OPlan w base u1 u2 u3 u4 s.plan
  opn : w.ownsRow base 3 1 u5 s.opn.length (ints s.opn)
  done : w.ownsRow base 3 1 u6 s.done.length (ints s.done)
  ap5 : apartL u5 [u1, u2, u3, u4]
  ap6 : apartL u6 [u1, u2, u3, u4, u5]
def StPost (w : World) (n ph : Int) (s : St) (e : Ending) (w' : World) : Prop := ∃ u1 u2 u3 u4 u5 u6, e = .returned (.agg #[.int .i64 n, .int .i64 ph, u1, u2, u3, u4, u5, u6]) ∧ OSt w' w.heap.size u1 u2 u3 u4 u5 u6 s ∧ Below w.heap.size w w'

def OwnF (g : Nat) (v1 v2 v3 v4 v5 v6 : Value) (s : St) : Nat → Value → World → Prop
  | 0, v, _ => v = .pointer (some ⟨g, 2, none⟩)
  | 1, v, _ => v = .agg #[v1, v2, v3, v4]
  | 2, v, w => ∃ u1 u2 u3 u4, v = .agg #[u1, u2, u3, u4] ∧ OPlan w (g + 2) u1 u2 u3 u4 s.plan
  | 3, v, _ => v = .pointer (some ⟨g, 5 + 1, none⟩)
  | 4, v, _ => v = v5
  | 5, v, w => w.ownsRow (g + 2) 3 1 v s.opn.length (ints s.opn)
  | 6, v, _ => v = .pointer (some ⟨g, 7, none⟩)
  | 7, v, _ => v = v6
  | 8, v, w => w.ownsRow (g + 2) 3 1 v s.done.length (ints s.done)
  | 9, v, _ => v = .pointer (some ⟨g, 2, none⟩)
  | 11, v, _ => v = .pointer (some ⟨g, 5 + 1, none⟩)
  | 13, v, _ => v = .pointer (some ⟨g, 7, none⟩)
  | _, _, _ => True

def OwnG (j i : Nat) (x y : Value) : Prop :=
  match i with
  | 5 => j = 2 → ∀ u1 u2 u3 u4, x = .agg #[u1, u2, u3, u4] → apartL y [u1, u2, u3, u4]
  | 8 => (j = 2 → ∀ u1 u2 u3 u4, x = .agg #[u1, u2, u3, u4] → apartL y [u1, u2, u3, u4]) ∧ (j = 5 → apartL y [x])
  | _ => True
theorem own_apart4 {w w' : World} {base base2 : Nat} {e : TypeId} {size n : Nat} {v u1 u2 u3 u4 x1 x2 x3 x4 : Value} {xs : List Value} {p : Plan} (h : w'.ownsRow base e size v n xs) (hu : OPlan w base2 u1 u2 u3 u4 p) (hb : base = w.heap.size) (hx : Value.agg #[u1, u2, u3, u4] = .agg #[x1, x2, x3, x4]) : apartL v [x1, x2, x3, x4] := by
  simp at hx
  obtain ⟨rfl, rfl, rfl, rfl⟩ := hx
  intro g hg u hu'
  simp at hu'
  rcases hu' with rfl | rfl | rfl | rfl
  · exact apartL_new h hu.fr hb g hg
  · exact apartL_new h hu.to hb g hg
  · exact apartL_new h hu.steps hb g hg
  · exact apartL_new h hu.before hb g hg
theorem OwnF.keep {g : Nat} {v1 v2 v3 v4 v5 v6 : Value} {s : St} (i : Nat) (v : Value) (w w' : World) (h : OwnF g v1 v2 v3 v4 v5 v6 s i v w) (hR : w.grownBy w' (some g)) : OwnF g v1 v2 v3 v4 v5 v6 s i v w' := by
  unfold OwnF at h ⊢
  split at h <;> first | exact h | exact own_kept h hR | (obtain ⟨u1, u2, u3, u4, rfl, h1⟩ := h; exact ⟨u1, u2, u3, u4, rfl, h1.kept hR⟩)

structure OwnS (w0 : World) (n ph : Int) (v1 v2 v3 v4 v5 v6 : Value) (s : St) (k : Nat) (σ : Nat → Value) (w : World) (x1 x2 x3 x4 x5 x6 : Value) : Prop where
  below : Below w0.heap.size w0 w
  size : w0.heap.size + 2 ≤ w.heap.size
  cells : w.heap[w0.heap.size]? = some (.cells #[.int .i64 n, .int .i64 ph, x1, x2, x3, x4, x5, x6] 31 (0, 0))
  old : k ≤ 3 → x1 = v1 ∧ x2 = v2 ∧ x3 = v3 ∧ x4 = v4 ∧ x5 = v5 ∧ x6 = v6
  new1 : 4 ≤ k → OPlan w (w0.heap.size + 2) x1 x2 x3 x4 s.plan
  new2 : 5 ≤ k → w.ownsRow (w0.heap.size + 2) 3 1 x5 s.opn.length (ints s.opn)
  new3 : 6 ≤ k → w.ownsRow (w0.heap.size + 2) 3 1 x6 s.done.length (ints s.done)
  at1 : 4 ≤ k → σ 2 = .agg #[x1, x2, x3, x4]
  at2 : 5 ≤ k → σ 5 = x5
  at3 : 6 ≤ k → σ 8 = x6
def OwnSt (w0 : World) (n ph : Int) (v1 v2 v3 v4 v5 v6 : Value) (s : St) (k : Nat) (σ : Nat → Value) (w : World) : Prop := ∃ x1 x2 x3 x4 x5 x6, OwnS w0 n ph v1 v2 v3 v4 v5 v6 s k σ w x1 x2 x3 x4 x5 x6

theorem OwnSt.below {w0 w w' : World} {n ph : Int} {v1 v2 v3 v4 v5 v6 : Value} {s : St} {k k' : Nat} {σ σ' : Nat → Value} (h : OwnSt w0 n ph v1 v2 v3 v4 v5 v6 s k σ w) (hb : Below w.heap.size w w') (hk : k ≤ 3) (hk' : k' ≤ 3) : OwnSt w0 n ph v1 v2 v3 v4 v5 v6 s k' σ' w' := by
  obtain ⟨x1, x2, x3, x4, x5, x6, h⟩ := h
  refine ⟨x1, x2, x3, x4, x5, x6, Below.step h.below hb, Nat.le_trans h.size hb.size, ?_, fun _ => h.old hk, fun h => by omega, fun h => by omega, fun h => by omega, fun h => by omega, fun h => by omega, fun h => by omega⟩
  rw [hb.block _ (by have := h.size; omega)]; exact h.cells
theorem OwnSt.agree {w0 w : World} {n ph : Int} {v1 v2 v3 v4 v5 v6 : Value} {s : St} {k : Nat} {σ σ' : Nat → Value} (h : OwnSt w0 n ph v1 v2 v3 v4 v5 v6 s k σ w) (h1 : σ' 2 = σ 2) (h2 : σ' 5 = σ 5) (h3 : σ' 8 = σ 8) : OwnSt w0 n ph v1 v2 v3 v4 v5 v6 s k σ' w := by
  obtain ⟨x1, x2, x3, x4, x5, x6, h⟩ := h
  exact ⟨x1, x2, x3, x4, x5, x6, h.below, h.size, h.cells, h.old, h.new1, h.new2, h.new3, fun hk => h1.trans (h.at1 hk), fun hk => h2.trans (h.at2 hk), fun hk => h3.trans (h.at3 hk)⟩
theorem OwnSt.front {w0 w : World} {n ph : Int} {v1 v2 v3 v4 v5 v6 : Value} {s : St} {k : Nat} {σ : Nat → Value} (h : OwnSt w0 n ph v1 v2 v3 v4 v5 v6 s k σ w) (hk : k ≤ 3) : w.heap[w0.heap.size]? = some (.cells #[.int .i64 n, .int .i64 ph, v1, v2, v3, v4, v5, v6] 31 (0, 0)) ∧ Below w0.heap.size w0 w ∧ w0.heap.size + 2 ≤ w.heap.size := by
  obtain ⟨x1, x2, x3, x4, x5, x6, h⟩ := h
  obtain ⟨rfl, rfl, rfl, rfl, rfl, rfl⟩ := h.old hk
  exact ⟨h.cells, h.below, h.size⟩

theorem set_grown (w : World) (g j : Nat) (u : Value) : w.grownBy (w.setCell ⟨g, j, none⟩ u) (some g) := ⟨rfl, rfl, rfl, by simp [World.setCell], fun k _ hk => heap_setCell_other w ⟨g, j, none⟩ k u (fun e => hk (by rw [e]))⟩

set_option maxRecDepth 100000 in
set_option maxHeartbeats 1000000 in
theorem own_c (n ph : Int) (v1 v2 v3 v4 v5 v6 : Value) (s : St) (w : World) (h : RSt w v1 v2 v3 v4 v5 v6 s) (hb : s.bd) :
    Calls Tryd.prog 26 #[.agg #[.int .i64 n, .int .i64 ph, v1, v2, v3, v4, v5, v6]] w (StPost w n ph s) := by
  go_enter Tryd.func26, Tryd.ntmps26
  go_wp2
  refine wp_region_turns2 16 [2, 5, 8, 10, 12, 14] [(0, 0, false), (0, 0, false), (0, 0, true), (0, 1, false), (0, 1, false), (1, 1, true), (0, 2, false), (0, 2, false), (2, 2, true), (1, 3, false), (3, 3, true), (4, 4, false), (4, 4, true), (5, 5, false), (5, 5, true)] (by kernel_rfl) (by kernel_rfl) (fun a b => a.grownBy b (some w.heap.size)) (OwnF w.heap.size v1 v2 v3 v4 v5 v6 s) (OwnSt w n ph v1 v2 v3 v4 v5 v6 s) OwnG (fun w => World.grownBy.refl _ _) (fun _ _ _ a b => grown_trans a b) OwnF.keep ?_ ?_ rfl ?_ ?_ ?_
  · intro i v w' h
    match i with
    | 0 | 1 | 2 | 3 | 4 | 5 | 6 | 7 | 8 | 9 | 11 | 13 => simp at h
    | 10 | 12 | 14 => trivial
    | _ + 15 => trivial
  · intro j i x y h
    match i with
    | 5 | 8 => simp at h
    | 0 | 1 | 2 | 3 | 4 | 6 | 7 | 9 | 10 | 11 | 12 | 13 | 14 => trivial
    | _ + 15 => trivial
  · exact ⟨v1, v2, v3, v4, v5, v6, (by repeat (first | (with_reducible refine hd ?_) | (with_reducible exact Below.refl _ _) | (with_reducible assumption) | (with_reducible refine Below.alloc ?_ (by first | (simp; done) | (simp; omega) | omega) _) | (with_reducible refine Below.setCell ?_ (by first | (simp; done) | (simp; omega) | omega) _) | (with_reducible refine Below.drew ?_) | (with_reducible refine Below.drewN ?_ _) | (with_reducible refine Below.step ?_ (by with_reducible assumption)))), by simp, (two_new w _ _).1, fun _ => ⟨rfl, rfl, rfl, rfl, rfl, rfl⟩, fun h => by omega, fun h => by omega, fun h => by omega, fun h => by omega, fun h => by omega, fun h => by omega⟩
  · refine ⟨?_, ?_, ?_, ?_, ?_, ?_, ?_, ?_, ?_, ?_, ?_, ?_, ?_, ?_, ?_, trivial⟩
    · intro k a w1 hlo hhi ht
      refine step_of_list rfl ?_
      have s1 := ht.old 1 (.pointer (some ⟨w.heap.size, 0, none⟩)) rfl (by kernel_rfl)
      have HT := hd ht
      clear ht
      go_wp2
      exact ⟨_, rfl, World.grownBy.refl _ _, ⟨rfl, fun _ _ => trivial⟩, fun σ hσ => HT.out.st.agree (hσ 2 (by decide)) (hσ 5 (by decide)) (hσ 8 (by decide))⟩
    · intro k a w1 hlo hhi ht
      refine step_of_list rfl ?_
      have f0 : a.tmps.getD 3 undef = .pointer (some ⟨w.heap.size, 2, none⟩) := ht.fact 0 (by kernel_rfl)
      obtain ⟨hg, _, _⟩ := ht.st.front (Nat.le_trans hhi (by decide))
      have c0 := cell_of_row w1 _ 2 _ _ _ hg; have c1 := cell_of_row w1 _ 3 _ _ _ hg; have c2 := cell_of_row w1 _ 4 _ _ _ hg; have c3 := cell_of_row w1 _ 5 _ _ _ hg
      have HT := hd ht
      clear ht hg
      go_wp2
      exact ⟨_, rfl, World.grownBy.refl _ _, ⟨rfl, fun _ _ => trivial⟩, fun σ hσ => HT.out.st.agree (hσ 2 (by decide)) (hσ 5 (by decide)) (hσ 8 (by decide))⟩
    · intro k a w1 hlo hhi ht
      refine step_of_list rfl ?_
      have f0 : a.tmps.getD 4 undef = .agg #[v1, v2, v3, v4] := ht.fact 1 (by kernel_rfl)
      obtain ⟨_, hbl, hsz⟩ := ht.st.front (Nat.le_trans hhi (by decide))
      have HS := hd (h.plan.below hbl)
      have HT := hd ht
      have HB := hd hb
      clear ht hbl
      go_wp2_with (go_at_call 27; (with_reducible refine (copied_c _ _ _ _ _ _ HS.out HB.out.plan).mono ?_); rintro e w2 ⟨u1, u2, u3, u4, rfl, ho, hb2⟩)
      exact ⟨_, rfl, grown_of_below hb2 _, ⟨⟨u1, u2, u3, u4, rfl, ho.mono (by omega)⟩, fun _ _ => trivial⟩, fun σ _ => HT.out.st.below hb2 (Nat.le_trans hhi (by decide)) (Nat.succ_le_succ (Nat.le_trans hhi (by decide : _ ≤ 2)))⟩
    · intro k a w1 hlo hhi ht
      refine step_of_list rfl ?_
      have s1 := ht.old 1 (.pointer (some ⟨w.heap.size, 0, none⟩)) rfl (by kernel_rfl)
      have HT := hd ht
      clear ht
      go_wp2
      exact ⟨_, rfl, World.grownBy.refl _ _, ⟨rfl, fun _ _ => trivial⟩, fun σ hσ => HT.out.st.agree (hσ 2 (by decide)) (hσ 5 (by decide)) (hσ 8 (by decide))⟩
    · intro k a w1 hlo hhi ht
      refine step_of_list rfl ?_
      have f0 : a.tmps.getD 6 undef = .pointer (some ⟨w.heap.size, 6, none⟩) := ht.fact 3 (by kernel_rfl)
      obtain ⟨hg, _, _⟩ := ht.st.front (Nat.le_trans hhi (by decide))
      have c0 := cell_of_row w1 _ 6 _ _ _ hg
      have HT := hd ht
      clear ht hg
      go_wp2
      exact ⟨_, rfl, World.grownBy.refl _ _, ⟨rfl, fun _ _ => trivial⟩, fun σ hσ => HT.out.st.agree (hσ 2 (by decide)) (hσ 5 (by decide)) (hσ 8 (by decide))⟩
    · intro k a w1 hlo hhi ht
      refine step_of_list rfl ?_
      have f0 : a.tmps.getD 7 undef = v5 := ht.fact 4 (by kernel_rfl)
      obtain ⟨_, hbl, hsz⟩ := ht.st.front (Nat.le_trans hhi (by decide))
      have HS := hd (h.opn.below hbl)
      have HF2 := hd (ht.fact 2 (by kernel_rfl))
      skip
      have HT := hd ht
      have HB := hd hb
      clear ht hbl
      go_wp2_with (go_at_call 48; (with_reducible refine (cloneI_c _ _ _ _ HS.out (by rw [ints_len]; omega) (ints_one _) HB.out.opn).mono ?_); rintro e w2 ⟨v', rfl, ho, hb2⟩)
      refine ⟨_, rfl, grown_of_below hb2 _, ⟨own_mono ho (by omega), ?_⟩, fun σ _ => HT.out.st.below hb2 (Nat.le_trans hhi (by decide)) (Nat.succ_le_succ (Nat.le_trans hhi (by decide : _ ≤ 2)))⟩
      obtain ⟨z1, z2, z3, z4, f2, ho2⟩ := HF2.out
      intro j _
      (rintro rfl y1 y2 y3 y4 hy; rw [f2] at hy; exact own_apart4 ho ho2 rfl hy)
    · intro k a w1 hlo hhi ht
      refine step_of_list rfl ?_
      have s1 := ht.old 1 (.pointer (some ⟨w.heap.size, 0, none⟩)) rfl (by kernel_rfl)
      have HT := hd ht
      clear ht
      go_wp2
      exact ⟨_, rfl, World.grownBy.refl _ _, ⟨rfl, fun _ _ => trivial⟩, fun σ hσ => HT.out.st.agree (hσ 2 (by decide)) (hσ 5 (by decide)) (hσ 8 (by decide))⟩
    · intro k a w1 hlo hhi ht
      refine step_of_list rfl ?_
      have f0 : a.tmps.getD 9 undef = .pointer (some ⟨w.heap.size, 7, none⟩) := ht.fact 6 (by kernel_rfl)
      obtain ⟨hg, _, _⟩ := ht.st.front (Nat.le_trans hhi (by decide))
      have c0 := cell_of_row w1 _ 7 _ _ _ hg
      have HT := hd ht
      clear ht hg
      go_wp2
      exact ⟨_, rfl, World.grownBy.refl _ _, ⟨rfl, fun _ _ => trivial⟩, fun σ hσ => HT.out.st.agree (hσ 2 (by decide)) (hσ 5 (by decide)) (hσ 8 (by decide))⟩
    · intro k a w1 hlo hhi ht
      refine step_of_list rfl ?_
      have f0 : a.tmps.getD 10 undef = v6 := ht.fact 7 (by kernel_rfl)
      obtain ⟨_, hbl, hsz⟩ := ht.st.front (Nat.le_trans hhi (by decide))
      have HS := hd (h.done.below hbl)
      have HF2 := hd (ht.fact 2 (by kernel_rfl))
      have HF5 := hd (ht.fact 5 (by kernel_rfl))
      have HT := hd ht
      have HB := hd hb
      clear ht hbl
      go_wp2_with (go_at_call 48; (with_reducible refine (cloneI_c _ _ _ _ HS.out (by rw [ints_len]; omega) (ints_one _) HB.out.done).mono ?_); rintro e w2 ⟨v', rfl, ho, hb2⟩)
      refine ⟨_, rfl, grown_of_below hb2 _, ⟨own_mono ho (by omega), ?_⟩, fun σ _ => HT.out.st.below hb2 (Nat.le_trans hhi (by decide)) (Nat.succ_le_succ (Nat.le_trans hhi (by decide : _ ≤ 2)))⟩
      obtain ⟨z1, z2, z3, z4, f2, ho2⟩ := HF2.out
      intro j _
      refine ⟨fun hj y1 y2 y3 y4 hy => ?_, fun hj g hg u hu => ?_⟩; (subst hj; rw [f2] at hy; exact own_apart4 ho ho2 rfl hy); (subst hj; rw [List.mem_singleton] at hu; subst hu; exact apartL_new ho HF5.out rfl g hg)
    · intro k a w1 hlo hhi ht
      refine step_of_list rfl ?_
      have s1 := ht.old 1 (.pointer (some ⟨w.heap.size, 0, none⟩)) rfl (by kernel_rfl)
      have HT := hd ht
      clear ht
      go_wp2
      exact ⟨_, rfl, World.grownBy.refl _ _, ⟨rfl, fun _ _ => trivial⟩, fun σ hσ => HT.out.st.agree (hσ 2 (by decide)) (hσ 5 (by decide)) (hσ 8 (by decide))⟩
    · intro k a w1 hlo hhi ht
      refine step_of_list rfl ?_
      have s2 : a.tmps.getD 12 undef = .pointer (some ⟨w.heap.size, 2, none⟩) := ht.fact 9 (by kernel_rfl)
      obtain ⟨u1, u2, u3, u4, f2, ho⟩ := ht.fact 2 (by kernel_rfl)
      replace f2 : a.tmps.getD 5 undef = .agg #[u1, u2, u3, u4] := f2
      obtain ⟨A1, d1, A2, d2, A3, d3, A4, d4, rfl, rfl, rfl, rfl⟩ := ho.slices
      obtain ⟨hg, hbl, hsz⟩ := ht.st.front (Nat.le_trans hhi (by decide))
      have hk : k = 3 := Nat.le_antisymm hhi hlo
      have c2 := cell_of_row w1 _ 2 _ _ _ hg
      have c3 := cell_of_row w1 _ 3 _ _ _ hg
      have c4 := cell_of_row w1 _ 4 _ _ _ hg
      have c5 := cell_of_row w1 _ 5 _ _ _ hg
      have z0 := fun j => frozen_of_row w1 _ j _ _ hg
      have HG := hd hg; have HO := hd ho; have HB := hd hbl; have HZ := hd hsz; have F2 := hd f2
      clear hg ho hbl hsz ht
      go_wp2
      have q : ∀ (x1 x2 x3 x4 : Value), w1.grownBy ((((w1.setCell ⟨w.heap.size, 2, none⟩ x1).setCell ⟨w.heap.size, 3, none⟩ x2).setCell ⟨w.heap.size, 4, none⟩ x3).setCell ⟨w.heap.size, 5, none⟩ x4) (some w.heap.size) := fun _ _ _ _ => grown_trans (grown_trans (grown_trans (set_grown _ _ _ _) (set_grown _ _ _ _)) (set_grown _ _ _ _)) (set_grown _ _ _ _)
      refine ⟨rfl, q _ _ _ _, ⟨undef, trivial, fun _ _ => trivial⟩, fun σ hσ => ⟨_, _, _, _, v5, v6, ?_, ?_, heap_setCell_same _ _ 5 _ _ _ (heap_setCell_same _ _ 4 _ _ _ (heap_setCell_same _ _ 3 _ _ _ (heap_setCell_same _ _ 2 _ _ _ HG.out))), fun h => by omega, fun _ => HO.out.kept (q _ _ _ _), fun h => by omega, fun h => by omega, fun _ => (hσ 2 (by decide)).trans F2.out, fun h => by omega, fun h => by omega⟩⟩
      · exact Below.setCell (Below.setCell (Below.setCell (Below.setCell HB.out (by simp) _) (by simp) _) (by simp) _) (by simp) _
      · have := HZ.out; simp [World.setCell]; omega
    · intro k a w1 hlo hhi ht
      refine step_of_list rfl ?_
      have s1 := ht.old 1 (.pointer (some ⟨w.heap.size, 0, none⟩)) rfl (by kernel_rfl)
      have HT := hd ht
      clear ht
      go_wp2
      exact ⟨_, rfl, World.grownBy.refl _ _, ⟨rfl, fun _ _ => trivial⟩, fun σ hσ => HT.out.st.agree (hσ 2 (by decide)) (hσ 5 (by decide)) (hσ 8 (by decide))⟩
    · intro k a w1 hlo hhi ht
      refine step_of_list rfl ?_
      have s2 : a.tmps.getD 13 undef = .pointer (some ⟨w.heap.size, 6, none⟩) := ht.fact 11 (by kernel_rfl)
      have ho : w1.ownsRow _ _ _ (a.tmps.getD 8 undef) _ _ := ht.fact 5 (by kernel_rfl)
      obtain ⟨A1, d1, e1⟩ := own_slice ho
      have E1 := hd e1
      rw [e1] at ho
      obtain ⟨x1, x2, x3, x4, x5, x6, hs⟩ := ht.st
      have c2 := cell_of_row w1 _ 6 _ _ _ hs.cells
      have z0 := fun j => frozen_of_row w1 _ j _ _ hs.cells
      have HO := hd ho; have HS := hd hs; have HLO := hd hlo; have HHI := hd hhi
      clear ho ht hs hlo hhi
      go_wp2
      have hlo : 4 ≤ k := HLO.out
      have hhi : k ≤ 4 := HHI.out
      have hs := HS.out
      have q : ∀ (x1 : Value), w1.grownBy (w1.setCell ⟨w.heap.size, 6, none⟩ x1) (some w.heap.size) := fun _ => set_grown _ _ _ _
      refine ⟨rfl, q _, ⟨undef, trivial, fun _ _ => trivial⟩, fun σ hσ => ⟨x1, x2, x3, x4, _, x6, Below.setCell hs.below (by simp) _, by have := hs.size; simp [World.setCell]; omega, heap_setCell_same _ _ 6 _ _ _ hs.cells, fun h => by omega, fun _ => (hs.new1 (by omega)).kept (q _), ?_, ?_, fun _ => (hσ 2 (by decide)).trans (hs.at1 (by omega)), ?_, ?_⟩⟩
      · intro _; exact own_kept HO.out (q _)
      · intro h; omega
      · intro _; exact (hσ 5 (by decide)).trans E1.out
      · intro h; omega
    · intro k a w1 hlo hhi ht
      refine step_of_list rfl ?_
      have s1 := ht.old 1 (.pointer (some ⟨w.heap.size, 0, none⟩)) rfl (by kernel_rfl)
      have HT := hd ht
      clear ht
      go_wp2
      exact ⟨_, rfl, World.grownBy.refl _ _, ⟨rfl, fun _ _ => trivial⟩, fun σ hσ => HT.out.st.agree (hσ 2 (by decide)) (hσ 5 (by decide)) (hσ 8 (by decide))⟩
    · intro k a w1 hlo hhi ht
      refine step_of_list rfl ?_
      have s2 : a.tmps.getD 14 undef = .pointer (some ⟨w.heap.size, 7, none⟩) := ht.fact 13 (by kernel_rfl)
      have ho : w1.ownsRow _ _ _ (a.tmps.getD 11 undef) _ _ := ht.fact 8 (by kernel_rfl)
      obtain ⟨A1, d1, e1⟩ := own_slice ho
      have E1 := hd e1
      rw [e1] at ho
      obtain ⟨x1, x2, x3, x4, x5, x6, hs⟩ := ht.st
      have c2 := cell_of_row w1 _ 7 _ _ _ hs.cells
      have z0 := fun j => frozen_of_row w1 _ j _ _ hs.cells
      have HO := hd ho; have HS := hd hs; have HLO := hd hlo; have HHI := hd hhi
      clear ho ht hs hlo hhi
      go_wp2
      have hlo : 5 ≤ k := HLO.out
      have hhi : k ≤ 5 := HHI.out
      have hs := HS.out
      have q : ∀ (x1 : Value), w1.grownBy (w1.setCell ⟨w.heap.size, 7, none⟩ x1) (some w.heap.size) := fun _ => set_grown _ _ _ _
      refine ⟨rfl, q _, ⟨undef, trivial, fun _ _ => trivial⟩, fun σ hσ => ⟨x1, x2, x3, x4, x5, _, Below.setCell hs.below (by simp) _, by have := hs.size; simp [World.setCell]; omega, heap_setCell_same _ _ 7 _ _ _ hs.cells, fun h => by omega, fun _ => (hs.new1 (by omega)).kept (q _), ?_, ?_, fun _ => (hσ 2 (by decide)).trans (hs.at1 (by omega)), ?_, ?_⟩⟩
      · intro _; exact own_kept (hs.new2 (by omega)) (q _)
      · intro _; exact own_kept HO.out (q _)
      · intro _; exact (hσ 5 (by decide)).trans (hs.at2 (by omega))
      · intro _; exact (hσ 8 (by decide)).trans E1.out
  · intro vs w2 hS hR hF hG
    obtain ⟨x1, x2, x3, x4, x5, x6, hs⟩ := hS
    have g5 : apartL x5 [x1, x2, x3, x4] := by
      have := hG 5 2 (by decide) (by kernel_rfl) rfl _ _ _ _ (hs.at1 (by decide)); rw [hs.at2 (by decide)] at this; exact this
    have g6 : apartL x6 [x1, x2, x3, x4, x5] := by
      have h1 := (hG 8 2 (by decide) (by kernel_rfl)).1 rfl _ _ _ _ (hs.at1 (by decide)); rw [hs.at3 (by decide)] at h1
      have h2 := (hG 8 5 (by decide) (by kernel_rfl)).2 rfl; rw [hs.at3 (by decide), hs.at2 (by decide)] at h2
      intro g hg u hu
      simp at hu
      rcases hu with rfl | rfl | rfl | rfl | rfl
      · exact h1 g hg _ (by simp)
      · exact h1 g hg _ (by simp)
      · exact h1 g hg _ (by simp)
      · exact h1 g hg _ (by simp)
      · exact h2 g hg _ (by simp)
    have hp := hs.new1 (by decide)
    have ho := hs.new2 (by decide)
    have hdn := hs.new3 (by decide)
    obtain ⟨A1, d1, A2, d2, A3, d3, A4, d4, rfl, rfl, rfl, rfl⟩ := hp.slices
    obtain ⟨A5, d5, rfl⟩ := own_slice ho
    obtain ⟨A6, d6, rfl⟩ := own_slice hdn
    have hg2 : w2.heap[w.heap.size + 1]? = some (.cells #[.int .i64 0, .int .i64 0, .slice none 0 0, .slice none 0 0, .slice none 0 0, .slice none 0 0, .slice none 0 0, .slice none 0 0] 31 (0, 0)) :=
      (hR.block (w.heap.size + 1) (by simp) (by simp)).trans (two_new w _ _).2
    have c0 := cell_of_row w2 _ 0 _ _ _ hs.cells
    have c1 := cell_of_row w2 _ 1 _ _ _ hs.cells
    have c2 := cell_of_row w2 _ 2 _ _ _ hs.cells
    have c3 := cell_of_row w2 _ 3 _ _ _ hs.cells
    have c4 := cell_of_row w2 _ 4 _ _ _ hs.cells
    have c5 := cell_of_row w2 _ 5 _ _ _ hs.cells
    have c6 := cell_of_row w2 _ 6 _ _ _ hs.cells
    have c7 := cell_of_row w2 _ 7 _ _ _ hs.cells
    have k0 := cell_of_row w2 _ 0 _ _ _ hg2
    have k1 := cell_of_row w2 _ 1 _ _ _ hg2
    have k2 := cell_of_row w2 _ 2 _ _ _ hg2
    have k3 := cell_of_row w2 _ 3 _ _ _ hg2
    have k4 := cell_of_row w2 _ 4 _ _ _ hg2
    have k5 := cell_of_row w2 _ 5 _ _ _ hg2
    have k6 := cell_of_row w2 _ 6 _ _ _ hg2
    have k7 := cell_of_row w2 _ 7 _ _ _ hg2
    have z0 := fun j => frozen_of_row w2 _ j _ _ hg2
    have HP := hd hp; have HO := hd ho; have HD := hd hdn; have HS := hd hs; have G5 := hd g5; have G6 := hd g6
    clear g5 g6 hG hR hF hs hp ho hdn hg2 h hb
    simp only [putAll, Act.put, List.setIfInBounds_toArray, List.set_cons_succ, List.set_cons_zero, Nat.zero_add, Nat.reduceAdd]
    go_wp2
    have q : ∀ (x0 x1 x2 x3 x4 x5 x6 x7 : Value), w2.grownBy ((((((((w2.setCell ⟨w.heap.size + 1, 0, none⟩ x0).setCell ⟨w.heap.size + 1, 1, none⟩ x1).setCell ⟨w.heap.size + 1, 2, none⟩ x2).setCell ⟨w.heap.size + 1, 3, none⟩ x3).setCell ⟨w.heap.size + 1, 4, none⟩ x4).setCell ⟨w.heap.size + 1, 5, none⟩ x5).setCell ⟨w.heap.size + 1, 6, none⟩ x6).setCell ⟨w.heap.size + 1, 7, none⟩ x7) (some (w.heap.size + 1)) :=
      fun _ _ _ _ _ _ _ _ => grown_trans (grown_trans (grown_trans (grown_trans (grown_trans (grown_trans (grown_trans (set_grown _ _ _ _) (set_grown _ _ _ _)) (set_grown _ _ _ _)) (set_grown _ _ _ _)) (set_grown _ _ _ _)) (set_grown _ _ _ _)) (set_grown _ _ _ _)) (set_grown _ _ _ _)
    refine bodyPost_ret (v := .agg #[.int .i64 n, .int .i64 ph, .slice A1 s.plan.fr.length d1, .slice A2 s.plan.to.length d2, .slice A3 s.plan.steps.length d3, .slice A4 s.plan.before.length d4, .slice A5 s.opn.length d5, .slice A6 s.done.length d6]) (by simp [results, Tryd.results26, go_sem, k0, k1, k2, k3, k4, k5, k6, k7]) rfl ?_
    exact ⟨_, _, _, _, _, _, rfl, ⟨(HP.out.kept (q _ _ _ _ _ _ _ _)).mono (by omega), own_mono (own_kept HO.out (q _ _ _ _ _ _ _ _)) (by omega), own_mono (own_kept HD.out (q _ _ _ _ _ _ _ _)) (by omega), G5.out, G6.out⟩, Below.grown HS.out.below (q _ _ _ _ _ _ _ _) (by have := HS.out.size; omega) (by intro k hk; injection hk with hk; omega)⟩
end Go.Proofs.YtaamjpeehejafaaDoor
