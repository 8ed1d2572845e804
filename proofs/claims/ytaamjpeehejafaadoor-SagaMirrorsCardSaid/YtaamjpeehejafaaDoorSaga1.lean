/- Contracts of the saga's small functions. -/
import Derived.Test.YtaamjpeehejafaaDoorSl1
import Derived.Test.YtaamjpeehejafaaDoorSagaM
set_option linter.unusedSimpArgs false
set_option linter.unusedVariables false
namespace Go.Proofs.YtaamjpeehejafaaDoor
open Go Go.RowKit

set_option maxHeartbeats 400000 in
theorem last_c (a b : Int) (w : World) : Calls Tryd.prog 31 #[.agg #[.int .i64 a, .int .i64 b]] w fun e w' => e = .returned (.bool (lastS (a, b))) ∧ Below w.heap.size w w' := by
  go_enter Tryd.func31, Tryd.ntmps31
  go_wp2
  go_ret
  exact ⟨rfl, Below.box _ _⟩
set_option maxHeartbeats 400000 in
theorem stepped_c (k : Int) (w : World) : Calls Tryd.prog 35 #[.int .i64 k] w fun e w' => e = .returned (.bool (stepped k)) ∧ w = w' := by
  go_enter Tryd.func35, Tryd.ntmps35
  go_wp2
  all_goals (go_ret; exact ⟨ret_bool (by rw [Bool.eq_iff_iff]; simp [stepped]; omega), rfl⟩)
set_option maxHeartbeats 400000 in
theorem bare_c (v1 v2 v3 v4 : Value) (p : Plan) (w : World) (h : RPlan w v1 v2 v3 v4 p) : Calls Tryd.prog 45 #[.agg #[v1, v2, v3, v4]] w fun e w' => e = .returned (.bool p.bare) ∧ Below w.heap.size w w' := by
  obtain ⟨⟨⟨A1, c1, rfl, _, _, ⟨_, b1⟩, _⟩⟩, ⟨⟨A2, c2, rfl, _, _, ⟨_, b2⟩, _⟩⟩, ⟨⟨A3, c3, rfl, _, _, ⟨_, b3⟩, _⟩⟩, ⟨⟨A4, c4, rfl, _, _, ⟨_, b4⟩, _⟩⟩⟩ := h
  go_enter Tryd.func45, Tryd.ntmps45
  go_wp2
  all_goals (go_ret; exact ⟨ret_bool (by rw [Bool.eq_iff_iff]; simp [Plan.bare]), Below.box _ _⟩)
set_option maxHeartbeats 400000 in
theorem when_c (k ph : Int) (w : World) : Calls Tryd.prog 24 #[.int .i64 k, .int .i64 ph] w fun e w' => e = .returned (.bool (when k ph)) ∧ w = w' := by
  go_enter Tryd.func24, Tryd.ntmps24
  go_wp2
  all_goals (go_ret; exact ⟨ret_bool (by rw [Bool.eq_iff_iff]; simp only [when, beq_iff_eq, beq_eq_false_iff_ne, ne_eq] at *; (repeat' split) <;> simp_all <;> omega), rfl⟩)
set_option maxHeartbeats 400000 in
theorem formed_c (k s : Int) (v1 v2 v3 v4 : Value) (p : Plan) (w : World) (h : RPlan w v1 v2 v3 v4 p) : Calls Tryd.prog 23 #[.agg #[.int .i64 k, .int .i64 s, v1, v2, v3, v4]] w fun e w' => e = .returned (.bool (Rec.formed ⟨k, s, p⟩)) ∧ Below w.heap.size w w' := by
  go_enter Tryd.func23, Tryd.ntmps23
  go_wp2_with (first | (go_at_call 45; (with_reducible refine (bare_c _ _ _ _ p _ (h.below (Below.box _ _))).mono ?_); rintro e w1 ⟨rfl, hb1⟩; obtain ⟨hc1, hf1⟩ := bcell hb1) | (go_at_call 35; (with_reducible refine (stepped_c _ _).mono ?_); rintro e w1 ⟨rfl, rfl⟩))
  all_goals (go_ret; exact ⟨ret_bool (by rw [Bool.eq_iff_iff]; simp_all [Rec.formed] <;> omega), (by repeat (first | (with_reducible refine hd ?_) | (with_reducible exact Below.refl _ _) | (with_reducible assumption) | (with_reducible refine Below.alloc ?_ (by first | (simp; done) | (simp; omega) | omega) _) | (with_reducible refine Below.setCell ?_ (by first | (simp; done) | (simp; omega) | omega) _) | (with_reducible refine Below.drew ?_) | (with_reducible refine Below.drewN ?_ _) | (with_reducible refine Below.step ?_ (by with_reducible assumption))))⟩)

set_option maxHeartbeats 400000 in
theorem drop1_c (x y : Int) (g : Addr) (w : World) (hg : w.cell? g = some (.int .i64 y)) : Calls Tryd.prog 52 #[.int .i64 x, .pointer (some g)] w fun e w' => e = .returned (.bool (x == y)) ∧ w = w' := by
  go_enter Tryd.func52, Tryd.ntmps52
  go_wp2
  go_ret
  exact ⟨rfl, rfl⟩
set_option maxHeartbeats 400000 in
theorem begins1_c (a b : Int) (w : World) : Calls Tryd.prog 78 #[.agg #[.int .i64 a, .int .i64 b]] w fun e w' => e = .returned (.bool (decide (b < 1) || decide (b > 3))) ∧ Below w.heap.size w w' := by
  go_enter Tryd.func78, Tryd.ntmps78
  go_wp2
  all_goals (go_ret; exact ⟨ret_bool (by first | rfl | (rw [Bool.eq_iff_iff]; first | (simp_all; done) | (simp_all; omega))), (by repeat (first | (with_reducible refine hd ?_) | (with_reducible exact Below.refl _ _) | (with_reducible assumption) | (with_reducible refine Below.alloc ?_ (by first | (simp; done) | (simp; omega) | omega) _) | (with_reducible refine Below.setCell ?_ (by first | (simp; done) | (simp; omega) | omega) _) | (with_reducible refine Below.drew ?_) | (with_reducible refine Below.drewN ?_ _) | (with_reducible refine Below.step ?_ (by with_reducible assumption))))⟩)

set_option maxHeartbeats 400000 in
theorem may1_c (x : Int × Int) (k : Int) (g h : Nat) (v1 v2 v3 v4 v5 v6 : Value) (s : St) (w : World) (hs : RSt w v1 v2 v3 v4 v5 v6 s) (hg : w.cell? ⟨g, 0, none⟩ = some (.int .i64 k)) (hh : w.cell? ⟨h, 7, none⟩ = some v6) :
    Calls Tryd.prog 33 #[.agg #[.int .i64 x.1, .int .i64 x.2], .pointer (some ⟨g, 0, none⟩), .pointer (some ⟨h, 0, none⟩)] w fun e w' => e = .returned (.bool (s.waits k x)) ∧ Below w.heap.size w w' := by
  have hgl := World.block_lt_of_cell? w _ hg
  have hhl := World.block_lt_of_cell? w _ hh
  simp only at hgl hhl
  have HS := hd hs; clear hs
  go_enter Tryd.func33, Tryd.ntmps33
  go_wp2_with (go_at_call 30; (with_reducible refine (contains_c _ _ _ _ (HS.out.done.below (Below.box _ _))).mono ?_); rintro e w' ⟨rfl, rfl⟩)
  all_goals (go_ret; exact ⟨ret_bool (by rw [Bool.eq_iff_iff]; first | (simp_all [St.waits]; done) | (simp_all [St.waits]; omega)), (by repeat (first | (with_reducible refine hd ?_) | (with_reducible exact Below.refl _ _) | (with_reducible assumption) | (with_reducible refine Below.alloc ?_ (by first | (simp; done) | (simp; omega) | omega) _) | (with_reducible refine Below.setCell ?_ (by first | (simp; done) | (simp; omega) | omega) _) | (with_reducible refine Below.drew ?_) | (with_reducible refine Below.drewN ?_ _) | (with_reducible refine Below.step ?_ (by with_reducible assumption))))⟩)

set_option maxRecDepth 100000 in
set_option maxHeartbeats 1000000 in
theorem may_c (k n ph : Int) (v1 v2 v3 v4 v5 v6 : Value) (s : St) (w : World) (hs : RSt w v1 v2 v3 v4 v5 v6 s) (hph : ph = s.phase) :
    Calls Tryd.prog 13 #[.agg #[.int .i64 n, .int .i64 ph, v1, v2, v3, v4, v5, v6], .int .i64 k] w fun e w' => e = .returned (.bool (s.may k)) ∧ Below w.heap.size w w' := by
  have HS := hd hs
  obtain ⟨⟨_, _, hst, hbf⟩, hop, hdn⟩ := hs
  obtain ⟨⟨A3, c3, rfl, hnc, hcm, ⟨_, b3⟩, hcell⟩⟩ := hst
  have HB := hd hbf; have HO := hd hop; have HD := hd hdn; clear hbf hop hdn
  subst hph
  by_cases h0 : k < 0
  · have Hr : Hid (s.may k = false) := by simp [Hid, St.may, h0]
    clear hcell
    go_enter Tryd.func13, Tryd.ntmps13
    go_wp2
    go_ret
    exact ⟨ret_bool Hr.out.symm, (by repeat (first | (with_reducible refine hd ?_) | (with_reducible exact Below.refl _ _) | (with_reducible assumption) | (with_reducible refine Below.alloc ?_ (by first | (simp; done) | (simp; omega) | omega) _) | (with_reducible refine Below.setCell ?_ (by first | (simp; done) | (simp; omega) | omega) _) | (with_reducible refine Below.drew ?_) | (with_reducible refine Below.drewN ?_ _) | (with_reducible refine Below.step ?_ (by with_reducible assumption))))⟩
  obtain ⟨m, rfl⟩ := Int.eq_ofNat_of_zero_le (by omega : 0 ≤ k)
  by_cases h1 : s.plan.steps.length ≤ m
  · have Hr : Hid (s.may m = false) := by simp [Hid, St.may]; omega
    clear hcell
    go_enter Tryd.func13, Tryd.ntmps13
    go_wp2
    go_ret
    exact ⟨ret_bool Hr.out.symm, (by repeat (first | (with_reducible refine hd ?_) | (with_reducible exact Below.refl _ _) | (with_reducible assumption) | (with_reducible refine Below.alloc ?_ (by first | (simp; done) | (simp; omega) | omega) _) | (with_reducible refine Below.setCell ?_ (by first | (simp; done) | (simp; omega) | omega) _) | (with_reducible refine Below.drew ?_) | (with_reducible refine Below.drewN ?_ _) | (with_reducible refine Below.step ?_ (by with_reducible assumption))))⟩
  have hm : m < s.plan.steps.length := by omega
  cases ho : has s.opn (m : Int) with
  | true =>
    have Hr : Hid (s.may m = false) := by simp only [Hid, St.may]; rw [if_neg (by omega), if_pos (.inl ho)]
    clear hcell
    go_enter Tryd.func13, Tryd.ntmps13
    go_wp2_with (go_at_call 30; (with_reducible refine (contains_c _ _ _ _ (HO.out.below (by repeat (first | (with_reducible refine hd ?_) | (with_reducible exact Below.refl _ _) | (with_reducible assumption) | (with_reducible refine Below.alloc ?_ (by first | (simp; done) | (simp; omega) | omega) _) | (with_reducible refine Below.setCell ?_ (by first | (simp; done) | (simp; omega) | omega) _) | (with_reducible refine Below.drew ?_) | (with_reducible refine Below.drewN ?_ _) | (with_reducible refine Below.step ?_ (by with_reducible assumption)))))).mono ?_); rintro e w' ⟨rfl, rfl⟩)
    go_ret
    exact ⟨ret_bool Hr.out.symm, (by repeat (first | (with_reducible refine hd ?_) | (with_reducible exact Below.refl _ _) | (with_reducible assumption) | (with_reducible refine Below.alloc ?_ (by first | (simp; done) | (simp; omega) | omega) _) | (with_reducible refine Below.setCell ?_ (by first | (simp; done) | (simp; omega) | omega) _) | (with_reducible refine Below.drew ?_) | (with_reducible refine Below.drewN ?_ _) | (with_reducible refine Below.step ?_ (by with_reducible assumption))))⟩
  | false =>
    cases hdd : has s.done (m : Int) with
    | true =>
      have Hr : Hid (s.may m = false) := by simp only [Hid, St.may]; rw [if_neg (by omega), if_pos (.inr hdd)]
      clear hcell
      go_enter Tryd.func13, Tryd.ntmps13
      go_wp2_with (first | (go_at_call 30; (with_reducible refine (contains_c _ _ _ _ (HO.out.below (by repeat (first | (with_reducible refine hd ?_) | (with_reducible exact Below.refl _ _) | (with_reducible assumption) | (with_reducible refine Below.alloc ?_ (by first | (simp; done) | (simp; omega) | omega) _) | (with_reducible refine Below.setCell ?_ (by first | (simp; done) | (simp; omega) | omega) _) | (with_reducible refine Below.drew ?_) | (with_reducible refine Below.drewN ?_ _) | (with_reducible refine Below.step ?_ (by with_reducible assumption)))))).mono ?_); rintro e w' ⟨rfl, rfl⟩; clear HO) | (go_at_call 30; (with_reducible refine (contains_c _ _ _ _ (HD.out.below (by repeat (first | (with_reducible refine hd ?_) | (with_reducible exact Below.refl _ _) | (with_reducible assumption) | (with_reducible refine Below.alloc ?_ (by first | (simp; done) | (simp; omega) | omega) _) | (with_reducible refine Below.setCell ?_ (by first | (simp; done) | (simp; omega) | omega) _) | (with_reducible refine Below.drew ?_) | (with_reducible refine Below.drewN ?_ _) | (with_reducible refine Below.step ?_ (by with_reducible assumption)))))).mono ?_); rintro e w' ⟨rfl, rfl⟩; clear HD))
      go_ret
      exact ⟨ret_bool Hr.out.symm, (by repeat (first | (with_reducible refine hd ?_) | (with_reducible exact Below.refl _ _) | (with_reducible assumption) | (with_reducible refine Below.alloc ?_ (by first | (simp; done) | (simp; omega) | omega) _) | (with_reducible refine Below.setCell ?_ (by first | (simp; done) | (simp; omega) | omega) _) | (with_reducible refine Below.drew ?_) | (with_reducible refine Below.drewN ?_ _) | (with_reducible refine Below.step ?_ (by with_reducible assumption))))⟩
    | false =>
      obtain ⟨b, off, rfl, hc⟩ := hcell (pairs_ne _ m hm)
      have c0 := hc _ _ (pairs_get0 s.plan.steps m hm)
      have c1 := hc _ _ (pairs_get1 s.plan.steps m hm)
      rw [← Nat.add_assoc] at c1
      have hbl := World.block_lt_of_cell? w _ c0
      simp only at hbl
      clear hc hcell
      have hg : s.plan.steps.getD m (0, 0) = s.plan.steps[m] := by simp [hm]
      have Hr : Hid (s.may m = if !((s.phase == 1 && !lastS s.plan.steps[m]) || (s.phase == 3 && lastS s.plan.steps[m])) then false else !s.plan.before.any (s.waits m)) := by
        simp only [Hid, St.may]; rw [if_neg (by omega), if_neg (by simp [ho, hdd])]; simp only [Int.toNat_natCast, hg]
      clear hg
      have HL : Hid (∀ w1, Calls Tryd.prog 31 #[.agg #[.int .i64 s.plan.steps[m].1, .int .i64 s.plan.steps[m].2]] w1 fun e w' => e = .returned (.bool (lastS s.plan.steps[m])) ∧ Below w1.heap.size w1 w') := fun w1 => last_c _ _ w1
      generalize lastS s.plan.steps[m] = l at Hr HL
      generalize hx0 : s.plan.steps[m].1 = x0 at c0 HL
      generalize hx1 : s.plan.steps[m].2 = x1 at c1 HL
      clear hx0 hx1
      by_cases hph : (!((s.phase == 1 && !l) || (s.phase == 3 && l))) = true
      · have Hr' : Hid (s.may m = false) := by rw [Hid, Hr.out, if_pos hph]
        cases l
        all_goals
          simp only [Bool.not_false, Bool.not_true, Bool.and_true, Bool.and_false, Bool.or_false, Bool.false_or, Bool.not_eq_true', beq_eq_false_iff_ne] at hph
          have hph' := beq_eq_false_iff_ne.2 hph
          clear hph
          go_enter Tryd.func13, Tryd.ntmps13
          go_wp2_with (first | (go_at_call 30; (with_reducible refine (contains_c _ _ _ _ (HO.out.below (by repeat (first | (with_reducible refine hd ?_) | (with_reducible exact Below.refl _ _) | (with_reducible assumption) | (with_reducible refine Below.alloc ?_ (by first | (simp; done) | (simp; omega) | omega) _) | (with_reducible refine Below.setCell ?_ (by first | (simp; done) | (simp; omega) | omega) _) | (with_reducible refine Below.drew ?_) | (with_reducible refine Below.drewN ?_ _) | (with_reducible refine Below.step ?_ (by with_reducible assumption)))))).mono ?_); rintro e w' ⟨rfl, rfl⟩; clear HO) | (go_at_call 30; (with_reducible refine (contains_c _ _ _ _ (HD.out.below (by repeat (first | (with_reducible refine hd ?_) | (with_reducible exact Below.refl _ _) | (with_reducible assumption) | (with_reducible refine Below.alloc ?_ (by first | (simp; done) | (simp; omega) | omega) _) | (with_reducible refine Below.setCell ?_ (by first | (simp; done) | (simp; omega) | omega) _) | (with_reducible refine Below.drew ?_) | (with_reducible refine Below.drewN ?_ _) | (with_reducible refine Below.step ?_ (by with_reducible assumption)))))).mono ?_); rintro e w' ⟨rfl, rfl⟩; clear HD) | (go_at_call 31; (with_reducible refine (HL.out _).mono ?_); rintro e w1 ⟨rfl, hb1⟩; obtain ⟨hc1, hf1⟩ := bcell hb1))
          all_goals (go_ret; exact ⟨ret_bool Hr'.out.symm, (by repeat (first | (with_reducible refine hd ?_) | (with_reducible exact Below.refl _ _) | (with_reducible assumption) | (with_reducible refine Below.alloc ?_ (by first | (simp; done) | (simp; omega) | omega) _) | (with_reducible refine Below.setCell ?_ (by first | (simp; done) | (simp; omega) | omega) _) | (with_reducible refine Below.drew ?_) | (with_reducible refine Below.drewN ?_ _) | (with_reducible refine Below.step ?_ (by with_reducible assumption))))⟩)
      · have Hr' : Hid (s.may m = !s.plan.before.any (s.waits m)) := by rw [Hid, Hr.out, if_neg hph]
        cases l
        all_goals
          simp only [Bool.not_false, Bool.not_true, Bool.and_true, Bool.and_false, Bool.or_false, Bool.false_or, Bool.not_eq_true', Bool.not_eq_false, beq_iff_eq] at hph
          go_enter Tryd.func13, Tryd.ntmps13
          go_wp2_with (first | (go_at_call 30; (with_reducible refine (contains_c _ _ _ _ (HO.out.below (by repeat (first | (with_reducible refine hd ?_) | (with_reducible exact Below.refl _ _) | (with_reducible assumption) | (with_reducible refine Below.alloc ?_ (by first | (simp; done) | (simp; omega) | omega) _) | (with_reducible refine Below.setCell ?_ (by first | (simp; done) | (simp; omega) | omega) _) | (with_reducible refine Below.drew ?_) | (with_reducible refine Below.drewN ?_ _) | (with_reducible refine Below.step ?_ (by with_reducible assumption)))))).mono ?_); rintro e w' ⟨rfl, rfl⟩; clear HO) | (go_at_call 30; (with_reducible refine (contains_c _ _ _ _ (HD.out.below (by repeat (first | (with_reducible refine hd ?_) | (with_reducible exact Below.refl _ _) | (with_reducible assumption) | (with_reducible refine Below.alloc ?_ (by first | (simp; done) | (simp; omega) | omega) _) | (with_reducible refine Below.setCell ?_ (by first | (simp; done) | (simp; omega) | omega) _) | (with_reducible refine Below.drew ?_) | (with_reducible refine Below.drewN ?_ _) | (with_reducible refine Below.step ?_ (by with_reducible assumption)))))).mono ?_); rintro e w' ⟨rfl, rfl⟩; clear HD) | (go_at_call 31; (with_reducible refine (HL.out _).mono ?_); rintro e w1 ⟨rfl, hb1⟩; obtain ⟨hc1, hf1⟩ := bcell hb1))
          have k1 : w1.cell? ⟨w.heap.size + 1, 0, none⟩ = some (.int .i64 m) := by rw [hc1 _ _ (by simp)]; simp [go_sem]
          have k2 : w1.cell? ⟨w.heap.size, 7, none⟩ = some v6 := by rw [hc1 _ _ (by simp; omega)]; simp [go_sem]
          have hz : w.heap.size + 1 < w1.heap.size := by have := hb1.size; simp at this; omega
          refine (cindexFuncP_c v4 s.plan.before _ (HB.out.below (by repeat (first | (with_reducible refine hd ?_) | (with_reducible exact Below.refl _ _) | (with_reducible assumption) | (with_reducible refine Below.alloc ?_ (by first | (simp; done) | (simp; omega) | omega) _) | (with_reducible refine Below.setCell ?_ (by first | (simp; done) | (simp; omega) | omega) _) | (with_reducible refine Below.drew ?_) | (with_reducible refine Below.drewN ?_ _) | (with_reducible refine Below.step ?_ (by with_reducible assumption))))) ⟨w.heap.size + 1, 0, none⟩ ⟨w.heap.size, 0, none⟩ (s.waits m) (fun x wx hbx => may1_c x m _ _ v1 v2 _ v4 v5 v6 s wx (HS.out.below (by repeat (first | (with_reducible refine hd ?_) | (with_reducible exact Below.refl _ _) | (with_reducible assumption) | (with_reducible refine Below.alloc ?_ (by first | (simp; done) | (simp; omega) | omega) _) | (with_reducible refine Below.setCell ?_ (by first | (simp; done) | (simp; omega) | omega) _) | (with_reducible refine Below.drew ?_) | (with_reducible refine Below.drewN ?_ _) | (with_reducible refine Below.step ?_ (by with_reducible assumption))))) ((hbx.cell (p := ⟨_, _, _⟩) (by simp; omega)).trans k1) ((hbx.cell (p := ⟨_, _, _⟩) (by simp; omega)).trans k2))).mono ?_
          rintro e w2 ⟨rfl, hb2⟩
          clear hc1 hf1 k1 k2
          go_wp2
          go_ret
          exact ⟨ret_bool Hr'.out.symm, (by repeat (first | (with_reducible refine hd ?_) | (with_reducible exact Below.refl _ _) | (with_reducible assumption) | (with_reducible refine Below.alloc ?_ (by first | (simp; done) | (simp; omega) | omega) _) | (with_reducible refine Below.setCell ?_ (by first | (simp; done) | (simp; omega) | omega) _) | (with_reducible refine Below.drew ?_) | (with_reducible refine Below.drewN ?_ _) | (with_reducible refine Below.step ?_ (by with_reducible assumption))))⟩
end Go.Proofs.YtaamjpeehejafaaDoor
