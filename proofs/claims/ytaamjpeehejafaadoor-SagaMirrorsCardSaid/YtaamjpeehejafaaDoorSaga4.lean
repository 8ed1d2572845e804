/- Contracts: State.Reached, Marks; plan.Graph; digraph.Check, ahead, ready. -/
import Derived.Test.YtaamjpeehejafaaDoorSaga3
import Derived.Test.YtaamjpeehejafaaDoorBv
set_option linter.unusedSimpArgs false
set_option linter.unusedVariables false
namespace Go.Proofs.YtaamjpeehejafaaDoor
open Go Go.RowKit

theorem Sl.of_cells {w : World} {g off n c : Nat} {cs : List Value} (hc : ∀ j u, cs[j]? = some u → w.cell? ⟨g, off + j, none⟩ = some u) (h1 : n ≤ c) (h2 : c ≤ maxLen) (h3 : n ≤ 140737488355328) : Sl w (.slice (some ⟨g, off, none⟩) n c) n cs :=
  ⟨⟨_, _, rfl, h1, h2, ⟨fun h => by simp at h, h3⟩, fun _ => ⟨g, off, rfl, hc⟩⟩⟩

set_option maxRecDepth 100000 in
set_option maxHeartbeats 1000000 in
theorem reached_c (n ph : Int) (v1 v2 v3 v4 v5 v6 : Value) (s : St) (w : World) (hs : RSt w v1 v2 v3 v4 v5 v6 s) (hbd : s.opn.length + s.done.length ≤ 1000000) (hr : ∀ k ∈ s.opn ++ s.done, 0 ≤ k ∧ k < 64) :
    Calls Tryd.prog 11 #[.agg #[.int .i64 n, .int .i64 ph, v1, v2, v3, v4, v5, v6]] w fun e w' => e = .returned (.int .u64 (nb (setOf (s.opn ++ s.done)) : Int)) ∧ Below w.heap.size w w' := by
  obtain ⟨A5, c5, rfl⟩ := hs.opn.len
  obtain ⟨A6, c6, rfl⟩ := hs.done.len
  have HO := hd hs.opn; have HD := hd hs.done
  clear hs
  go_enter Tryd.func11, Tryd.ntmps11
  go_wp2_with fail
  refine (concat_c _ [.slice A5 s.opn.length c5, .slice A6 s.done.length c6] [s.opn, s.done] _ (Sl.of_cells (n := 2) (fun j u hj => ?_) (by decide) (by decide) (by decide)) rfl ?_ (by simp; omega)).mono ?_
  · match j with
    | 0 => simp at hj; subst hj; simp [go_sem]
    | 1 => simp at hj; subst hj; simp [go_sem]
    | _ + 2 => simp at hj
  · intro i h h2
    match i with
    | 0 => exact HO.out.below (by repeat (first | (with_reducible refine hd ?_) | (with_reducible exact Below.refl _ _) | (with_reducible assumption) | (with_reducible refine Below.alloc ?_ (by first | (simp; done) | (simp; omega) | omega) _) | (with_reducible refine Below.setCell ?_ (by first | (simp; done) | (simp; omega) | omega) _) | (with_reducible refine Below.drew ?_) | (with_reducible refine Below.drewN ?_ _) | (with_reducible refine Below.step ?_ (by with_reducible assumption))))
    | 1 => exact HD.out.below (by repeat (first | (with_reducible refine hd ?_) | (with_reducible exact Below.refl _ _) | (with_reducible assumption) | (with_reducible refine Below.alloc ?_ (by first | (simp; done) | (simp; omega) | omega) _) | (with_reducible refine Below.setCell ?_ (by first | (simp; done) | (simp; omega) | omega) _) | (with_reducible refine Below.drew ?_) | (with_reducible refine Below.drewN ?_ _) | (with_reducible refine Below.step ?_ (by with_reducible assumption))))
    | _ + 2 => simp at h; omega
  · rintro e w1 ⟨v', rfl, ho, hb⟩
    simp only [List.flatten_cons, List.flatten_nil, List.append_nil] at ho
    have hl : (s.opn ++ s.done).length = s.opn.length + s.done.length := List.length_append
    generalize hxs : s.opn ++ s.done = xs at ho hr hl
    have HX := hd hxs
    clear hxs
    obtain ⟨A, c, rfl⟩ := own_slice ho
    have HS := hd (Sl.of_own ho (by omega))
    have HB := hd hb
    clear ho hb
    go_wp2
    go_loop [3, 5, 13] (fun a _ i => ∃ k : Nat, k ≤ xs.length ∧ i = .int .i64 k ∧ a = .int .u64 (nb (setOf (xs.take k)) : Int)) (fun _ _ i => xs.length - (intOf i).toNat)
    case atStart => exact ⟨0, Nat.zero_le _, rfl, by rw [List.take_zero, setOf_nil, nb_zero]; rfl⟩
    case round =>
      obtain ⟨k, hk, rfl, rfl⟩ := hrel
      by_cases hlt : k < xs.length
      · obtain ⟨b, off, rfl, hc⟩ := HS.out.cells (ints_ne _ _ hlt)
        have c0 := hc k _ (ints_get _ _ hlt)
        have hx := hr xs[k] (List.getElem_mem _)
        obtain ⟨x, hxx⟩ := Int.eq_ofNat_of_zero_le hx.1
        rw [hxx] at c0
        have hx64 : x < 64 := by omega
        have hst : Hid (setOf (xs.take (k + 1)) = setOf (xs.take k) ||| one x) := by rw [Hid, setOf_take xs k hlt, hxx, Int.toNat_natCast]
        clear hc hx hxx
        generalize setOf (xs.take k) = sk at hst
        have bor := nb_or
        have bon := nb_one
        go_wp2
        clear bor bon
        go_round
        case rel => exact ⟨k + 1, by omega, by go_num, by rw [hst.out]⟩
        case measure => simp [intOf]; omega
      · have : k = xs.length := by omega
        subst this
        rw [List.take_length]
        go_wp2
        go_ret
        have hb := HB.out
        exact ⟨by rw [HX.out]; rfl, (by repeat (first | (with_reducible refine hd ?_) | (with_reducible exact Below.refl _ _) | (with_reducible assumption) | (with_reducible refine Below.alloc ?_ (by first | (simp; done) | (simp; omega) | omega) _) | (with_reducible refine Below.setCell ?_ (by first | (simp; done) | (simp; omega) | omega) _) | (with_reducible refine Below.drew ?_) | (with_reducible refine Below.drewN ?_ _) | (with_reducible refine Below.step ?_ (by with_reducible assumption))))⟩

def St.marks (s : St) : Bool := (List.range s.plan.steps.length).all (fun k => lastS (s.plan.steps.getD k (0, 0)) || has s.done k) && s.phase == 1

theorem marks_no {s : St} {k : Nat} (hk : k < s.plan.steps.length) (h : (lastS (s.plan.steps.getD k (0, 0)) || has s.done k) = false) : s.marks = false := by
  have : (List.range s.plan.steps.length).all (fun k => lastS (s.plan.steps.getD k (0, 0)) || has s.done k) = false := by
    rw [List.all_eq_false]; exact ⟨k, by simpa using hk, by simp only [h]; simp⟩
  simp only [St.marks]
  rw [this, Bool.false_and]
theorem all_snoc {P : Nat → Prop} {k : Nat} (h : ∀ j, j < k → P j) (hk : P k) : ∀ j, j < k + 1 → P j := fun j hj => by
  by_cases e : j = k
  · subst e; exact hk
  · exact h j (by omega)
set_option maxRecDepth 100000 in
set_option maxHeartbeats 1000000 in
theorem marks_c (n : Int) (v1 v2 v3 v4 v5 v6 : Value) (s : St) (w : World) (hs : RSt w v1 v2 v3 v4 v5 v6 s) :
    Calls Tryd.prog 47 #[.agg #[.int .i64 n, .int .i64 s.phase, v1, v2, v3, v4, v5, v6]] w fun e w' => e = .returned (.bool s.marks) ∧ Below w.heap.size w w' := by
  obtain ⟨A3, c3, rfl⟩ := hs.plan.steps.len
  have hlb := hs.plan.steps.small
  have HS := hd hs.plan.steps; have HD := hd hs.done
  clear hs
  go_enter Tryd.func47, Tryd.ntmps47
  go_wp2
  go_loopw [2, 3, 4, 9] (fun _ _ _ i wr => ∃ k : Nat, k ≤ s.plan.steps.length ∧ i = .int .i64 k ∧ Hid (∀ j, j < k → (lastS (s.plan.steps.getD j (0, 0)) || has s.done j) = true) ∧ Hid (Below (w.alloc (.cells #[.int .i64 n, .int .i64 s.phase, v1, v2, .slice A3 s.plan.steps.length c3, v4, v5, v6] 31)).heap.size (w.alloc (.cells #[.int .i64 n, .int .i64 s.phase, v1, v2, .slice A3 s.plan.steps.length c3, v4, v5, v6] 31)) wr)) (fun _ _ _ i _ => s.plan.steps.length - (intOf i).toNat)
  case atStart => exact ⟨0, Nat.zero_le _, rfl, fun j h => by omega, Below.refl _ _⟩
  case round =>
    obtain ⟨k, hk, rfl, hall, hB⟩ := hrel
    have hb0 := hB.out
    have hbw : Below w.heap.size w wr := (by repeat (first | (with_reducible refine hd ?_) | (with_reducible exact Below.refl _ _) | (with_reducible assumption) | (with_reducible refine Below.alloc ?_ (by first | (simp; done) | (simp; omega) | omega) _) | (with_reducible refine Below.setCell ?_ (by first | (simp; done) | (simp; omega) | omega) _) | (with_reducible refine Below.drew ?_) | (with_reducible refine Below.drewN ?_ _) | (with_reducible refine Below.step ?_ (by with_reducible assumption))))
    obtain ⟨hc1, hf1⟩ := bcell hb0
    have hsz : w.heap.size < wr.heap.size := by have := hb0.size; simp at this; omega
    by_cases hlt : k < s.plan.steps.length
    · obtain ⟨b, off, rfl, hc⟩ := (HS.out.below hbw).cells (pairs_ne _ _ hlt)
      have c0 := hc _ _ (pairs_get0 _ _ hlt)
      have c1 := hc _ _ (pairs_get1 _ _ hlt)
      rw [← Nat.add_assoc] at c1
      have hbl := lt_of_cells c0
      have HL : Hid (∀ w1, Calls Tryd.prog 31 #[.agg #[.int .i64 s.plan.steps[k].1, .int .i64 s.plan.steps[k].2]] w1 fun e w' => e = .returned (.bool (lastS s.plan.steps[k])) ∧ Below w1.heap.size w1 w') := fun w1 => last_c _ _ w1
      have hg : Hid (s.plan.steps.getD k (0, 0) = s.plan.steps[k]) := by simp [Hid, hlt]
      generalize hl : lastS s.plan.steps[k] = l at HL
      generalize s.plan.steps[k].1 = x0 at c0 HL
      generalize s.plan.steps[k].2 = x1 at c1 HL
      have Hl := hd hl
      have HBW := hd hbw
      clear hl hc hb0 hbw
      cases hhas : has s.done k
      · have Hh := hd hhas
        cases l
        · go_wp2_with (first | (go_at_call 31; (with_reducible refine (HL.out _).mono ?_); rintro e w1 ⟨rfl, hb1⟩; obtain ⟨hc2, hf2⟩ := bcell hb1; have HB1 := hd hb1; clear hb1) | (go_at_call 30; have hx1 := HB1.out; have hx2 := HBW.out; (with_reducible refine (contains_c _ _ _ _ (HD.out.below (by repeat (first | (with_reducible refine hd ?_) | (with_reducible exact Below.refl _ _) | (with_reducible assumption) | (with_reducible refine Below.alloc ?_ (by first | (simp; done) | (simp; omega) | omega) _) | (with_reducible refine Below.setCell ?_ (by first | (simp; done) | (simp; omega) | omega) _) | (with_reducible refine Below.drew ?_) | (with_reducible refine Below.drewN ?_ _) | (with_reducible refine Below.step ?_ (by with_reducible assumption)))))).mono ?_); rintro e w' ⟨rfl, rfl⟩; clear hx1 hx2))
          have hx0 := hB.out; have hx1 := HB1.out; have hx2 := HBW.out
          go_ret
          exact ⟨ret_bool (marks_no hlt (by rw [hg.out, Hl.out, Hh.out]; rfl)).symm, (by repeat (first | (with_reducible refine hd ?_) | (with_reducible exact Below.refl _ _) | (with_reducible assumption) | (with_reducible refine Below.alloc ?_ (by first | (simp; done) | (simp; omega) | omega) _) | (with_reducible refine Below.setCell ?_ (by first | (simp; done) | (simp; omega) | omega) _) | (with_reducible refine Below.drew ?_) | (with_reducible refine Below.drewN ?_ _) | (with_reducible refine Below.step ?_ (by with_reducible assumption))))⟩
        · go_wp2_with (first | (go_at_call 31; (with_reducible refine (HL.out _).mono ?_); rintro e w1 ⟨rfl, hb1⟩; obtain ⟨hc2, hf2⟩ := bcell hb1; have HB1 := hd hb1; clear hb1) | (go_at_call 30; have hx1 := HB1.out; have hx2 := HBW.out; (with_reducible refine (contains_c _ _ _ _ (HD.out.below (by repeat (first | (with_reducible refine hd ?_) | (with_reducible exact Below.refl _ _) | (with_reducible assumption) | (with_reducible refine Below.alloc ?_ (by first | (simp; done) | (simp; omega) | omega) _) | (with_reducible refine Below.setCell ?_ (by first | (simp; done) | (simp; omega) | omega) _) | (with_reducible refine Below.drew ?_) | (with_reducible refine Below.drewN ?_ _) | (with_reducible refine Below.step ?_ (by with_reducible assumption)))))).mono ?_); rintro e w' ⟨rfl, rfl⟩; clear hx1 hx2))
          have hx0 := hB.out; have hx1 := HB1.out; have hx2 := HBW.out
          go_roundw
          case rel => exact ⟨k + 1, by omega, by go_num, all_snoc hall.out (by rw [hg.out, Hl.out]; rfl), (by repeat (first | (with_reducible refine hd ?_) | (with_reducible exact Below.refl _ _) | (with_reducible assumption) | (with_reducible refine Below.alloc ?_ (by first | (simp; done) | (simp; omega) | omega) _) | (with_reducible refine Below.setCell ?_ (by first | (simp; done) | (simp; omega) | omega) _) | (with_reducible refine Below.drew ?_) | (with_reducible refine Below.drewN ?_ _) | (with_reducible refine Below.step ?_ (by with_reducible assumption))))⟩
          case measure => simp [intOf]; omega
      · have Hh := hd hhas
        cases l
        all_goals
          go_wp2_with (first | (go_at_call 31; (with_reducible refine (HL.out _).mono ?_); rintro e w1 ⟨rfl, hb1⟩; obtain ⟨hc2, hf2⟩ := bcell hb1; have HB1 := hd hb1; clear hb1) | (go_at_call 30; have hx1 := HB1.out; have hx2 := HBW.out; (with_reducible refine (contains_c _ _ _ _ (HD.out.below (by repeat (first | (with_reducible refine hd ?_) | (with_reducible exact Below.refl _ _) | (with_reducible assumption) | (with_reducible refine Below.alloc ?_ (by first | (simp; done) | (simp; omega) | omega) _) | (with_reducible refine Below.setCell ?_ (by first | (simp; done) | (simp; omega) | omega) _) | (with_reducible refine Below.drew ?_) | (with_reducible refine Below.drewN ?_ _) | (with_reducible refine Below.step ?_ (by with_reducible assumption)))))).mono ?_); rintro e w' ⟨rfl, rfl⟩; clear hx1 hx2))
          have hx0 := hB.out; have hx1 := HB1.out; have hx2 := HBW.out
          go_roundw
          case rel => exact ⟨k + 1, by omega, by go_num, all_snoc hall.out (by rw [hg.out, Hl.out, Hh.out]; rfl), (by repeat (first | (with_reducible refine hd ?_) | (with_reducible exact Below.refl _ _) | (with_reducible assumption) | (with_reducible refine Below.alloc ?_ (by first | (simp; done) | (simp; omega) | omega) _) | (with_reducible refine Below.setCell ?_ (by first | (simp; done) | (simp; omega) | omega) _) | (with_reducible refine Below.drew ?_) | (with_reducible refine Below.drewN ?_ _) | (with_reducible refine Below.step ?_ (by with_reducible assumption))))⟩
          case measure => simp [intOf]; omega
    · have : k = s.plan.steps.length := by omega
      subst this
      go_wp2
      go_ret
      have hbw : Below w.heap.size w wr := (by repeat (first | (with_reducible refine hd ?_) | (with_reducible exact Below.refl _ _) | (with_reducible assumption) | (with_reducible refine Below.alloc ?_ (by first | (simp; done) | (simp; omega) | omega) _) | (with_reducible refine Below.setCell ?_ (by first | (simp; done) | (simp; omega) | omega) _) | (with_reducible refine Below.drew ?_) | (with_reducible refine Below.drewN ?_ _) | (with_reducible refine Below.step ?_ (by with_reducible assumption))))
      refine ⟨ret_bool ?_, hbw⟩
      have : (List.range s.plan.steps.length).all (fun k => lastS (s.plan.steps.getD k (0, 0)) || has s.done k) = true := by
        rw [List.all_eq_true]; intro j hj; exact hall.out j (by simpa using hj)
      simp only [St.marks]
      rw [this, Bool.true_and]
end Go.Proofs.YtaamjpeehejafaaDoor
