/- Contracts: saga.drop, slices.Grow, Concat, State.Top, Reached, Ends, Marks. -/
import Derived.Test.YtaamjpeehejafaaDoorSaga2
import Derived.Handy
set_option linter.unusedSimpArgs false
set_option linter.unusedVariables false
namespace Go.Proofs.YtaamjpeehejafaaDoor
open Go Go.RowKit

def St.ends (s : St) : Bool := if s.phase = 3 then ((s.done.length : Int) == s.plan.steps.length) else if s.phase = 2 then ((s.opn.length : Int) + s.done.length == 0) else false
def without (xs : List Int) (y : Int) : List Int := xs.filter (fun x => !(x == y))
theorem without_le (xs : List Int) (y : Int) : (without xs y).length ≤ xs.length := List.length_filter_le _ _

set_option maxRecDepth 100000 in
set_option maxHeartbeats 400000 in
theorem drop_c (v : Value) (xs : List Int) (y : Int) (w : World) (hs : Sl w v xs.length (ints xs)) (hn : xs.length ≤ 1099511627776) :
    Calls Tryd.prog 28 #[v, .int .i64 y] w (OwnPost w 3 1 (without xs y).length (ints (without xs y))) := by
  have HS := hd hs; clear hs
  go_enter Tryd.func28, Tryd.ntmps28
  go_wp2_with (go_at_call 48; (with_reducible refine (cloneI_c _ _ _ _ (HS.out.below (by repeat (first | (with_reducible refine hd ?_) | (with_reducible exact Below.refl _ _) | (with_reducible assumption) | (with_reducible refine Below.alloc ?_ (by first | (simp; done) | (simp; omega) | omega) _) | (with_reducible refine Below.setCell ?_ (by first | (simp; done) | (simp; omega) | omega) _) | (with_reducible refine Below.drew ?_) | (with_reducible refine Below.drewN ?_ _) | (with_reducible refine Below.step ?_ (by with_reducible assumption))))) (by rw [ints_len]; omega) (ints_one _) hn).mono ?_); rintro e w1 ⟨v1, rfl, ho, hb1⟩; have HO := hd ho; have HB := hd hb1; clear ho hb1)
  have hsz : w.heap.size < w1.heap.size := by have := HB.out.size; simp at this; omega
  have hy : w1.cell? ⟨w.heap.size, 0, none⟩ = some (.int .i64 y) := (HB.out.cell (p := ⟨_, _, _⟩) (by simp)).trans (by simp [go_sem])
  have hne : v1.ownBlock ≠ some w.heap.size := fun e => absurd (HO.out.lt _ e).1 (by simp)
  refine (deleteFunc_c v1 xs y ⟨w.heap.size, 0, none⟩ _ _ hy HO.out hne hn).mono ?_
  rintro e w2 ⟨v2, rfl, ho2, hg2, hb2⟩
  have HO2 := hd ho2; have HG2 := hd hg2; have HB2 := hd hb2
  clear ho2 hg2 hb2 hy hne
  go_wp2
  go_ret
  refine ⟨_, rfl, own_mono HO2.out (by simp), Below.grown (Below.step (Below.box _ _) HB.out) HG2.out (by omega) fun k hk => ?_⟩
  have := (HO.out.lt k hk).1
  simp at this; omega

set_option maxRecDepth 100000 in
set_option maxHeartbeats 400000 in
theorem ends_c (n : Int) (v1 v2 v3 v4 v5 v6 : Value) (s : St) (w : World) (hs : RSt w v1 v2 v3 v4 v5 v6 s) :
    Calls Tryd.prog 15 #[.agg #[.int .i64 n, .int .i64 s.phase, v1, v2, v3, v4, v5, v6]] w fun e w' => e = .returned (.bool s.ends) ∧ Below w.heap.size w w' := by
  obtain ⟨⟨_, _, ⟨⟨A3, c3, rfl, _, _, ⟨_, b3⟩, _⟩⟩, _⟩, ⟨⟨A5, c5, rfl, _, _, ⟨_, b5⟩, _⟩⟩, ⟨⟨A6, c6, rfl, _, _, ⟨_, b6⟩, _⟩⟩⟩ := hs
  go_enter Tryd.func15, Tryd.ntmps15
  go_wp2
  all_goals (go_ret; exact ⟨ret_bool (by simp_all [St.ends]), (by repeat (first | (with_reducible refine hd ?_) | (with_reducible exact Below.refl _ _) | (with_reducible assumption) | (with_reducible refine Below.alloc ?_ (by first | (simp; done) | (simp; omega) | omega) _) | (with_reducible refine Below.setCell ?_ (by first | (simp; done) | (simp; omega) | omega) _) | (with_reducible refine Below.drew ?_) | (with_reducible refine Below.drewN ?_ _) | (with_reducible refine Below.step ?_ (by with_reducible assumption))))⟩)

set_option maxRecDepth 100000 in
set_option maxHeartbeats 400000 in
theorem grow_c (k : Nat) (w : World) (hk : k ≤ 1099511627776) :
    Calls Tryd.prog 53 #[.slice none 0 0, .int .i64 k] w (OwnPost w 3 1 0 []) := by
  by_cases h0 : k = 0
  · subst h0
    go_enter Tryd.func53, Tryd.ntmps53
    go_wp2
    go_ret
    exact ⟨_, rfl, World.ownsRow_nil _ _ _ _, (by repeat (first | (with_reducible refine hd ?_) | (with_reducible exact Below.refl _ _) | (with_reducible assumption) | (with_reducible refine Below.alloc ?_ (by first | (simp; done) | (simp; omega) | omega) _) | (with_reducible refine Below.setCell ?_ (by first | (simp; done) | (simp; omega) | omega) _) | (with_reducible refine Below.drew ?_) | (with_reducible refine Below.drewN ?_ _) | (with_reducible refine Below.step ?_ (by with_reducible assumption))))⟩
  · have hb8 : Tryd.t3.bytes = 8 := by kernel_rfl
    have hnc : Builtin.nextslicecap k 0 = k := by unfold Builtin.nextslicecap; rw [if_pos (by omega)]
    go_enter Tryd.func53, Tryd.ntmps53
    go_wp2
    go_ret
    have hcut : k ≤ (Question.appendCap k 0 3).cut (w.tape w.drawn (Question.appendCap k 0 3)) ∧ (Question.appendCap k 0 3).cut (w.tape w.drawn (Question.appendCap k 0 3)) ≤ maxLen := by
      have := Nat.mod_lt (w.tape w.drawn (Question.appendCap k 0 3)) (show 0 < 2 ^ 63 - k by omega)
      simp only [Question.cut, maxLen]; omega
    refine ⟨_, rfl, World.ownsRow_made _ _ _ (by simp) hcut.2 ?_, (by repeat (first | (with_reducible refine hd ?_) | (with_reducible exact Below.refl _ _) | (with_reducible assumption) | (with_reducible refine Below.alloc ?_ (by first | (simp; done) | (simp; omega) | omega) _) | (with_reducible refine Below.setCell ?_ (by first | (simp; done) | (simp; omega) | omega) _) | (with_reducible refine Below.drew ?_) | (with_reducible refine Below.drewN ?_ _) | (with_reducible refine Below.step ?_ (by with_reducible assumption))))⟩
    simp [Builtin.zeroCells]; omega

def flatTo (LL : List (List Int)) (k : Nat) : List Int := (LL.take k).flatten
theorem flatTo_all (LL : List (List Int)) : flatTo LL LL.length = LL.flatten := by unfold flatTo; rw [List.take_length]
theorem flat_snoc (LL : List (List Int)) (k : Nat) (h : k < LL.length) : flatTo LL (k + 1) = flatTo LL k ++ LL[k] := by
  unfold flatTo; rw [List.take_succ_eq_append_getElem h, List.flatten_append]; simp
theorem flat_le (LL : List (List Int)) (k : Nat) : (flatTo LL k).length ≤ LL.flatten.length := by
  unfold flatTo
  have : LL.flatten = (LL.take k).flatten ++ (LL.drop k).flatten := by rw [← List.flatten_append, List.take_append_drop]
  rw [this, List.length_append]; omega
theorem ints_app (a b : List Int) : ints (a ++ b) = ints a ++ ints b := by simp [ints]

set_option maxRecDepth 100000 in
set_option maxHeartbeats 1000000 in
theorem concat_c (v : Value) (VL : List Value) (LL : List (List Int)) (w : World) (hv : Sl w v LL.length VL) (hlen : VL.length = LL.length) (hs : ∀ i (h : i < LL.length) (h2 : i < VL.length), Sl w VL[i] LL[i].length (ints LL[i])) (hn : LL.flatten.length ≤ 1099511627776) :
    Calls Tryd.prog 29 #[v] w (OwnPost w 3 1 LL.flatten.length (ints LL.flatten)) := by
  obtain ⟨A, c, rfl⟩ := hv.len
  have HV := hd hv; have HS := hd hs
  have hlb := hv.small
  clear hs hv
  go_enter Tryd.func29, Tryd.ntmps29
  go_wp2
  go_loop [3, 5, 11] (fun a _ i => ∃ k : Nat, k ≤ LL.length ∧ i = .int .i64 k ∧ a = .int .i64 (flatTo LL k).length) (fun _ _ i => LL.length - (intOf i).toNat)
  case atStart => exact ⟨0, Nat.zero_le _, rfl, rfl⟩
  case round =>
    obtain ⟨k, hk, rfl, rfl⟩ := hrel
    by_cases hlt : k < LL.length
    · obtain ⟨b, off, rfl, hc⟩ := HV.out.cells (by intro e; rw [e] at hlen; simp at hlen; omega)
      have hkv : k < VL.length := by omega
      have hsk := HS.out k hlt hkv
      have c0 := hc k VL[k] (List.getElem?_eq_getElem hkv)
      have hsn := flat_snoc LL k hlt
      have hle := flat_le LL (k + 1)
      have hll : (flatTo LL (k + 1)).length = (flatTo LL k).length + LL[k].length := by rw [hsn, List.length_append]
      have HL := hd hll
      obtain ⟨A1, c1, e1⟩ := hsk.len
      rw [e1] at c0
      have hb1 : (flatTo LL k).length + LL[k].length ≤ 1099511627776 := by omega
      clear hc hsk hsn hle hll e1 hlen
      generalize (flatTo LL k).length = m at hb1 HL
      generalize hq : LL[k].length = q at hb1 HL c0
      clear hq
      go_wp2
      go_round
      case rel => exact ⟨k + 1, by omega, by go_num, by rw [HL.out]; go_num⟩
      case measure => simp [intOf]; omega
    · have : k = LL.length := by omega
      subst this
      rw [flatTo_all]
      generalize hm : LL.flatten.length = m at hn
      have HM := hd hm; clear hm
      go_wp2_with (go_at_call 53; (with_reducible refine (grow_c m _ hn).mono ?_); rintro e w1 ⟨v1, rfl, ho, hb1⟩; have HO := hd ho; have HB := hd hb1; clear ho hb1)
      go_loopw [6, 8, 27] (fun a _ i wr => ∃ k : Nat, k ≤ LL.length ∧ i = .int .i64 k ∧ Hid (wr.ownsRow w.heap.size 3 1 a (flatTo LL k).length (ints (flatTo LL k))) ∧ Hid (Below w.heap.size w wr)) (fun _ _ i _ => LL.length - (intOf i).toNat)
      case atStart => exact ⟨0, Nat.zero_le _, rfl, HO.out, HB.out⟩
      case round =>
        obtain ⟨k, hk, rfl, ho, hb⟩ := hrel
        by_cases hlt2 : k < LL.length
        · have hv2 := HV.out.below hb.out
          obtain ⟨b, off, rfl, hc⟩ := hv2.cells (by intro e; rw [e] at hlen; simp at hlen; omega)
          have hkv : k < VL.length := by omega
          have hsk := hd ((HS.out k hlt2 hkv).below hb.out)
          have c0 := hc k VL[k] (List.getElem?_eq_getElem hkv)
          have hsn := hd (flat_snoc LL k hlt2)
          have hle := flat_le LL (k + 1)
          have HLL : Hid ((flatTo LL (k + 1)).length = (flatTo LL k).length + LL[k].length) := by rw [Hid, hsn.out, List.length_append]
          have hbd : (flatTo LL k).length + LL[k].length ≤ 1099511627776 := by have := HLL.out; have := HM.out; omega
          clear hc hv2 hle hlen
          go_wp2_with (at_builtin; refine wpList_append_sl rfl _ _ _ rfl w.heap.size 3 (.int .i64 0) 1 8 Tryd.underlying25 (by kernel_rfl) rfl (by decide) _ rfl _ _ ho.out VL[k] rfl _ _ hsk.out (by rw [ints_len]; omega) (ints_one _) (by unfold maxLen; omega) (by omega) (by have := hb.out.size; omega) ?_)
          intro v2 w2 hown hgr
          have HO2 := hd hown; have HG2 := hd hgr; clear hown hgr
          go_wp2
          go_roundw
          case rel => exact ⟨k + 1, by omega, by go_num, by have h := HO2.out; rw [← ints_app] at h; rw [Hid, HLL.out, hsn.out]; exact h, Below.grown hb.out HG2.out (by have := hb.out.size; omega) (fun k hk => (ho.out.lt k hk).1)⟩
          case measure => simp [intOf]; omega
        · have : k = LL.length := by omega
          subst this
          rw [flatTo_all] at ho
          go_wp2
          go_ret
          have := HM.out
          exact ⟨_, rfl, ho.out, hb.out⟩

theorem lt_of_cells {w : World} {g j : Nat} {v : Value} (h : w.cell? ⟨g, j, none⟩ = some v) : g < w.heap.size := World.block_lt_of_cell? w _ h

def topOf (s : St) : Int × Bool := if s.phase = 2 then (match s.opn.getLast? with | some k => (k, true) | none => match s.done.getLast? with | some k => (k, true) | none => (0, false)) else (0, false)

set_option maxRecDepth 100000 in
set_option maxHeartbeats 1000000 in
theorem top_c (n : Int) (v1 v2 v3 v4 v5 v6 : Value) (s : St) (w : World) (hs : RSt w v1 v2 v3 v4 v5 v6 s) :
    Calls Tryd.prog 14 #[.agg #[.int .i64 n, .int .i64 s.phase, v1, v2, v3, v4, v5, v6]] w fun e w' => e = .returned (.tuple #[.int .i64 (topOf s).1, .bool (topOf s).2]) ∧ Below w.heap.size w w' := by
  obtain ⟨A5, c5, rfl⟩ := hs.opn.len
  obtain ⟨A6, c6, rfl⟩ := hs.done.len
  have b5 := hs.opn.small; have b6 := hs.done.small
  have HO := hd hs.opn; have HD := hd hs.done
  clear hs
  by_cases hp : s.phase = 2
  · have hp2 : (s.phase == 2) = true := by simp [hp]
    by_cases ho : 0 < s.opn.length
    · obtain ⟨b, off, rfl, hc⟩ := HO.out.cells (ints_ne _ _ ho)
      have c0 := hc (s.opn.length - 1) _ (ints_get _ _ (by omega))
      have hbl := lt_of_cells c0
      have Hr : Hid (topOf s = (s.opn[s.opn.length - 1], true)) := by
        simp only [Hid, topOf]
        rw [if_pos hp, List.getLast?_eq_getElem?, List.getElem?_eq_getElem (by omega)]
      have Hc := hd hc
      have HP := hd hp
      clear hc hp
      generalize s.opn[s.opn.length - 1] = x at c0 Hr
      go_enter Tryd.func14, Tryd.ntmps14
      go_wp2
      go_rounds 3
      all_goals (go_ret2; exact ⟨by rw [Hr.out]; rfl, (by repeat (first | (with_reducible refine hd ?_) | (with_reducible exact Below.refl _ _) | (with_reducible assumption) | (with_reducible refine Below.alloc ?_ (by first | (simp; done) | (simp; omega) | omega) _) | (with_reducible refine Below.setCell ?_ (by first | (simp; done) | (simp; omega) | omega) _) | (with_reducible refine Below.drew ?_) | (with_reducible refine Below.drewN ?_ _) | (with_reducible refine Below.step ?_ (by with_reducible assumption))))⟩)
    · have ho' : s.opn.length = 0 := by omega
      have hol : s.opn = [] := List.eq_nil_of_length_eq_zero ho'
      by_cases hdn : 0 < s.done.length
      · obtain ⟨b, off, rfl, hc⟩ := HD.out.cells (ints_ne _ _ hdn)
        have c0 := hc (s.done.length - 1) _ (ints_get _ _ (by omega))
        have hbl := lt_of_cells c0
        have Hr : Hid (topOf s = (s.done[s.done.length - 1], true)) := by
          simp only [Hid, topOf]
          rw [if_pos hp, hol]
          simp only [List.getLast?_nil]
          rw [List.getLast?_eq_getElem?, List.getElem?_eq_getElem (by omega)]
        clear hc hp hol
        generalize s.done[s.done.length - 1] = x at c0 Hr
        generalize s.opn.length = ol at *
        subst ho'
        go_enter Tryd.func14, Tryd.ntmps14
        go_wp2
        go_rounds 3
        all_goals (go_ret2; exact ⟨by rw [Hr.out]; rfl, (by repeat (first | (with_reducible refine hd ?_) | (with_reducible exact Below.refl _ _) | (with_reducible assumption) | (with_reducible refine Below.alloc ?_ (by first | (simp; done) | (simp; omega) | omega) _) | (with_reducible refine Below.setCell ?_ (by first | (simp; done) | (simp; omega) | omega) _) | (with_reducible refine Below.drew ?_) | (with_reducible refine Below.drewN ?_ _) | (with_reducible refine Below.step ?_ (by with_reducible assumption))))⟩)
      · have hd' : s.done.length = 0 := by omega
        have hdl : s.done = [] := List.eq_nil_of_length_eq_zero hd'
        have Hr : Hid (topOf s = (0, false)) := by simp [Hid, topOf, hp, hol, hdl]
        clear hol hdl hp
        generalize s.opn.length = ol at *
        generalize s.done.length = dl at *
        subst ho'; subst hd'
        go_enter Tryd.func14, Tryd.ntmps14
        go_wp2
        go_rounds 3
        all_goals (go_ret2; exact ⟨by rw [Hr.out]; rfl, (by repeat (first | (with_reducible refine hd ?_) | (with_reducible exact Below.refl _ _) | (with_reducible assumption) | (with_reducible refine Below.alloc ?_ (by first | (simp; done) | (simp; omega) | omega) _) | (with_reducible refine Below.setCell ?_ (by first | (simp; done) | (simp; omega) | omega) _) | (with_reducible refine Below.drew ?_) | (with_reducible refine Below.drewN ?_ _) | (with_reducible refine Below.step ?_ (by with_reducible assumption))))⟩)
  · have Hr : Hid (topOf s = (0, false)) := by simp [Hid, topOf, hp]
    have hp2 : (s.phase == 2) = false := by simp [hp]
    go_enter Tryd.func14, Tryd.ntmps14
    go_wp2
    go_rounds 3
    all_goals (go_ret2; exact ⟨by rw [Hr.out]; rfl, (by repeat (first | (with_reducible refine hd ?_) | (with_reducible exact Below.refl _ _) | (with_reducible assumption) | (with_reducible refine Below.alloc ?_ (by first | (simp; done) | (simp; omega) | omega) _) | (with_reducible refine Below.setCell ?_ (by first | (simp; done) | (simp; omega) | omega) _) | (with_reducible refine Below.drew ?_) | (with_reducible refine Below.drewN ?_ _) | (with_reducible refine Below.step ?_ (by with_reducible assumption))))⟩)
end Go.Proofs.YtaamjpeehejafaaDoor
