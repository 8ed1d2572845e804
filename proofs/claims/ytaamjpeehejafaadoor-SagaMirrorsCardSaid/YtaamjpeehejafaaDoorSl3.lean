/- Contract: slices.DeleteFunc on a row of the caller's own. -/
import Derived.Test.YtaamjpeehejafaaDoorSaga1
import Derived.Test.YtaamjpeehejafaaDoorSl2
set_option linter.unusedSimpArgs false
set_option linter.unusedVariables false
namespace Go.Proofs.YtaamjpeehejafaaDoor
open Go Go.RowKit

theorem filter_snoc (p : Int → Bool) (xs : List Int) (j : Nat) (h : j < xs.length) : (xs.take (j + 1)).filter p = (xs.take j).filter p ++ (if p xs[j] then [xs[j]] else []) := by
  rw [List.take_succ_eq_append_getElem h, List.filter_append]
  by_cases hp : p xs[j] <;> simp [hp]

section
variable {P : Program} (w : World)
theorem run_clear_row (t e : TypeId) (ty : TypeId) (z : Value) (ht : P.underlying t = some (.slice e)) (hz : (zeroValue e).run P w = .ok z w) (hz1 : z.cells = #[z]) (hz2 : z.oneCell' = true)
    (g n i c : Nat) (cur : Array Value) (hg : w.heap[g]? = some (.cells cur e (0, 0))) (hi : i + n ≤ cur.size) (hn : 0 < n) :
    (Builtin.clear_ #[t] ty #[.slice (some ⟨g, i, none⟩) n c]).run P w = .ok (.tuple #[]) (w.setRow g (cur.toList.take i ++ List.replicate n z ++ cur.toList.drop (i + n)).toArray) := by
  obtain ⟨m, rfl⟩ : ∃ m, n = m + 1 := ⟨n - 1, by omega⟩
  have hzc : (Builtin.zeroCells z.cells (m + 1)).toList = List.replicate (m + 1) z := by
    rw [hz1]
    apply List.ext_getElem?
    intro j
    by_cases hj : j < m + 1
    · simp [Builtin.zeroCells, hj, Nat.mod_one]
    · simp [Builtin.zeroCells, hj]
  have hs := run_storeCells_at (P := P) g i e (List.replicate (m + 1) z) 0 cur w hg (by simp; omega) (by intro v hv; rw [List.eq_of_mem_replicate hv]; exact hz2)
  simp only [Nat.add_zero, List.length_replicate] at hs
  simp [Builtin.clear_, run_underlying ht, hz, hzc, hs]
end

/-- What the round has made so far: the kept ones ahead, the untouched ones behind. -/
structure Kept (cur : Array Value) (xs : List Int) (p : Int → Bool) (cap j : Nat) : Prop where
  size : cur.size = cap
  ahead : cur.toList.take ((xs.take j).filter p).length = ints ((xs.take j).filter p)
  behind : ∀ t (_ : j ≤ t) (h : t < xs.length), cur[t]? = some (.int .i64 xs[t])

theorem filter_le (p : Int → Bool) (xs : List Int) (j : Nat) : ((xs.take j).filter p).length ≤ j :=
  Nat.le_trans (List.length_filter_le _ _) (by simp; omega)

theorem Kept.skip {cur : Array Value} {xs : List Int} {p : Int → Bool} {cap j : Nat} (h : Kept cur xs p cap j) (hj : j < xs.length) (hp : p xs[j] = false) : Kept cur xs p cap (j + 1) ∧ ((xs.take (j + 1)).filter p).length = ((xs.take j).filter p).length := by
  have e := filter_snoc p xs j hj
  rw [hp] at e
  simp only [Bool.false_eq_true, if_false, List.append_nil] at e
  refine ⟨⟨h.size, by rw [e]; exact h.ahead, fun t h1 h2 => h.behind t (by omega) h2⟩, by rw [e]⟩
theorem Kept.keep {cur : Array Value} {xs : List Int} {p : Int → Bool} {cap j : Nat} (h : Kept cur xs p cap j) (hj : j < xs.length) (hn : xs.length ≤ cap) (hp : p xs[j] = true) : Kept (cur.setIfInBounds ((xs.take j).filter p).length (.int .i64 xs[j])) xs p cap (j + 1) ∧ ((xs.take (j + 1)).filter p).length = ((xs.take j).filter p).length + 1 := by
  have e := filter_snoc p xs j hj
  rw [hp] at e
  simp only [if_true] at e
  have hle := filter_le p xs j
  refine ⟨⟨by simpa using h.size, ?_, fun t h1 h2 => ?_⟩, by rw [e]; simp⟩
  · have hl : ((xs.take j).filter p).length < cur.toList.length := by rw [Array.length_toList (xs := cur), h.size]; omega
    rw [e, List.length_append, List.length_singleton, Array.toList_setIfInBounds]
    rw [List.take_set, List.take_succ_eq_append_getElem hl, h.ahead]
    rw [List.set_append_right _ _ (by rw [ints_len]; omega)]
    simp [ints]
  · rw [Array.getElem?_setIfInBounds, if_neg (by omega)]
    exact h.behind t (by omega) h2

set_option maxRecDepth 100000 in
set_option maxHeartbeats 1000000 in
theorem deleteFunc_c (v : Value) (xs : List Int) (y : Int) (g0 : Addr) (base : Nat) (w : World) (hy : w.cell? g0 = some (.int .i64 y)) (hown : w.ownsRow base 3 1 v xs.length (ints xs)) (hne : v.ownBlock ≠ some g0.block) (hn : xs.length ≤ 1099511627776) :
    Calls Tryd.prog 51 #[v, .func (.func 52) #[] #[.pointer (some g0)]] w fun e w' => ∃ v', e = .returned v' ∧ w'.ownsRow base 3 1 v' (xs.filter (fun x => !(x == y))).length (ints (xs.filter (fun x => !(x == y)))) ∧ w.grownBy w' v.ownBlock ∧ (v'.ownBlock = v.ownBlock) := by
  have HS := hd (Sl.of_own hown (by omega))
  have HI := hd (fun x w1 (h : Below w.heap.size w w1) => (drop1_c x y g0 w1 ((h.cell (World.block_lt_of_cell? w _ hy)).trans hy)).mono (fun e w' (h : e = .returned (.bool (x == y)) ∧ w1 = w') => (⟨h.1, by rw [← h.2]; exact Below.refl _ _⟩ : e = .returned (.bool (x == y)) ∧ Below w1.heap.size w1 w')))
  cases hany : xs.any (· == y) with
  | false =>
    have hno : ∀ j (h2 : j < xs.length), (fun x => x == y) xs[j] = false := by
      intro j h2
      have := List.any_eq_false.1 hany xs[j] (List.getElem_mem h2)
      simpa using this
    have hi := idxP_no (fun x => x == y) xs hno
    have hf : xs.filter (fun x => !(x == y)) = xs := by
      rw [List.filter_eq_self]
      intro x hx
      obtain ⟨j, hj, rfl⟩ := List.getElem_of_mem hx
      have := hno j hj
      simp only at this
      simp [this]
    rw [hf]
    have HO := hd hown
    have Hi := hd hi
    have HN := hd hno
    clear hi hf hany hown hno
    go_enter Tryd.func51, Tryd.ntmps51
    go_wp2_with (go_at_call 79; (with_reducible refine (indexFuncI_c v xs w HS.out g0 (fun x => x == y) HI.out).mono ?_); rintro e w1 ⟨rfl, hb1⟩; rw [Hi.out])
    go_ret
    exact ⟨_, rfl, own_below HO.out hb1, grown_of_below hb1 _, rfl⟩
  | true =>
    obtain ⟨i, hi⟩ : ∃ i, xs.findIdx? (fun x => x == y) = some i := by
      cases h : xs.findIdx? (fun x => x == y) with
      | some i => exact ⟨i, rfl⟩
      | none =>
        rw [List.findIdx?_eq_none_iff] at h
        obtain ⟨x, hx, hxy⟩ := List.any_eq_true.1 hany
        rw [h x hx] at hxy; cases hxy
    rw [List.findIdx?_eq_some_iff_getElem] at hi
    obtain ⟨hin, hpi, hbefore⟩ := hi
    have hidx := idxP_at (fun x => x == y) xs i hin (fun j hj h2 => by have := hbefore j hj; simpa using this) hpi
    rcases hown.2 with ⟨_, h0⟩ | ⟨g, cap, cur0, rfl, hbg, hg0, hnc, hcm, hcs, htake⟩
    · omega
    have HI2 := hd hidx
    have HN := hd hbefore
    have HG := hd hbg
    have HT := hd htake
    have HC := hd hcs
    have HG0 := hd hg0
    have hcm' : cap ≤ 9223372036854775807 := by unfold maxLen at hcm; omega
    have HY := hd hy
    have HNE := hd hne
    have hmi : ((i : Int) == -1) = false := by simp
    have K0 : Hid (Kept cur0 xs (fun x => !(x == y)) cap (i + 1) ∧ ((xs.take (i + 1)).filter (fun x => !(x == y))).length = i) := by
      have hf : (xs.take i).filter (fun x => !(x == y)) = xs.take i := by
        rw [List.filter_eq_self]
        intro x hx
        obtain ⟨j, hj, rfl⟩ := List.getElem_of_mem hx
        have hj' : j < i := by simp at hj; omega
        have := hbefore j hj'
        simpa using this
      have hk : Kept cur0 xs (fun x => !(x == y)) cap i := by
        have hat : ∀ t (h : t < xs.length), cur0[t]? = some (.int .i64 xs[t]) := by
          intro t h
          have h2 : (cur0.toList.take (xs.length * 1))[t]? = (ints xs)[t]? := by rw [htake]
          rw [List.getElem?_take, if_pos (by omega), ints_get xs t h, Array.getElem?_toList] at h2
          exact h2
        refine ⟨by omega, ?_, fun t _ h => hat t h⟩
        rw [hf]
        apply List.ext_getElem?
        intro t
        by_cases ht : t < i
        · rw [List.getElem?_take, if_pos (by simp; omega), Array.getElem?_toList, hat t (by omega)]
          simp [ints, ht, show t < xs.length by omega]
        · rw [List.getElem?_eq_none (by simp; omega), List.getElem?_eq_none (by simp [ints]; omega)]
      have h2 := hk.skip hin (by rw [hpi]; rfl)
      exact ⟨h2.1, by rw [h2.2, hf, List.length_take]; omega⟩
    clear hidx hbefore hpi hany hown hbg htake hcs hcm hy hne hg0
    go_enter Tryd.func51, Tryd.ntmps51
    go_wp2_with (go_at_call 79; (with_reducible refine (indexFuncI_c _ xs w HS.out g0 (fun x => x == y) HI.out).mono ?_); rintro e w1 ⟨rfl, hb1⟩; rw [HI2.out]; have HB1 := hd hb1; clear hb1)
    go_loopw [5, 6, 7] (fun a b _ wr => ∃ (j : Nat) (cur : Array Value), i < j ∧ j ≤ xs.length ∧ b = .int .i64 j ∧ a = .int .i64 ((xs.take j).filter (fun x => !(x == y))).length ∧ ((xs.take j).filter (fun x => !(x == y))).length < j ∧ Hid (Kept cur xs (fun x => !(x == y)) cap j) ∧ Hid (wr.heap[g]? = some (.cells cur 3 (0, 0))) ∧ Hid (w.grownBy wr (some g))) (fun _ b _ _ => xs.length - (intOf b).toNat)
    case atStart =>
      exact ⟨i + 1, cur0, by omega, by omega, by first | rfl | go_num, by rw [K0.out.2], by rw [K0.out.2]; omega, K0.out.1, (HB1.out.block g (Array.getElem?_eq_some_iff.1 HG0.out).1).trans HG0.out, grown_of_below HB1.out _⟩
    case round =>
      obtain ⟨j, cur, hij, hj, rfl, rfl, hlt, hK, hg, hgr⟩ := hrel
      have hcells : ∀ t, wr.cell? ⟨g, t, none⟩ = cur[t]? := fun t => cell_of_row wr g t cur _ _ hg.out
      have hfro := fun t => frozen_of_row wr g t cur _ hg.out
      have hy' : wr.cell? g0 = some (.int .i64 y) := hgr.out.cell HY.out (by have := HNE.out; simp only [Value.ownBlock] at this; exact fun e => this e.symm)
      have hle := filter_le (fun x => !(x == y)) xs j
      generalize hm : ((xs.take j).filter (fun x => !(x == y))).length = m at hlt hle
      by_cases hjn : j < xs.length
      · have hcj := (hcells j).trans (hK.out.behind j (Nat.le_refl _) hjn)
        have hfm := hfro m
        have hcm : ∃ u, wr.cell? ⟨g, m, none⟩ = some u := by
          have : m < cur.size := by rw [hK.out.size]; omega
          exact ⟨cur[m], (hcells m).trans (Array.getElem?_eq_getElem this)⟩
        obtain ⟨u, hcm⟩ := hcm
        have HD := hd (drop1_c xs[j] y g0 wr hy')
        clear hcells hfro hy'
        cases hxy : xs[j] == y with
        | true =>
          rw [hxy] at HD
          have hskip := hd (hK.out.skip hjn (by simp only [hxy]; rfl))
          have HM := hd hm; clear hm
          go_wp2_with (go_at_call 52; (with_reducible refine HD.out.mono ?_); rintro e w2 ⟨rfl, rfl⟩)
          go_roundw
          case rel => exact ⟨j + 1, cur, by omega, by omega, by first | rfl | go_num, by rw [hskip.out.2, HM.out], by rw [hskip.out.2, HM.out]; omega, hskip.out.1, hg, hgr⟩
          case measure => simp [intOf]; omega
        | false =>
          rw [hxy] at HD
          have hkeep := hd (hK.out.keep hjn hnc (by simp only [hxy]; rfl))
          have HM := hd hm; clear hm
          go_wp2_with (go_at_call 52; (with_reducible refine HD.out.mono ?_); rintro e w2 ⟨rfl, rfl⟩)
          go_roundw
          case rel => exact ⟨j + 1, cur.setIfInBounds m (.int .i64 xs[j]), by omega, by omega, by first | rfl | go_num, by rw [hkeep.out.2, HM.out]; first | rfl | go_num, by rw [hkeep.out.2, HM.out]; omega, by rw [← HM.out]; exact hkeep.out.1, heap_setCell_same _ g m cur _ _ hg.out, grown_trans hgr.out ⟨rfl, rfl, rfl, by simp [World.setCell], fun k _ hk => heap_setCell_other _ _ _ _ (fun e => hk (by rw [e]))⟩⟩
          case measure => simp [intOf]; omega
      · have hjn' : j = xs.length := by omega
        subst hjn'
        have hf : xs.take xs.length = xs := List.take_length
        rw [hf] at hm
        clear hcells hfro hy'
        have hcapm : ¬ cap = m := by omega
        have hz : ∀ w : World, (zeroValue 3).run Tryd.prog w = .ok (Value.int .i64 0) w := fun w => by kernel_rfl
        have hcl : ∀ ty, (Builtin.clear_ #[25] ty #[.slice (some ⟨g, m, none⟩) (xs.length - m) (cap - m)]).run Tryd.prog wr = .ok (.tuple #[]) (wr.setRow g (cur.toList.take m ++ List.replicate (xs.length - m) (Value.int .i64 0) ++ cur.toList.drop (m + (xs.length - m))).toArray) :=
          fun ty => run_clear_row wr 25 3 ty (.int .i64 0) Tryd.underlying25 (hz wr) rfl rfl g (xs.length - m) m (cap - m) cur hg.out (by rw [hK.out.size]; omega) (by omega)
        have HM := hd hm; clear hm hz
        go_wp2
        go_ret
        have hK' := hK.out
        refine ⟨.slice (some ⟨g, 0, none⟩) m cap, rfl, ?_, ?_, rfl⟩
        · have hmm := HM.out
          have hsz := hK'.size
          have hah := hK'.ahead
          rw [hf, HM.out] at hah
          have hml : (ints (xs.filter (fun x => !(x == y)))).length = m := by rw [ints_len, HM.out]
          refine ⟨by rw [ints_len]; omega, .inr ⟨g, cap, _, by rw [HM.out], HG.out, setRow_heap _ g cur _ _ _ hg.out, by omega, by unfold maxLen; omega, ?_, ?_⟩⟩
          · simp only [List.size_toArray, List.length_append, List.length_take, List.length_replicate, List.length_drop, Array.length_toList]; omega
          · rw [HM.out, Nat.mul_one]
            rw [List.toList_toArray]; try rw [List.append_assoc]
            rw [List.take_append_of_le_length (by simp; omega), List.take_take, Nat.min_self]
            exact hah
        · exact grown_trans hgr.out ⟨rfl, rfl, rfl, by simp [World.setRow], fun k _ hk => setRow_other _ g k _ (fun e => hk (by rw [e]; rfl))⟩
end Go.Proofs.YtaamjpeehejafaaDoor
