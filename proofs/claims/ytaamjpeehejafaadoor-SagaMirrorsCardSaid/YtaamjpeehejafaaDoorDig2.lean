/- Contracts: digraph.Graph.ahead, ready. -/
import Derived.Test.YtaamjpeehejafaaDoorDig1
set_option linter.unusedSimpArgs false
set_option linter.unusedVariables false
namespace Go.Proofs.YtaamjpeehejafaaDoor
open Go Go.RowKit

structure InR (n : Nat) (es : List (Int × Int)) : Prop where
  n64 : n ≤ 64
  len : es.length ≤ 4096
  edges : ∀ k (h : k < es.length), ∃ x0 x1 : Nat, es[k] = ((x0 : Int), (x1 : Int)) ∧ x0 < n ∧ x1 < n

set_option maxRecDepth 100000 in
set_option maxHeartbeats 1000000 in
theorem ahead_c (n : Nat) (v : Value) (es : List (Int × Int)) (w : World) (hs : Sl w v es.length (pairs es)) (hr : InR n es) :
    Calls Tryd.prog 90 #[.agg #[.int .i64 n, v]] w (OwnPost w 39 1 n (u64s (aheads n es))) := by
  obtain ⟨A, c, rfl⟩ := hs.len
  have hlb := hs.small
  have hn := hr.n64
  have HS := hd hs; have HR := hd hr
  clear hs hr
  obtain ⟨i, hi, hz0, hz1, hz2⟩ := info_parts (show (Tryd.prog.info? 39).map (fun i => (i.zero, i.size, i.bytes)) = some (some (.int .u64 0), 1, 8) by kernel_rfl)
  go_enter Tryd.func90, Tryd.ntmps90
  go_wp2_with (at_make; refine wpList_make_full _ rfl _ _ _ rfl w.heap.size 39 i (.int .u64 0) 1 Tryd.underlying49 hi hz0 hz1 _ _ _ _ n rfl rfl rfl rfl (by rw [hz2]; omega) (by unfold maxLen; omega) (by simp) ?_)
  intro w1 hown hgr
  rcases hown.2 with ⟨h0, _⟩ | ⟨g, cap, cur, hg0, hbg, hg, hnc, hcm, hcs, htake⟩
  · simp at h0
  simp only [Value.slice.injEq, Option.some.injEq, Addr.mk.injEq, and_true, true_and] at hg0
  obtain ⟨hgg, rfl⟩ := hg0
  have hG : g = w.heap.size + 1 := by simpa using hgg.symm
  clear hgg
  subst hG
  have hcur : cur.toList = u64s (aheads n (es.take 0)) := by
    have h2 : cur.toList.take (n * 1) = cur.toList := List.take_of_length_le (by simp; omega)
    have htake : cur.toList.take (n * 1) = List.replicate n (Value.int IntKind.u64 0) := by
      rw [htake]; exact toList_madeCells_one _ _
    have h3 : cur.toList = List.replicate n (Value.int IntKind.u64 0) := h2.symm.trans htake
    rw [h3, List.take_zero, aheads_nil, u64s_zero]
  have hb1 : Below w.heap.size w w1 := Below.grown (Below.box _ _) hgr (by simp) (by intro k hk; cases hk)
  have hbx : w1.cell? ⟨w.heap.size, 1, none⟩ = some (.slice A es.length c) := (World.cell?_of_block (hgr.block w.heap.size (by simp) (by simp))).trans (by simp [go_sem])
  have HB1 := hd hb1; have HG := hd hg; have HC := hd hcur
  have hsz1 : w.heap.size + 2 ≤ w1.heap.size := by
    have := (Array.getElem?_eq_some_iff.1 hg).1; omega
  clear hown hgr hbg hg hcm hcs htake hcur hb1 hnc
  go_wp2
  go_loopw [5, 12] (fun _ i wr => ∃ (k : Nat) (cur : Array Value), k ≤ es.length ∧ i = .int .i64 k ∧ Hid (wr.heap[w.heap.size + 1]? = some (.cells cur 39 (0, 0))) ∧ Hid (cur.toList = u64s (aheads n (es.take k))) ∧ Hid (Below w.heap.size w wr) ∧ w.heap.size + 2 ≤ wr.heap.size) (fun _ i _ => es.length - (intOf i).toNat)
  case atStart => exact ⟨0, cur, Nat.zero_le _, rfl, HG.out, HC.out, HB1.out, hsz1⟩
  case round =>
    obtain ⟨k, cur, hk, rfl, hg, hc, hb, hsz⟩ := hrel
    clear hbx hsz1 HB1 HG HC
    have hcl : cur.size = n := by
      have := congrArg List.length hc.out
      rw [u64s_len, aheads_len] at this; simpa using this
    by_cases hlt : k < es.length
    · obtain ⟨b, off, rfl, hce⟩ := (HS.out.below hb.out).cells (pairs_ne _ _ hlt)
      obtain ⟨x0, x1, hx, hx0, hx1⟩ := HR.out.edges k hlt
      have c0 := hce _ _ (pairs_get0 _ _ hlt)
      have c1 := hce _ _ (pairs_get1 _ _ hlt)
      rw [← Nat.add_assoc] at c1
      rw [hx] at c0 c1
      have hbl := lt_of_cells c0
      have hcell : wr.cell? ⟨w.heap.size + 1, x1, none⟩ = some (.int .u64 (nb (aheadOf (es.take k) x1) : Int)) := by
        rw [cell_of_row wr _ x1 cur _ _ hg.out, ← Array.getElem?_toList, hc.out, u64s_get _ x1 (by rw [aheads_len]; exact hx1), aheads_get n _ x1 hx1]
      have hfro := frozen_of_row wr _ x1 cur _ hg.out
      have hsn := hd (aheads_snoc n es k hlt x0 x1 hx hx1)
      have hg2 : w.heap.size + 1 < wr.heap.size := by omega
      have HX := hd hx
      clear hce hx
      generalize aheadOf (es.take k) x1 = old at hcell hsn
      have bor := nb_or
      have bon := nb_one
      go_wp2
      go_region
      clear bor bon
      go_wp2
      go_roundw
      case rel =>
       have hx0 := hb.out
       exact ⟨k + 1, cur.setIfInBounds x1 (.int .u64 (nb (old ||| one x0) : Int)), by omega, by go_num, (Below.heap_alloc _ _ _ (by simp [World.setCell]; omega)).trans (heap_setCell_same _ _ _ _ _ _ hg.out), by rw [Hid, Array.toList_setIfInBounds, hc.out]; exact hsn.out, (by repeat (first | (with_reducible refine hd ?_) | (with_reducible exact Below.refl _ _) | (with_reducible assumption) | (with_reducible refine Below.alloc ?_ (by first | (simp; done) | (simp; omega) | omega) _) | (with_reducible refine Below.setCell ?_ (by first | (simp; done) | (simp; omega) | omega) _) | (with_reducible refine Below.drew ?_) | (with_reducible refine Below.drewN ?_ _) | (with_reducible refine Below.step ?_ (by with_reducible assumption)))), by simp [World.setCell, World.drew]; omega⟩
      case measure => simp [intOf]; omega
    · have : k = es.length := by omega
      subst this
      rw [List.take_length] at hc
      go_wp2
      go_ret
      refine ⟨_, rfl, ⟨by rw [u64s_len, aheads_len]; omega, .inr ⟨w.heap.size + 1, n, cur, rfl, by omega, hg.out, Nat.le_refl _, by unfold maxLen; omega, by omega, ?_⟩⟩, hb.out⟩
      rw [hc.out, List.take_of_length_le (by rw [u64s_len, aheads_len]; omega)]

set_option maxRecDepth 100000 in
set_option maxHeartbeats 1000000 in
theorem ready_c (n : Nat) (v : Value) (es : List (Int × Int)) (s : BitVec 64) (w : World) (hs : Sl w v es.length (pairs es)) (hr : InR n es) :
    Calls Tryd.prog 87 #[.agg #[.int .i64 n, v], .int .u64 (nb s : Int)] w fun e w' => e = .returned (.int .u64 (nb (readyTo es s n) : Int)) ∧ Below w.heap.size w w' := by
  obtain ⟨A, c, rfl⟩ := hs.len
  have hn := hr.n64
  have HS := hd hs; have HR := hd hr
  clear hs hr
  go_enter Tryd.func87, Tryd.ntmps87
  go_wp2_with (go_at_call 90; (with_reducible refine (ahead_c n _ es _ (HS.out.below (by repeat (first | (with_reducible refine hd ?_) | (with_reducible exact Below.refl _ _) | (with_reducible assumption) | (with_reducible refine Below.alloc ?_ (by first | (simp; done) | (simp; omega) | omega) _) | (with_reducible refine Below.setCell ?_ (by first | (simp; done) | (simp; omega) | omega) _) | (with_reducible refine Below.drew ?_) | (with_reducible refine Below.drewN ?_ _) | (with_reducible refine Below.step ?_ (by with_reducible assumption))))) HR.out).mono ?_); rintro e w1 ⟨v1, rfl, ho, hb1⟩; obtain ⟨A1, c1, rfl⟩ := own_slice ho; have HO := hd (Sl.of_own ho (by omega)); have HB := hd hb1; clear ho hb1)
  go_loop [5, 6, 7, 11] (fun a _ _ i => ∃ k : Nat, k ≤ n ∧ i = .int .i64 k ∧ a = .int .u64 (nb (readyTo es s k) : Int)) (fun _ _ _ i => n - (intOf i).toNat)
  case atStart => exact ⟨0, Nat.zero_le _, rfl, by rw [readyTo, nb_zero]; rfl⟩
  case round =>
    obtain ⟨k, hk, rfl, rfl⟩ := hrel
    by_cases hlt : k < n
    · have hul : k < (aheads n es).length := by rw [aheads_len]; exact hlt
      obtain ⟨b, off, rfl, hc⟩ := HO.out.cells (by intro e; have := u64s_len (aheads n es); rw [e] at this; simp at this; omega)
      have c0 := hc _ _ (u64s_get _ _ hul)
      rw [aheads_get n es k hlt] at c0
      have hk64 : k < 64 := by omega
      have hnxt : Hid (readyTo es s (k + 1) = if mayNext es s k then readyTo es s k ||| one k else readyTo es s k) := rfl
      have hmn : Hid (mayNext es s k = (!bit s k && (aheadOf es k &&& ~~~s == 0#64))) := rfl
      generalize aheadOf es k = ak at c0 hmn
      generalize readyTo es s k = rk at hnxt
      clear hc
      have bor := nb_or
      have bon := nb_one
      have ban := nb_andNot
      have ba1 := nb_bit
      cases hb : bit s k
      all_goals
        cases ha : (ak &&& ~~~s == 0#64)
        all_goals
          have hm := hd (hmn.out.trans (by rw [hb, ha]))
          have hz := (nb_eq0 (ak &&& ~~~s)).trans ha
          have HA := hd ha; clear ha
          go_wp2
          go_round
          case rel => exact ⟨k + 1, by omega, by go_num, by rw [hnxt.out, hm.out]; rfl⟩
          case measure => simp [intOf]; omega
    · have : k = n := by omega
      subst this
      go_wp2
      go_ret
      have hx := HB.out
      exact ⟨rfl, (by repeat (first | (with_reducible refine hd ?_) | (with_reducible exact Below.refl _ _) | (with_reducible assumption) | (with_reducible refine Below.alloc ?_ (by first | (simp; done) | (simp; omega) | omega) _) | (with_reducible refine Below.setCell ?_ (by first | (simp; done) | (simp; omega) | omega) _) | (with_reducible refine Below.drew ?_) | (with_reducible refine Below.drewN ?_ _) | (with_reducible refine Below.step ?_ (by with_reducible assumption))))⟩
end Go.Proofs.YtaamjpeehejafaaDoor
