/- Contracts: the reference's In, Closed. -/
import Derived.Test.YtaamjpeehejafaaDoorDig3
set_option linter.unusedSimpArgs false
set_option linter.unusedVariables false
namespace Go.Proofs.YtaamjpeehejafaaDoor
open Go Go.RowKit

theorem nb_in (s : BitVec 64) (k : Nat) : (((nb s : Int) / 2 ^ k).tmod 2 == 1) = bit s k := by
  have e : (nb s : Int) = (s.toNat : Int) := by unfold nb; rfl
  unfold bit
  have h1 : ((nb s : Int) / 2 ^ k) = ((s >>> k).toNat : Int) := by
    rw [e, BitVec.toNat_ushiftRight, Nat.shiftRight_eq_div_pow]
    simp
  rw [h1]
  have h2 : s.getLsbD k = (s >>> k).getLsbD 0 := by rw [BitVec.getLsbD_ushiftRight]; rfl
  rw [h2, BitVec.getLsbD, Nat.testBit_zero]
  generalize (s >>> k).toNat = x
  rw [Bool.eq_iff_iff]
  simp only [beq_iff_eq, decide_eq_true_eq]
  rw [Int.tmod_eq_emod_of_nonneg (by omega)]
  omega
set_option maxRecDepth 100000 in
theorem in_c (b : BitVec 64) (i : Int) (w : World) (h0 : 0 ≤ i) (h1 : i < 64) :
    Calls Tryd.prog 9 #[.int .u64 (nb b), .int .i64 i] w fun e w' => e = .returned (.bool (bit b i.toNat)) ∧ w' = w := by
  go_enter Tryd.func9, Tryd.ntmps9
  go_wp2
  go_ret
  exact ⟨ret_bool (nb_in b i.toNat), rfl⟩

def edge (b : BitVec 64) (p : Int × Int) : Bool := bit b p.2.toNat && !bit b p.1.toNat
def closedB (es : List (Int × Int)) (b : BitVec 64) : Bool := !es.any (edge b)
set_option maxRecDepth 100000 in
set_option maxHeartbeats 400000 in
theorem closed_c (n : Int) (v : Value) (es : List (Int × Int)) (b : BitVec 64) (w : World) (hs : Sl w v es.length (pairs es)) (hr : ∀ p ∈ es, (0 ≤ p.1 ∧ p.1 < 64) ∧ 0 ≤ p.2 ∧ p.2 < 64) :
    Calls Tryd.prog 10 #[.agg #[.int .i64 n, v], .int .u64 (nb b)] w fun e w' => e = .returned (.bool (closedB es b)) ∧ Below w.heap.size w w' := by
  obtain ⟨A, c, rfl⟩ := hs.len
  have hlb := hs.small
  have HS := hd hs; have HR := hd hr
  clear hs hr
  go_enter Tryd.func10, Tryd.ntmps10
  go_wp2
  go_loop [5] (fun i => ∃ k : Nat, k ≤ es.length ∧ i = .int .i64 k ∧ Hid (∀ j, j < k → ∀ (h2 : j < es.length), edge b es[j] = false)) (fun i => es.length - (intOf i).toNat)
  case atStart => exact ⟨0, Nat.zero_le _, rfl, fun j h => by omega⟩
  case round =>
    obtain ⟨k, hk, rfl, hall⟩ := hrel
    by_cases hlt : k < es.length
    · have hs2 := HS.out.below (w' := w.alloc (.cells #[.int .i64 n, .slice A es.length c] 38 (0, 0))) (Below.box _ _)
      obtain ⟨bb, off, rfl, hc⟩ := hs2.cells (pairs_ne _ _ hlt)
      have c0 := hc _ _ (pairs_get0 _ _ hlt)
      have c1 := hc _ _ (pairs_get1 _ _ hlt)
      rw [← Nat.add_assoc] at c1
      have hR := HR.out es[k] (List.getElem_mem hlt)
      have HE : Hid (edge b es[k] = (bit b es[k].2.toNat && !bit b es[k].1.toNat)) := rfl
      generalize es[k].1 = x0 at c0 hR HE
      generalize es[k].2 = x1 at c1 hR HE
      obtain ⟨⟨i0, i1⟩, i2, i3⟩ := hR
      clear hc hs2
      cases hx1 : bit b x1.toNat with
      | false =>
        have HG : Hid (edge b es[k] = false) := by rw [Hid, HE.out, hx1]; rfl
        have HX := hd hx1
        clear hx1
        go_wp2_with (go_at_call 9; (with_reducible refine (in_c _ _ _ i2 i3).mono ?_); rintro e w2 ⟨rfl, rfl⟩; rw [HX.out])
        go_round
        case rel => exact ⟨k + 1, by omega, by go_num, all_snoc hall.out (fun _ => HG.out)⟩
        case measure => simp [intOf]; omega
      | true =>
        have HX := hd hx1
        clear hx1
        cases hx0 : bit b x0.toNat with
        | true =>
          have HG : Hid (edge b es[k] = false) := by rw [Hid, HE.out, hx0]; simp
          have HY := hd hx0
          clear hx0
          go_wp2_with (first | (go_at_call 9; (with_reducible refine (in_c _ x1 _ i2 i3).mono ?_); rintro e w2 ⟨rfl, rfl⟩; rw [HX.out]) | (go_at_call 9; (with_reducible refine (in_c _ x0 _ i0 i1).mono ?_); rintro e w2 ⟨rfl, rfl⟩; rw [HY.out]))
          go_round
          case rel => exact ⟨k + 1, by omega, by go_num, all_snoc hall.out (fun _ => HG.out)⟩
          case measure => simp [intOf]; omega
        | false =>
          have HG : Hid (edge b es[k] = true) := by rw [Hid, HE.out, hx0, HX.out]; rfl
          have HY := hd hx0
          clear hx0
          have Hr : Hid (closedB es b = false) := by unfold Hid closedB; rw [any_at k hlt HG.out]; rfl
          go_wp2_with (first | (go_at_call 9; (with_reducible refine (in_c _ x1 _ i2 i3).mono ?_); rintro e w2 ⟨rfl, rfl⟩; rw [HX.out]) | (go_at_call 9; (with_reducible refine (in_c _ x0 _ i0 i1).mono ?_); rintro e w2 ⟨rfl, rfl⟩; rw [HY.out]))
          go_ret
          exact ⟨ret_bool Hr.out.symm, (by repeat (first | (with_reducible refine hd ?_) | (with_reducible exact Below.refl _ _) | (with_reducible assumption) | (with_reducible refine Below.alloc ?_ (by first | (simp; done) | (simp; omega) | omega) _) | (with_reducible refine Below.setCell ?_ (by first | (simp; done) | (simp; omega) | omega) _) | (with_reducible refine Below.drew ?_) | (with_reducible refine Below.drewN ?_ _) | (with_reducible refine Below.step ?_ (by with_reducible assumption))))⟩
    · have : k = es.length := by omega
      subst this
      have Hr : Hid (closedB es b = true) := by unfold Hid closedB; rw [any_take_no (fun j h2 => hall.out j h2 h2)]; rfl
      go_wp2
      go_ret
      exact ⟨ret_bool Hr.out.symm, (by repeat (first | (with_reducible refine hd ?_) | (with_reducible exact Below.refl _ _) | (with_reducible assumption) | (with_reducible refine Below.alloc ?_ (by first | (simp; done) | (simp; omega) | omega) _) | (with_reducible refine Below.setCell ?_ (by first | (simp; done) | (simp; omega) | omega) _) | (with_reducible refine Below.drew ?_) | (with_reducible refine Below.drewN ?_ _) | (with_reducible refine Below.step ?_ (by with_reducible assumption))))⟩
end Go.Proofs.YtaamjpeehejafaaDoor
