/- Contract: math/bits.TrailingZeros64, where its table lies as the program's text lays it. -/
import Derived.Test.YtaamjpeehejafaaDoorRows
import Derived.Test.YtaamjpeehejafaaDoorBv
import Derived.Laws.Bits64b
import Derived.Lib.TrailingZeros
set_option linter.unusedSimpArgs false
set_option linter.unusedVariables false
namespace Go.Proofs.YtaamjpeehejafaaDoor
open Go Go.RowKit

/-- The library's table is in its variable. -/
structure Tab (w : World) : Prop where
  at_ : ∀ j, j < 64 → w.cell? ⟨0, j, none⟩ = some (.int .u8 (Lib.deBruijn64tab.getD j 0))
theorem Tab.pos {w : World} (h : Tab w) : 0 < w.heap.size := World.block_lt_of_cell? w _ (h.at_ 0 (by decide))
theorem Tab.below {w w' : World} (h : Tab w) {B : Nat} (hb : Below B w w') (hB : 0 < B) : Tab w' := ⟨fun j hj => (hb.cell (p := ⟨0, j, none⟩) hB).trans (h.at_ j hj)⟩

/-- The least number in a set (64: there is none). -/
def low (b : BitVec 64) : Nat := Lib.ctz 64 b.toNat

theorem tz_key (x a : Nat) (hx : x < 18446744073709551616) (hlow : x &&& (18446744073709551616 - x) = a) (hx0 : x ≠ 0) :
    IntKind.u64.wrap (bits BinOp.and IntKind.u64 (x : Int) (IntKind.u64.wrap (-(x : Int))) * 285870213051353865) / 288230376151711744 = ((a * 285870213051353865 % 18446744073709551616 / 288230376151711744 : Nat) : Int) := by
  have e1 : IntKind.u64.wrap (-(x : Int)) = ((18446744073709551616 - x : Nat) : Int) := by rw [IntKind.wrap_u64]; omega
  rw [e1, bits_and_u64_nat x _ hx (by omega), hlow, IntKind.wrap_u64]
  omega

set_option maxHeartbeats 1000000 in
theorem tz64_core (x k idx : Nat) (w : World) (hx0 : ((x : Int) == 0) = false)
    (key : IntKind.u64.wrap (bits BinOp.and IntKind.u64 (x : Int) (IntKind.u64.wrap (-(x : Int))) * 285870213051353865) / 288230376151711744 = (idx : Int))
    (hi : idx < 64) (hk : k < 64) (hcell : w.cell? ⟨0, idx, none⟩ = some (.int .u8 k)) :
    Calls Tryd.prog 88 #[.int .u64 x] w fun e w' => e = .returned (.int .i64 k) ∧ w = w' := by
  go_enter Tryd.func88, Tryd.ntmps88
  go_wp2_with (simp only [key])
  go_ret
  exact ⟨rfl, rfl⟩

set_option maxHeartbeats 1000000 in
theorem tz64_c (b : BitVec 64) (w : World) (hT : Tab w) (h0 : b ≠ 0#64) :
    Calls Tryd.prog 88 #[.int .u64 (nb b : Int)] w fun e w' => e = .returned (.int .i64 (low b : Int)) ∧ w = w' := by
  have hb : nb b = b.toNat := by unfold nb; rfl
  rw [hb]
  have hx : b.toNat < 18446744073709551616 := b.isLt
  have hx0 : b.toNat ≠ 0 := fun e => h0 (BitVec.eq_of_toNat_eq e)
  obtain ⟨hlow, hk⟩ := Lib.lowest_bit 64 b.toNat hx0 hx
  obtain ⟨hi, htab⟩ := Lib.deBruijn64_at _ hk
  have hcell := hT.at_ _ hi
  rw [htab] at hcell
  exact tz64_core b.toNat _ _ w (by simp; omega) (tz_key b.toNat _ hx hlow hx0) hi hk hcell

theorem ctzFrom_low : ∀ (f x : Nat), 0 < x → x < 2 ^ f → Nat.testBit x (Lib.ctzFrom f x) = true ∧ (∀ j, j < Lib.ctzFrom f x → Nat.testBit x j = false) ∧ Lib.ctzFrom f x < f
  | 0, x, h0, h => by simp at h; omega
  | f + 1, x, h0, h => by
    unfold Lib.ctzFrom
    split
    · rename_i h1
      exact ⟨by simp [Nat.testBit_zero, h1], fun j hj => by omega, by omega⟩
    · rename_i h1
      have hx : x / 2 < 2 ^ f := by rw [Nat.pow_succ] at h; omega
      obtain ⟨h2, h3, h4⟩ := ctzFrom_low f (x / 2) (by omega) hx
      refine ⟨by rw [Nat.add_comm, Nat.testBit_succ]; exact h2, fun j hj => ?_, by omega⟩
      cases j with
      | zero => simp [Nat.testBit_zero]; omega
      | succ j => rw [Nat.testBit_succ]; exact h3 j (by omega)
theorem low_spec (b : BitVec 64) (h0 : b ≠ 0#64) : bit b (low b) = true ∧ (∀ j, j < low b → bit b j = false) ∧ low b < 64 := by
  have hx0 : b.toNat ≠ 0 := fun e => h0 (BitVec.eq_of_toNat_eq e)
  have := ctzFrom_low 64 b.toNat (by omega) b.isLt
  simp only [low, Lib.ctz, if_neg hx0, bit_def]
  exact ⟨by rw [← BitVec.testBit_toNat]; exact this.1, fun j hj => by rw [← BitVec.testBit_toNat]; exact this.2.1 j hj, this.2.2⟩
end Go.Proofs.YtaamjpeehejafaaDoor
