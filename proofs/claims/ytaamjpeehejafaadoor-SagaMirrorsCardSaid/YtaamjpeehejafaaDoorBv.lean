/- Sets of 64 as bit vectors: the walk's words for |, &, &^, <<, >> on uint64. -/
import Derived.Test.YtaamjpeehejafaaDoorBase
set_option linter.unusedSimpArgs false
set_option linter.unusedVariables false
namespace Go.Proofs.YtaamjpeehejafaaDoor
open Go Go.RowKit

theorem bv_lt (a : BitVec 64) : a.toNat < 18446744073709551616 := a.isLt
theorem bv_ofInt (a : BitVec 64) : BitVec.ofInt 64 (a.toNat : Int) = a := by
  apply BitVec.eq_of_toNat_eq
  simp [BitVec.toNat_ofInt]
theorem wrap_bv (a : BitVec 64) : IntKind.u64.wrap (a.toNat : Int) = (a.toNat : Int) := by
  have := bv_lt a
  rw [IntKind.wrap_u64]; omega
theorem bv_or (a b : BitVec 64) : bits .or .u64 (a.toNat : Int) (b.toNat : Int) = ((a ||| b).toNat : Int) := by
  show IntKind.u64.wrap ((BitVec.ofInt 64 a.toNat ||| BitVec.ofInt 64 b.toNat).toNat : Int) = _
  rw [bv_ofInt, bv_ofInt, wrap_bv]
theorem bv_and (a b : BitVec 64) : bits .and .u64 (a.toNat : Int) (b.toNat : Int) = ((a &&& b).toNat : Int) := by
  show IntKind.u64.wrap ((BitVec.ofInt 64 a.toNat &&& BitVec.ofInt 64 b.toNat).toNat : Int) = _
  rw [bv_ofInt, bv_ofInt, wrap_bv]
theorem bv_andNot (a b : BitVec 64) : bits .andNot .u64 (a.toNat : Int) (b.toNat : Int) = ((a &&& ~~~b).toNat : Int) := by
  show IntKind.u64.wrap ((BitVec.ofInt 64 a.toNat &&& ~~~BitVec.ofInt 64 b.toNat).toNat : Int) = _
  rw [bv_ofInt, bv_ofInt, wrap_bv]
theorem bv_and1 (a : BitVec 64) : bits .and .u64 (a.toNat : Int) 1 = ((a &&& 1#64).toNat : Int) := bv_and a 1#64
/-- The set of one number. -/
def one (x : Nat) : BitVec 64 := 1#64 <<< x
theorem bv_one (x : Nat) : IntKind.u64.wrap (2 ^ x) = ((one x).toNat : Int) := by
  rw [IntKind.wrap_u64]
  have h : (one x).toNat = 2 ^ x % 18446744073709551616 := by simp [one, BitVec.toNat_shiftLeft, Nat.shiftLeft_eq]
  rw [h]; simp
theorem one_get (x j : Nat) (hx : x < 64) : (one x).getLsbD j = decide (j = x) := by
  unfold one
  simp only [BitVec.getLsbD_shiftLeft, BitVec.getLsbD_one]
  by_cases h : j = x
  · subst h; simp [hx]
  · by_cases h2 : j < x
    · simp [h2, h]
    · have : j - x ≠ 0 := by omega
      simp [h, h2, this]
def setOf (xs : List Int) : BitVec 64 := xs.foldl (fun s k => s ||| one k.toNat) 0#64
theorem setOf_nil : setOf [] = 0#64 := rfl
theorem setOf_nil' : ((setOf []).toNat : Int) = 0 := rfl
theorem setOf_snoc (xs : List Int) (k : Int) : setOf (xs ++ [k]) = setOf xs ||| one k.toNat := by simp [setOf]
theorem setOf_take (xs : List Int) (j : Nat) (h : j < xs.length) : setOf (xs.take (j + 1)) = setOf (xs.take j) ||| one xs[j].toNat := by
  rw [List.take_succ_eq_append_getElem h, setOf_snoc]
theorem setOf_get (xs : List Int) (h : ∀ k ∈ xs, 0 ≤ k ∧ k < 64) (j : Nat) : (setOf xs).getLsbD j = decide ((j : Int) ∈ xs) := by
  unfold setOf
  have gen : ∀ (xs : List Int) (s : BitVec 64), (∀ k ∈ xs, 0 ≤ k ∧ k < 64) → (xs.foldl (fun s k => s ||| one k.toNat) s).getLsbD j = (s.getLsbD j || decide ((j : Int) ∈ xs)) := by
    intro xs
    induction xs with
    | nil => intro s _; simp
    | cons x r ih =>
      intro s hx
      rw [List.foldl_cons, ih _ (fun k hk => hx k (by simp [hk]))]
      have h1 := hx x (by simp)
      rw [BitVec.getLsbD_or, one_get _ _ (by omega)]
      have : (j = x.toNat) ↔ ((j : Int) = x) := by omega
      by_cases hj : (j : Int) = x
      · simp [hj, this]
      · simp [hj, this]
  rw [gen xs 0#64 h]; simp
/-- A set's number, as the walk has it: nothing looks into it. -/
def nb (b : BitVec 64) : Nat := b.toNat
theorem nb_or (a b : BitVec 64) : bits .or .u64 (nb a : Int) (nb b : Int) = (nb (a ||| b) : Int) := bv_or a b
theorem nb_and (a b : BitVec 64) : bits .and .u64 (nb a : Int) (nb b : Int) = (nb (a &&& b) : Int) := bv_and a b
theorem nb_andNot (a b : BitVec 64) : bits .andNot .u64 (nb a : Int) (nb b : Int) = (nb (a &&& ~~~b) : Int) := bv_andNot a b
theorem nb_and1 (a : BitVec 64) : bits .and .u64 (nb a : Int) 1 = (nb (a &&& 1#64) : Int) := bv_and1 a
theorem nb_one (x : Nat) : IntKind.u64.wrap (2 ^ x) = (nb (one x) : Int) := bv_one x
/-- Is a number in a set? (a word of its own: simp has others for getLsbD) -/
def bit (s : BitVec 64) (k : Nat) : Bool := s.getLsbD k
theorem nb_bit (s : BitVec 64) (k : Nat) : bits .and .u64 ((nb s : Int) / 2 ^ k) 1 = if bit s k = true then 1 else 0 := by
  unfold bit
  have h1 : ((nb s : Int) / 2 ^ k) = ((s >>> k).toNat : Int) := by
    show ((s.toNat : Int) / 2 ^ k) = _
    rw [BitVec.toNat_ushiftRight, Nat.shiftRight_eq_div_pow]
    simp
  rw [h1, bv_and1]
  have h2 : ((s >>> k) &&& 1#64) = if s.getLsbD k = true then 1#64 else 0#64 := by
    apply BitVec.eq_of_getLsbD_eq
    intro i hi
    rw [BitVec.getLsbD_and, BitVec.getLsbD_ushiftRight, BitVec.getLsbD_one]
    by_cases h0 : i = 0
    · subst h0
      cases hs : s.getLsbD k <;> simp [hs]
    · cases hs : s.getLsbD k <;> simp [h0]
  rw [h2]
  split <;> rfl
theorem nb_eq0 (x : BitVec 64) : ((nb x : Int) == 0) = (x == 0#64) := by
  rw [Bool.eq_iff_iff]
  simp only [beq_iff_eq]
  constructor
  · intro h
    apply BitVec.eq_of_toNat_eq
    show nb x = nb 0#64
    have : nb 0#64 = 0 := rfl
    omega
  · rintro rfl; rfl
theorem nb_zero : nb 0#64 = 0 := rfl
theorem nb_inj {a b : BitVec 64} (h : nb a = nb b) : a = b := BitVec.eq_of_toNat_eq h
theorem nb_lt (a : BitVec 64) : nb a < 18446744073709551616 := a.isLt
theorem nb_of (n : Nat) (h : n < 18446744073709551616) : n = nb (BitVec.ofNat 64 n) := by
  show n = (BitVec.ofNat 64 n).toNat
  rw [BitVec.toNat_ofNat, Nat.mod_eq_of_lt h]
theorem bit_def (s : BitVec 64) (k : Nat) : bit s k = s.getLsbD k := rfl
attribute [irreducible] setOf one nb bit
end Go.Proofs.YtaamjpeehejafaaDoor
