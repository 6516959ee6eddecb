/- Bits of entries: laws on numbers alone. -/
import Derived.Test.YtpinoejckagjbaaLib
import Derived.Laws.BitsLemmas
import Derived.Lib.EndianBits
namespace Go.Mum
open Go.RowKit

theorem and_u32 (a b : Nat) (ha : a < 4294967296) (hb : b < 4294967296) : bits .and .u32 (a : Int) (b : Int) = ((a &&& b : Nat) : Int) := (bits_nat .u32 32 (by decide) wraps_u32 a b ha hb).1
theorem or_u32 (a b : Nat) (ha : a < 4294967296) (hb : b < 4294967296) : bits .or .u32 (a : Int) (b : Int) = ((a ||| b : Nat) : Int) := (bits_nat .u32 32 (by decide) wraps_u32 a b ha hb).2

/-- 'a &^ 63'. -/
theorem andNot63 (a : Nat) (ha : a < 4294967296) : bits .andNot .u32 (a : Int) 63 = ((a / 64 * 64 : Nat) : Int) := by
  have h1 : (BitVec.ofInt 32 (a : Int)).toNat = a := by
    rw [BitVec.ofInt_natCast, BitVec.toNat_ofNat]; exact Nat.mod_eq_of_lt (by omega)
  show IntKind.u32.wrap ((BitVec.ofInt 32 (a : Int) &&& ~~~BitVec.ofInt 32 63).toNat : Int) = _
  have e : (BitVec.ofInt 32 (a : Int) &&& ~~~BitVec.ofInt 32 63).toNat = a / 64 * 64 := by
    apply Nat.eq_of_testBit_eq
    intro i
    rw [BitVec.toNat_and, Nat.testBit_and, h1, BitVec.testBit_toNat, BitVec.getLsbD_not, show a / 64 * 64 = 2 ^ 6 * (a / 2 ^ 6) by rw [Nat.mul_comm], Nat.testBit_two_pow_mul, Nat.testBit_div_two_pow]
    by_cases hi : i < 6
    · have : i = 0 ∨ i = 1 ∨ i = 2 ∨ i = 3 ∨ i = 4 ∨ i = 5 := by omega
      rcases this with rfl | rfl | rfl | rfl | rfl | rfl <;> simp
    · have h6 : 6 ≤ i := by omega
      rw [show i - 6 + 6 = i by omega]
      by_cases h32 : i < 32
      · have hz : (BitVec.ofInt 32 63).getLsbD i = false := by
          rw [show (63 : Int) = ((63 : Nat) : Int) by rfl, BitVec.ofInt_natCast, BitVec.getLsbD_ofNat]
          have : (63 : Nat).testBit i = false := Nat.testBit_lt_two_pow (Nat.lt_of_lt_of_le (show 63 < 2 ^ 6 by decide) (Nat.pow_le_pow_right (by decide) h6))
          simp [this]
        rw [hz]
        simp [h6, h32]
      · have : a.testBit i = false := Nat.testBit_lt_two_pow (Nat.lt_of_lt_of_le (show a < 2 ^ 32 by omega) (Nat.pow_le_pow_right (by decide) (by omega)))
        simp [this]
  rw [e, IntKind.wrap_u32]
  omega

/-- One bit. -/
theorem and_pow (a i : Nat) : a &&& 2 ^ i = a / 2 ^ i % 2 * 2 ^ i := by
  apply Nat.eq_of_testBit_eq
  intro j
  rw [Nat.testBit_and, Nat.testBit_two_pow, Nat.mul_comm, Nat.testBit_two_pow_mul]
  by_cases h : i = j
  · subst h
    simp only [decide_true, Bool.and_true, Nat.le_refl, Nat.sub_self, Nat.testBit_zero, Bool.true_and]
    rw [Nat.testBit_eq_decide_div_mod_eq]
    congr 1
    rw [eq_iff_iff]
    omega
  · by_cases hl : i ≤ j
    · have : (a / 2 ^ i % 2).testBit (j - i) = false := Nat.testBit_lt_two_pow (Nat.lt_of_lt_of_le (Nat.mod_lt _ (by decide)) (show 2 ^ 1 ≤ 2 ^ (j - i) from Nat.pow_le_pow_right (by decide) (by omega)))
      simp [h, this]
    · simp [h, hl]

/-- The bits of two entries together, as the code reckons them. -/
def bothN (x y : Nat) : Nat := (((7 &&& (x ||| 8)) ||| (x &&& 8)) &&& (y ||| 8)) ||| (y &&& 8)
/-- .. and as the document says. -/
def refBits (x y : Nat) : Nat := 1 + (if x / 2 % 2 = 1 ∧ y / 2 % 2 = 1 then 2 else 0) + (if x / 4 % 2 = 1 ∧ y / 4 % 2 = 1 then 4 else 0) + (if x / 8 % 2 = 1 ∨ y / 8 % 2 = 1 then 8 else 0) + (if y / 16 % 2 = 1 then 16 else 0)

theorem both_mod (x y : Nat) : bothN x y ||| (y &&& 16) = bothN (x % 32) (y % 32) ||| (y % 32 &&& 16) := by
  apply Nat.eq_of_testBit_eq
  intro i
  unfold bothN
  simp only [Nat.testBit_or, Nat.testBit_and, show 32 = 2 ^ 5 by rfl, Nat.testBit_mod_two_pow]
  by_cases h : i < 5
  · simp [h]
  · have h5 : 2 ^ 5 ≤ 2 ^ i := Nat.pow_le_pow_right (by decide) (by omega)
    have t7 : (7 : Nat).testBit i = false := Nat.testBit_lt_two_pow (Nat.lt_of_lt_of_le (by decide) h5)
    have t8 : (8 : Nat).testBit i = false := Nat.testBit_lt_two_pow (Nat.lt_of_lt_of_le (by decide) h5)
    have t16 : (16 : Nat).testBit i = false := Nat.testBit_lt_two_pow (Nat.lt_of_lt_of_le (by decide) h5)
    simp [h, t7, t8, t16]

theorem both_all : ∀ x y : Fin 32, x.val % 2 = 1 → y.val % 2 = 1 → bothN x.val y.val ||| (y.val &&& 16) = refBits x.val y.val := by decide +kernel

theorem both_ref (x y : Nat) (hx : x % 2 = 1) (hy : y % 2 = 1) : bothN x y ||| (y &&& 16) = refBits x y := by
  have h := both_all ⟨x % 32, Nat.mod_lt _ (by decide)⟩ ⟨y % 32, Nat.mod_lt _ (by decide)⟩ (by simp; omega) (by simp; omega)
  simp only at h
  rw [both_mod, h]
  unfold refBits
  have e1 : x % 32 / 2 % 2 = x / 2 % 2 := by omega
  have e2 : y % 32 / 2 % 2 = y / 2 % 2 := by omega
  have e3 : x % 32 / 4 % 2 = x / 4 % 2 := by omega
  have e4 : y % 32 / 4 % 2 = y / 4 % 2 := by omega
  have e5 : x % 32 / 8 % 2 = x / 8 % 2 := by omega
  have e6 : y % 32 / 8 % 2 = y / 8 % 2 := by omega
  have e7 : y % 32 / 16 % 2 = y / 16 % 2 := by omega
  rw [e1, e2, e3, e4, e5, e6, e7]

theorem bothN_lt (x y : Nat) : bothN x y < 16 := by
  unfold bothN
  have h1 : (y &&& 8) < 16 := Nat.lt_of_le_of_lt Nat.and_le_right (by decide)
  have h2 : (7 &&& (x ||| 8)) < 16 := Nat.lt_of_le_of_lt Nat.and_le_left (by decide)
  have h3 : (x &&& 8) < 16 := Nat.lt_of_le_of_lt Nat.and_le_right (by decide)
  have h4 : (7 &&& (x ||| 8)) ||| (x &&& 8) < 16 := Nat.or_lt_two_pow (n := 4) h2 h3
  have h5 : ((7 &&& (x ||| 8)) ||| (x &&& 8)) &&& (y ||| 8) < 16 := Nat.lt_of_le_of_lt Nat.and_le_left h4
  exact Nat.or_lt_two_pow (n := 4) h5 h1

theorem refBits_lt (x y : Nat) : refBits x y < 32 := by unfold refBits; (repeat' split) <;> omega

/-- A bit that is not there is laid. -/
theorem or_bit (x i : Nat) (hi : i < 32) (hx : x < 4294967296) (h : x / 2 ^ i % 2 = 0) : x ||| 2 ^ i = x + 2 ^ i := by
  have hp : 2 ^ i < 4294967296 := Nat.pow_lt_pow_right (a := 2) (n := 32) (by decide) hi
  have ht : x.testBit i = false := by rw [Nat.testBit_eq_decide_div_mod_eq, h]; rfl
  have e : BitVec.ofNat 32 x &&& BitVec.ofNat 32 (2 ^ i) = 0#32 := by
    apply BitVec.eq_of_toNat_eq
    rw [BitVec.toNat_and, BitVec.toNat_ofNat, BitVec.toNat_ofNat, Nat.mod_eq_of_lt (by omega), Nat.mod_eq_of_lt (by omega), and_pow, h]
    simp
  have h1 := BitVec.add_eq_or_of_and_eq_zero _ _ e
  have hsum : x + 2 ^ i < 4294967296 := by
    have h2 : x < 2 ^ 32 := by omega
    have := Nat.or_lt_two_pow (n := 32) h2 (show 2 ^ i < 2 ^ 32 by omega)
    -- the bits above i and below: x = q * 2^(i+1) + r with r < 2^i
    have hq : x / 2 ^ i = 2 * (x / 2 ^ i / 2) := by omega
    have hd := Nat.div_add_mod x (2 ^ i)
    have hr := Nat.mod_lt x (Nat.two_pow_pos i)
    have hk : 2 ^ (i + 1) * (x / 2 ^ i / 2) = 2 ^ i * (x / 2 ^ i) := by rw [Nat.pow_succ, Nat.mul_assoc, ← hq]
    obtain ⟨j, hj⟩ : ∃ j, 32 = i + 1 + j := ⟨31 - i, by omega⟩
    have hle : x / 2 ^ i / 2 < 2 ^ j := by
      rw [Nat.div_div_eq_div_mul, ← Nat.pow_succ, Nat.div_lt_iff_lt_mul (Nat.two_pow_pos _), ← Nat.pow_add, Nat.add_comm, ← hj]
      exact h2
    have hm : 2 ^ (i + 1) * (x / 2 ^ i / 2 + 1) ≤ 2 ^ (i + 1) * 2 ^ j := Nat.mul_le_mul_left _ hle
    rw [← Nat.pow_add, ← hj, Nat.mul_add, hk, Nat.mul_one, Nat.pow_succ] at hm
    omega
  have h3 := congrArg BitVec.toNat h1
  rw [BitVec.toNat_add, BitVec.toNat_or, BitVec.toNat_ofNat, BitVec.toNat_ofNat, Nat.mod_eq_of_lt (show x < 2 ^ 32 by omega), Nat.mod_eq_of_lt (show 2 ^ i < 2 ^ 32 by omega), Nat.mod_eq_of_lt (by omega)] at h3
  exact h3.symm
end Go.Mum
