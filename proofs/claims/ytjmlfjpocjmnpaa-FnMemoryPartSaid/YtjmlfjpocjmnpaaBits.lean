/-
  Contracts of the functions on sets of frames that only compute with numbers. No conditions.
-/
import Derived.Test.YtjmlfjpocjmnpaaPure
import Derived.Test.YtjmlfjpocjmnpaaSets
namespace Go.Proofs.Ytjmlfjpocjmnpaa
open Go.RowKit

def p2 (k : Nat) : Int := ((2 ^ k : Nat) : Int)
theorem p2_succ (k : Nat) : p2 (k + 1) = 2 * p2 k := by unfold p2; rw [Nat.pow_succ]; omega
theorem p2_pos (k : Nat) : 1 ≤ p2 k := by unfold p2; have := Nat.pow_pos (a := 2) (n := k) (by decide); omega
theorem p2_le (k : Nat) (h : k ≤ 11) : p2 k ≤ 2048 := by
  unfold p2
  have : 2 ^ k ≤ 2 ^ 11 := Nat.pow_le_pow_right (by decide) h
  omega
/-- Does the number have the frame? -/
def hb (n f : Int) : Bool := n.toNat.testBit f.toNat
def bhV (n f : Int) : Bool := inR n 0 4095 && (inR f 0 11 && hb n f)
theorem hb_div (n f : Int) (h0 : 0 ≤ n) : (n / p2 f.toNat % 2 == 1) = hb n f := by
  obtain ⟨m, rfl⟩ := Int.eq_ofNat_of_zero_le h0
  unfold hb p2
  rw [Int.toNat_natCast, Nat.testBit_eq_decide_div_mod_eq]
  rw [Bool.eq_iff_iff, beq_iff_eq, decide_eq_true_eq]
  omega

theorem i64_bits_nat (a b : Nat) (ha0 : a < 1099511627776) (hb0 : b < 1099511627776) :
    bits .and .i64 (a : Int) (b : Int) = ((a &&& b : Nat) : Int) ∧ bits .or .i64 (a : Int) (b : Int) = ((a ||| b : Nat) : Int) := by
  have ha : a < 2 ^ 40 := by simpa using ha0
  have hb : b < 2 ^ 40 := by simpa using hb0
  have hp : (2 : Nat) ^ 40 ≤ 2 ^ IntKind.i64.bits := by decide
  have ha' : a % 2 ^ IntKind.i64.bits = a := Nat.mod_eq_of_lt (Nat.lt_of_lt_of_le ha hp)
  have hb' : b % 2 ^ IntKind.i64.bits = b := Nat.mod_eq_of_lt (Nat.lt_of_lt_of_le hb hp)
  have hx : a &&& b < 1099511627776 := by simpa using Nat.and_lt_two_pow a hb
  have hy : a ||| b < 1099511627776 := by simpa using Nat.or_lt_two_pow ha hb
  constructor
  · simp only [bits, BitVec.ofInt_natCast, BitVec.toNat_and, BitVec.toNat_ofNat, ha', hb']
    rw [IntKind.wrap_i64]
    clear ha hb hp ha' hb'
    omega
  · simp only [bits, BitVec.ofInt_natCast, BitVec.toNat_or, BitVec.toNat_ofNat, ha', hb']
    rw [IntKind.wrap_i64]
    clear ha hb hp ha' hb'
    omega
theorem i64_andNot_nat (a b : Nat) (ha0 : a < 4096) (hb0 : b < 4096) : bits .andNot .i64 (a : Int) (b : Int) = ((wo a b : Nat) : Int) := by
  have ha' : a % 2 ^ IntKind.i64.bits = a := Nat.mod_eq_of_lt (Nat.lt_of_lt_of_le ha0 (by decide))
  have hb' : b % 2 ^ IntKind.i64.bits = b := Nat.mod_eq_of_lt (Nat.lt_of_lt_of_le hb0 (by decide))
  have e : a &&& (2 ^ IntKind.i64.bits - 1 - b) = wo a b := by
    apply Nat.eq_of_testBit_eq
    intro j
    rw [Nat.testBit_and, testBit_wo]
    by_cases hj : j < 12
    · rw [Nat.sub_sub, Nat.add_comm 1 b, Nat.testBit_two_pow_sub_succ (Nat.lt_of_lt_of_le hb0 (by decide))]
      have : j < IntKind.i64.bits := Nat.lt_of_lt_of_le hj (by decide)
      simp [this]
    · rw [testBit_high ha0 (by omega)]; simp
  have hx : wo a b < 4096 := wo_lt ha0
  simp only [bits, BitVec.ofInt_natCast, BitVec.toNat_and, BitVec.toNat_not, BitVec.toNat_ofNat, ha', hb', e]
  rw [IntKind.wrap_i64]
  clear ha' hb' e
  omega
theorem hb_shr (n f : Int) (h0 : 0 ≤ n) (h1 : n ≤ 4095) : (bits BinOp.and IntKind.i64 (n / 2 ^ f.toNat) 1 == 1) = hb n f := by
  obtain ⟨m, rfl⟩ := Int.eq_ofNat_of_zero_le h0
  have e : ((m : Int) / 2 ^ f.toNat) = ((m / 2 ^ f.toNat : Nat) : Int) := by
    rw [Int.natCast_ediv, Int.natCast_pow]; rfl
  have hlt : m / 2 ^ f.toNat < 1099511627776 := Nat.lt_of_le_of_lt (Nat.div_le_self _ _) (by omega)
  rw [e, show (1 : Int) = ((1 : Nat) : Int) from rfl, (i64_bits_nat _ 1 hlt (by decide)).1, Nat.and_one_is_mod]
  unfold hb
  rw [Int.toNat_natCast, Nat.testBit_eq_decide_div_mod_eq, Bool.eq_iff_iff, beq_iff_eq, decide_eq_true_eq]
  omega

end Go.Proofs.Ytjmlfjpocjmnpaa
