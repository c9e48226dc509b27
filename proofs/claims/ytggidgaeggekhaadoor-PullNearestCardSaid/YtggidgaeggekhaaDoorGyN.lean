/-
  Numbers: words and digits of whole numbers; the walk's words for them.
  Conditions: none beyond the hypotheses of each theorem.
-/
import Derived.Test.YtggidgaeggekhaaDoorGyS
namespace Go.Gy
open Go Go.RowKit

@[simp] theorem wrap_u64 (x : Int) : IntKind.u64.wrap x = x % 18446744073709551616 := by simp [IntKind.wrap, IntKind.bits, IntKind.signed]
@[simp] theorem wrap_i64 (x : Int) : IntKind.i64.wrap x = Int.bmod x 18446744073709551616 := by
  rw [Int.bmod_def]
  simp only [IntKind.wrap, IntKind.bits, IntKind.signed]
  simp
  split <;> split <;> omega
@[simp] theorem bits_u64 : IntKind.u64.bits = 64 := rfl
@[simp] theorem bits_i64 : IntKind.i64.bits = 64 := rfl

def wi (z : Int) (k : Nat) : Int := z / 2 ^ (64 * k) % 18446744073709551616
def di (z : Int) (k : Nat) : Int := z / 2 ^ (32 * k) % 4294967296
def car (z y c : Int) (i : Nat) : Int := (z % 2 ^ (32 * i) + y % 2 ^ (32 * i) + c) / 2 ^ (32 * i)

theorem wi_ge (z : Int) (k : Nat) : 0 ≤ wi z k := Int.emod_nonneg _ (by omega)
theorem wi_lt (z : Int) (k : Nat) : wi z k < 18446744073709551616 := Int.emod_lt_of_pos _ (by omega)
theorem di_ge (z : Int) (k : Nat) : 0 ≤ di z k := Int.emod_nonneg _ (by omega)
theorem di_lt (z : Int) (k : Nat) : di z k < 4294967296 := Int.emod_lt_of_pos _ (by omega)

theorem pow_succ32 (i : Nat) : (2 : Int) ^ (32 * (i + 1)) = 2 ^ (32 * i) * 4294967296 := by
  rw [Nat.mul_add, Int.pow_add]; rfl
theorem pow32_pos (i : Nat) : (0 : Int) < 2 ^ (32 * i) := Int.pow_pos (by decide)

theorem emod_mul (z M B : Int) (hM : 0 < M) (hB : 0 < B) : z % (M * B) = z % M + M * (z / M % B) := by
  have h1 := Int.emod_add_mul_ediv z M
  have h2 := Int.emod_add_mul_ediv (z / M) B
  have h3 := Int.emod_nonneg z (b := M) (by omega)
  have h4 := Int.emod_lt_of_pos z hM
  have h5 := Int.emod_nonneg (z / M) (b := B) (by omega)
  have h6 := Int.emod_lt_of_pos (z / M) hB
  have e : z = (z % M + M * (z / M % B)) + (M * B) * (z / M / B) := by
    have : M * B * (z / M / B) = M * (B * (z / M / B)) := Int.mul_assoc ..
    rw [this]
    have h7 : M * (z / M) = M * (z / M % B + B * (z / M / B)) := by rw [h2]
    rw [Int.mul_add] at h7
    omega
  have hnn : 0 ≤ z % M + M * (z / M % B) := by
    have := Int.mul_nonneg (Int.le_of_lt hM) h5; omega
  have hlt : z % M + M * (z / M % B) < M * B := by
    have : M * (z / M % B) ≤ M * (B - 1) := Int.mul_le_mul_of_nonneg_left (by omega) (Int.le_of_lt hM)
    rw [Int.mul_sub] at this
    omega
  conv => lhs; rw [e]
  rw [Int.add_mul_emod_self_left]
  exact Int.emod_eq_of_lt hnn hlt

theorem ediv_split (z y c M : Int) (hM : 0 < M) : (z + y + c) / M = z / M + y / M + (z % M + y % M + c) / M := by
  have h1 := Int.emod_add_mul_ediv z M
  have h2 := Int.emod_add_mul_ediv y M
  have : z + y + c = (z % M + y % M + c) + M * (z / M + y / M) := by rw [Int.mul_add]; omega
  rw [this, Int.add_mul_ediv_left _ _ (by omega)]
  omega

theorem di_add (z y c : Int) (i : Nat) : (di z i + di y i + car z y c i) % 4294967296 = di (z + y + c) i := by
  unfold di car
  rw [ediv_split z y c _ (pow32_pos i)]
  omega
theorem car_succ (z y c : Int) (i : Nat) : (di z i + di y i + car z y c i) / 4294967296 = car z y c (i + 1) := by
  unfold di car
  rw [pow_succ32, emod_mul z _ _ (pow32_pos i) (by omega), emod_mul y _ _ (pow32_pos i) (by omega)]
  generalize hM : (2 : Int) ^ (32 * i) = M
  have hp : 0 < M := hM ▸ pow32_pos i
  have e : z % M + M * (z / M % 4294967296) + (y % M + M * (y / M % 4294967296)) + c = (z % M + y % M + c) + M * (z / M % 4294967296 + y / M % 4294967296) := by rw [Int.mul_add]; omega
  rw [e, ← Int.ediv_ediv_of_nonneg (Int.le_of_lt hp), Int.add_mul_ediv_left _ _ (by omega)]
  congr 1
  omega
theorem car_zero (z y c : Int) : car z y c 0 = c := by simp [car, Int.emod_one]
theorem car_bd (z y c : Int) (h0 : 0 ≤ c) (h1 : c ≤ 1) (i : Nat) : 0 ≤ car z y c i ∧ car z y c i ≤ 1 := by
  unfold car
  generalize hM : (2 : Int) ^ (32 * i) = M
  have hp : 0 < M := hM ▸ pow32_pos i
  have h3 := Int.emod_nonneg z (b := M) (by omega)
  have h4 := Int.emod_lt_of_pos z hp
  have h5 := Int.emod_nonneg y (b := M) (by omega)
  have h6 := Int.emod_lt_of_pos y hp
  refine ⟨Int.ediv_nonneg (by omega) (by omega), ?_⟩
  have : (z % M + y % M + c) / M < 2 := Int.ediv_lt_of_lt_mul hp (by omega)
  omega
theorem dplus (z y c : Int) (h0 : 0 ≤ c) (h1 : c ≤ 1) (i : Nat) : ((di z i + di y i + car z y c i) % 18446744073709551616).tmod 4294967296 = di (z + y + c) i := by
  have := car_bd z y c h0 h1 i
  have := di_ge z i; have := di_lt z i; have := di_ge y i; have := di_lt y i
  rw [Int.tmod_eq_emod_of_nonneg (by omega), Int.emod_eq_of_lt (a := _ + _) (by omega) (by omega), di_add]
theorem dcar (z y c : Int) (h0 : 0 ≤ c) (h1 : c ≤ 1) (i : Nat) : ((di z i + di y i + car z y c i) % 18446744073709551616).tdiv 4294967296 % 18446744073709551616 = car z y c (i + 1) := by
  have := car_bd z y c h0 h1 i
  have := di_ge z i; have := di_lt z i; have := di_ge y i; have := di_lt y i
  rw [Int.tdiv_eq_ediv_of_nonneg (by omega), ← car_succ]
  omega
@[simp] theorem dmod (z : Int) (k : Nat) : di z k % 18446744073709551616 = di z k := by have := di_ge z k; have := di_lt z k; omega

/-! 256 bits -/
def sz (z : Int) : Int := Int.bmod z 115792089237316195423570985008687907853269984665640564039457584007913129639936
theorem wsum (z : Int) : z % 115792089237316195423570985008687907853269984665640564039457584007913129639936 = wi z 0 + 18446744073709551616 * wi z 1 + 340282366920938463463374607431768211456 * wi z 2 + 6277101735386680763835789423207666416102355444464034512896 * wi z 3 := by
  simp only [wi]; omega
theorem weq (a b : Int) : (wi a 0 == wi b 0 && (wi a 1 == wi b 1 && (wi a 2 == wi b 2 && wi a 3 == wi b 3))) = decide (sz a = sz b) := by
  rw [Bool.eq_iff_iff]
  simp only [Bool.and_eq_true, beq_iff_eq, decide_eq_true_eq]
  have h1 := wsum a
  have h2 := wsum b
  have e : sz a = sz b ↔ a % 115792089237316195423570985008687907853269984665640564039457584007913129639936 = b % 115792089237316195423570985008687907853269984665640564039457584007913129639936 := by
    unfold sz
    rw [Int.bmod_def, Int.bmod_def]
    constructor <;> intro h
    · split at h <;> split at h <;> omega
    · have h : a % ((115792089237316195423570985008687907853269984665640564039457584007913129639936 : Nat) : Int) = b % ((115792089237316195423570985008687907853269984665640564039457584007913129639936 : Nat) : Int) := h
      rw [h]
  rw [e]
  constructor
  · rintro ⟨h3, h4, h5, h6⟩; rw [h1, h2, h3, h4, h5, h6]
  · intro h
    simp only [wi]
    refine ⟨?_, ?_, ?_, ?_⟩ <;> omega
theorem wne (a b : Int) : (!wi a 0 == wi b 0 || (!wi a 1 == wi b 1 || (!wi a 2 == wi b 2 || !wi a 3 == wi b 3))) = !decide (sz a = sz b) := by
  rw [← weq]; simp [Bool.not_and]
def i64 (n : Int) : Prop := -9223372036854775808 ≤ n ∧ n < 9223372036854775808
instance (n : Int) : Decidable (i64 n) := by unfold i64; infer_instance
theorem bmod_i64 (x : Int) : i64 (Int.bmod x 18446744073709551616) := by
  unfold i64; rw [Int.bmod_def]; constructor <;> split <;> omega
theorem int_is (z : Int) : sz (Int.bmod (wi z 0) 18446744073709551616) = sz z ↔ i64 (sz z) := by
  simp only [wi, sz, i64, Int.bmod_def]
  constructor
  · intro h; constructor <;> (repeat' split at h) <;> (repeat' split) <;> omega
  · rintro ⟨h1, h2⟩; (repeat' split at h1) <;> (repeat' split) <;> omega
theorem int_val (z : Int) (h : i64 (sz z)) : Int.bmod (wi z 0) 18446744073709551616 = sz z := by
  simp only [wi, sz, i64, Int.bmod_def] at *
  obtain ⟨h1, h2⟩ := h
  (repeat' split at h1) <;> (repeat' split) <;> omega
def cmpI (a b : Int) : Int := if a < b then -1 else if a = b then 0 else 1
end Go.Gy
