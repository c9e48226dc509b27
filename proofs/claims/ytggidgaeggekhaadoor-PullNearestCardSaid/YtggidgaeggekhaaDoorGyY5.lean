/-
  Plain laws: division bit by bit.
  Conditions: none beyond the hypotheses of each theorem.
-/
import Derived.Test.YtggidgaeggekhaaDoorGyY4
namespace Go.Gy
set_option linter.unusedSimpArgs false
set_option linter.unusedVariables false
open Go Go.RowKit Go.Proofs

theorem sz_id {z : Int} (h0 : -57896044618658097711785492504343953926634992332820282019728792003956564819968 ≤ z) (h1 : z < 57896044618658097711785492504343953926634992332820282019728792003956564819968) : sz z = z := by
  unfold sz; rw [Int.bmod_def]; split <;> omega
theorem sz_pos {z : Int} (h0 : 0 ≤ z) (h1 : z < 57896044618658097711785492504343953926634992332820282019728792003956564819968) : sz z = z := sz_id (Int.le_trans (by decide) h0) h1
theorem div_step (a M : Int) (hM : 0 < M) : (M ≤ a % (2 * M) → a % M = a % (2 * M) - M ∧ a / M = 2 * (a / (2 * M)) + 1) ∧ (a % (2 * M) < M → a % M = a % (2 * M) ∧ a / M = 2 * (a / (2 * M))) := by
  have h1 := Int.emod_add_mul_ediv a (2 * M)
  have h2 := Int.emod_nonneg a (b := 2 * M) (by omega)
  have h3 := Int.emod_lt_of_pos a (b := 2 * M) (by omega)
  have e : 2 * M * (a / (2 * M)) = M * (2 * (a / (2 * M))) := by rw [Int.mul_comm 2 M, Int.mul_assoc]
  rw [e] at h1
  generalize a % (2 * M) = r at *
  generalize 2 * (a / (2 * M)) = k at *
  constructor
  · intro h
    have ea : a = (r - M) + M * (k + 1) := by rw [Int.mul_add]; omega
    constructor
    · rw [ea, Int.add_mul_emod_self_left, Int.emod_eq_of_lt (by omega) (by omega)]
    · rw [ea, Int.add_mul_ediv_left _ _ (by omega), Int.ediv_eq_zero_of_lt (by omega) (by omega)]; omega
  · intro h
    have ea : a = r + M * k := by omega
    constructor
    · rw [ea, Int.add_mul_emod_self_left, Int.emod_eq_of_lt (by omega) (by omega)]
    · rw [ea, Int.add_mul_ediv_left _ _ (by omega), Int.ediv_eq_zero_of_lt (by omega) (by omega)]; omega
theorem pow_pos2 (k : Nat) : (0 : Int) < 2 ^ k := Int.pow_pos (by omega)
/-- A bit is laid where none is. -/
theorem wi_bit (c : Int) (t r : Nat) (hr : r < 64) : bitI .or .u64 (wi (c * 2 ^ (64 * t + r + 1)) t) (2 ^ r) = wi (c * 2 ^ (64 * t + r + 1) + 2 ^ (64 * t + r)) t := by
  have e1 : c * 2 ^ (64 * t + r + 1) / 2 ^ (64 * t) = c * 2 ^ (r + 1) := by
    rw [show 64 * t + r + 1 = (r + 1) + 64 * t by omega, Int.pow_add, ← Int.mul_assoc, Int.mul_ediv_cancel _ (by have := pow_pos2 (64 * t); omega)]
  have e2 : (c * 2 ^ (64 * t + r + 1) + 2 ^ (64 * t + r)) / 2 ^ (64 * t) = c * 2 ^ (r + 1) + 2 ^ r := by
    have x1 : (2 : Int) ^ (64 * t + r + 1) = 2 ^ (r + 1) * 2 ^ (64 * t) := by rw [← Int.pow_add]; congr 1; omega
    have x2 : (2 : Int) ^ (64 * t + r) = 2 ^ r * 2 ^ (64 * t) := by rw [← Int.pow_add]; congr 1; omega
    rw [x1, x2, ← Int.mul_assoc, ← Int.add_mul, Int.mul_ediv_cancel _ (by have := pow_pos2 (64 * t); omega)]
  have hM : (18446744073709551616 : Int) = 2 ^ (63 - r) * 2 ^ (r + 1) := by rw [← Int.pow_add, show 63 - r + (r + 1) = 64 by omega]; rfl
  have hdvd : (2 : Int) ^ (r + 1) ∣ 18446744073709551616 := ⟨2 ^ (63 - r), by rw [hM, Int.mul_comm]⟩
  have hp := pow_pos2 r
  have hp1 : (2 : Int) ^ (r + 1) = 2 * 2 ^ r := by rw [Int.pow_succ, Int.mul_comm]
  have h5 : (c * 2 ^ (r + 1)) % 18446744073709551616 % 2 ^ (r + 1) = 0 := by rw [Int.emod_emod_of_dvd _ hdvd, Int.mul_emod_left]
  have h6 := Int.emod_nonneg (c * 2 ^ (r + 1)) (b := 18446744073709551616) (by omega)
  have h7 := Int.emod_lt_of_pos (c * 2 ^ (r + 1)) (b := 18446744073709551616) (by omega)
  have h8 : (c * 2 ^ (r + 1)) % 18446744073709551616 ≤ 18446744073709551616 - 2 ^ (r + 1) := by
    obtain ⟨d, hd⟩ := Int.dvd_of_emod_eq_zero h5
    rw [hd] at h7 ⊢
    have hs := pow_pos2 (63 - r)
    have hq := pow_pos2 (r + 1)
    rw [hM] at h7 ⊢
    generalize (2 : Int) ^ (r + 1) = P at *
    generalize (2 : Int) ^ (63 - r) = S at *
    rw [Int.mul_comm S P] at h7 ⊢
    have : d < S := Int.lt_of_mul_lt_mul_left h7 (by omega)
    have : P * d ≤ P * (S - 1) := Int.mul_le_mul_of_nonneg_left (by omega) (by omega)
    rw [Int.mul_sub, Int.mul_one] at this
    exact this
  unfold wi
  rw [e1, e2, or_add (R := r + 1) h6 h7 h5 (by omega) (by omega) (by omega), Int.add_emod (c * 2 ^ (r + 1)), Int.emod_eq_of_lt (a := 2 ^ r) (by omega) (by omega), Int.emod_eq_of_lt (a := c * 2 ^ (r + 1) % 18446744073709551616 + 2 ^ r) (by omega) (by omega)]
theorem wi_other (c : Int) (t r j : Nat) (hr : r < 64) (h : j ≠ t) : wi (c * 2 ^ (64 * t + r + 1) + 2 ^ (64 * t + r)) j = wi (c * 2 ^ (64 * t + r + 1)) j := by
  unfold wi
  by_cases hj : j < t
  · obtain ⟨m, rfl⟩ : ∃ m, t = j + 1 + m := ⟨t - (j + 1), by omega⟩
    have e : (2 : Int) ^ (64 * (j + 1 + m) + r) = (2 ^ (64 * m + r) * 18446744073709551616) * 2 ^ (64 * j) := by
      rw [show 64 * (j + 1 + m) + r = 64 * m + r + 64 + 64 * j by omega, Int.pow_add, Int.pow_add]; rfl
    rw [Int.pow_succ, e, show c * (2 ^ (64 * m + r) * 18446744073709551616 * 2 ^ (64 * j) * 2) = (c * 2 * 2 ^ (64 * m + r) * 18446744073709551616) * 2 ^ (64 * j) by
      simp only [Int.mul_assoc, Int.mul_comm, Int.mul_left_comm], ← Int.add_mul, Int.mul_ediv_cancel _ (by have := pow_pos2 (64 * j); omega), Int.mul_ediv_cancel _ (by have := pow_pos2 (64 * j); omega), ← Int.add_mul, Int.mul_emod_left, Int.mul_emod_left]
  · obtain ⟨m, rfl⟩ : ∃ m, j = t + 1 + m := ⟨j - (t + 1), by omega⟩
    have e : (2 : Int) ^ (64 * (t + 1 + m)) = 2 ^ (64 * t + r + 1) * 2 ^ (64 * m + (63 - r)) := by
      rw [← Int.pow_add]; congr 1; omega
    have hp := pow_pos2 (64 * t + r)
    have hq : (2 : Int) ^ (64 * t + r + 1) = 2 * 2 ^ (64 * t + r) := by rw [Int.pow_succ, Int.mul_comm]
    have hc : (c * 2 ^ (64 * t + r + 1) + 2 ^ (64 * t + r)) / 2 ^ (64 * t + r + 1) = c := by
      rw [Int.add_comm, Int.add_mul_ediv_right _ _ (by omega), Int.ediv_eq_zero_of_lt (by omega) (by omega)]; omega
    rw [e, ← Int.ediv_ediv_of_nonneg (Int.le_of_lt (pow_pos2 _)), ← Int.ediv_ediv_of_nonneg (Int.le_of_lt (pow_pos2 _)), hc, Int.mul_ediv_cancel _ (by omega)]
/-- How far a division has come, k bits from its end. -/
def rA (a b : Int) (k : Nat) : Int := a % (b * 2 ^ k)
def qA (a b : Int) (k : Nat) : Int := a / (b * 2 ^ k) * 2 ^ k
theorem dA_step (a b : Int) (hb : 0 < b) (k : Nat) : (b * 2 ^ k ≤ rA a b (k + 1) → rA a b k = rA a b (k + 1) - b * 2 ^ k ∧ qA a b k = qA a b (k + 1) + 2 ^ k) ∧ (rA a b (k + 1) < b * 2 ^ k → rA a b k = rA a b (k + 1) ∧ qA a b k = qA a b (k + 1)) := by
  have hp := pow_pos2 k
  have e : b * 2 ^ (k + 1) = 2 * (b * 2 ^ k) := by rw [Int.pow_succ, ← Int.mul_assoc, Int.mul_comm]
  have e2 : ∀ x : Int, x * 2 ^ (k + 1) = 2 * x * 2 ^ k := fun x => by rw [Int.pow_succ, Int.mul_comm (2 ^ k), ← Int.mul_assoc, Int.mul_comm x 2]
  have h := div_step a (b * 2 ^ k) (Int.mul_pos hb hp)
  unfold rA qA
  rw [e, e2]
  refine ⟨fun h1 => ?_, fun h1 => ?_⟩
  · obtain ⟨h2, h3⟩ := h.1 h1
    exact ⟨h2, by rw [h3, Int.add_mul, Int.one_mul]⟩
  · obtain ⟨h2, h3⟩ := h.2 h1
    exact ⟨h2, by rw [h3]⟩
theorem dA_end (a b : Int) : rA a b 0 = a % b ∧ qA a b 0 = a / b := by simp [rA, qA]
theorem dA_begin (a b : Int) (k : Nat) (h0 : 0 ≤ a) (h : a < b * 2 ^ k) : rA a b k = a ∧ qA a b k = 0 := by
  unfold rA qA
  rw [Int.emod_eq_of_lt h0 h, Int.ediv_eq_zero_of_lt h0 h]
  simp
theorem shN_up (a b : Int) (ha0 : 0 ≤ a) (hb0 : 0 < b) (ha : a < 2 ^ 256) (hb : b < 2 ^ 256) : a < b * 2 ^ (shN a b + 1).toNat ∧ (0 ≤ shN a b → b * 2 ^ (shN a b).toNat < 2 ^ (nbits a).toNat) := by
  have ea : uz a = a := by unfold uz; omega
  have eb : uz b = b := by unfold uz; omega
  unfold shN
  rw [ea, eb]
  obtain ⟨j, hj, j1, j2⟩ := nbits_pos hb0
  by_cases h0 : a = 0
  · subst h0
    have e0 : nbits 0 = 0 := rfl
    rw [e0, hj]
    exact ⟨Int.mul_pos hb0 (pow_pos2 _), fun h => by omega⟩
  · obtain ⟨k, hk, k1, k2⟩ := nbits_pos (x := a) (by omega)
    rw [hk, hj]
    refine ⟨?_, fun h => ?_⟩
    · by_cases hkj : j ≤ k + 1
      · have e : ((k : Int) + 1 - (j + 1) + 1).toNat = k + 1 - j := by omega
        rw [e]
        refine Int.lt_of_lt_of_le k2 ?_
        have h3 : (2 : Int) ^ (k + 1) = 2 ^ j * 2 ^ (k + 1 - j) := by rw [← Int.pow_add]; congr 1; omega
        rw [h3]
        exact Int.mul_le_mul_of_nonneg_right j1 (Int.le_of_lt (pow_pos2 _))
      · have e : ((k : Int) + 1 - (j + 1) + 1).toNat = 0 := by omega
        rw [e, Int.pow_zero, Int.mul_one]
        refine Int.lt_of_lt_of_le k2 (Int.le_trans ?_ j1)
        exact_mod_cast Nat.pow_le_pow_right (by omega) (by omega : k + 1 ≤ j)
    · have e : ((k : Int) + 1 - (j + 1)).toNat = k - j := by omega
      have e' : ((k : Int) + 1).toNat = k + 1 := by omega
      rw [e, e']
      have h3 : (2 : Int) ^ (k + 1) = 2 ^ (j + 1) * 2 ^ (k - j) := by rw [← Int.pow_add]; congr 1; omega
      rw [h3]
      exact Int.mul_lt_mul_of_pos_right j2 (pow_pos2 _)
end Go.Gy
