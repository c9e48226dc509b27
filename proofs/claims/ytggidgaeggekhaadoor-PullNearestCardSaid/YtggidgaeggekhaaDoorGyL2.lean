/-
  Words of a product.
  Conditions: none beyond the hypotheses of each theorem.
-/
import Derived.Test.YtggidgaeggekhaaDoorGyX6
import Derived.Laws.MathBits
namespace Go.Gy
open Go Go.RowKit
theorem pow64_pos (i : Nat) : (0 : Int) < 2 ^ (64 * i) := Int.pow_pos (by decide)
theorem pow_succ64 (i : Nat) : (2 : Int) ^ (64 * (i + 1)) = 2 ^ (64 * i) * 18446744073709551616 := by
  rw [Nat.mul_add, Int.pow_add]; rfl
/-! a product, row by row -/
def wprow (A B : Int) (i : Nat) : Int := (A % 2 ^ (64 * i)) * B
def wpcar (A B : Int) (i k : Nat) : Int := (wprow A B i % 2 ^ (64 * (i + k)) + 2 ^ (64 * i) * wi A i * (B % 2 ^ (64 * k))) / 2 ^ (64 * (i + k))
def wpout (A B : Int) (i k j : Nat) : Int := if i ≤ j ∧ j < i + k then wi (wprow A B (i + 1)) j else wi (wprow A B i) j
theorem wprow_succ (A B : Int) (i : Nat) : wprow A B (i + 1) = wprow A B i + 2 ^ (64 * i) * wi A i * B := by
  unfold wprow wi
  rw [pow_succ64, emod_mul A _ _ (pow64_pos i) (by omega), Int.add_mul]
theorem wpcar_zero (A B : Int) (i : Nat) : wpcar A B i 0 = 0 := by
  unfold wpcar
  have h1 := Int.emod_lt_of_pos (wprow A B i) (pow64_pos (i + 0))
  have h2 := Int.emod_nonneg (wprow A B i) (b := 2 ^ (64 * (i + 0))) (by have := pow64_pos (i + 0); omega)
  simp only [Nat.mul_zero, Int.pow_zero, Int.emod_one, Int.mul_zero, Int.add_zero]
  exact Int.ediv_eq_zero_of_lt h2 h1
theorem wpcar_bd (A B : Int) (i k : Nat) : 0 ≤ wpcar A B i k ∧ wpcar A B i k < 18446744073709551616 := by
  unfold wpcar
  have hM : (2 : Int) ^ (64 * (i + k)) = 2 ^ (64 * i) * 2 ^ (64 * k) := by rw [Nat.mul_add, Int.pow_add]
  have p1 := pow64_pos i
  have p2 := pow64_pos k
  have p3 := pow64_pos (i + k)
  generalize hz : wprow A B i = z
  have h1 := Int.emod_lt_of_pos z p3
  have h2 := Int.emod_nonneg z (b := 2 ^ (64 * (i + k))) (by omega)
  have h3 := Int.emod_lt_of_pos B p2
  have h4 := Int.emod_nonneg B (b := 2 ^ (64 * k)) (by omega)
  have h5 := wi_ge A i
  have h6 := wi_lt A i
  have h7 : 0 ≤ 2 ^ (64 * i) * wi A i * (B % 2 ^ (64 * k)) := Int.mul_nonneg (Int.mul_nonneg (by omega) h5) h4
  have h8 : 2 ^ (64 * i) * wi A i * (B % 2 ^ (64 * k)) ≤ 2 ^ (64 * i) * 18446744073709551615 * 2 ^ (64 * k) :=
    Int.mul_le_mul (Int.mul_le_mul_of_nonneg_left (by omega) (by omega)) (by omega) h4 (Int.mul_nonneg (by omega) (by omega))
  have h9 : (2 : Int) ^ (64 * i) * 18446744073709551615 * 2 ^ (64 * k) = 18446744073709551615 * 2 ^ (64 * (i + k)) := by
    rw [hM, Int.mul_comm (2 ^ (64 * i)) 18446744073709551615, Int.mul_assoc]
  refine ⟨Int.ediv_nonneg (by omega) (by omega), Int.ediv_lt_of_lt_mul p3 (by omega)⟩
theorem wpcar_succ (A B : Int) (i k : Nat) : (wi (wprow A B i) (i + k) + wi A i * wi B k + wpcar A B i k) / 18446744073709551616 = wpcar A B i (k + 1) := by
  have hM : (2 : Int) ^ (64 * (i + k)) = 2 ^ (64 * i) * 2 ^ (64 * k) := by rw [Nat.mul_add, Int.pow_add]
  have p2 := pow64_pos k
  have p3 := pow64_pos (i + k)
  unfold wpcar
  rw [show i + (k + 1) = (i + k) + 1 by omega, pow_succ64, pow_succ64, emod_mul _ _ _ p3 (by omega), emod_mul B _ _ p2 (by omega)]
  generalize hz : wprow A B i = z
  unfold wi
  generalize hD : (2 : Int) ^ (64 * (i + k)) = M at *
  have e : z % M + M * (z / M % 18446744073709551616) + 2 ^ (64 * i) * (A / 2 ^ (64 * i) % 18446744073709551616) * (B % 2 ^ (64 * k) + 2 ^ (64 * k) * (B / 2 ^ (64 * k) % 18446744073709551616)) =
      (z % M + 2 ^ (64 * i) * (A / 2 ^ (64 * i) % 18446744073709551616) * (B % 2 ^ (64 * k))) + M * (z / M % 18446744073709551616 + A / 2 ^ (64 * i) % 18446744073709551616 * (B / 2 ^ (64 * k) % 18446744073709551616)) := by
    rw [hM]
    generalize (2 : Int) ^ (64 * i) = P
    generalize (2 : Int) ^ (64 * k) = Q
    generalize A / P % 18446744073709551616 = a
    generalize B / Q % 18446744073709551616 = b
    generalize B % Q = c
    generalize z % (P * Q) = u
    generalize z / (P * Q) % 18446744073709551616 = v
    have : P * a * (c + Q * b) = P * a * c + P * Q * (a * b) := by
      rw [Int.mul_add]
      congr 1
      rw [Int.mul_assoc P a, Int.mul_assoc P Q]
      congr 1
      rw [← Int.mul_assoc, ← Int.mul_assoc, Int.mul_comm a Q]
    rw [this, Int.mul_add]
    omega
  rw [e, ← Int.ediv_ediv_of_nonneg (Int.le_of_lt p3), Int.add_mul_ediv_left _ _ (by omega)]
  congr 1
  omega
theorem wpdig (A B : Int) (i k : Nat) : (wi (wprow A B i) (i + k) + wi A i * wi B k + wpcar A B i k) % 18446744073709551616 = wi (wprow A B (i + 1)) (i + k) := by
  have hM : (2 : Int) ^ (64 * (i + k)) = 2 ^ (64 * i) * 2 ^ (64 * k) := by rw [Nat.mul_add, Int.pow_add]
  have p3 := pow64_pos (i + k)
  rw [wprow_succ]
  unfold wpcar
  generalize hz : wprow A B i = z
  unfold wi
  generalize hD : (2 : Int) ^ (64 * (i + k)) = M at *
  have h1 := Int.emod_add_mul_ediv z M
  have h2 := Int.emod_add_mul_ediv B (2 ^ (64 * k))
  have h3 := Int.emod_add_mul_ediv (B / 2 ^ (64 * k)) 18446744073709551616
  have e : z + 2 ^ (64 * i) * (A / 2 ^ (64 * i) % 18446744073709551616) * B = (z % M + 2 ^ (64 * i) * (A / 2 ^ (64 * i) % 18446744073709551616) * (B % 2 ^ (64 * k))) +
      M * (z / M + A / 2 ^ (64 * i) % 18446744073709551616 * (B / 2 ^ (64 * k) % 18446744073709551616) + 18446744073709551616 * (A / 2 ^ (64 * i) % 18446744073709551616 * (B / 2 ^ (64 * k) / 18446744073709551616))) := by
    have hB : B = B % 2 ^ (64 * k) + 2 ^ (64 * k) * (B / 2 ^ (64 * k) % 18446744073709551616 + 18446744073709551616 * (B / 2 ^ (64 * k) / 18446744073709551616)) := by rw [h3]; omega
    generalize B / 2 ^ (64 * k) % 18446744073709551616 = b at *
    generalize B / 2 ^ (64 * k) / 18446744073709551616 = h at *
    generalize B % 2 ^ (64 * k) = c at *
    rw [hM]
    rw [hM] at h1
    generalize (2 : Int) ^ (64 * i) = P at *
    generalize (2 : Int) ^ (64 * k) = Q at *
    generalize A / P % 18446744073709551616 = a
    rw [hB]
    have : P * a * (c + Q * (b + 18446744073709551616 * h)) = P * a * c + P * Q * (a * b) + P * Q * (18446744073709551616 * (a * h)) := by
      rw [Int.mul_add, Int.mul_add Q, Int.mul_add]
      have e1 : P * a * (Q * b) = P * Q * (a * b) := by
        rw [Int.mul_assoc P a, Int.mul_assoc P Q]; congr 1; rw [← Int.mul_assoc, ← Int.mul_assoc, Int.mul_comm a Q]
      have e2 : P * a * (Q * (18446744073709551616 * h)) = P * Q * (18446744073709551616 * (a * h)) := by
        rw [Int.mul_assoc P a, Int.mul_assoc P Q]; congr 1
        rw [Int.mul_left_comm a Q]; congr 1
        rw [Int.mul_left_comm]
      rw [e1, e2]; omega
    rw [this, Int.mul_add, Int.mul_add]
    omega
  rw [e, Int.add_mul_ediv_left _ _ (by omega)]
  omega
theorem wprow_lt (A B : Int) (i : Nat) (h0 : 0 ≤ B) (h1 : B < 2 ^ (64 * 4)) : 0 ≤ wprow A B i ∧ wprow A B i < 2 ^ (64 * (i + 4)) := by
  have p1 := pow64_pos i
  have h2 := Int.emod_nonneg A (b := 2 ^ (64 * i)) (by omega)
  have h3 := Int.emod_lt_of_pos A p1
  unfold wprow
  refine ⟨Int.mul_nonneg h2 h0, ?_⟩
  rw [Nat.mul_add, Int.pow_add]
  generalize (2 : Int) ^ (64 * i) = P at *
  generalize (2 : Int) ^ (64 * 4) = Q at *
  have h4 : A % P * B ≤ A % P * Q := Int.mul_le_mul_of_nonneg_left (by omega) h2
  have h5 : A % P * Q < P * Q := Int.mul_lt_mul_of_pos_right h3 (by omega)
  omega
theorem wprow_top (A B : Int) (i : Nat) (h0 : 0 ≤ B) (h1 : B < 2 ^ (64 * 4)) : wpcar A B i 4 = wi (wprow A B (i + 1)) (i + 4) := by
  have hb := wpcar_bd A B i 4
  have hz := wprow_lt A B i h0 h1
  unfold wpcar at *
  rw [Int.emod_eq_of_lt hz.1 hz.2, Int.emod_eq_of_lt h0 h1, ← wprow_succ] at *
  unfold wi
  omega
theorem wprow_hi (A B : Int) (i j : Nat) (h0 : 0 ≤ B) (h1 : B < 2 ^ (64 * 4)) (hj : i + 4 ≤ j) : wi (wprow A B i) j = 0 := by
  have hz := wprow_lt A B i h0 h1
  have e : (2 : Int) ^ (64 * j) = 2 ^ (64 * (i + 4)) * 2 ^ (64 * (j - (i + 4))) := by rw [← Int.pow_add]; congr 1; omega
  have p := pow64_pos (j - (i + 4))
  unfold wi
  rw [Int.ediv_eq_zero_of_lt hz.1]
  · rfl
  · rw [e]
    have : (2 : Int) ^ (64 * (i + 4)) * 1 ≤ 2 ^ (64 * (i + 4)) * 2 ^ (64 * (j - (i + 4))) := Int.mul_le_mul_of_nonneg_left (by omega) (by have := pow64_pos (i + 4); omega)
    omega
theorem wprow_low (A B : Int) (i j : Nat) (hj : j < i) : wi (wprow A B (i + 1)) j = wi (wprow A B i) j := by
  rw [wprow_succ]
  unfold wi
  have e : (2 : Int) ^ (64 * i) = 2 ^ (64 * j) * (18446744073709551616 * 2 ^ (64 * (i - j - 1))) := by
    rw [show (18446744073709551616 : Int) = 2 ^ 64 by rfl, ← Int.pow_add, ← Int.pow_add]; congr 1; omega
  rw [e, Int.mul_assoc, Int.mul_assoc (2 ^ (64 * j)), Int.mul_assoc 18446744073709551616, Int.add_mul_ediv_left _ _ (by have := pow64_pos j; omega)]
  omega
theorem wpout_step (A B : Int) (i k : Nat) : ∀ j, upd (wpout A B i k) (i + k) (wi (wprow A B (i + 1)) (i + k)) j = wpout A B i (k + 1) j := fun j => by
  unfold upd wpout
  by_cases e : j = i + k
  · subst e; simp
  · rw [if_neg e]
    by_cases h : i ≤ j ∧ j < i + k
    · rw [if_pos h, if_pos (by omega)]
    · rw [if_neg h, if_neg (by omega)]
theorem wpout_end (A B : Int) (i : Nat) (h0 : 0 ≤ B) (h1 : B < 2 ^ (64 * 4)) : ∀ j, upd (wpout A B i 4) (i + 4) (wpcar A B i 4) j = wi (wprow A B (i + 1)) j := fun j => by
  unfold upd wpout
  by_cases e : j = i + 4
  · subst e; rw [if_pos rfl, wprow_top A B i h0 h1]
  · rw [if_neg e]
    by_cases h : i ≤ j ∧ j < i + 4
    · rw [if_pos h]
    · rw [if_neg h]
      by_cases hj : j < i
      · exact (wprow_low A B i j hj).symm
      · rw [wprow_hi A B i j h0 h1 (by omega), wprow_hi A B (i + 1) j h0 h1 (by omega)]
@[simp] theorem wpout_at (A B : Int) (i k : Nat) : wpout A B i k (i + k) = wi (wprow A B i) (i + k) := by unfold wpout; rw [if_neg (by omega)]

/-- One word of a row, as the code comes to it. -/
theorem wstep (x y d c : Int) (hx : 0 ≤ x ∧ x < 18446744073709551616) (hy : 0 ≤ y ∧ y < 18446744073709551616) (hd : 0 ≤ d ∧ d < 18446744073709551616) (hc : 0 ≤ c ∧ c < 18446744073709551616) :
    ((x * y % 18446744073709551616 + d) % 18446744073709551616 + c) % 18446744073709551616 = (d + x * y + c) % 18446744073709551616 ∧
    ((x * y / 18446744073709551616 + (x * y % 18446744073709551616 + d) / 18446744073709551616) % 18446744073709551616 + ((x * y % 18446744073709551616 + d) % 18446744073709551616 + c) / 18446744073709551616) % 18446744073709551616 = (d + x * y + c) / 18446744073709551616 := by
  have h1 : 0 ≤ x * y := Int.mul_nonneg hx.1 hy.1
  have h2 : x * y ≤ 18446744073709551615 * 18446744073709551615 := Int.mul_le_mul (by omega) (by omega) hy.1 (by omega)
  generalize x * y = p at *
  omega
end Go.Gy
