/-
  Arrays of whole numbers, by a function; digits of a product.
  Conditions: none beyond the hypotheses of each theorem.
-/
import Derived.Test.YtggidgaeggekhaaDoorGyO3
namespace Go.Gy
open Go Go.RowKit

def fa (n : Nat) (k : IntKind) (f : Nat → Int) : Array Value := Array.ofFn fun j : Fin n => .int k (f j)
@[simp] theorem fa_size (n : Nat) (k : IntKind) (f : Nat → Int) : (fa n k f).size = n := by simp [fa]
theorem fa_get (n : Nat) (k : IntKind) (f : Nat → Int) (i : Nat) (h : i < n) : (fa n k f)[i]? = some (.int k (f i)) := by simp [fa, h]
@[simp] theorem fa_gete (n : Nat) (k : IntKind) (f : Nat → Int) (i : Nat) (h : i < (fa n k f).size) : (fa n k f)[i] = .int k (f i) := by simp [fa]
theorem fa_mem {n : Nat} {k : IntKind} {f : Nat → Int} {x : Value} (h : x ∈ fa n k f) : ∃ m, x = .int k m := by
  simp only [fa, Array.mem_ofFn] at h
  obtain ⟨i, rfl⟩ := h
  exact ⟨_, rfl⟩
theorem fa_set (n : Nat) (k : IntKind) (f : Nat → Int) (i : Nat) (v : Int) : (fa n k f).setIfInBounds i (.int k v) = fa n k (upd f i v) := by
  apply Array.ext_getElem?
  intro j
  rw [Array.getElem?_setIfInBounds]
  by_cases hj : j < n
  · rw [fa_get _ _ _ _ hj, fa_get _ _ _ _ hj]
    by_cases e : i = j
    · subst e; simp [hj, upd]
    · simp [e, upd, Ne.symm e]
  · have h1 : (fa n k f)[j]? = none := by simp [fa]; omega
    have h2 : (fa n k (upd f i v))[j]? = none := by simp [fa]; omega
    rw [h1, h2]
    split <;> simp_all
@[simp] theorem fa_scal (n : Nat) (k : IntKind) (f : Nat → Int) : (fa n k f).all scal 0 n = true := by
  have : (fa n k f).all scal = true := Array.all_eq_true_iff_forall_mem.2 fun x hx => by obtain ⟨m, rfl⟩ := fa_mem hx; rfl
  simpa using this
@[simp] theorem fa_flat (n : Nat) (k : IntKind) (f : Nat → Int) : (fa n k f).all flatF 0 n = true := by
  have : (fa n k f).all flatF = true := Array.all_eq_true_iff_forall_mem.2 fun x hx => by obtain ⟨m, rfl⟩ := fa_mem hx; rfl
  simpa using this
theorem ids_lit (l : List Value) (T : TypeId) (D : Nat → Prop) : (Blk.mk l.toArray T).ids D ↔ ∀ x ∈ l, idsF D x := by simp [Blk.ids]
theorem fa_ids (n : Nat) (k : IntKind) (f : Nat → Int) (T : TypeId) (D : Nat → Prop) : (Blk.mk (fa n k f) T).ids D := by
  intro x hx
  obtain ⟨m, rfl⟩ := fa_mem hx
  trivial
theorem fa_8 (k : IntKind) (f : Nat → Int) : fa 8 k f = #[.int k (f 0), .int k (f 1), .int k (f 2), .int k (f 3), .int k (f 4), .int k (f 5), .int k (f 6), .int k (f 7)] := by
  apply Array.ext'
  simp [fa, Array.toList_ofFn, List.ofFn_succ]
theorem fa_4 (k : IntKind) (f : Nat → Int) : fa 4 k f = #[.int k (f 0), .int k (f 1), .int k (f 2), .int k (f 3)] := by
  apply Array.ext'
  simp [fa, Array.toList_ofFn, List.ofFn_succ]
theorem fa_16 (k : IntKind) (f : Nat → Int) : fa 16 k f = #[.int k (f 0), .int k (f 1), .int k (f 2), .int k (f 3), .int k (f 4), .int k (f 5), .int k (f 6), .int k (f 7), .int k (f 8), .int k (f 9), .int k (f 10), .int k (f 11), .int k (f 12), .int k (f 13), .int k (f 14), .int k (f 15)] := by
  apply Array.ext'
  simp [fa, Array.toList_ofFn, List.ofFn_succ]

theorem splice_get : ∀ (l : List Value) (c : Array Value) (o j : Nat), (splice c o l)[j]? = if o ≤ j ∧ j < o + l.length ∧ j < c.size then l[j - o]? else c[j]?
  | [], c, o, j => by simp [splice]; omega
  | v :: l, c, o, j => by
    rw [splice, splice_get l, Array.getElem?_setIfInBounds, Array.size_setIfInBounds]
    by_cases e : o = j
    · subst e
      rw [if_neg (by omega), if_pos rfl]
      by_cases h : o < c.size
      · simp [h]
      · simp [h]
    · by_cases h : o + 1 ≤ j ∧ j < o + 1 + l.length ∧ j < c.size
      · rw [if_pos h, if_pos (by simp; omega)]
        have : j - o = (j - (o + 1)) + 1 := by omega
        rw [this, List.getElem?_cons_succ]
      · rw [if_neg h, if_neg e, if_neg (by simp; omega)]
@[simp] theorem splice_fa (n : Nat) (k : IntKind) (f g : Nat → Int) : splice (fa n k f) 0 (fa n k g).toList = fa n k g := by
  apply Array.ext_getElem?
  intro j
  rw [splice_get]
  by_cases h : j < n
  · rw [if_pos (by simp; omega)]
    simp [h, fa]
  · rw [if_neg (by simp; omega)]
    have h1 : (fa n k f)[j]? = none := by simp [fa]; omega
    have h2 : (fa n k g)[j]? = none := by simp [fa]; omega
    rw [h1, h2]
@[simp] theorem splice_full (c : Array Value) (n : Nat) (k : IntKind) (g : Nat → Int) (h : c.size = n) : splice c 0 (fa n k g).toList = fa n k g := by
  apply Array.ext_getElem?
  intro j
  rw [splice_get]
  by_cases hj : j < n
  · rw [if_pos (by simp; omega)]
    simp [hj, fa]
  · rw [if_neg (by simp; omega)]
    have h1 : c[j]? = none := by simp; omega
    have h2 : (fa n k g)[j]? = none := by simp [fa]; omega
    rw [h1, h2]
@[simp] theorem fa_extract (n : Nat) (k : IntKind) (f : Nat → Int) : (fa n k f).extract 0 n = fa n k f := by
  have : n = (fa n k f).size := by simp
  conv => lhs; rw [this]
  simp

/-! a product, row by row -/
def prow (A B : Int) (i : Nat) : Int := (A % 2 ^ (32 * i)) * B
def pcar (A B : Int) (i k : Nat) : Int := (prow A B i % 2 ^ (32 * (i + k)) + 2 ^ (32 * i) * di A i * (B % 2 ^ (32 * k))) / 2 ^ (32 * (i + k))
def pout (A B : Int) (i k j : Nat) : Int := if i ≤ j ∧ j < i + k then di (prow A B (i + 1)) j else di (prow A B i) j
theorem prow_succ (A B : Int) (i : Nat) : prow A B (i + 1) = prow A B i + 2 ^ (32 * i) * di A i * B := by
  unfold prow di
  rw [pow_succ32, emod_mul A _ _ (pow32_pos i) (by omega), Int.add_mul]
theorem pcar_zero (A B : Int) (i : Nat) : pcar A B i 0 = 0 := by
  unfold pcar
  have h1 := Int.emod_lt_of_pos (prow A B i) (pow32_pos (i + 0))
  have h2 := Int.emod_nonneg (prow A B i) (b := 2 ^ (32 * (i + 0))) (by have := pow32_pos (i + 0); omega)
  simp only [Nat.mul_zero, Int.pow_zero, Int.emod_one, Int.mul_zero, Int.add_zero]
  exact Int.ediv_eq_zero_of_lt h2 h1
theorem pcar_bd (A B : Int) (i k : Nat) : 0 ≤ pcar A B i k ∧ pcar A B i k < 4294967296 := by
  unfold pcar
  have hM : (2 : Int) ^ (32 * (i + k)) = 2 ^ (32 * i) * 2 ^ (32 * k) := by rw [Nat.mul_add, Int.pow_add]
  have p1 := pow32_pos i
  have p2 := pow32_pos k
  have p3 := pow32_pos (i + k)
  generalize hz : prow A B i = z
  have h1 := Int.emod_lt_of_pos z p3
  have h2 := Int.emod_nonneg z (b := 2 ^ (32 * (i + k))) (by omega)
  have h3 := Int.emod_lt_of_pos B p2
  have h4 := Int.emod_nonneg B (b := 2 ^ (32 * k)) (by omega)
  have h5 := di_ge A i
  have h6 := di_lt A i
  have h7 : 0 ≤ 2 ^ (32 * i) * di A i * (B % 2 ^ (32 * k)) := Int.mul_nonneg (Int.mul_nonneg (by omega) h5) h4
  have h8 : 2 ^ (32 * i) * di A i * (B % 2 ^ (32 * k)) ≤ 2 ^ (32 * i) * 4294967295 * 2 ^ (32 * k) :=
    Int.mul_le_mul (Int.mul_le_mul_of_nonneg_left (by omega) (by omega)) (by omega) h4 (Int.mul_nonneg (by omega) (by omega))
  have h9 : (2 : Int) ^ (32 * i) * 4294967295 * 2 ^ (32 * k) = 4294967295 * 2 ^ (32 * (i + k)) := by
    rw [hM, Int.mul_comm (2 ^ (32 * i)) 4294967295, Int.mul_assoc]
  refine ⟨Int.ediv_nonneg (by omega) (by omega), Int.ediv_lt_of_lt_mul p3 (by omega)⟩
theorem pcar_succ (A B : Int) (i k : Nat) : (di (prow A B i) (i + k) + di A i * di B k + pcar A B i k) / 4294967296 = pcar A B i (k + 1) := by
  have hM : (2 : Int) ^ (32 * (i + k)) = 2 ^ (32 * i) * 2 ^ (32 * k) := by rw [Nat.mul_add, Int.pow_add]
  have p2 := pow32_pos k
  have p3 := pow32_pos (i + k)
  unfold pcar
  rw [show i + (k + 1) = (i + k) + 1 by omega, pow_succ32, pow_succ32, emod_mul _ _ _ p3 (by omega), emod_mul B _ _ p2 (by omega)]
  generalize hz : prow A B i = z
  unfold di
  generalize hD : (2 : Int) ^ (32 * (i + k)) = M at *
  have e : z % M + M * (z / M % 4294967296) + 2 ^ (32 * i) * (A / 2 ^ (32 * i) % 4294967296) * (B % 2 ^ (32 * k) + 2 ^ (32 * k) * (B / 2 ^ (32 * k) % 4294967296)) =
      (z % M + 2 ^ (32 * i) * (A / 2 ^ (32 * i) % 4294967296) * (B % 2 ^ (32 * k))) + M * (z / M % 4294967296 + A / 2 ^ (32 * i) % 4294967296 * (B / 2 ^ (32 * k) % 4294967296)) := by
    rw [hM]
    generalize (2 : Int) ^ (32 * i) = P
    generalize (2 : Int) ^ (32 * k) = Q
    generalize A / P % 4294967296 = a
    generalize B / Q % 4294967296 = b
    generalize B % Q = c
    generalize z % (P * Q) = u
    generalize z / (P * Q) % 4294967296 = v
    have : P * a * (c + Q * b) = P * a * c + P * Q * (a * b) := by
      rw [Int.mul_add]
      congr 1
      rw [Int.mul_assoc P a, Int.mul_assoc P Q]
      congr 1
      rw [← Int.mul_assoc, ← Int.mul_assoc, Int.mul_comm a Q]
    rw [this, Int.mul_add]
    omega
  rw [e, ← Int.ediv_ediv_of_nonneg (Int.le_of_lt p3), Int.add_mul_ediv_left _ _ (by omega)]
  congr 1
  omega
theorem pdig (A B : Int) (i k : Nat) : (di (prow A B i) (i + k) + di A i * di B k + pcar A B i k) % 4294967296 = di (prow A B (i + 1)) (i + k) := by
  have hM : (2 : Int) ^ (32 * (i + k)) = 2 ^ (32 * i) * 2 ^ (32 * k) := by rw [Nat.mul_add, Int.pow_add]
  have p3 := pow32_pos (i + k)
  rw [prow_succ]
  unfold pcar
  generalize hz : prow A B i = z
  unfold di
  generalize hD : (2 : Int) ^ (32 * (i + k)) = M at *
  have h1 := Int.emod_add_mul_ediv z M
  have h2 := Int.emod_add_mul_ediv B (2 ^ (32 * k))
  have h3 := Int.emod_add_mul_ediv (B / 2 ^ (32 * k)) 4294967296
  have e : z + 2 ^ (32 * i) * (A / 2 ^ (32 * i) % 4294967296) * B = (z % M + 2 ^ (32 * i) * (A / 2 ^ (32 * i) % 4294967296) * (B % 2 ^ (32 * k))) +
      M * (z / M + A / 2 ^ (32 * i) % 4294967296 * (B / 2 ^ (32 * k) % 4294967296) + 4294967296 * (A / 2 ^ (32 * i) % 4294967296 * (B / 2 ^ (32 * k) / 4294967296))) := by
    have hB : B = B % 2 ^ (32 * k) + 2 ^ (32 * k) * (B / 2 ^ (32 * k) % 4294967296 + 4294967296 * (B / 2 ^ (32 * k) / 4294967296)) := by rw [h3]; omega
    generalize B / 2 ^ (32 * k) % 4294967296 = b at *
    generalize B / 2 ^ (32 * k) / 4294967296 = h at *
    generalize B % 2 ^ (32 * k) = c at *
    rw [hM]
    rw [hM] at h1
    generalize (2 : Int) ^ (32 * i) = P at *
    generalize (2 : Int) ^ (32 * k) = Q at *
    generalize A / P % 4294967296 = a
    rw [hB]
    have : P * a * (c + Q * (b + 4294967296 * h)) = P * a * c + P * Q * (a * b) + P * Q * (4294967296 * (a * h)) := by
      rw [Int.mul_add, Int.mul_add Q, Int.mul_add]
      have e1 : P * a * (Q * b) = P * Q * (a * b) := by
        rw [Int.mul_assoc P a, Int.mul_assoc P Q]; congr 1; rw [← Int.mul_assoc, ← Int.mul_assoc, Int.mul_comm a Q]
      have e2 : P * a * (Q * (4294967296 * h)) = P * Q * (4294967296 * (a * h)) := by
        rw [Int.mul_assoc P a, Int.mul_assoc P Q]; congr 1
        rw [Int.mul_left_comm a Q]; congr 1
        rw [Int.mul_left_comm]
      rw [e1, e2]; omega
    rw [this, Int.mul_add, Int.mul_add]
    omega
  rw [e, Int.add_mul_ediv_left _ _ (by omega)]
  omega
theorem prow_lt (A B : Int) (i : Nat) (h0 : 0 ≤ B) (h1 : B < 2 ^ (32 * 8)) : 0 ≤ prow A B i ∧ prow A B i < 2 ^ (32 * (i + 8)) := by
  have p1 := pow32_pos i
  have h2 := Int.emod_nonneg A (b := 2 ^ (32 * i)) (by omega)
  have h3 := Int.emod_lt_of_pos A p1
  unfold prow
  refine ⟨Int.mul_nonneg h2 h0, ?_⟩
  rw [Nat.mul_add, Int.pow_add]
  generalize (2 : Int) ^ (32 * i) = P at *
  generalize (2 : Int) ^ (32 * 8) = Q at *
  have h4 : A % P * B ≤ A % P * Q := Int.mul_le_mul_of_nonneg_left (by omega) h2
  have h5 : A % P * Q < P * Q := Int.mul_lt_mul_of_pos_right h3 (by omega)
  omega
theorem prow_top (A B : Int) (i : Nat) (h0 : 0 ≤ B) (h1 : B < 2 ^ (32 * 8)) : pcar A B i 8 = di (prow A B (i + 1)) (i + 8) := by
  have hb := pcar_bd A B i 8
  have hz := prow_lt A B i h0 h1
  unfold pcar at *
  rw [Int.emod_eq_of_lt hz.1 hz.2, Int.emod_eq_of_lt h0 h1, ← prow_succ] at *
  unfold di
  omega
theorem prow_hi (A B : Int) (i j : Nat) (h0 : 0 ≤ B) (h1 : B < 2 ^ (32 * 8)) (hj : i + 8 ≤ j) : di (prow A B i) j = 0 := by
  have hz := prow_lt A B i h0 h1
  have e : (2 : Int) ^ (32 * j) = 2 ^ (32 * (i + 8)) * 2 ^ (32 * (j - (i + 8))) := by rw [← Int.pow_add]; congr 1; omega
  have p := pow32_pos (j - (i + 8))
  unfold di
  rw [Int.ediv_eq_zero_of_lt hz.1]
  · rfl
  · rw [e]
    have : (2 : Int) ^ (32 * (i + 8)) * 1 ≤ 2 ^ (32 * (i + 8)) * 2 ^ (32 * (j - (i + 8))) := Int.mul_le_mul_of_nonneg_left (by omega) (by have := pow32_pos (i + 8); omega)
    omega
theorem fa_congr {n : Nat} {k : IntKind} {f g : Nat → Int} (h : ∀ j, j < n → f j = g j) : fa n k f = fa n k g := by
  unfold fa; congr 1; funext j; rw [h j j.2]
theorem prow_low (A B : Int) (i j : Nat) (hj : j < i) : di (prow A B (i + 1)) j = di (prow A B i) j := by
  rw [prow_succ]
  unfold di
  have e : (2 : Int) ^ (32 * i) = 2 ^ (32 * j) * (4294967296 * 2 ^ (32 * (i - j - 1))) := by
    rw [show (4294967296 : Int) = 2 ^ 32 by rfl, ← Int.pow_add, ← Int.pow_add]; congr 1; omega
  rw [e, Int.mul_assoc, Int.mul_assoc (2 ^ (32 * j)), Int.mul_assoc 4294967296, Int.add_mul_ediv_left _ _ (by have := pow32_pos j; omega)]
  omega
theorem pout_step (A B : Int) (i k : Nat) : ∀ j, upd (pout A B i k) (i + k) (di (prow A B (i + 1)) (i + k)) j = pout A B i (k + 1) j := fun j => by
  unfold upd pout
  by_cases e : j = i + k
  · subst e; simp
  · rw [if_neg e]
    by_cases h : i ≤ j ∧ j < i + k
    · rw [if_pos h, if_pos (by omega)]
    · rw [if_neg h, if_neg (by omega)]
theorem pout_end (A B : Int) (i : Nat) (h0 : 0 ≤ B) (h1 : B < 2 ^ (32 * 8)) : ∀ j, upd (pout A B i 8) (i + 8) (pcar A B i 8) j = di (prow A B (i + 1)) j := fun j => by
  unfold upd pout
  by_cases e : j = i + 8
  · subst e; rw [if_pos rfl, prow_top A B i h0 h1]
  · rw [if_neg e]
    by_cases h : i ≤ j ∧ j < i + 8
    · rw [if_pos h]
    · rw [if_neg h]
      by_cases hj : j < i
      · exact (prow_low A B i j hj).symm
      · rw [prow_hi A B i j h0 h1 (by omega), prow_hi A B (i + 1) j h0 h1 (by omega)]
@[simp] theorem pout_at (A B : Int) (i k : Nat) : pout A B i k (i + k) = di (prow A B i) (i + k) := by unfold pout; rw [if_neg (by omega)]
theorem pn_bd (A B : Int) (i k : Nat) : 0 ≤ di (prow A B i) (i + k) + di A i * di B k + pcar A B i k ∧ di (prow A B i) (i + k) + di A i * di B k + pcar A B i k < 18446744073709551616 := by
  have h1 := di_ge (prow A B i) (i + k); have h2 := di_lt (prow A B i) (i + k); have h3 := di_ge A i; have h4 := di_lt A i; have h5 := di_ge B k; have h6 := di_lt B k
  have h7 := pcar_bd A B i k
  have h8 : 0 ≤ di A i * di B k := Int.mul_nonneg h3 h5
  have h9 : di A i * di B k ≤ 4294967295 * 4294967295 := Int.mul_le_mul (by omega) (by omega) h5 (by omega)
  omega
theorem pmod (A B : Int) (i k : Nat) : ((di (prow A B i) (i + k) + di A i * di B k + pcar A B i k) % 18446744073709551616).tmod 4294967296 = di (prow A B (i + 1)) (i + k) := by
  have h := pn_bd A B i k
  rw [Int.emod_eq_of_lt h.1 h.2, Int.tmod_eq_emod_of_nonneg h.1, pdig]
theorem pdiv (A B : Int) (i k : Nat) : ((di (prow A B i) (i + k) + di A i * di B k + pcar A B i k) % 18446744073709551616).tdiv 4294967296 % 18446744073709551616 = pcar A B i (k + 1) := by
  have h := pn_bd A B i k
  have hb := pcar_bd A B i (k + 1)
  rw [Int.emod_eq_of_lt h.1 h.2, Int.tdiv_eq_ediv_of_nonneg h.1, pcar_succ]
  omega
@[simp] theorem pcmod (A B : Int) (i k : Nat) : pcar A B i k % 18446744073709551616 = pcar A B i k := by have := pcar_bd A B i k; omega
end Go.Gy
