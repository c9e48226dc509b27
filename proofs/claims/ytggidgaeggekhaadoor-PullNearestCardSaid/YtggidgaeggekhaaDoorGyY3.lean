/-
  Contracts: quot.shift.
  Conditions: none.
-/
import Derived.Test.YtggidgaeggekhaaDoorGyY2
namespace Go.Gy
set_option linter.unusedSimpArgs false
set_option linter.unusedVariables false
open Go Go.RowKit Go.Proofs

theorem emm (a p m : Int) : a % m * p % m = a * p % m := by rw [Int.mul_emod, Int.emod_emod_of_dvd _ (Int.dvd_refl _), ← Int.mul_emod]
theorem or_add {x y : Int} {R : Nat} (hx0 : 0 ≤ x) (hx : x < 18446744073709551616) (hd : x % 2 ^ R = 0) (hy0 : 0 ≤ y) (hy : y < 2 ^ R) (hR : R ≤ 64) : bitI .or .u64 x y = x + y := by
  have hp : (2 : Int) ^ R ≤ 2 ^ 64 := by exact_mod_cast Nat.pow_le_pow_right (by omega) (by omega : R ≤ 64)
  have e : bitI .or .u64 x y = ((BitVec.ofInt 64 x ||| BitVec.ofInt 64 y : BitVec 64).toNat : Int) % 18446744073709551616 := by
    unfold bitI
    show IntKind.u64.wrap ((BitVec.ofInt 64 x ||| BitVec.ofInt 64 y : BitVec 64).toNat : Int) = _
    rw [wrap_u64]
  have hx' : (BitVec.ofInt 64 x).toNat = x.toNat := by
    rw [BitVec.toNat_ofInt]; congr 1; exact Int.emod_eq_of_lt hx0 hx
  have hy' : (BitVec.ofInt 64 y).toNat = y.toNat := by
    rw [BitVec.toNat_ofInt]; congr 1; exact Int.emod_eq_of_lt hy0 (by omega)
  obtain ⟨X, rfl⟩ := Int.eq_ofNat_of_zero_le hx0
  obtain ⟨Y, rfl⟩ := Int.eq_ofNat_of_zero_le hy0
  have hd' : X % 2 ^ R = 0 := by exact_mod_cast hd
  have hY : Y < 2 ^ R := by exact_mod_cast hy
  have hX : X = (X / 2 ^ R) <<< R := by rw [Nat.shiftLeft_eq]; exact (Nat.div_mul_cancel (Nat.dvd_of_mod_eq_zero hd')).symm
  have hor : X ||| Y = X + Y := by
    rw [hX]; exact (Nat.shiftLeft_add_eq_or_of_lt hY _).symm
  have hp' : 2 ^ R ≤ 2 ^ 64 := Nat.pow_le_pow_right (by omega) (by omega : R ≤ 64)
  have hb : X + Y < 18446744073709551616 := by
    rw [← hor]; exact Nat.or_lt_two_pow (n := 64) (by omega) (by omega)
  rw [e, BitVec.toNat_or, hx', hy']
  simp only [Int.toNat_natCast, hor]
  omega
theorem two_split {R : Nat} (hR : R < 64) : (2 : Int) ^ R * 2 ^ (64 - R) = 18446744073709551616 := by
  rw [← Int.pow_add, show R + (64 - R) = 64 by omega]; rfl
theorem wi_shl0 (z : Int) (R : Nat) : wi (z * 2 ^ R) 0 = (wi z 0 * 2 ^ R) % 18446744073709551616 := by
  simp only [wi, Nat.mul_zero, Int.pow_zero, Int.ediv_one]
  rw [emm]
theorem wi_shlS (z : Int) (R : Nat) (hR : R < 64) (k : Nat) : wi (z * 2 ^ R) (k + 1) = (wi z (k + 1) * 2 ^ R) % 18446744073709551616 + wi z k / 2 ^ (64 - R) ∧ 0 ≤ wi z k / 2 ^ (64 - R) ∧ wi z k / 2 ^ (64 - R) < 2 ^ R ∧ (wi z (k + 1) * 2 ^ R) % 18446744073709551616 % 2 ^ R = 0 := by
  have hM := two_split hR
  have hPp : (0 : Int) < 2 ^ R := Int.pow_pos (by omega)
  have hSp : (0 : Int) < 2 ^ (64 - R) := Int.pow_pos (by omega)
  have e1 : (2 : Int) ^ (64 * (k + 1)) = 2 ^ (64 * k) * 18446744073709551616 := by
    rw [show 64 * (k + 1) = 64 * k + 64 by omega, Int.pow_add]; rfl
  have hKp : (0 : Int) < 2 ^ (64 * k) := Int.pow_pos (by omega)
  unfold wi
  rw [e1]
  generalize (2 : Int) ^ R = P at *
  generalize (2 : Int) ^ (64 - R) = S at *
  generalize (2 : Int) ^ (64 * k) = K at *
  have eu : z * P / (K * 18446744073709551616) = z / K / S := by
    rw [← hM, show K * (P * S) = (K * S) * P by rw [Int.mul_comm P S, Int.mul_assoc], Int.mul_ediv_mul_of_pos_left _ _ hPp, Int.ediv_ediv_of_nonneg (by omega)]
  rw [eu, ← Int.ediv_ediv_of_nonneg (Int.le_of_lt hKp)]
  generalize z / K = u at *
  have hdvd : P ∣ 18446744073709551616 := ⟨S, hM.symm⟩
  have h1 : 0 ≤ u % 18446744073709551616 / S := Int.ediv_nonneg (Int.emod_nonneg _ (by omega)) (by omega)
  have h2 : u % 18446744073709551616 / S < P := by
    have := Int.emod_lt_of_pos u (b := 18446744073709551616) (by omega)
    exact (Int.ediv_lt_iff_lt_mul hSp).2 (by rw [hM]; exact this)
  have h3 : (u / 18446744073709551616 % 18446744073709551616 * P) % 18446744073709551616 % P = 0 := by
    rw [Int.emod_emod_of_dvd _ hdvd, Int.mul_emod_left]
  refine ⟨?_, h1, h2, h3⟩
  have e2 : u / S = (u / 18446744073709551616) * P + u % 18446744073709551616 / S := by
    have := Int.emod_add_mul_ediv u 18446744073709551616
    have h4 : u = u % 18446744073709551616 + S * (u / 18446744073709551616 * P) := by
      have : S * (u / 18446744073709551616 * P) = 18446744073709551616 * (u / 18446744073709551616) := by
        rw [← hM, Int.mul_comm P S, Int.mul_assoc, Int.mul_comm _ P]
      omega
    conv => lhs; rw [h4]
    rw [Int.add_mul_ediv_left _ _ (by omega)]
    omega
  rw [e2, emm]
  have h5 : (u / 18446744073709551616 * P) % 18446744073709551616 % P = 0 := by rw [Int.emod_emod_of_dvd _ hdvd, Int.mul_emod_left]
  have h6 := Int.emod_nonneg (u / 18446744073709551616 * P) (b := 18446744073709551616) (by omega)
  have h7 := Int.emod_lt_of_pos (u / 18446744073709551616 * P) (b := 18446744073709551616) (by omega)
  have h8 : (u / 18446744073709551616 * P) % 18446744073709551616 ≤ 18446744073709551616 - P := by
    obtain ⟨c, hc⟩ := Int.dvd_of_emod_eq_zero h5
    rw [hc] at h7 ⊢
    rw [← hM] at h7 ⊢
    have : c < S := Int.lt_of_mul_lt_mul_left h7 (by omega)
    have : P * c ≤ P * (S - 1) := Int.mul_le_mul_of_nonneg_left (by omega) (by omega)
    rw [Int.mul_sub, Int.mul_one] at this
    exact this
  rw [Int.add_emod, Int.emod_eq_of_lt h1 (by omega), Int.emod_eq_of_lt (by omega) (by omega)]
theorem wi_up (z : Int) (q i R : Nat) (h : q ≤ i) : wi (z * 2 ^ (64 * q + R)) i = wi (z * 2 ^ R) (i - q) := by
  unfold wi
  obtain ⟨j, rfl⟩ : ∃ j, i = q + j := ⟨i - q, by omega⟩
  rw [show q + j - q = j by omega, Int.pow_add, show z * (2 ^ (64 * q) * 2 ^ R) = (z * 2 ^ R) * 2 ^ (64 * q) by rw [Int.mul_comm (2 ^ (64 * q)), Int.mul_assoc], show 64 * (q + j) = 64 * j + 64 * q by omega, Int.pow_add,
    Int.mul_ediv_mul_of_pos_left _ _ (Int.pow_pos (by omega))]
theorem wi_dn (z : Int) (q i R : Nat) (h : i < q) : wi (z * 2 ^ (64 * q + R)) i = 0 := by
  unfold wi
  obtain ⟨j, rfl⟩ : ∃ j, q = i + 1 + j := ⟨q - (i + 1), by omega⟩
  rw [show 64 * (i + 1 + j) + R = 64 * i + (64 + (64 * j + R)) by omega, Int.pow_add, Int.pow_add, show z * (2 ^ (64 * i) * (2 ^ 64 * 2 ^ (64 * j + R))) = (z * 2 ^ (64 * j + R) * 2 ^ 64) * 2 ^ (64 * i) by
    rw [Int.mul_comm (2 ^ (64 * i)), Int.mul_comm (2 ^ 64) (2 ^ (64 * j + R))]; simp only [Int.mul_assoc], Int.mul_ediv_cancel _ (by have : (0 : Int) < 2 ^ (64 * i) := Int.pow_pos (by omega); omega)]
  exact Int.mul_emod_left _ _
set_option maxHeartbeats 1000000 in
theorem shift_ret (z : Int) (q R : Nat) (hq : q < 4) (hR : R < 64) : Ret Tryd.prog G0 125 #[wd z, .int .i64 (64 * q + R)] (wd (z * 2 ^ (64 * q + R))) := by
  refine ret_of G0F Tryd.func125 rfl Tryd.call125 (by simp) (by simp) (by simp [Tryd.ntmps125]) ?_
  intro C hC hC0 hY
  have t1 : (64 * (q : Int) + R).tdiv 64 = q := by rw [Int.tdiv_eq_ediv_of_nonneg (by omega)]; omega
  have t2 : (64 * (q : Int) + R).tmod 64 = R := by rw [Int.tmod_eq_emod_of_nonneg (by omega)]; omega
  have m1 : min R 64 = R := by omega
  have m2 : Int.bmod (64 - (R : Int)) 18446744073709551616 = 64 - R := bm (by omega) (by omega)
  have m3 : (64 - (R : Int)).toNat = 64 - R := by omega
  have m4 : min (64 - R) 64 = 64 - R := by omega
  have m5 : (R : Int) ≤ 64 := by omega
  have m6 : (0 : Int) ≤ 64 - R := by omega
  have fd : ∀ x : Int, x.fdiv (2 ^ (64 - R)) = x / 2 ^ (64 - R) := fun x => Int.fdiv_eq_ediv_of_nonneg x (Int.le_of_lt (Int.pow_pos (by omega)))
  have OR : ∀ k, bitI .or .u64 ((wi z (k + 1) * 2 ^ R) % 18446744073709551616) (wi z k / 2 ^ (64 - R)) = wi (z * 2 ^ R) (k + 1) := fun k => by
    obtain ⟨e, h1, h2, h3⟩ := wi_shlS z R hR k
    rw [or_add (R := R) (Int.emod_nonneg _ (by omega)) (Int.emod_lt_of_pos _ (by omega)) h3 h1 h2 (by omega), e]
  have o0 := OR 0
  have o1 := OR 1
  have o2 := OR 2
  have s0 := wi_shl0 z R
  have : q = 0 ∨ q = 1 ∨ q = 2 ∨ q = 3 := by omega
  have up := wi_up z
  have dn := wi_dn z
  rcases this with rfl | rfl | rfl | rfl
  · simp at t1 t2
    repeat' (first
      | refine GW_seq ?_
      | refine GWL_start ?_
      | refine GWL_step ?_
      | simp only [List.length_cons, List.length_nil, Nat.reduceAdd, Nat.reduceMul, thenG_normal, thenG_ret, thenG_exit, thenG_goto, thenG_panic, blockG_normal, blockG_ret, blockG_goto, blockG_panic, jumpG_normal, jumpG_ret, jumpG_exit, jumpG_panic]
      | (refine GW_region' [] (by kernel_rfl) ?_; intro Q hQ hP; simp [hC, hY, t1, t2, m1, m2, m3, m4, m5, m6, fd, wi_ge, wi_lt]; (first | refine hQ _ _ _ _ ?_ | refine hP _ _ (fun _ => ?_)); clear hQ hP Q)
      | (refine GW_draw' [] follows (by kernel_rfl) (by kernel_rfl) ?_; intro Q hQ hP; simp [hC, hY, t1, t2, m1, m2, m3, m4, m5, m6, fd, wi_ge, wi_lt]; (first | refine hQ _ _ _ _ (by kernel_rfl) ?_ | refine hP _ _ (by kernel_rfl) (fun _ => ?_)); clear hQ hP Q)
      | refine GW_block ?_
      | refine GW_ret ?_
      | refine GW_skip ?_
      | refine GW_exit ?_
      | refine GW_goto ?_
      | refine GW_label ?_
      | simp only [blockG_exit]
      | (refine GW_cond (by simp; rfl) ?_ ?_ <;> (intro hb; first | (exfalso; exact absurd hb (by decide)) | skip)))
    refine ⟨.inr trivial, ?_⟩
    simp [Tryd.results125, o0, o1, o2, s0]
  · simp at t1 t2
    repeat' (first
      | refine GW_seq ?_
      | refine GWL_start ?_
      | refine GWL_step ?_
      | simp only [List.length_cons, List.length_nil, Nat.reduceAdd, Nat.reduceMul, thenG_normal, thenG_ret, thenG_exit, thenG_goto, thenG_panic, blockG_normal, blockG_ret, blockG_goto, blockG_panic, jumpG_normal, jumpG_ret, jumpG_exit, jumpG_panic]
      | (refine GW_region' [] (by kernel_rfl) ?_; intro Q hQ hP; simp [hC, hY, t1, t2, m1, m2, m3, m4, m5, m6, fd, wi_ge, wi_lt]; (first | refine hQ _ _ _ _ ?_ | refine hP _ _ (fun _ => ?_)); clear hQ hP Q)
      | (refine GW_draw' [] follows (by kernel_rfl) (by kernel_rfl) ?_; intro Q hQ hP; simp [hC, hY, t1, t2, m1, m2, m3, m4, m5, m6, fd, wi_ge, wi_lt]; (first | refine hQ _ _ _ _ (by kernel_rfl) ?_ | refine hP _ _ (by kernel_rfl) (fun _ => ?_)); clear hQ hP Q)
      | refine GW_block ?_
      | refine GW_ret ?_
      | refine GW_skip ?_
      | refine GW_exit ?_
      | refine GW_goto ?_
      | refine GW_label ?_
      | simp only [blockG_exit]
      | (refine GW_cond (by simp; rfl) ?_ ?_ <;> (intro hb; first | (exfalso; exact absurd hb (by decide)) | skip)))
    refine ⟨.inr trivial, ?_⟩
    simp [Tryd.results125, o0, o1, o2, s0]
    exact ⟨(dn 1 0 R (by omega)).symm, ((up 1 1 R (by omega)).trans s0).symm, (up 1 2 R (by omega)).symm, (up 1 3 R (by omega)).symm⟩
  · simp at t1 t2
    repeat' (first
      | refine GW_seq ?_
      | refine GWL_start ?_
      | refine GWL_step ?_
      | simp only [List.length_cons, List.length_nil, Nat.reduceAdd, Nat.reduceMul, thenG_normal, thenG_ret, thenG_exit, thenG_goto, thenG_panic, blockG_normal, blockG_ret, blockG_goto, blockG_panic, jumpG_normal, jumpG_ret, jumpG_exit, jumpG_panic]
      | (refine GW_region' [] (by kernel_rfl) ?_; intro Q hQ hP; simp [hC, hY, t1, t2, m1, m2, m3, m4, m5, m6, fd, wi_ge, wi_lt]; (first | refine hQ _ _ _ _ ?_ | refine hP _ _ (fun _ => ?_)); clear hQ hP Q)
      | (refine GW_draw' [] follows (by kernel_rfl) (by kernel_rfl) ?_; intro Q hQ hP; simp [hC, hY, t1, t2, m1, m2, m3, m4, m5, m6, fd, wi_ge, wi_lt]; (first | refine hQ _ _ _ _ (by kernel_rfl) ?_ | refine hP _ _ (by kernel_rfl) (fun _ => ?_)); clear hQ hP Q)
      | refine GW_block ?_
      | refine GW_ret ?_
      | refine GW_skip ?_
      | refine GW_exit ?_
      | refine GW_goto ?_
      | refine GW_label ?_
      | simp only [blockG_exit]
      | (refine GW_cond (by simp; rfl) ?_ ?_ <;> (intro hb; first | (exfalso; exact absurd hb (by decide)) | skip)))
    refine ⟨.inr trivial, ?_⟩
    simp [Tryd.results125, o0, o1, o2, s0]
    exact ⟨(dn 2 0 R (by omega)).symm, (dn 2 1 R (by omega)).symm, ((up 2 2 R (by omega)).trans s0).symm, (up 2 3 R (by omega)).symm⟩
  · simp at t1 t2
    repeat' (first
      | refine GW_seq ?_
      | refine GWL_start ?_
      | refine GWL_step ?_
      | simp only [List.length_cons, List.length_nil, Nat.reduceAdd, Nat.reduceMul, thenG_normal, thenG_ret, thenG_exit, thenG_goto, thenG_panic, blockG_normal, blockG_ret, blockG_goto, blockG_panic, jumpG_normal, jumpG_ret, jumpG_exit, jumpG_panic]
      | (refine GW_region' [] (by kernel_rfl) ?_; intro Q hQ hP; simp [hC, hY, t1, t2, m1, m2, m3, m4, m5, m6, fd, wi_ge, wi_lt]; (first | refine hQ _ _ _ _ ?_ | refine hP _ _ (fun _ => ?_)); clear hQ hP Q)
      | (refine GW_draw' [] follows (by kernel_rfl) (by kernel_rfl) ?_; intro Q hQ hP; simp [hC, hY, t1, t2, m1, m2, m3, m4, m5, m6, fd, wi_ge, wi_lt]; (first | refine hQ _ _ _ _ (by kernel_rfl) ?_ | refine hP _ _ (by kernel_rfl) (fun _ => ?_)); clear hQ hP Q)
      | refine GW_block ?_
      | refine GW_ret ?_
      | refine GW_skip ?_
      | refine GW_exit ?_
      | refine GW_goto ?_
      | refine GW_label ?_
      | simp only [blockG_exit]
      | (refine GW_cond (by simp; rfl) ?_ ?_ <;> (intro hb; first | (exfalso; exact absurd hb (by decide)) | skip)))
    refine ⟨.inr trivial, ?_⟩
    simp [Tryd.results125, o0, o1, o2, s0]
    exact ⟨(dn 3 0 R (by omega)).symm, (dn 3 1 R (by omega)).symm, (dn 3 2 R (by omega)).symm, ((up 3 3 R (by omega)).trans s0).symm⟩
theorem shift_n (z n : Int) (h0 : 0 ≤ n) (h1 : n < 256) : Ret Tryd.prog G0 125 #[wd z, .int .i64 n] (wd (z * 2 ^ n.toNat)) := by
  have h := shift_ret z (n / 64).toNat (n % 64).toNat (by omega) (by omega)
  have e : 64 * (n / 64).toNat + (n % 64).toNat = n.toNat := by omega
  have e' : (64 * ((n / 64).toNat : Int) + ((n % 64).toNat : Int)) = n := by omega
  rw [e, e'] at h
  exact h
@[simp] theorem qshift (z n : Int) (h0 : 0 ≤ n) (h1 : n < 256) (K : Value → Prop) : callK Tryd.prog G0 125 #[Value.agg #[.int .u64 (wi (z) 0), .int .u64 (wi (z) 1), .int .u64 (wi (z) 2), .int .u64 (wi (z) 3)], .int .i64 n] K ↔ K (wd (z * 2 ^ n.toNat)) := callK_iff G0W (by kernel_rfl) (shift_n z n h0 h1)
end Go.Gy
