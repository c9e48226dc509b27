/-
  Contracts of wide: not, Add, Sub, Neg, Of, Int.
  Conditions: none.
-/
import Derived.Test.YtggidgaeggekhaaDoorGyX2
namespace Go.Gy
set_option linter.unusedSimpArgs false
set_option linter.unusedVariables false
open Go Go.RowKit Go.Proofs

theorem wadd_ret (a b : Int) : Ret Tryd.prog G0 86 #[wd a, wd b] (.tuple #[wd (a + b), .bool (ng a == ng b && ng (a + b) != ng a)]) := by
  refine ret_of G0F Tryd.func86 rfl Tryd.call86 (by simp) (by simp) (by simp [Tryd.ntmps86]) ?_
  intro C hC hC0 hY
  cases hq : (ng a == ng b)
  all_goals
    repeat' (first
      | refine GW_seq ?_
      | simp only [List.length_cons, List.length_nil, Nat.reduceAdd, Nat.reduceMul, thenG_normal, thenG_ret, thenG_exit, thenG_goto, thenG_panic, blockG_normal, blockG_ret, blockG_goto, blockG_panic, jumpG_normal, jumpG_ret, jumpG_exit, jumpG_panic]
      | (refine GW_region' [] (by kernel_rfl) ?_; intro Q hQ hP; simp [hC, hY, hq]; (first | refine hQ _ _ _ _ ?_ | refine hP _ _ (fun _ => ?_)); clear hQ hP Q)
      | (refine GW_draw' [] follows (by kernel_rfl) (by kernel_rfl) ?_; intro Q hQ hP; simp [hC, hY, hq]; (first | refine hQ _ _ _ _ (by kernel_rfl) ?_ | refine hP _ _ (by kernel_rfl) (fun _ => ?_)); clear hQ hP Q)
      | refine GW_block ?_
      | refine GW_ret ?_
      | refine GW_skip ?_
      | refine GW_exit ?_
      | refine GW_goto ?_
      | refine GW_label ?_
      | simp only [blockG_exit]
      | (refine GW_cond (by simp; rfl) ?_ ?_ <;> (intro hb; first | (exfalso; exact absurd hb (by decide)) | skip)))
    refine ⟨.inr trivial, ?_⟩
    simp [Tryd.results86, hq]
@[simp] theorem wAdd (a b : Int) (K : Value → Prop) : callK Tryd.prog G0 86 #[Value.agg #[.int .u64 (wi (a) 0), .int .u64 (wi (a) 1), .int .u64 (wi (a) 2), .int .u64 (wi (a) 3)], Value.agg #[.int .u64 (wi (b) 0), .int .u64 (wi (b) 1), .int .u64 (wi (b) 2), .int .u64 (wi (b) 3)]] K ↔ K (.tuple #[wd (a + b), .bool (ng a == ng b && ng (a + b) != ng a)]) := callK_iff G0W (by kernel_rfl) (wadd_ret a b)
theorem wof_ret (n : Int) (h : i64 n) : Ret Tryd.prog G0 54 #[.int .i64 n] (wd n) := by
  refine ret_of G0F Tryd.func54 rfl Tryd.call54 (by simp) (by simp) (by simp [Tryd.ntmps54]) ?_
  intro C hC hC0 hY
  repeat' (first
    | refine GW_seq ?_
    | simp only [List.length_cons, List.length_nil, Nat.reduceAdd, Nat.reduceMul, thenG_normal, thenG_ret, thenG_exit, thenG_goto, thenG_panic, blockG_normal, blockG_ret, blockG_goto, blockG_panic, jumpG_normal, jumpG_ret, jumpG_exit, jumpG_panic]
    | (refine GW_region' [] (by kernel_rfl) ?_; intro Q hQ hP; simp [hC, hY]; (first | refine hQ _ _ _ _ ?_ | refine hP _ _ (fun _ => ?_)); clear hQ hP Q)
    | (refine GW_draw' [] follows (by kernel_rfl) (by kernel_rfl) ?_; intro Q hQ hP; simp [hC, hY]; (first | refine hQ _ _ _ _ (by kernel_rfl) ?_ | refine hP _ _ (by kernel_rfl) (fun _ => ?_)); clear hQ hP Q)
    | refine GW_block ?_
    | refine GW_ret ?_
    | refine GW_skip ?_
    | refine GW_exit ?_
    | refine GW_goto ?_
    | refine GW_label ?_
    | simp only [blockG_exit]
    | (refine GW_cond (by simp; rfl) ?_ ?_ <;> (intro hb; first | (exfalso; exact absurd hb (by decide)) | skip)))
  refine ⟨.inr trivial, ?_⟩
  simp [Tryd.results54, wi]
  unfold i64 at h
  rw [Int.fdiv_eq_ediv_of_nonneg _ (by omega)]
  by_cases hn : n < 0
  · have e1 : n / 9223372036854775808 = -1 := by omega
    have e2 : n / 18446744073709551616 = -1 := by omega
    have e3 : n / 340282366920938463463374607431768211456 = -1 := by omega
    have e4 : n / 6277101735386680763835789423207666416102355444464034512896 = -1 := by omega
    rw [e1, e2, e3, e4]; decide
  · have e1 : n / 9223372036854775808 = 0 := by omega
    have e2 : n / 18446744073709551616 = 0 := by omega
    have e3 : n / 340282366920938463463374607431768211456 = 0 := by omega
    have e4 : n / 6277101735386680763835789423207666416102355444464034512896 = 0 := by omega
    rw [e1, e2, e3, e4]; decide
@[simp] theorem wOf (n : Int) (h : i64 n) (K : Value → Prop) : callK Tryd.prog G0 54 #[.int .i64 n] K ↔ K (wd n) := callK_iff G0W (by kernel_rfl) (wof_ret n h)
theorem xor_ones (x : Int) (h0 : 0 ≤ x) (h1 : x < 18446744073709551616) : bitI .xor .u64 IntKind.u64.max x = 18446744073709551615 - x := by
  have e : BitVec.ofInt 64 IntKind.u64.max = BitVec.allOnes 64 := by decide
  unfold bitI
  show IntKind.u64.wrap ((BitVec.ofInt 64 IntKind.u64.max ^^^ BitVec.ofInt 64 x : BitVec 64).toNat : Int) = _
  rw [wrap_u64, e, BitVec.allOnes_xor, BitVec.toNat_not]
  have : (BitVec.ofInt 64 x).toNat = x.toNat := by
    rw [BitVec.toNat_ofInt]
    congr 1
    exact Int.emod_eq_of_lt h0 h1
  rw [this]
  omega
theorem wnotw (z : Int) (k : Nat) : 18446744073709551615 - wi z k = wi (-z - 1) k := by
  unfold wi
  generalize hM : (2 : Int) ^ (64 * k) = M
  have hp : 0 < M := by rw [← hM, pow64]; exact pow32_pos _
  have e : (-z - 1) / M = -(z / M) - 1 := by
    have h1 := Int.emod_add_mul_ediv z M
    have h2 := Int.emod_nonneg z (b := M) (by omega)
    have h3 := Int.emod_lt_of_pos z hp
    have : -z - 1 = (M - 1 - z % M) + M * (-(z / M) - 1) := by rw [Int.mul_sub, Int.mul_neg]; omega
    rw [this, Int.add_mul_ediv_left _ _ (by omega), Int.ediv_eq_zero_of_lt (by omega) (by omega)]
    omega
  rw [e]
  omega
theorem wnot_ret (z : Int) : Ret Tryd.prog G0 120 #[wd z] (wd (-z - 1)) := by
  refine ret_of G0F Tryd.func120 rfl Tryd.call120 (by simp) (by simp) (by simp [Tryd.ntmps120]) ?_
  intro C hC hC0 hY
  repeat' (first
    | refine GW_seq ?_
    | simp only [List.length_cons, List.length_nil, Nat.reduceAdd, Nat.reduceMul, thenG_normal, thenG_ret, thenG_exit, thenG_goto, thenG_panic, blockG_normal, blockG_ret, blockG_goto, blockG_panic, jumpG_normal, jumpG_ret, jumpG_exit, jumpG_panic]
    | (refine GW_region' [] (by kernel_rfl) ?_; intro Q hQ hP; simp [hC, hY]; (first | refine hQ _ _ _ _ ?_ | refine hP _ _ (fun _ => ?_)); clear hQ hP Q)
    | (refine GW_draw' [] follows (by kernel_rfl) (by kernel_rfl) ?_; intro Q hQ hP; simp [hC, hY]; (first | refine hQ _ _ _ _ (by kernel_rfl) ?_ | refine hP _ _ (by kernel_rfl) (fun _ => ?_)); clear hQ hP Q)
    | refine GW_block ?_
    | refine GW_ret ?_
    | refine GW_skip ?_
    | refine GW_exit ?_
    | refine GW_goto ?_
    | refine GW_label ?_
    | simp only [blockG_exit]
    | (refine GW_cond (by simp; rfl) ?_ ?_ <;> (intro hb; first | (exfalso; exact absurd hb (by decide)) | skip)))
  refine ⟨.inr trivial, ?_⟩
  have e : (if IntKind.u64.signed = true then (-1 : Int) else IntKind.u64.max) = IntKind.u64.max := rfl
  have X := fun k => xor_ones (wi z k) (wi_ge z k) (wi_lt z k)
  simp [Tryd.results120, e, X, wnotw]
@[simp] theorem wNot (z : Int) (K : Value → Prop) : callK Tryd.prog G0 120 #[Value.agg #[.int .u64 (wi (z) 0), .int .u64 (wi (z) 1), .int .u64 (wi (z) 2), .int .u64 (wi (z) 3)]] K ↔ K (wd (-z - 1)) := callK_iff G0W (by kernel_rfl) (wnot_ret z)
theorem wsub_ret (a b : Int) : Ret Tryd.prog G0 111 #[wd a, wd b] (.tuple #[wd (a - b), .bool (ng a != ng b && ng (a - b) != ng a)]) := by
  refine ret_of G0F Tryd.func111 rfl Tryd.call111 (by simp) (by simp) (by simp [Tryd.ntmps111]) ?_
  intro C hC hC0 hY
  have e : a + (-b - 1) + 1 = a - b := by omega
  cases hq : (ng a != ng b)
  all_goals
    repeat' (first
      | refine GW_seq ?_
      | simp only [List.length_cons, List.length_nil, Nat.reduceAdd, Nat.reduceMul, thenG_normal, thenG_ret, thenG_exit, thenG_goto, thenG_panic, blockG_normal, blockG_ret, blockG_goto, blockG_panic, jumpG_normal, jumpG_ret, jumpG_exit, jumpG_panic]
      | (refine GW_region' [] (by kernel_rfl) ?_; intro Q hQ hP; simp [hC, hY, hq, e]; (first | refine hQ _ _ _ _ ?_ | refine hP _ _ (fun _ => ?_)); clear hQ hP Q)
      | (refine GW_draw' [] follows (by kernel_rfl) (by kernel_rfl) ?_; intro Q hQ hP; simp [hC, hY, hq, e]; (first | refine hQ _ _ _ _ (by kernel_rfl) ?_ | refine hP _ _ (by kernel_rfl) (fun _ => ?_)); clear hQ hP Q)
      | refine GW_block ?_
      | refine GW_ret ?_
      | refine GW_skip ?_
      | refine GW_exit ?_
      | refine GW_goto ?_
      | refine GW_label ?_
      | simp only [blockG_exit]
      | (refine GW_cond (by simp; rfl) ?_ ?_ <;> (intro hb; first | (exfalso; exact absurd hb (by decide)) | skip)))
    refine ⟨.inr trivial, ?_⟩
    simp [Tryd.results111, hq, e]
@[simp] theorem wSub (a b : Int) (K : Value → Prop) : callK Tryd.prog G0 111 #[Value.agg #[.int .u64 (wi (a) 0), .int .u64 (wi (a) 1), .int .u64 (wi (a) 2), .int .u64 (wi (a) 3)], Value.agg #[.int .u64 (wi (b) 0), .int .u64 (wi (b) 1), .int .u64 (wi (b) 2), .int .u64 (wi (b) 3)]] K ↔ K (.tuple #[wd (a - b), .bool (ng a != ng b && ng (a - b) != ng a)]) := callK_iff G0W (by kernel_rfl) (wsub_ret a b)
theorem wint_ret (z : Int) : Ret Tryd.prog G0 56 #[wd z] (.tuple #[.int .i64 (if i64 (sz z) then sz z else 0), .bool (decide (i64 (sz z)))]) := by
  refine ret_of G0F Tryd.func56 rfl Tryd.call56 (by simp) (by simp) (by simp [Tryd.ntmps56]) ?_
  intro C hC hC0 hY
  have h := bmod_i64 (wi z 0)
  repeat' (first
    | refine GW_seq ?_
    | simp only [List.length_cons, List.length_nil, Nat.reduceAdd, Nat.reduceMul, thenG_normal, thenG_ret, thenG_exit, thenG_goto, thenG_panic, blockG_normal, blockG_ret, blockG_goto, blockG_panic, jumpG_normal, jumpG_ret, jumpG_exit, jumpG_panic]
    | (refine GW_region' [] (by kernel_rfl) ?_; intro Q hQ hP; simp [hC, hY, h]; (first | refine hQ _ _ _ _ ?_ | refine hP _ _ (fun _ => ?_)); clear hQ hP Q)
    | (refine GW_draw' [] follows (by kernel_rfl) (by kernel_rfl) ?_; intro Q hQ hP; simp [hC, hY, h]; (first | refine hQ _ _ _ _ (by kernel_rfl) ?_ | refine hP _ _ (by kernel_rfl) (fun _ => ?_)); clear hQ hP Q)
    | refine GW_block ?_
    | refine GW_ret ?_
    | refine GW_skip ?_
    | refine GW_exit ?_
    | refine GW_goto ?_
    | refine GW_label ?_
    | simp only [blockG_exit]
    | (refine GW_cond (by simp; rfl) ?_ ?_ <;> (intro hb; first | (exfalso; exact absurd hb (by decide)) | skip)))
  all_goals
    refine ⟨.inr trivial, ?_⟩
    try rw [wne] at hb
    try rw [weq] at hb
    simp at hb
    rw [eq_comm, int_is] at hb
    simp [Tryd.results56, hb]
  exact int_val z hb
@[simp] theorem wInt (z : Int) (K : Value → Prop) : callK Tryd.prog G0 56 #[Value.agg #[.int .u64 (wi (z) 0), .int .u64 (wi (z) 1), .int .u64 (wi (z) 2), .int .u64 (wi (z) 3)]] K ↔ K (.tuple #[.int .i64 (if i64 (sz z) then sz z else 0), .bool (decide (i64 (sz z)))]) := callK_iff G0W (by kernel_rfl) (wint_ret z)
end Go.Gy
