/-
  Contracts: pull.check, times, square, parts, sum.
  Conditions: none.
-/
import Derived.Test.YtggidgaeggekhaaDoorGyU1
namespace Go.Gy
set_option linter.unusedSimpArgs false
set_option linter.unusedVariables false
open Go Go.RowKit Go.Proofs
/-- A pull's error. -/
def chkE (n d g m x r : Int) : Int :=
  if -2097152 ≤ n ∧ n ≤ 2097152 ∧ 1 ≤ d ∧ d ≤ 2097152 ∧ 1 ≤ g ∧ g ≤ 1048576 ∧ 1 ≤ m ∧ m ≤ 1024 ∧ -2097152 ≤ x ∧ x ≤ 2097152 ∧ 0 ≤ r ∧ r ≤ 13194139533312 then (if r = 0 then 30 else if x * x ≤ r then 0 else 2) else 2
def ckHp (n d g m x r : Int) : Hp := hpL G1 [(100, ⟨#[.int .i64 n, .int .i64 d, .int .i64 g, .int .i64 m, .int .i64 x, .int .i64 r], 3⟩)]
theorem ckHp_rst (n d g m x r : Int) : rst (ckHp n d g m x r) [100] = ckHp n d g m x r := hpL_rst G1F (by simp)
theorem ckHp_closed (n d g m x r : Int) (D : Nat → Prop) (k : Nat) (c : Blk) (h : ckHp n d g m x r k = some c) : c.ids D := by
  rcases hpL_mem h with h | h
  · simp at h
    rcases h with ⟨_, rfl⟩
    simp
  · exact G1_closed _ _ _ h
theorem ckHp_free (n d g m x r : Int) (k : Nat) (hk : 200 ≤ k) : ckHp n d g m x r k = none := by
  simp [ckHp, show ¬ k = 100 by omega, show 100 ≤ k by omega]
set_option maxHeartbeats 2000000 in
theorem check_ok (n d g m x r : Int) (h : chkE n d g m x r = 0) : Fun Tryd.prog G1 74 #[.slice (some ⟨100, 0, none⟩) 6 6] (ckHp n d g m x r) [100] (.ret (.tuple #[]) []) := by
  refine fun_of (B := 200) G1F (fun k hk => hpL_low (by simp) hk) Tryd.func74 rfl Tryd.call74 ?_ ?_ ⟨flatV_ids (by simp), by simp [keys], by simp, by simp⟩ (by simp [Tryd.ntmps74]) (by omega) ?_ ?_
  · rw [ckHp_rst]; simp [ckHp, dom]
  · rw [ckHp_rst]; exact ckHp_closed n d g m x r _
  · rw [ckHp_rst]; exact ckHp_free n d g m x r
  · intro C hC hC0 hY
    rw [ckHp_rst] at hC0 ⊢
    unfold chkE at h
    split at h
    rotate_left
    · cases h
    rename_i hc
    obtain ⟨f0, f1, f2, f3, f4, f5, f6, f7, f8, f9, f10, f11⟩ := hc
    split at h
    · cases h
    rename_i hr
    split at h
    rotate_left
    · cases h
    rename_i hx
    have hr0 : 0 < r := by omega
    have hxx : x * x ≤ 2097152 * 2097152 := by
      by_cases h0 : 0 ≤ x
      · exact Int.mul_le_mul (by omega) (by omega) h0 (by omega)
      · rw [← Int.neg_mul_neg]; exact Int.mul_le_mul (by omega) (by omega) (by omega) (by omega)
    have hx0 : 0 ≤ x * x := by
      by_cases h0 : 0 ≤ x
      · exact Int.mul_nonneg h0 h0
      · rw [← Int.neg_mul_neg]; exact Int.mul_nonneg (by omega) (by omega)
    have hb2 : Int.bmod (x * x) 18446744073709551616 = x * x := bm (by omega) (by omega)
    repeat' (first
      | refine GW_seq ?_
      | refine GWL_start ?_
      | refine GWL_step ?_
      | simp only [List.length_cons, List.length_nil, Nat.reduceAdd, Nat.reduceMul, thenG_normal, thenG_ret, thenG_exit, thenG_goto, thenG_panic, blockG_normal, blockG_ret, blockG_goto, blockG_panic, jumpG_normal, jumpG_ret, jumpG_exit, jumpG_panic]
      | (refine GW_region' [1000093] (by kernel_rfl) ?_; intro Q hQ hP; simp [hC, hY, ckHp, lmB, f0, f1, f2, f3, f4, f5, f6, f7, f8, f9, f10, f11, hr0, hx, hb2]; (repeat (first | ((refine callP_of (pmust_t _) ?_); try simp [hC, hY, ckHp, lmB, f0, f1, f2, f3, f4, f5, f6, f7, f8, f9, f10, f11, hr0, hx, hb2]) | ((refine callP_of (pmust_f _) ?_); try simp [hC, hY, ckHp, lmB, f0, f1, f2, f3, f4, f5, f6, f7, f8, f9, f10, f11, hr0, hx, hb2]))); (first | refine hQ _ _ _ _ ?_ | refine hP _ _ (fun _ => ?_)); clear hQ hP Q)
      | (refine GW_draw' [1000093] follows (by kernel_rfl) (by kernel_rfl) ?_; intro Q hQ hP; simp [hC, hY, ckHp, lmB, f0, f1, f2, f3, f4, f5, f6, f7, f8, f9, f10, f11, hr0, hx, hb2]; (repeat (first | ((refine callP_of (pmust_t _) ?_); try simp [hC, hY, ckHp, lmB, f0, f1, f2, f3, f4, f5, f6, f7, f8, f9, f10, f11, hr0, hx, hb2]) | ((refine callP_of (pmust_f _) ?_); try simp [hC, hY, ckHp, lmB, f0, f1, f2, f3, f4, f5, f6, f7, f8, f9, f10, f11, hr0, hx, hb2]))); (first | refine hQ _ _ _ _ (by kernel_rfl) ?_ | refine hP _ _ (by kernel_rfl) (fun _ => ?_)); clear hQ hP Q)
      | refine GW_block ?_
      | refine GW_ret ?_
      | refine GW_skip ?_
      | refine GW_exit ?_
      | refine GW_goto ?_
      | refine GW_label ?_
      | simp only [blockG_exit]
      | (refine GW_cond (by simp; rfl) ?_ ?_ <;> (intro hb; first | (exfalso; exact absurd hb (by decide)) | skip)))
    refine ⟨.inl rfl, by simp [Tryd.results74], fun k hk => ?_⟩
    have hk3 : k < 200 := Classical.byContradiction fun h => hk (ckHp_free n d g m x r k (by omega))
    first | rfl | (simp (disch := omega) only [upd_far]; rfl)
set_option maxHeartbeats 4000000 in
theorem check_bad (n d g m x r : Int) (h : chkE n d g m x r ≠ 0) : Fun Tryd.prog G1 74 #[.slice (some ⟨100, 0, none⟩) 6 6] (ckHp n d g m x r) [100] (.pan (erV (chkE n d g m x r))) := by
  refine fun_of (B := 200) G1F (fun k hk => hpL_low (by simp) hk) Tryd.func74 rfl Tryd.call74 ?_ ?_ trivial (by simp [Tryd.ntmps74]) (by omega) ?_ ?_
  · rw [ckHp_rst]; simp [ckHp, dom]
  · rw [ckHp_rst]; exact ckHp_closed n d g m x r _
  · rw [ckHp_rst]; exact ckHp_free n d g m x r
  · intro C hC hC0 hY
    rw [ckHp_rst] at hC0 ⊢
    by_cases f0 : -2097152 ≤ n
    rotate_left
    · have hE : chkE n d g m x r = 2 := if_neg (by omega)
      rw [hE]
      repeat' (first
        | refine GW_seq ?_
        | refine GWL_start ?_
        | refine GWL_step ?_
        | simp only [List.length_cons, List.length_nil, Nat.reduceAdd, Nat.reduceMul, thenG_normal, thenG_ret, thenG_exit, thenG_goto, thenG_panic, blockG_normal, blockG_ret, blockG_goto, blockG_panic, jumpG_normal, jumpG_ret, jumpG_exit, jumpG_panic]
        | (refine GW_region' [1000093] (by kernel_rfl) ?_; intro Q hQ hP; simp [hC, hY, ckHp, lmB, f0]; (repeat (first | ((refine callP_of (pmust_t _) ?_); try simp [hC, hY, ckHp, lmB, f0]) | ((refine callP_of (pmust_f _) ?_); try simp [hC, hY, ckHp, lmB, f0]))); (first | refine hQ _ _ _ _ ?_ | refine hP _ _ (fun _ => ?_)); clear hQ hP Q)
        | (refine GW_draw' [1000093] follows (by kernel_rfl) (by kernel_rfl) ?_; intro Q hQ hP; simp [hC, hY, ckHp, lmB, f0]; (repeat (first | ((refine callP_of (pmust_t _) ?_); try simp [hC, hY, ckHp, lmB, f0]) | ((refine callP_of (pmust_f _) ?_); try simp [hC, hY, ckHp, lmB, f0]))); (first | refine hQ _ _ _ _ (by kernel_rfl) ?_ | refine hP _ _ (by kernel_rfl) (fun _ => ?_)); clear hQ hP Q)
        | refine GW_block ?_
        | refine GW_ret ?_
        | refine GW_skip ?_
        | refine GW_exit ?_
        | refine GW_goto ?_
        | refine GW_label ?_
        | simp only [blockG_exit]
        | (refine GW_cond (by simp; rfl) ?_ ?_ <;> (intro hb; first | (exfalso; exact absurd hb (by decide)) | skip)))
      refine ⟨rfl, fun k hk => ?_⟩
      have hk3 : k < 200 := Classical.byContradiction fun h => hk (ckHp_free n d g m x r k (by omega))
      first | rfl | (simp (disch := omega) only [upd_far]; rfl)
    by_cases f1 : n ≤ 2097152
    rotate_left
    · have hE : chkE n d g m x r = 2 := if_neg (by omega)
      rw [hE]
      repeat' (first
        | refine GW_seq ?_
        | refine GWL_start ?_
        | refine GWL_step ?_
        | simp only [List.length_cons, List.length_nil, Nat.reduceAdd, Nat.reduceMul, thenG_normal, thenG_ret, thenG_exit, thenG_goto, thenG_panic, blockG_normal, blockG_ret, blockG_goto, blockG_panic, jumpG_normal, jumpG_ret, jumpG_exit, jumpG_panic]
        | (refine GW_region' [1000093] (by kernel_rfl) ?_; intro Q hQ hP; simp [hC, hY, ckHp, lmB, f0, f1]; (repeat (first | ((refine callP_of (pmust_t _) ?_); try simp [hC, hY, ckHp, lmB, f0, f1]) | ((refine callP_of (pmust_f _) ?_); try simp [hC, hY, ckHp, lmB, f0, f1]))); (first | refine hQ _ _ _ _ ?_ | refine hP _ _ (fun _ => ?_)); clear hQ hP Q)
        | (refine GW_draw' [1000093] follows (by kernel_rfl) (by kernel_rfl) ?_; intro Q hQ hP; simp [hC, hY, ckHp, lmB, f0, f1]; (repeat (first | ((refine callP_of (pmust_t _) ?_); try simp [hC, hY, ckHp, lmB, f0, f1]) | ((refine callP_of (pmust_f _) ?_); try simp [hC, hY, ckHp, lmB, f0, f1]))); (first | refine hQ _ _ _ _ (by kernel_rfl) ?_ | refine hP _ _ (by kernel_rfl) (fun _ => ?_)); clear hQ hP Q)
        | refine GW_block ?_
        | refine GW_ret ?_
        | refine GW_skip ?_
        | refine GW_exit ?_
        | refine GW_goto ?_
        | refine GW_label ?_
        | simp only [blockG_exit]
        | (refine GW_cond (by simp; rfl) ?_ ?_ <;> (intro hb; first | (exfalso; exact absurd hb (by decide)) | skip)))
      refine ⟨rfl, fun k hk => ?_⟩
      have hk3 : k < 200 := Classical.byContradiction fun h => hk (ckHp_free n d g m x r k (by omega))
      first | rfl | (simp (disch := omega) only [upd_far]; rfl)
    by_cases f2 : 1 ≤ d
    rotate_left
    · have hE : chkE n d g m x r = 2 := if_neg (by omega)
      rw [hE]
      repeat' (first
        | refine GW_seq ?_
        | refine GWL_start ?_
        | refine GWL_step ?_
        | simp only [List.length_cons, List.length_nil, Nat.reduceAdd, Nat.reduceMul, thenG_normal, thenG_ret, thenG_exit, thenG_goto, thenG_panic, blockG_normal, blockG_ret, blockG_goto, blockG_panic, jumpG_normal, jumpG_ret, jumpG_exit, jumpG_panic]
        | (refine GW_region' [1000093] (by kernel_rfl) ?_; intro Q hQ hP; simp [hC, hY, ckHp, lmB, f0, f1, f2]; (repeat (first | ((refine callP_of (pmust_t _) ?_); try simp [hC, hY, ckHp, lmB, f0, f1, f2]) | ((refine callP_of (pmust_f _) ?_); try simp [hC, hY, ckHp, lmB, f0, f1, f2]))); (first | refine hQ _ _ _ _ ?_ | refine hP _ _ (fun _ => ?_)); clear hQ hP Q)
        | (refine GW_draw' [1000093] follows (by kernel_rfl) (by kernel_rfl) ?_; intro Q hQ hP; simp [hC, hY, ckHp, lmB, f0, f1, f2]; (repeat (first | ((refine callP_of (pmust_t _) ?_); try simp [hC, hY, ckHp, lmB, f0, f1, f2]) | ((refine callP_of (pmust_f _) ?_); try simp [hC, hY, ckHp, lmB, f0, f1, f2]))); (first | refine hQ _ _ _ _ (by kernel_rfl) ?_ | refine hP _ _ (by kernel_rfl) (fun _ => ?_)); clear hQ hP Q)
        | refine GW_block ?_
        | refine GW_ret ?_
        | refine GW_skip ?_
        | refine GW_exit ?_
        | refine GW_goto ?_
        | refine GW_label ?_
        | simp only [blockG_exit]
        | (refine GW_cond (by simp; rfl) ?_ ?_ <;> (intro hb; first | (exfalso; exact absurd hb (by decide)) | skip)))
      refine ⟨rfl, fun k hk => ?_⟩
      have hk3 : k < 200 := Classical.byContradiction fun h => hk (ckHp_free n d g m x r k (by omega))
      first | rfl | (simp (disch := omega) only [upd_far]; rfl)
    by_cases f3 : d ≤ 2097152
    rotate_left
    · have hE : chkE n d g m x r = 2 := if_neg (by omega)
      rw [hE]
      repeat' (first
        | refine GW_seq ?_
        | refine GWL_start ?_
        | refine GWL_step ?_
        | simp only [List.length_cons, List.length_nil, Nat.reduceAdd, Nat.reduceMul, thenG_normal, thenG_ret, thenG_exit, thenG_goto, thenG_panic, blockG_normal, blockG_ret, blockG_goto, blockG_panic, jumpG_normal, jumpG_ret, jumpG_exit, jumpG_panic]
        | (refine GW_region' [1000093] (by kernel_rfl) ?_; intro Q hQ hP; simp [hC, hY, ckHp, lmB, f0, f1, f2, f3]; (repeat (first | ((refine callP_of (pmust_t _) ?_); try simp [hC, hY, ckHp, lmB, f0, f1, f2, f3]) | ((refine callP_of (pmust_f _) ?_); try simp [hC, hY, ckHp, lmB, f0, f1, f2, f3]))); (first | refine hQ _ _ _ _ ?_ | refine hP _ _ (fun _ => ?_)); clear hQ hP Q)
        | (refine GW_draw' [1000093] follows (by kernel_rfl) (by kernel_rfl) ?_; intro Q hQ hP; simp [hC, hY, ckHp, lmB, f0, f1, f2, f3]; (repeat (first | ((refine callP_of (pmust_t _) ?_); try simp [hC, hY, ckHp, lmB, f0, f1, f2, f3]) | ((refine callP_of (pmust_f _) ?_); try simp [hC, hY, ckHp, lmB, f0, f1, f2, f3]))); (first | refine hQ _ _ _ _ (by kernel_rfl) ?_ | refine hP _ _ (by kernel_rfl) (fun _ => ?_)); clear hQ hP Q)
        | refine GW_block ?_
        | refine GW_ret ?_
        | refine GW_skip ?_
        | refine GW_exit ?_
        | refine GW_goto ?_
        | refine GW_label ?_
        | simp only [blockG_exit]
        | (refine GW_cond (by simp; rfl) ?_ ?_ <;> (intro hb; first | (exfalso; exact absurd hb (by decide)) | skip)))
      refine ⟨rfl, fun k hk => ?_⟩
      have hk3 : k < 200 := Classical.byContradiction fun h => hk (ckHp_free n d g m x r k (by omega))
      first | rfl | (simp (disch := omega) only [upd_far]; rfl)
    by_cases f4 : 1 ≤ g
    rotate_left
    · have hE : chkE n d g m x r = 2 := if_neg (by omega)
      rw [hE]
      repeat' (first
        | refine GW_seq ?_
        | refine GWL_start ?_
        | refine GWL_step ?_
        | simp only [List.length_cons, List.length_nil, Nat.reduceAdd, Nat.reduceMul, thenG_normal, thenG_ret, thenG_exit, thenG_goto, thenG_panic, blockG_normal, blockG_ret, blockG_goto, blockG_panic, jumpG_normal, jumpG_ret, jumpG_exit, jumpG_panic]
        | (refine GW_region' [1000093] (by kernel_rfl) ?_; intro Q hQ hP; simp [hC, hY, ckHp, lmB, f0, f1, f2, f3, f4]; (repeat (first | ((refine callP_of (pmust_t _) ?_); try simp [hC, hY, ckHp, lmB, f0, f1, f2, f3, f4]) | ((refine callP_of (pmust_f _) ?_); try simp [hC, hY, ckHp, lmB, f0, f1, f2, f3, f4]))); (first | refine hQ _ _ _ _ ?_ | refine hP _ _ (fun _ => ?_)); clear hQ hP Q)
        | (refine GW_draw' [1000093] follows (by kernel_rfl) (by kernel_rfl) ?_; intro Q hQ hP; simp [hC, hY, ckHp, lmB, f0, f1, f2, f3, f4]; (repeat (first | ((refine callP_of (pmust_t _) ?_); try simp [hC, hY, ckHp, lmB, f0, f1, f2, f3, f4]) | ((refine callP_of (pmust_f _) ?_); try simp [hC, hY, ckHp, lmB, f0, f1, f2, f3, f4]))); (first | refine hQ _ _ _ _ (by kernel_rfl) ?_ | refine hP _ _ (by kernel_rfl) (fun _ => ?_)); clear hQ hP Q)
        | refine GW_block ?_
        | refine GW_ret ?_
        | refine GW_skip ?_
        | refine GW_exit ?_
        | refine GW_goto ?_
        | refine GW_label ?_
        | simp only [blockG_exit]
        | (refine GW_cond (by simp; rfl) ?_ ?_ <;> (intro hb; first | (exfalso; exact absurd hb (by decide)) | skip)))
      refine ⟨rfl, fun k hk => ?_⟩
      have hk3 : k < 200 := Classical.byContradiction fun h => hk (ckHp_free n d g m x r k (by omega))
      first | rfl | (simp (disch := omega) only [upd_far]; rfl)
    by_cases f5 : g ≤ 1048576
    rotate_left
    · have hE : chkE n d g m x r = 2 := if_neg (by omega)
      rw [hE]
      repeat' (first
        | refine GW_seq ?_
        | refine GWL_start ?_
        | refine GWL_step ?_
        | simp only [List.length_cons, List.length_nil, Nat.reduceAdd, Nat.reduceMul, thenG_normal, thenG_ret, thenG_exit, thenG_goto, thenG_panic, blockG_normal, blockG_ret, blockG_goto, blockG_panic, jumpG_normal, jumpG_ret, jumpG_exit, jumpG_panic]
        | (refine GW_region' [1000093] (by kernel_rfl) ?_; intro Q hQ hP; simp [hC, hY, ckHp, lmB, f0, f1, f2, f3, f4, f5]; (repeat (first | ((refine callP_of (pmust_t _) ?_); try simp [hC, hY, ckHp, lmB, f0, f1, f2, f3, f4, f5]) | ((refine callP_of (pmust_f _) ?_); try simp [hC, hY, ckHp, lmB, f0, f1, f2, f3, f4, f5]))); (first | refine hQ _ _ _ _ ?_ | refine hP _ _ (fun _ => ?_)); clear hQ hP Q)
        | (refine GW_draw' [1000093] follows (by kernel_rfl) (by kernel_rfl) ?_; intro Q hQ hP; simp [hC, hY, ckHp, lmB, f0, f1, f2, f3, f4, f5]; (repeat (first | ((refine callP_of (pmust_t _) ?_); try simp [hC, hY, ckHp, lmB, f0, f1, f2, f3, f4, f5]) | ((refine callP_of (pmust_f _) ?_); try simp [hC, hY, ckHp, lmB, f0, f1, f2, f3, f4, f5]))); (first | refine hQ _ _ _ _ (by kernel_rfl) ?_ | refine hP _ _ (by kernel_rfl) (fun _ => ?_)); clear hQ hP Q)
        | refine GW_block ?_
        | refine GW_ret ?_
        | refine GW_skip ?_
        | refine GW_exit ?_
        | refine GW_goto ?_
        | refine GW_label ?_
        | simp only [blockG_exit]
        | (refine GW_cond (by simp; rfl) ?_ ?_ <;> (intro hb; first | (exfalso; exact absurd hb (by decide)) | skip)))
      refine ⟨rfl, fun k hk => ?_⟩
      have hk3 : k < 200 := Classical.byContradiction fun h => hk (ckHp_free n d g m x r k (by omega))
      first | rfl | (simp (disch := omega) only [upd_far]; rfl)
    by_cases f6 : 1 ≤ m
    rotate_left
    · have hE : chkE n d g m x r = 2 := if_neg (by omega)
      rw [hE]
      repeat' (first
        | refine GW_seq ?_
        | refine GWL_start ?_
        | refine GWL_step ?_
        | simp only [List.length_cons, List.length_nil, Nat.reduceAdd, Nat.reduceMul, thenG_normal, thenG_ret, thenG_exit, thenG_goto, thenG_panic, blockG_normal, blockG_ret, blockG_goto, blockG_panic, jumpG_normal, jumpG_ret, jumpG_exit, jumpG_panic]
        | (refine GW_region' [1000093] (by kernel_rfl) ?_; intro Q hQ hP; simp [hC, hY, ckHp, lmB, f0, f1, f2, f3, f4, f5, f6]; (repeat (first | ((refine callP_of (pmust_t _) ?_); try simp [hC, hY, ckHp, lmB, f0, f1, f2, f3, f4, f5, f6]) | ((refine callP_of (pmust_f _) ?_); try simp [hC, hY, ckHp, lmB, f0, f1, f2, f3, f4, f5, f6]))); (first | refine hQ _ _ _ _ ?_ | refine hP _ _ (fun _ => ?_)); clear hQ hP Q)
        | (refine GW_draw' [1000093] follows (by kernel_rfl) (by kernel_rfl) ?_; intro Q hQ hP; simp [hC, hY, ckHp, lmB, f0, f1, f2, f3, f4, f5, f6]; (repeat (first | ((refine callP_of (pmust_t _) ?_); try simp [hC, hY, ckHp, lmB, f0, f1, f2, f3, f4, f5, f6]) | ((refine callP_of (pmust_f _) ?_); try simp [hC, hY, ckHp, lmB, f0, f1, f2, f3, f4, f5, f6]))); (first | refine hQ _ _ _ _ (by kernel_rfl) ?_ | refine hP _ _ (by kernel_rfl) (fun _ => ?_)); clear hQ hP Q)
        | refine GW_block ?_
        | refine GW_ret ?_
        | refine GW_skip ?_
        | refine GW_exit ?_
        | refine GW_goto ?_
        | refine GW_label ?_
        | simp only [blockG_exit]
        | (refine GW_cond (by simp; rfl) ?_ ?_ <;> (intro hb; first | (exfalso; exact absurd hb (by decide)) | skip)))
      refine ⟨rfl, fun k hk => ?_⟩
      have hk3 : k < 200 := Classical.byContradiction fun h => hk (ckHp_free n d g m x r k (by omega))
      first | rfl | (simp (disch := omega) only [upd_far]; rfl)
    by_cases f7 : m ≤ 1024
    rotate_left
    · have hE : chkE n d g m x r = 2 := if_neg (by omega)
      rw [hE]
      repeat' (first
        | refine GW_seq ?_
        | refine GWL_start ?_
        | refine GWL_step ?_
        | simp only [List.length_cons, List.length_nil, Nat.reduceAdd, Nat.reduceMul, thenG_normal, thenG_ret, thenG_exit, thenG_goto, thenG_panic, blockG_normal, blockG_ret, blockG_goto, blockG_panic, jumpG_normal, jumpG_ret, jumpG_exit, jumpG_panic]
        | (refine GW_region' [1000093] (by kernel_rfl) ?_; intro Q hQ hP; simp [hC, hY, ckHp, lmB, f0, f1, f2, f3, f4, f5, f6, f7]; (repeat (first | ((refine callP_of (pmust_t _) ?_); try simp [hC, hY, ckHp, lmB, f0, f1, f2, f3, f4, f5, f6, f7]) | ((refine callP_of (pmust_f _) ?_); try simp [hC, hY, ckHp, lmB, f0, f1, f2, f3, f4, f5, f6, f7]))); (first | refine hQ _ _ _ _ ?_ | refine hP _ _ (fun _ => ?_)); clear hQ hP Q)
        | (refine GW_draw' [1000093] follows (by kernel_rfl) (by kernel_rfl) ?_; intro Q hQ hP; simp [hC, hY, ckHp, lmB, f0, f1, f2, f3, f4, f5, f6, f7]; (repeat (first | ((refine callP_of (pmust_t _) ?_); try simp [hC, hY, ckHp, lmB, f0, f1, f2, f3, f4, f5, f6, f7]) | ((refine callP_of (pmust_f _) ?_); try simp [hC, hY, ckHp, lmB, f0, f1, f2, f3, f4, f5, f6, f7]))); (first | refine hQ _ _ _ _ (by kernel_rfl) ?_ | refine hP _ _ (by kernel_rfl) (fun _ => ?_)); clear hQ hP Q)
        | refine GW_block ?_
        | refine GW_ret ?_
        | refine GW_skip ?_
        | refine GW_exit ?_
        | refine GW_goto ?_
        | refine GW_label ?_
        | simp only [blockG_exit]
        | (refine GW_cond (by simp; rfl) ?_ ?_ <;> (intro hb; first | (exfalso; exact absurd hb (by decide)) | skip)))
      refine ⟨rfl, fun k hk => ?_⟩
      have hk3 : k < 200 := Classical.byContradiction fun h => hk (ckHp_free n d g m x r k (by omega))
      first | rfl | (simp (disch := omega) only [upd_far]; rfl)
    by_cases f8 : -2097152 ≤ x
    rotate_left
    · have hE : chkE n d g m x r = 2 := if_neg (by omega)
      rw [hE]
      repeat' (first
        | refine GW_seq ?_
        | refine GWL_start ?_
        | refine GWL_step ?_
        | simp only [List.length_cons, List.length_nil, Nat.reduceAdd, Nat.reduceMul, thenG_normal, thenG_ret, thenG_exit, thenG_goto, thenG_panic, blockG_normal, blockG_ret, blockG_goto, blockG_panic, jumpG_normal, jumpG_ret, jumpG_exit, jumpG_panic]
        | (refine GW_region' [1000093] (by kernel_rfl) ?_; intro Q hQ hP; simp [hC, hY, ckHp, lmB, f0, f1, f2, f3, f4, f5, f6, f7, f8]; (repeat (first | ((refine callP_of (pmust_t _) ?_); try simp [hC, hY, ckHp, lmB, f0, f1, f2, f3, f4, f5, f6, f7, f8]) | ((refine callP_of (pmust_f _) ?_); try simp [hC, hY, ckHp, lmB, f0, f1, f2, f3, f4, f5, f6, f7, f8]))); (first | refine hQ _ _ _ _ ?_ | refine hP _ _ (fun _ => ?_)); clear hQ hP Q)
        | (refine GW_draw' [1000093] follows (by kernel_rfl) (by kernel_rfl) ?_; intro Q hQ hP; simp [hC, hY, ckHp, lmB, f0, f1, f2, f3, f4, f5, f6, f7, f8]; (repeat (first | ((refine callP_of (pmust_t _) ?_); try simp [hC, hY, ckHp, lmB, f0, f1, f2, f3, f4, f5, f6, f7, f8]) | ((refine callP_of (pmust_f _) ?_); try simp [hC, hY, ckHp, lmB, f0, f1, f2, f3, f4, f5, f6, f7, f8]))); (first | refine hQ _ _ _ _ (by kernel_rfl) ?_ | refine hP _ _ (by kernel_rfl) (fun _ => ?_)); clear hQ hP Q)
        | refine GW_block ?_
        | refine GW_ret ?_
        | refine GW_skip ?_
        | refine GW_exit ?_
        | refine GW_goto ?_
        | refine GW_label ?_
        | simp only [blockG_exit]
        | (refine GW_cond (by simp; rfl) ?_ ?_ <;> (intro hb; first | (exfalso; exact absurd hb (by decide)) | skip)))
      refine ⟨rfl, fun k hk => ?_⟩
      have hk3 : k < 200 := Classical.byContradiction fun h => hk (ckHp_free n d g m x r k (by omega))
      first | rfl | (simp (disch := omega) only [upd_far]; rfl)
    by_cases f9 : x ≤ 2097152
    rotate_left
    · have hE : chkE n d g m x r = 2 := if_neg (by omega)
      rw [hE]
      repeat' (first
        | refine GW_seq ?_
        | refine GWL_start ?_
        | refine GWL_step ?_
        | simp only [List.length_cons, List.length_nil, Nat.reduceAdd, Nat.reduceMul, thenG_normal, thenG_ret, thenG_exit, thenG_goto, thenG_panic, blockG_normal, blockG_ret, blockG_goto, blockG_panic, jumpG_normal, jumpG_ret, jumpG_exit, jumpG_panic]
        | (refine GW_region' [1000093] (by kernel_rfl) ?_; intro Q hQ hP; simp [hC, hY, ckHp, lmB, f0, f1, f2, f3, f4, f5, f6, f7, f8, f9]; (repeat (first | ((refine callP_of (pmust_t _) ?_); try simp [hC, hY, ckHp, lmB, f0, f1, f2, f3, f4, f5, f6, f7, f8, f9]) | ((refine callP_of (pmust_f _) ?_); try simp [hC, hY, ckHp, lmB, f0, f1, f2, f3, f4, f5, f6, f7, f8, f9]))); (first | refine hQ _ _ _ _ ?_ | refine hP _ _ (fun _ => ?_)); clear hQ hP Q)
        | (refine GW_draw' [1000093] follows (by kernel_rfl) (by kernel_rfl) ?_; intro Q hQ hP; simp [hC, hY, ckHp, lmB, f0, f1, f2, f3, f4, f5, f6, f7, f8, f9]; (repeat (first | ((refine callP_of (pmust_t _) ?_); try simp [hC, hY, ckHp, lmB, f0, f1, f2, f3, f4, f5, f6, f7, f8, f9]) | ((refine callP_of (pmust_f _) ?_); try simp [hC, hY, ckHp, lmB, f0, f1, f2, f3, f4, f5, f6, f7, f8, f9]))); (first | refine hQ _ _ _ _ (by kernel_rfl) ?_ | refine hP _ _ (by kernel_rfl) (fun _ => ?_)); clear hQ hP Q)
        | refine GW_block ?_
        | refine GW_ret ?_
        | refine GW_skip ?_
        | refine GW_exit ?_
        | refine GW_goto ?_
        | refine GW_label ?_
        | simp only [blockG_exit]
        | (refine GW_cond (by simp; rfl) ?_ ?_ <;> (intro hb; first | (exfalso; exact absurd hb (by decide)) | skip)))
      refine ⟨rfl, fun k hk => ?_⟩
      have hk3 : k < 200 := Classical.byContradiction fun h => hk (ckHp_free n d g m x r k (by omega))
      first | rfl | (simp (disch := omega) only [upd_far]; rfl)
    by_cases f10 : 0 ≤ r
    rotate_left
    · have hE : chkE n d g m x r = 2 := if_neg (by omega)
      rw [hE]
      repeat' (first
        | refine GW_seq ?_
        | refine GWL_start ?_
        | refine GWL_step ?_
        | simp only [List.length_cons, List.length_nil, Nat.reduceAdd, Nat.reduceMul, thenG_normal, thenG_ret, thenG_exit, thenG_goto, thenG_panic, blockG_normal, blockG_ret, blockG_goto, blockG_panic, jumpG_normal, jumpG_ret, jumpG_exit, jumpG_panic]
        | (refine GW_region' [1000093] (by kernel_rfl) ?_; intro Q hQ hP; simp [hC, hY, ckHp, lmB, f0, f1, f2, f3, f4, f5, f6, f7, f8, f9, f10]; (repeat (first | ((refine callP_of (pmust_t _) ?_); try simp [hC, hY, ckHp, lmB, f0, f1, f2, f3, f4, f5, f6, f7, f8, f9, f10]) | ((refine callP_of (pmust_f _) ?_); try simp [hC, hY, ckHp, lmB, f0, f1, f2, f3, f4, f5, f6, f7, f8, f9, f10]))); (first | refine hQ _ _ _ _ ?_ | refine hP _ _ (fun _ => ?_)); clear hQ hP Q)
        | (refine GW_draw' [1000093] follows (by kernel_rfl) (by kernel_rfl) ?_; intro Q hQ hP; simp [hC, hY, ckHp, lmB, f0, f1, f2, f3, f4, f5, f6, f7, f8, f9, f10]; (repeat (first | ((refine callP_of (pmust_t _) ?_); try simp [hC, hY, ckHp, lmB, f0, f1, f2, f3, f4, f5, f6, f7, f8, f9, f10]) | ((refine callP_of (pmust_f _) ?_); try simp [hC, hY, ckHp, lmB, f0, f1, f2, f3, f4, f5, f6, f7, f8, f9, f10]))); (first | refine hQ _ _ _ _ (by kernel_rfl) ?_ | refine hP _ _ (by kernel_rfl) (fun _ => ?_)); clear hQ hP Q)
        | refine GW_block ?_
        | refine GW_ret ?_
        | refine GW_skip ?_
        | refine GW_exit ?_
        | refine GW_goto ?_
        | refine GW_label ?_
        | simp only [blockG_exit]
        | (refine GW_cond (by simp; rfl) ?_ ?_ <;> (intro hb; first | (exfalso; exact absurd hb (by decide)) | skip)))
      refine ⟨rfl, fun k hk => ?_⟩
      have hk3 : k < 200 := Classical.byContradiction fun h => hk (ckHp_free n d g m x r k (by omega))
      first | rfl | (simp (disch := omega) only [upd_far]; rfl)
    by_cases f11 : r ≤ 13194139533312
    rotate_left
    · have hE : chkE n d g m x r = 2 := if_neg (by omega)
      rw [hE]
      repeat' (first
        | refine GW_seq ?_
        | refine GWL_start ?_
        | refine GWL_step ?_
        | simp only [List.length_cons, List.length_nil, Nat.reduceAdd, Nat.reduceMul, thenG_normal, thenG_ret, thenG_exit, thenG_goto, thenG_panic, blockG_normal, blockG_ret, blockG_goto, blockG_panic, jumpG_normal, jumpG_ret, jumpG_exit, jumpG_panic]
        | (refine GW_region' [1000093] (by kernel_rfl) ?_; intro Q hQ hP; simp [hC, hY, ckHp, lmB, f0, f1, f2, f3, f4, f5, f6, f7, f8, f9, f10, f11]; (repeat (first | ((refine callP_of (pmust_t _) ?_); try simp [hC, hY, ckHp, lmB, f0, f1, f2, f3, f4, f5, f6, f7, f8, f9, f10, f11]) | ((refine callP_of (pmust_f _) ?_); try simp [hC, hY, ckHp, lmB, f0, f1, f2, f3, f4, f5, f6, f7, f8, f9, f10, f11]))); (first | refine hQ _ _ _ _ ?_ | refine hP _ _ (fun _ => ?_)); clear hQ hP Q)
        | (refine GW_draw' [1000093] follows (by kernel_rfl) (by kernel_rfl) ?_; intro Q hQ hP; simp [hC, hY, ckHp, lmB, f0, f1, f2, f3, f4, f5, f6, f7, f8, f9, f10, f11]; (repeat (first | ((refine callP_of (pmust_t _) ?_); try simp [hC, hY, ckHp, lmB, f0, f1, f2, f3, f4, f5, f6, f7, f8, f9, f10, f11]) | ((refine callP_of (pmust_f _) ?_); try simp [hC, hY, ckHp, lmB, f0, f1, f2, f3, f4, f5, f6, f7, f8, f9, f10, f11]))); (first | refine hQ _ _ _ _ (by kernel_rfl) ?_ | refine hP _ _ (by kernel_rfl) (fun _ => ?_)); clear hQ hP Q)
        | refine GW_block ?_
        | refine GW_ret ?_
        | refine GW_skip ?_
        | refine GW_exit ?_
        | refine GW_goto ?_
        | refine GW_label ?_
        | simp only [blockG_exit]
        | (refine GW_cond (by simp; rfl) ?_ ?_ <;> (intro hb; first | (exfalso; exact absurd hb (by decide)) | skip)))
      refine ⟨rfl, fun k hk => ?_⟩
      have hk3 : k < 200 := Classical.byContradiction fun h => hk (ckHp_free n d g m x r k (by omega))
      first | rfl | (simp (disch := omega) only [upd_far]; rfl)
    have hall : chkE n d g m x r = (if r = 0 then 30 else if x * x ≤ r then 0 else 2) := if_pos ⟨f0, f1, f2, f3, f4, f5, f6, f7, f8, f9, f10, f11⟩
    rw [hall] at h ⊢
    by_cases hr : r = 0
    · have hr0 : ¬ 0 < r := by omega
      rw [if_pos hr]
      repeat' (first
        | refine GW_seq ?_
        | refine GWL_start ?_
        | refine GWL_step ?_
        | simp only [List.length_cons, List.length_nil, Nat.reduceAdd, Nat.reduceMul, thenG_normal, thenG_ret, thenG_exit, thenG_goto, thenG_panic, blockG_normal, blockG_ret, blockG_goto, blockG_panic, jumpG_normal, jumpG_ret, jumpG_exit, jumpG_panic]
        | (refine GW_region' [1000093] (by kernel_rfl) ?_; intro Q hQ hP; simp [hC, hY, ckHp, lmB, f0, f1, f2, f3, f4, f5, f6, f7, f8, f9, f10, f11, hr0]; (repeat (first | ((refine callP_of (pmust_t _) ?_); try simp [hC, hY, ckHp, lmB, f0, f1, f2, f3, f4, f5, f6, f7, f8, f9, f10, f11, hr0]) | ((refine callP_of (pmust_f _) ?_); try simp [hC, hY, ckHp, lmB, f0, f1, f2, f3, f4, f5, f6, f7, f8, f9, f10, f11, hr0]))); (first | refine hQ _ _ _ _ ?_ | refine hP _ _ (fun _ => ?_)); clear hQ hP Q)
        | (refine GW_draw' [1000093] follows (by kernel_rfl) (by kernel_rfl) ?_; intro Q hQ hP; simp [hC, hY, ckHp, lmB, f0, f1, f2, f3, f4, f5, f6, f7, f8, f9, f10, f11, hr0]; (repeat (first | ((refine callP_of (pmust_t _) ?_); try simp [hC, hY, ckHp, lmB, f0, f1, f2, f3, f4, f5, f6, f7, f8, f9, f10, f11, hr0]) | ((refine callP_of (pmust_f _) ?_); try simp [hC, hY, ckHp, lmB, f0, f1, f2, f3, f4, f5, f6, f7, f8, f9, f10, f11, hr0]))); (first | refine hQ _ _ _ _ (by kernel_rfl) ?_ | refine hP _ _ (by kernel_rfl) (fun _ => ?_)); clear hQ hP Q)
        | refine GW_block ?_
        | refine GW_ret ?_
        | refine GW_skip ?_
        | refine GW_exit ?_
        | refine GW_goto ?_
        | refine GW_label ?_
        | simp only [blockG_exit]
        | (refine GW_cond (by simp; rfl) ?_ ?_ <;> (intro hb; first | (exfalso; exact absurd hb (by decide)) | skip)))
      refine ⟨rfl, fun k hk => ?_⟩
      have hk3 : k < 200 := Classical.byContradiction fun h => hk (ckHp_free n d g m x r k (by omega))
      first | rfl | (simp (disch := omega) only [upd_far]; rfl)
    have hr0 : 0 < r := by omega
    rw [if_neg hr] at h ⊢
    by_cases hx : x * x ≤ r
    · rw [if_pos hx] at h; exact absurd rfl h
    · rw [if_neg hx]
      have hxx : x * x ≤ 2097152 * 2097152 := by
        by_cases h0 : 0 ≤ x
        · exact Int.mul_le_mul (by omega) (by omega) h0 (by omega)
        · rw [← Int.neg_mul_neg]; exact Int.mul_le_mul (by omega) (by omega) (by omega) (by omega)
      have hx0 : 0 ≤ x * x := by
        by_cases h0 : 0 ≤ x
        · exact Int.mul_nonneg h0 h0
        · rw [← Int.neg_mul_neg]; exact Int.mul_nonneg (by omega) (by omega)
      have hb2 : Int.bmod (x * x) 18446744073709551616 = x * x := bm (by omega) (by omega)
      repeat' (first
        | refine GW_seq ?_
        | refine GWL_start ?_
        | refine GWL_step ?_
        | simp only [List.length_cons, List.length_nil, Nat.reduceAdd, Nat.reduceMul, thenG_normal, thenG_ret, thenG_exit, thenG_goto, thenG_panic, blockG_normal, blockG_ret, blockG_goto, blockG_panic, jumpG_normal, jumpG_ret, jumpG_exit, jumpG_panic]
        | (refine GW_region' [1000093] (by kernel_rfl) ?_; intro Q hQ hP; simp [hC, hY, ckHp, lmB, f0, f1, f2, f3, f4, f5, f6, f7, f8, f9, f10, f11, hr0, hx, hb2]; (repeat (first | ((refine callP_of (pmust_t _) ?_); try simp [hC, hY, ckHp, lmB, f0, f1, f2, f3, f4, f5, f6, f7, f8, f9, f10, f11, hr0, hx, hb2]) | ((refine callP_of (pmust_f _) ?_); try simp [hC, hY, ckHp, lmB, f0, f1, f2, f3, f4, f5, f6, f7, f8, f9, f10, f11, hr0, hx, hb2]))); (first | refine hQ _ _ _ _ ?_ | refine hP _ _ (fun _ => ?_)); clear hQ hP Q)
        | (refine GW_draw' [1000093] follows (by kernel_rfl) (by kernel_rfl) ?_; intro Q hQ hP; simp [hC, hY, ckHp, lmB, f0, f1, f2, f3, f4, f5, f6, f7, f8, f9, f10, f11, hr0, hx, hb2]; (repeat (first | ((refine callP_of (pmust_t _) ?_); try simp [hC, hY, ckHp, lmB, f0, f1, f2, f3, f4, f5, f6, f7, f8, f9, f10, f11, hr0, hx, hb2]) | ((refine callP_of (pmust_f _) ?_); try simp [hC, hY, ckHp, lmB, f0, f1, f2, f3, f4, f5, f6, f7, f8, f9, f10, f11, hr0, hx, hb2]))); (first | refine hQ _ _ _ _ (by kernel_rfl) ?_ | refine hP _ _ (by kernel_rfl) (fun _ => ?_)); clear hQ hP Q)
        | refine GW_block ?_
        | refine GW_ret ?_
        | refine GW_skip ?_
        | refine GW_exit ?_
        | refine GW_goto ?_
        | refine GW_label ?_
        | simp only [blockG_exit]
        | (refine GW_cond (by simp; rfl) ?_ ?_ <;> (intro hb; first | (exfalso; exact absurd hb (by decide)) | skip)))
      refine ⟨rfl, fun k hk => ?_⟩
      have hk3 : k < 200 := Classical.byContradiction fun h => hk (ckHp_free n d g m x r k (by omega))
      first | rfl | (simp (disch := omega) only [upd_far]; rfl)

theorem psquare_ret (a : Int) : Ret Tryd.prog G1 76 #[wd a] (wd (sz a * sz a)) := by
  refine ret_of G1F Tryd.func76 rfl Tryd.call76 (by simp) (by simp) (by simp [Tryd.ntmps76]) ?_
  intro C hC hC0 hY
  repeat' (first
    | refine GW_seq ?_
    | simp only [List.length_cons, List.length_nil, Nat.reduceAdd, Nat.reduceMul, thenG_normal, thenG_ret, thenG_exit, thenG_goto, thenG_panic, blockG_normal, blockG_ret, blockG_goto, blockG_panic, jumpG_normal, jumpG_ret, jumpG_exit, jumpG_panic]
    | (refine GW_region' [] (by kernel_rfl) ?_; intro Q hQ hP; simp [hC, hY]; (first | refine hQ _ _ _ _ ?_ | refine hP _ _ (fun _ => ?_)); clear hQ hP Q)
    | (refine GW_draw' [] follows (by kernel_rfl) (by kernel_rfl) ?_; intro Q hQ hP; simp [hC, hY]; (first | refine hQ _ _ _ _ (by kernel_rfl) ?_ | refine hP _ _ (by kernel_rfl) (fun _ => ?_)); clear hQ hP Q)
    | refine GW_block ?_
    | refine GW_ret ?_
    | refine GW_skip ?_
    | refine GW_exit ?_
    | refine GW_goto ?_
    | refine GW_label ?_
    | simp only [blockG_exit]
    | (refine GW_cond (by simp; rfl) ?_ ?_ <;> (intro hb; first | (exfalso; exact absurd hb (by decide)) | skip)))
  refine ⟨.inr trivial, ?_⟩
  simp [Tryd.results76]
@[simp] theorem psquare (a : Int) (K : Value → Prop) : callK Tryd.prog G1 76 #[Value.agg #[.int .u64 (wi (a) 0), .int .u64 (wi (a) 1), .int .u64 (wi (a) 2), .int .u64 (wi (a) 3)]] K ↔ K (wd (sz a * sz a)) := callK_iff G1W (by kernel_rfl) (psquare_ret a)
set_option maxHeartbeats 1000000 in
theorem times2_fun (a0 a1 : Int) (hi : i64 a0 ∧ i64 a1) (hw : wr (a0) ∧ wr (a0 * a1)) : Fun Tryd.prog G1 77 #[.slice (some ⟨100, 0, none⟩) 2 2] (hpL G1 [(100, ⟨#[.int .i64 a0, .int .i64 a1], 3⟩)]) [100] (.ret (wd (a0 * a1)) []) := by
  have hrst : rst (hpL G1 [(100, ⟨#[.int .i64 a0, .int .i64 a1], 3⟩)]) [100] = hpL G1 [(100, ⟨#[.int .i64 a0, .int .i64 a1], 3⟩)] := hpL_rst G1F (by simp)
  have hfree : ∀ k, 200 ≤ k → hpL G1 [(100, ⟨#[.int .i64 a0, .int .i64 a1], 3⟩)] k = none := fun k hk => by simp [show ¬ k = 100 by omega, show 100 ≤ k by omega]
  refine fun_of (B := 200) G1F (fun k hk => hpL_low (by simp) hk) Tryd.func77 rfl Tryd.call77 ?_ ?_ ⟨flatV_ids (by simp), by simp [keys], by simp, by simp⟩ (by simp [Tryd.ntmps77]) (by omega) ?_ ?_
  · rw [hrst]; simp [dom]
  · rw [hrst]
    intro k c h
    rcases hpL_mem h with h | h
    · simp at h
      rcases h with ⟨_, rfl⟩
      simp
    · exact G1_closed _ _ _ h
  · rw [hrst]; exact hfree
  · intro C hC hC0 hY
    rw [hrst] at hC0 ⊢
    obtain ⟨i0, i1⟩ := hi
    obtain ⟨w0, w1⟩ := hw
    have s0 := wr_sz w0
    have s1 := wr_sz w1
    have t1 := wr_sz (i64_wr i1)
    have j1 := i64_1
    have e1 : sz 1 = 1 := by decide
    repeat' (first
      | refine GW_seq ?_
      | refine GWL_start ?_
      | refine GWL_step ?_
      | simp only [List.length_cons, List.length_nil, Nat.reduceAdd, Nat.reduceMul, thenG_normal, thenG_ret, thenG_exit, thenG_goto, thenG_panic, blockG_normal, blockG_ret, blockG_goto, blockG_panic, jumpG_normal, jumpG_ret, jumpG_exit, jumpG_panic]
      | (refine GW_region' [] (by kernel_rfl) ?_; intro Q hQ hP; simp [hC, hY, j1, e1, Int.one_mul, i0, i1, s0, s1, t1]; (first | refine hQ _ _ _ _ ?_ | refine hP _ _ (fun _ => ?_)); clear hQ hP Q)
      | (refine GW_draw' [] follows (by kernel_rfl) (by kernel_rfl) ?_; intro Q hQ hP; simp [hC, hY, j1, e1, Int.one_mul, i0, i1, s0, s1, t1]; (first | refine hQ _ _ _ _ (by kernel_rfl) ?_ | refine hP _ _ (by kernel_rfl) (fun _ => ?_)); clear hQ hP Q)
      | refine GW_block ?_
      | refine GW_ret ?_
      | refine GW_skip ?_
      | refine GW_exit ?_
      | refine GW_goto ?_
      | refine GW_label ?_
      | simp only [blockG_exit]
      | (refine GW_cond (by simp; rfl) ?_ ?_ <;> (intro hb; first | (exfalso; exact absurd hb (by decide)) | skip)))
    refine ⟨.inr rfl, by simp [Tryd.results77], fun k hk => ?_⟩
    have hk3 : k < 200 := Classical.byContradiction fun h => hk (hfree k (by omega))
    simp (disch := omega) only [upd_far]
    rfl
set_option maxHeartbeats 1000000 in
theorem times4_fun (a0 a1 a2 a3 : Int) (hi : i64 a0 ∧ i64 a1 ∧ i64 a2 ∧ i64 a3) (hw : wr (a0) ∧ wr (a0 * a1) ∧ wr (a0 * a1 * a2) ∧ wr (a0 * a1 * a2 * a3)) : Fun Tryd.prog G1 77 #[.slice (some ⟨100, 0, none⟩) 4 4] (hpL G1 [(100, ⟨#[.int .i64 a0, .int .i64 a1, .int .i64 a2, .int .i64 a3], 3⟩)]) [100] (.ret (wd (a0 * a1 * a2 * a3)) []) := by
  have hrst : rst (hpL G1 [(100, ⟨#[.int .i64 a0, .int .i64 a1, .int .i64 a2, .int .i64 a3], 3⟩)]) [100] = hpL G1 [(100, ⟨#[.int .i64 a0, .int .i64 a1, .int .i64 a2, .int .i64 a3], 3⟩)] := hpL_rst G1F (by simp)
  have hfree : ∀ k, 200 ≤ k → hpL G1 [(100, ⟨#[.int .i64 a0, .int .i64 a1, .int .i64 a2, .int .i64 a3], 3⟩)] k = none := fun k hk => by simp [show ¬ k = 100 by omega, show 100 ≤ k by omega]
  refine fun_of (B := 200) G1F (fun k hk => hpL_low (by simp) hk) Tryd.func77 rfl Tryd.call77 ?_ ?_ ⟨flatV_ids (by simp), by simp [keys], by simp, by simp⟩ (by simp [Tryd.ntmps77]) (by omega) ?_ ?_
  · rw [hrst]; simp [dom]
  · rw [hrst]
    intro k c h
    rcases hpL_mem h with h | h
    · simp at h
      rcases h with ⟨_, rfl⟩
      simp
    · exact G1_closed _ _ _ h
  · rw [hrst]; exact hfree
  · intro C hC hC0 hY
    rw [hrst] at hC0 ⊢
    obtain ⟨i0, i1, i2, i3⟩ := hi
    obtain ⟨w0, w1, w2, w3⟩ := hw
    have s0 := wr_sz w0
    have s1 := wr_sz w1
    have s2 := wr_sz w2
    have s3 := wr_sz w3
    have t1 := wr_sz (i64_wr i1)
    have t2 := wr_sz (i64_wr i2)
    have t3 := wr_sz (i64_wr i3)
    have j1 := i64_1
    have e1 : sz 1 = 1 := by decide
    repeat' (first
      | refine GW_seq ?_
      | refine GWL_start ?_
      | refine GWL_step ?_
      | simp only [List.length_cons, List.length_nil, Nat.reduceAdd, Nat.reduceMul, thenG_normal, thenG_ret, thenG_exit, thenG_goto, thenG_panic, blockG_normal, blockG_ret, blockG_goto, blockG_panic, jumpG_normal, jumpG_ret, jumpG_exit, jumpG_panic]
      | (refine GW_region' [] (by kernel_rfl) ?_; intro Q hQ hP; simp [hC, hY, j1, e1, Int.one_mul, i0, i1, i2, i3, s0, s1, s2, s3, t1, t2, t3]; (first | refine hQ _ _ _ _ ?_ | refine hP _ _ (fun _ => ?_)); clear hQ hP Q)
      | (refine GW_draw' [] follows (by kernel_rfl) (by kernel_rfl) ?_; intro Q hQ hP; simp [hC, hY, j1, e1, Int.one_mul, i0, i1, i2, i3, s0, s1, s2, s3, t1, t2, t3]; (first | refine hQ _ _ _ _ (by kernel_rfl) ?_ | refine hP _ _ (by kernel_rfl) (fun _ => ?_)); clear hQ hP Q)
      | refine GW_block ?_
      | refine GW_ret ?_
      | refine GW_skip ?_
      | refine GW_exit ?_
      | refine GW_goto ?_
      | refine GW_label ?_
      | simp only [blockG_exit]
      | (refine GW_cond (by simp; rfl) ?_ ?_ <;> (intro hb; first | (exfalso; exact absurd hb (by decide)) | skip)))
    refine ⟨.inr rfl, by simp [Tryd.results77], fun k hk => ?_⟩
    have hk3 : k < 200 := Classical.byContradiction fun h => hk (hfree k (by omega))
    simp (disch := omega) only [upd_far]
    rfl
set_option maxHeartbeats 1000000 in
theorem times5_fun (a0 a1 a2 a3 a4 : Int) (hi : i64 a0 ∧ i64 a1 ∧ i64 a2 ∧ i64 a3 ∧ i64 a4) (hw : wr (a0) ∧ wr (a0 * a1) ∧ wr (a0 * a1 * a2) ∧ wr (a0 * a1 * a2 * a3) ∧ wr (a0 * a1 * a2 * a3 * a4)) : Fun Tryd.prog G1 77 #[.slice (some ⟨100, 0, none⟩) 5 5] (hpL G1 [(100, ⟨#[.int .i64 a0, .int .i64 a1, .int .i64 a2, .int .i64 a3, .int .i64 a4], 3⟩)]) [100] (.ret (wd (a0 * a1 * a2 * a3 * a4)) []) := by
  have hrst : rst (hpL G1 [(100, ⟨#[.int .i64 a0, .int .i64 a1, .int .i64 a2, .int .i64 a3, .int .i64 a4], 3⟩)]) [100] = hpL G1 [(100, ⟨#[.int .i64 a0, .int .i64 a1, .int .i64 a2, .int .i64 a3, .int .i64 a4], 3⟩)] := hpL_rst G1F (by simp)
  have hfree : ∀ k, 200 ≤ k → hpL G1 [(100, ⟨#[.int .i64 a0, .int .i64 a1, .int .i64 a2, .int .i64 a3, .int .i64 a4], 3⟩)] k = none := fun k hk => by simp [show ¬ k = 100 by omega, show 100 ≤ k by omega]
  refine fun_of (B := 200) G1F (fun k hk => hpL_low (by simp) hk) Tryd.func77 rfl Tryd.call77 ?_ ?_ ⟨flatV_ids (by simp), by simp [keys], by simp, by simp⟩ (by simp [Tryd.ntmps77]) (by omega) ?_ ?_
  · rw [hrst]; simp [dom]
  · rw [hrst]
    intro k c h
    rcases hpL_mem h with h | h
    · simp at h
      rcases h with ⟨_, rfl⟩
      simp
    · exact G1_closed _ _ _ h
  · rw [hrst]; exact hfree
  · intro C hC hC0 hY
    rw [hrst] at hC0 ⊢
    obtain ⟨i0, i1, i2, i3, i4⟩ := hi
    obtain ⟨w0, w1, w2, w3, w4⟩ := hw
    have s0 := wr_sz w0
    have s1 := wr_sz w1
    have s2 := wr_sz w2
    have s3 := wr_sz w3
    have s4 := wr_sz w4
    have t1 := wr_sz (i64_wr i1)
    have t2 := wr_sz (i64_wr i2)
    have t3 := wr_sz (i64_wr i3)
    have t4 := wr_sz (i64_wr i4)
    have j1 := i64_1
    have e1 : sz 1 = 1 := by decide
    repeat' (first
      | refine GW_seq ?_
      | refine GWL_start ?_
      | refine GWL_step ?_
      | simp only [List.length_cons, List.length_nil, Nat.reduceAdd, Nat.reduceMul, thenG_normal, thenG_ret, thenG_exit, thenG_goto, thenG_panic, blockG_normal, blockG_ret, blockG_goto, blockG_panic, jumpG_normal, jumpG_ret, jumpG_exit, jumpG_panic]
      | (refine GW_region' [] (by kernel_rfl) ?_; intro Q hQ hP; simp [hC, hY, j1, e1, Int.one_mul, i0, i1, i2, i3, i4, s0, s1, s2, s3, s4, t1, t2, t3, t4]; (first | refine hQ _ _ _ _ ?_ | refine hP _ _ (fun _ => ?_)); clear hQ hP Q)
      | (refine GW_draw' [] follows (by kernel_rfl) (by kernel_rfl) ?_; intro Q hQ hP; simp [hC, hY, j1, e1, Int.one_mul, i0, i1, i2, i3, i4, s0, s1, s2, s3, s4, t1, t2, t3, t4]; (first | refine hQ _ _ _ _ (by kernel_rfl) ?_ | refine hP _ _ (by kernel_rfl) (fun _ => ?_)); clear hQ hP Q)
      | refine GW_block ?_
      | refine GW_ret ?_
      | refine GW_skip ?_
      | refine GW_exit ?_
      | refine GW_goto ?_
      | refine GW_label ?_
      | simp only [blockG_exit]
      | (refine GW_cond (by simp; rfl) ?_ ?_ <;> (intro hb; first | (exfalso; exact absurd hb (by decide)) | skip)))
    refine ⟨.inr rfl, by simp [Tryd.results77], fun k hk => ?_⟩
    have hk3 : k < 200 := Classical.byContradiction fun h => hk (hfree k (by omega))
    simp (disch := omega) only [upd_far]
    rfl
end Go.Gy
