/-
  Laws of layer 4 (root): what they come to.
  Conditions: none.
-/
import Derived.Test.YtggidgaeggekhaaDoorGyZ3
namespace Go.Gy
set_option linter.unusedSimpArgs false
set_option linter.unusedVariables false
open Go Go.RowKit Go.Proofs
theorem wr_small {n : Int} (h1 : -9223372036854775808 ≤ n) (h2 : n < 9223372036854775808) : wr n := by unfold wr; omega
theorem i64_small {n : Int} (h1 : -9223372036854775808 ≤ n) (h2 : n < 9223372036854775808) : i64 n := ⟨h1, h2⟩
@[simp] theorem rOf_zz (a : Int) (K : Value → Prop) : callK Tryd.prog G0 16 #[Value.agg #[.int .u64 (wi (a) 0), .int .u64 (wi (a) 1), .int .u64 (wi (a) 2), .int .u64 (wi (a) 3)], .agg #[.int .u64 0, .int .u64 0, .int .u64 0, .int .u64 0]] K ↔ K (.tuple #[wd 0, .int .i64 30]) := by
  have := rOf_z a 0 rfl K
  simpa [wi_zero] using this
theorem isqU_1 {a r : Int} (h0 : 0 ≤ r) (h1 : r * r < a) (h2 : a < (r + 1) * (r + 1)) : isqU a = r + 1 := by
  have e := isq_unique h0 (Int.le_of_lt h1) h2
  unfold isqU; rw [e, if_neg (by omega)]
set_option maxHeartbeats 2000000 in
set_option maxRecDepth 100000 in
theorem wakes4_ret : Ret Tryd.prog G0 24 #[] (.bool true) := by
  refine ret_of G0F Tryd.func24 rfl Tryd.call24 rfl (by simp) (by simp [Tryd.ntmps24]) ?_
  intro C hC hC0 hY
  have e1 : isq 99 = 9 := isq_unique (by decide) (by decide) (by decide)
  have e2 : isqU 99 = 10 := isqU_1 (r := 9) (by decide) (by decide) (by decide)
  have e3 : isq 8 = 2 := isq_unique (by decide) (by decide) (by decide)
  have e4 : isq 100 = 10 := isq_unique (by decide) (by decide) (by decide)
  have e5 : isq 25 = 5 := isq_unique (by decide) (by decide) (by decide)
  have hw : wr 99 ∧ wr 8 ∧ wr 1 ∧ wr (-1) ∧ wr 101 ∧ wr 4 ∧ wr 100 ∧ wr (-4) := by unfold wr; omega
  have hi : i64 99 ∧ i64 8 ∧ i64 1 ∧ i64 (-1) ∧ i64 101 ∧ i64 4 ∧ i64 100 ∧ i64 (-4) ∧ i64 9 ∧ i64 10 ∧ i64 5 := by unfold i64; omega
  repeat' (first
    | refine GW_seq ?_
    | simp only [List.length_cons, List.length_nil, Nat.reduceAdd, Nat.reduceMul, thenG_normal, thenG_ret, thenG_exit, thenG_goto, thenG_panic, blockG_normal, blockG_ret, blockG_goto, blockG_panic, jumpG_normal, jumpG_ret, jumpG_exit, jumpG_panic]
    | (refine GW_region' [] (by kernel_rfl) ?_; intro Q hQ hP; simp [hC, hY, e1, e2, e3, e4, e5, hw, hi]; (first | refine hQ _ _ _ _ ?_ | refine hP _ _ (fun _ => ?_)); clear hQ hP Q)
    | (refine GW_draw' [] follows (by kernel_rfl) (by kernel_rfl) ?_; intro Q hQ hP; simp [hC, hY, e1, e2, e3, e4, e5, hw, hi]; (first | refine hQ _ _ _ _ (by kernel_rfl) ?_ | refine hP _ _ (by kernel_rfl) (fun _ => ?_)); clear hQ hP Q)
    | refine GW_block ?_
    | refine GW_ret ?_
    | refine GW_skip ?_
    | refine GW_exit ?_
    | refine GW_goto ?_
    | refine GW_label ?_
    | simp only [blockG_exit]
    | (refine GW_cond (by simp; rfl) ?_ ?_ <;> (intro hb; first | (exfalso; exact absurd hb (by decide)) | skip)))
  refine ⟨.inr trivial, ?_⟩
  simp [Tryd.results24]
@[simp] theorem wakes4 (K : Value → Prop) : callK Tryd.prog G0 24 #[] K ↔ K (.bool true) := callK_iff G0W (by kernel_rfl) wakes4_ret
theorem sg_n {a : Int} (ha : wr a) (h : a < 0) : cmpI (sz a) 0 < 0 := by rw [wr_sz ha]; unfold cmpI; split <;> (try split) <;> omega
theorem sg_p {a : Int} (ha : wr a) (h : 0 ≤ a) : ¬ cmpI (sz a) 0 < 0 := by rw [wr_sz ha]; unfold cmpI; split <;> (try split) <;> omega
theorem isq_mono {a b : Int} (h0 : 0 ≤ a) (h : a ≤ b) : isq a ≤ isq b := by
  obtain ⟨a0, a1, a2⟩ := isq_spec a h0
  obtain ⟨b0, b1, b2⟩ := isq_spec b (by omega)
  have := sq_lt (x := isq a) (y := isq b + 1) a0 (by omega) (by omega)
  omega
theorem cmp_prod {a b x y : Int} (h1 : a < b → x ≤ y) (h2 : b < a → y ≤ x) : 0 ≤ cmpI a b * cmpI x y ∧ cmpI a b * cmpI x y ≤ 1 := by
  unfold cmpI
  (repeat' split) <;> first | omega | (simp; done)
set_option maxHeartbeats 1000000 in
theorem RootRises_ret (a b n : Int) (ha : wr a) (hbw : wr b) (hn : i64 n) : Ret Tryd.prog G0 4 #[wd a, wd b, .int .i64 n] (.bool true) := by
  refine ret_of G0F Tryd.func4 rfl Tryd.call4 rfl (by simp) (by simp [Tryd.ntmps4]) ?_
  intro C hC hC0 hY
  by_cases ha0 : a < 0
  · have s1 := sg_n ha ha0
    repeat' (first
      | refine GW_seq ?_
      | simp only [List.length_cons, List.length_nil, Nat.reduceAdd, Nat.reduceMul, thenG_normal, thenG_ret, thenG_exit, thenG_goto, thenG_panic, blockG_normal, blockG_ret, blockG_goto, blockG_panic, jumpG_normal, jumpG_ret, jumpG_exit, jumpG_panic]
      | (refine GW_region' [] (by kernel_rfl) ?_; intro Q hQ hP; simp [hC, hY, s1]; (first | refine hQ _ _ _ _ ?_ | refine hP _ _ (fun _ => ?_)); clear hQ hP Q)
      | (refine GW_draw' [] follows (by kernel_rfl) (by kernel_rfl) ?_; intro Q hQ hP; simp [hC, hY, s1]; (first | refine hQ _ _ _ _ (by kernel_rfl) ?_ | refine hP _ _ (by kernel_rfl) (fun _ => ?_)); clear hQ hP Q)
      | refine GW_block ?_
      | refine GW_ret ?_
      | refine GW_skip ?_
      | refine GW_exit ?_
      | refine GW_goto ?_
      | refine GW_label ?_
      | simp only [blockG_exit]
      | (refine GW_cond (by simp; rfl) ?_ ?_ <;> (intro hb; first | (exfalso; exact absurd hb (by decide)) | skip)))
    refine ⟨.inr trivial, ?_⟩
    simp [Tryd.results4]
  have s1 := sg_p ha (by omega)
  by_cases hb0 : b < 0
  · have s2 := sg_n hbw hb0
    repeat' (first
      | refine GW_seq ?_
      | simp only [List.length_cons, List.length_nil, Nat.reduceAdd, Nat.reduceMul, thenG_normal, thenG_ret, thenG_exit, thenG_goto, thenG_panic, blockG_normal, blockG_ret, blockG_goto, blockG_panic, jumpG_normal, jumpG_ret, jumpG_exit, jumpG_panic]
      | (refine GW_region' [] (by kernel_rfl) ?_; intro Q hQ hP; simp [hC, hY, s1, s2]; (first | refine hQ _ _ _ _ ?_ | refine hP _ _ (fun _ => ?_)); clear hQ hP Q)
      | (refine GW_draw' [] follows (by kernel_rfl) (by kernel_rfl) ?_; intro Q hQ hP; simp [hC, hY, s1, s2]; (first | refine hQ _ _ _ _ (by kernel_rfl) ?_ | refine hP _ _ (by kernel_rfl) (fun _ => ?_)); clear hQ hP Q)
      | refine GW_block ?_
      | refine GW_ret ?_
      | refine GW_skip ?_
      | refine GW_exit ?_
      | refine GW_goto ?_
      | refine GW_label ?_
      | simp only [blockG_exit]
      | (refine GW_cond (by simp; rfl) ?_ ?_ <;> (intro hb; first | (exfalso; exact absurd hb (by decide)) | skip)))
    refine ⟨.inr trivial, ?_⟩
    simp [Tryd.results4]
  have s2 := sg_p hbw (by omega)
  by_cases hn0 : n < 0
  ·
    repeat' (first
      | refine GW_seq ?_
      | simp only [List.length_cons, List.length_nil, Nat.reduceAdd, Nat.reduceMul, thenG_normal, thenG_ret, thenG_exit, thenG_goto, thenG_panic, blockG_normal, blockG_ret, blockG_goto, blockG_panic, jumpG_normal, jumpG_ret, jumpG_exit, jumpG_panic]
      | (refine GW_region' [] (by kernel_rfl) ?_; intro Q hQ hP; simp [hC, hY, s1, s2, hn0]; (first | refine hQ _ _ _ _ ?_ | refine hP _ _ (fun _ => ?_)); clear hQ hP Q)
      | (refine GW_draw' [] follows (by kernel_rfl) (by kernel_rfl) ?_; intro Q hQ hP; simp [hC, hY, s1, s2, hn0]; (first | refine hQ _ _ _ _ (by kernel_rfl) ?_ | refine hP _ _ (by kernel_rfl) (fun _ => ?_)); clear hQ hP Q)
      | refine GW_block ?_
      | refine GW_ret ?_
      | refine GW_skip ?_
      | refine GW_exit ?_
      | refine GW_goto ?_
      | refine GW_label ?_
      | simp only [blockG_exit]
      | (refine GW_cond (by simp; rfl) ?_ ?_ <;> (intro hb; first | (exfalso; exact absurd hb (by decide)) | skip)))
    refine ⟨.inr trivial, ?_⟩
    simp [Tryd.results4]
  have hn1 : 0 ≤ n := by omega
  have ha1 : 0 ≤ a := by omega
  have hb1 : 0 ≤ b := by omega
  have hwn := i64_wr hn
  have szn : sz n = n := wr_sz hwn
  have hnn : n * n < 85070591730234615865843651857942052864 + 1 := by
    have h1 := hn.2
    have : n * n ≤ 9223372036854775808 * 9223372036854775808 := Int.mul_le_mul (by omega) (by omega) hn1 (by omega)
    omega
  have hnn0 : 0 ≤ n * n := Int.mul_nonneg hn1 hn1
  have hwnn : wr (n * n) := ⟨Int.le_trans (by decide) hnn0, Int.lt_trans hnn (by decide)⟩
  have hov : mulO n n = false := by unfold mulO; rw [szn]; simp only [decide_eq_false_iff_not, Classical.not_not]; exact hwnn
  have hr : isq (n * n) = n := isq_unique hn1 (Int.le_refl _) (by rw [Int.mul_add, Int.add_mul]; omega)
  obtain ⟨i0, i1, i2⟩ := isq_spec n hn1
  have hi : isq n < 3037000500 := sq_bd 3037000500 i0 (by decide) (by have := hn.2; omega)
  have b1 : ¬ isq n < 0 := by omega
  have b2 : ¬ 4294967296 < isq n := by omega
  have b3 : Int.bmod (isq n * isq n) 18446744073709551616 = isq n * isq n := bm (by have := Int.mul_nonneg i0 i0; omega) (by have := hn.2; omega)
  have b4 : ¬ n < isq n * isq n := by omega
  have b5 : Int.bmod (isq n + 1) 18446744073709551616 = isq n + 1 := bm (by omega) (by omega)
  have hc := cmp_prod (a := a) (b := b) (x := isq a) (y := isq b) (fun h => isq_mono ha1 (by omega)) (fun h => isq_mono hb1 (by omega))
  have sa := wr_sz ha
  have sb := wr_sz hbw
  rw [sa] at s1
  rw [sb] at s2
  have sx := wr_sz (isq_le a ha ha1).2
  have sy := wr_sz (isq_le b hbw hb1).2
  have c1 : Int.bmod (cmpI a b * cmpI (isq a) (isq b)) 18446744073709551616 = cmpI a b * cmpI (isq a) (isq b) := bm (by omega) (by omega)
  have c2 := hc.1
  by_cases hm : isq n = 3037000499
  · have b8 : ¬ n < 9223372030926249001 := by rw [hm] at b4; omega
    have b9 : -9223372036709301616 ≤ n := by omega
    repeat' (first
      | refine GW_seq ?_
      | simp only [List.length_cons, List.length_nil, Nat.reduceAdd, Nat.reduceMul, thenG_normal, thenG_ret, thenG_exit, thenG_goto, thenG_panic, blockG_normal, blockG_ret, blockG_goto, blockG_panic, jumpG_normal, jumpG_ret, jumpG_exit, jumpG_panic]
      | (refine GW_region' [] (by kernel_rfl) ?_; intro Q hQ hP; simp [hC, hY, s1, s2, hn0, hn1, ha1, hb1, ha, hbw, hn, hwn, hwnn, hnn0, szn, hov, hr, hm, b8, b9, sa, sb, sx, sy, c1, c2, b3, b4]; (first | refine hQ _ _ _ _ ?_ | refine hP _ _ (fun _ => ?_)); clear hQ hP Q)
      | (refine GW_draw' [] follows (by kernel_rfl) (by kernel_rfl) ?_; intro Q hQ hP; simp [hC, hY, s1, s2, hn0, hn1, ha1, hb1, ha, hbw, hn, hwn, hwnn, hnn0, szn, hov, hr, hm, b8, b9, sa, sb, sx, sy, c1, c2, b3, b4]; (first | refine hQ _ _ _ _ (by kernel_rfl) ?_ | refine hP _ _ (by kernel_rfl) (fun _ => ?_)); clear hQ hP Q)
      | refine GW_block ?_
      | refine GW_ret ?_
      | refine GW_skip ?_
      | refine GW_exit ?_
      | refine GW_goto ?_
      | refine GW_label ?_
      | simp only [blockG_exit]
      | (refine GW_cond (by simp; rfl) ?_ ?_ <;> (intro hb; first | (exfalso; exact absurd hb (by decide)) | skip)))
    refine ⟨.inr trivial, ?_⟩
    simp [Tryd.results4]
  · have h1 : isq n < 3037000499 := by omega
    have h2 : (isq n + 1) * (isq n + 1) ≤ 3037000499 * 3037000499 := Int.mul_le_mul (by omega) (by omega) (by omega) (by omega)
    have b6 : Int.bmod ((isq n + 1) * (isq n + 1)) 18446744073709551616 = (isq n + 1) * (isq n + 1) := bm (by omega) (by omega)
    have b7 : ¬ (isq n + 1) * (isq n + 1) ≤ n := by omega
    repeat' (first
      | refine GW_seq ?_
      | simp only [List.length_cons, List.length_nil, Nat.reduceAdd, Nat.reduceMul, thenG_normal, thenG_ret, thenG_exit, thenG_goto, thenG_panic, blockG_normal, blockG_ret, blockG_goto, blockG_panic, jumpG_normal, jumpG_ret, jumpG_exit, jumpG_panic]
      | (refine GW_region' [] (by kernel_rfl) ?_; intro Q hQ hP; simp [hC, hY, s1, s2, hn0, hn1, ha1, hb1, ha, hbw, hn, hwn, hwnn, hnn0, szn, hov, hr, b1, b2, b3, b4, b5, b6, b7, h1, sa, sb, sx, sy, c1, c2]; (first | refine hQ _ _ _ _ ?_ | refine hP _ _ (fun _ => ?_)); clear hQ hP Q)
      | (refine GW_draw' [] follows (by kernel_rfl) (by kernel_rfl) ?_; intro Q hQ hP; simp [hC, hY, s1, s2, hn0, hn1, ha1, hb1, ha, hbw, hn, hwn, hwnn, hnn0, szn, hov, hr, b1, b2, b3, b4, b5, b6, b7, h1, sa, sb, sx, sy, c1, c2]; (first | refine hQ _ _ _ _ (by kernel_rfl) ?_ | refine hP _ _ (by kernel_rfl) (fun _ => ?_)); clear hQ hP Q)
      | refine GW_block ?_
      | refine GW_ret ?_
      | refine GW_skip ?_
      | refine GW_exit ?_
      | refine GW_goto ?_
      | refine GW_label ?_
      | simp only [blockG_exit]
      | (refine GW_cond (by simp; rfl) ?_ ?_ <;> (intro hb; first | (exfalso; exact absurd hb (by decide)) | skip)))
    refine ⟨.inr trivial, ?_⟩
    simp [Tryd.results4]
end Go.Gy
