/-
  Laws of layer 12 (pull): PullFalls.
  Conditions: none.
-/
import Derived.Test.YtggidgaeggekhaaDoorGyUA
namespace Go.Gy
set_option linter.unusedSimpArgs false
set_option linter.unusedVariables false
open Go Go.RowKit Go.Proofs
theorem pmag_2m (n d g m x r : Int) : pmag n d g (2 * m) x r = pmag (2 * n) d g m x r := by
  unfold pmag
  have e : 2 * n * g * (2 * m) * x = 2 * (2 * n) * g * m * x := by ac_rfl
  rw [e]
theorem pmag_2g (n d g m x r : Int) : pmag n d (2 * g) m x r = pmag (2 * n) d g m x r := by
  unfold pmag
  have e : 2 * n * (2 * g) * m * x = 2 * (2 * n) * g * m * x := by ac_rfl
  rw [e]
theorem pullV_sg {n n' d d' g g' m m' x r : Int} (h : pmag n d g m x r = pmag n' d' g' m' x r) (hn : n < 0 ↔ n' < 0) : pullV n d g m x r = pullV n' d' g' m' x r := by
  unfold pullV
  rw [h]
  simp only [hn]
theorem quad (n g m x : Int) : 2 * (2 * n) * g * m * x * (2 * (2 * n) * g * m * x) = 4 * (2 * n * g * m * x * (2 * n * g * m * x)) := by
  have : (4 : Int) = 2 * 2 := rfl
  rw [this]
  ac_rfl
theorem pmag_2nd {n d g m x r : Int} (hd : 0 < d * d * r * r * r) : pmag (2 * n) (2 * d) g m x r = pmag n d g m x r := by
  unfold pmag
  have e2 : 2 * d * (2 * d) * r * r * r = 4 * (d * d * r * r * r) := by
    have : (4 : Int) = 2 * 2 := rfl
    rw [this]
    ac_rfl
  rw [quad, e2, Int.mul_ediv_mul_of_pos _ _ (by omega)]
theorem half_mono {a b : Int} (h0 : 0 ≤ a) (h : a ≤ b) : (isq a + 1) / 2 ≤ (isq b + 1) / 2 := by
  have := isq_mono h0 h
  omega
theorem pmag_2n_le {n d g m x r : Int} (hd : 0 < d * d * r * r * r) : pmag n d g m x r ≤ pmag (2 * n) d g m x r := by
  unfold pmag
  rw [quad]
  have hA := sq_nonneg (2 * n * g * m * x)
  refine half_mono (Int.ediv_nonneg hA (by omega)) (Int.ediv_le_ediv hd (by omega))
theorem pmag_2x_le {n d g m x r : Int} (hd : 0 < d * d * r * r * r) : pmag n d g m (2 * x) (4 * r) ≤ pmag n d g m x r := by
  unfold pmag
  have e1 : 2 * n * g * m * (2 * x) = 2 * (2 * n) * g * m * x := by ac_rfl
  have e2 : d * d * (4 * r) * (4 * r) * (4 * r) = 4 * (16 * (d * d * r * r * r)) := by
    have : (16 : Int) = 4 * 4 := rfl
    rw [this]
    ac_rfl
  rw [e1, quad, e2, Int.mul_ediv_mul_of_pos _ _ (by omega)]
  have hA := sq_nonneg (2 * n * g * m * x)
  generalize 2 * n * g * m * x * (2 * n * g * m * x) = A at *
  generalize d * d * r * r * r = B at *
  refine half_mono (Int.ediv_nonneg hA (by omega)) ?_
  have h1 : A / (16 * B) * (16 * B) ≤ A := Int.ediv_mul_le A (by omega)
  have h0 : 0 ≤ A / (16 * B) := Int.ediv_nonneg hA (by omega)
  rw [Int.le_ediv_iff_mul_le hd]
  have h2 : A / (16 * B) * B ≤ A / (16 * B) * (16 * B) := Int.mul_le_mul_of_nonneg_left (by omega) h0
  omega
theorem abs_pull {n d g m x r : Int} (h : PIn n d g m x r) : (if pullV n d g m x r < -pullV n d g m x r then -pullV n d g m x r else pullV n d g m x r) = pmag n d g m x r := by
  have := h.mag
  unfold pullV
  generalize pmag n d g m x r = M at *
  (repeat' split) <;> omega
theorem mx_lt (a b : Int) : (524288 < (if a < b then b else a)) = (524288 < a ∨ 524288 < b) := by
  apply propext; split <;> omega
theorem mx_box (a b : Int) : (1048576 < (if a < b then b else a)) = (1048576 < a ∨ 1048576 < b) := by
  apply propext; split <;> omega
theorem mn_box (a b : Int) : ((if b < a then b else a) < -1048576) = (a < -1048576 ∨ b < -1048576) := by
  apply propext; split <;> omega
set_option maxHeartbeats 16000000 in
set_option maxRecDepth 100000 in
theorem PullFalls_ret (n d g m x0 x1 x2 : Int) (hn : i64 n) (hd : i64 d) (hg : i64 g) (hm : i64 m) (hx0 : i64 x0) (hx1 : i64 x1) (hx2 : i64 x2) : Ret Tryd.prog G1 9 #[.int .i64 n, .int .i64 d, .int .i64 g, .int .i64 m, vv x0 x1 x2] (.bool true) := by
  refine ret_of G1F Tryd.func9 rfl Tryd.call9 rfl (by simp [vv]) (by simp [Tryd.ntmps9]) ?_
  intro C hC hC0 hY
  by_cases h : MayP n d g m x0 x1 x2
  rotate_left
  · skip
    repeat' (first
      | refine GW_seq ?_
      | simp only [List.length_cons, List.length_nil, Nat.reduceAdd, Nat.reduceMul, thenG_normal, thenG_ret, thenG_exit, thenG_goto, thenG_panic, blockG_normal, blockG_ret, blockG_goto, blockG_panic, jumpG_normal, jumpG_ret, jumpG_exit, jumpG_panic]
      | (refine GW_region' [] (by kernel_rfl) ?_; intro Q hQ hP; simp [hC, hY, vv, h]; (first | refine hQ _ _ _ _ ?_ | refine hP _ _ (fun _ => ?_)); clear hQ hP Q)
      | (refine GW_draw' [] follows (by kernel_rfl) (by kernel_rfl) ?_; intro Q hQ hP; simp [hC, hY, vv, h]; (first | refine hQ _ _ _ _ (by kernel_rfl) ?_ | refine hP _ _ (by kernel_rfl) (fun _ => ?_)); clear hQ hP Q)
      | refine GW_block ?_
      | refine GW_ret ?_
      | refine GW_skip ?_
      | refine GW_exit ?_
      | refine GW_goto ?_
      | refine GW_label ?_
      | simp only [blockG_exit]
      | (refine GW_cond (by simp; rfl) ?_ ?_ <;> (intro hb; first | (exfalso; exact absurd hb (by decide)) | skip)))
    refine ⟨.inr trivial, ?_⟩
    simp [Tryd.results9]
  have c3 : Int.bmod (-n) 18446744073709551616 = -n := bm (by have := h.n1; omega) (by have := h.n0; omega)
  by_cases f0 : 524288 < g
  · skip
    repeat' (first
      | refine GW_seq ?_
      | simp only [List.length_cons, List.length_nil, Nat.reduceAdd, Nat.reduceMul, thenG_normal, thenG_ret, thenG_exit, thenG_goto, thenG_panic, blockG_normal, blockG_ret, blockG_goto, blockG_panic, jumpG_normal, jumpG_ret, jumpG_exit, jumpG_panic]
      | (refine GW_region' [] (by kernel_rfl) ?_; intro Q hQ hP; simp [hC, hY, vv, h, c3, mx_lt, mx_box, mn_box, f0]; (first | refine hQ _ _ _ _ ?_ | refine hP _ _ (fun _ => ?_)); clear hQ hP Q)
      | (refine GW_draw' [] follows (by kernel_rfl) (by kernel_rfl) ?_; intro Q hQ hP; simp [hC, hY, vv, h, c3, mx_lt, mx_box, mn_box, f0]; (first | refine hQ _ _ _ _ (by kernel_rfl) ?_ | refine hP _ _ (by kernel_rfl) (fun _ => ?_)); clear hQ hP Q)
      | refine GW_block ?_
      | refine GW_ret ?_
      | refine GW_skip ?_
      | refine GW_exit ?_
      | refine GW_goto ?_
      | refine GW_label ?_
      | simp only [blockG_exit]
      | (refine GW_cond (by simp; rfl) ?_ ?_ <;> (intro hb; first | (exfalso; exact absurd hb (by decide)) | skip)))
    refine ⟨.inr trivial, ?_⟩
    simp [Tryd.results9]
  by_cases f1 : 524288 < m
  · skip
    repeat' (first
      | refine GW_seq ?_
      | simp only [List.length_cons, List.length_nil, Nat.reduceAdd, Nat.reduceMul, thenG_normal, thenG_ret, thenG_exit, thenG_goto, thenG_panic, blockG_normal, blockG_ret, blockG_goto, blockG_panic, jumpG_normal, jumpG_ret, jumpG_exit, jumpG_panic]
      | (refine GW_region' [] (by kernel_rfl) ?_; intro Q hQ hP; simp [hC, hY, vv, h, c3, mx_lt, mx_box, mn_box, f0, f1]; (first | refine hQ _ _ _ _ ?_ | refine hP _ _ (fun _ => ?_)); clear hQ hP Q)
      | (refine GW_draw' [] follows (by kernel_rfl) (by kernel_rfl) ?_; intro Q hQ hP; simp [hC, hY, vv, h, c3, mx_lt, mx_box, mn_box, f0, f1]; (first | refine hQ _ _ _ _ (by kernel_rfl) ?_ | refine hP _ _ (by kernel_rfl) (fun _ => ?_)); clear hQ hP Q)
      | refine GW_block ?_
      | refine GW_ret ?_
      | refine GW_skip ?_
      | refine GW_exit ?_
      | refine GW_goto ?_
      | refine GW_label ?_
      | simp only [blockG_exit]
      | (refine GW_cond (by simp; rfl) ?_ ?_ <;> (intro hb; first | (exfalso; exact absurd hb (by decide)) | skip)))
    refine ⟨.inr trivial, ?_⟩
    simp [Tryd.results9]
  by_cases f2 : 524288 < n
  · skip
    repeat' (first
      | refine GW_seq ?_
      | simp only [List.length_cons, List.length_nil, Nat.reduceAdd, Nat.reduceMul, thenG_normal, thenG_ret, thenG_exit, thenG_goto, thenG_panic, blockG_normal, blockG_ret, blockG_goto, blockG_panic, jumpG_normal, jumpG_ret, jumpG_exit, jumpG_panic]
      | (refine GW_region' [] (by kernel_rfl) ?_; intro Q hQ hP; simp [hC, hY, vv, h, c3, mx_lt, mx_box, mn_box, f0, f1, f2]; (first | refine hQ _ _ _ _ ?_ | refine hP _ _ (fun _ => ?_)); clear hQ hP Q)
      | (refine GW_draw' [] follows (by kernel_rfl) (by kernel_rfl) ?_; intro Q hQ hP; simp [hC, hY, vv, h, c3, mx_lt, mx_box, mn_box, f0, f1, f2]; (first | refine hQ _ _ _ _ (by kernel_rfl) ?_ | refine hP _ _ (by kernel_rfl) (fun _ => ?_)); clear hQ hP Q)
      | refine GW_block ?_
      | refine GW_ret ?_
      | refine GW_skip ?_
      | refine GW_exit ?_
      | refine GW_goto ?_
      | refine GW_label ?_
      | simp only [blockG_exit]
      | (refine GW_cond (by simp; rfl) ?_ ?_ <;> (intro hb; first | (exfalso; exact absurd hb (by decide)) | skip)))
    refine ⟨.inr trivial, ?_⟩
    simp [Tryd.results9]
  by_cases f3 : 524288 < -n
  · skip
    repeat' (first
      | refine GW_seq ?_
      | simp only [List.length_cons, List.length_nil, Nat.reduceAdd, Nat.reduceMul, thenG_normal, thenG_ret, thenG_exit, thenG_goto, thenG_panic, blockG_normal, blockG_ret, blockG_goto, blockG_panic, jumpG_normal, jumpG_ret, jumpG_exit, jumpG_panic]
      | (refine GW_region' [] (by kernel_rfl) ?_; intro Q hQ hP; simp [hC, hY, vv, h, c3, mx_lt, mx_box, mn_box, f0, f1, f2, f3]; (first | refine hQ _ _ _ _ ?_ | refine hP _ _ (fun _ => ?_)); clear hQ hP Q)
      | (refine GW_draw' [] follows (by kernel_rfl) (by kernel_rfl) ?_; intro Q hQ hP; simp [hC, hY, vv, h, c3, mx_lt, mx_box, mn_box, f0, f1, f2, f3]; (first | refine hQ _ _ _ _ (by kernel_rfl) ?_ | refine hP _ _ (by kernel_rfl) (fun _ => ?_)); clear hQ hP Q)
      | refine GW_block ?_
      | refine GW_ret ?_
      | refine GW_skip ?_
      | refine GW_exit ?_
      | refine GW_goto ?_
      | refine GW_label ?_
      | simp only [blockG_exit]
      | (refine GW_cond (by simp; rfl) ?_ ?_ <;> (intro hb; first | (exfalso; exact absurd hb (by decide)) | skip)))
    refine ⟨.inr trivial, ?_⟩
    simp [Tryd.results9]
  by_cases f4 : 524288 < d
  · skip
    repeat' (first
      | refine GW_seq ?_
      | simp only [List.length_cons, List.length_nil, Nat.reduceAdd, Nat.reduceMul, thenG_normal, thenG_ret, thenG_exit, thenG_goto, thenG_panic, blockG_normal, blockG_ret, blockG_goto, blockG_panic, jumpG_normal, jumpG_ret, jumpG_exit, jumpG_panic]
      | (refine GW_region' [] (by kernel_rfl) ?_; intro Q hQ hP; simp [hC, hY, vv, h, c3, mx_lt, mx_box, mn_box, f0, f1, f2, f3, f4]; (first | refine hQ _ _ _ _ ?_ | refine hP _ _ (fun _ => ?_)); clear hQ hP Q)
      | (refine GW_draw' [] follows (by kernel_rfl) (by kernel_rfl) ?_; intro Q hQ hP; simp [hC, hY, vv, h, c3, mx_lt, mx_box, mn_box, f0, f1, f2, f3, f4]; (first | refine hQ _ _ _ _ (by kernel_rfl) ?_ | refine hP _ _ (by kernel_rfl) (fun _ => ?_)); clear hQ hP Q)
      | refine GW_block ?_
      | refine GW_ret ?_
      | refine GW_skip ?_
      | refine GW_exit ?_
      | refine GW_goto ?_
      | refine GW_label ?_
      | simp only [blockG_exit]
      | (refine GW_cond (by simp; rfl) ?_ ?_ <;> (intro hb; first | (exfalso; exact absurd hb (by decide)) | skip)))
    refine ⟨.inr trivial, ?_⟩
    simp [Tryd.results9]
  by_cases f5 : 512 < m
  · skip
    repeat' (first
      | refine GW_seq ?_
      | simp only [List.length_cons, List.length_nil, Nat.reduceAdd, Nat.reduceMul, thenG_normal, thenG_ret, thenG_exit, thenG_goto, thenG_panic, blockG_normal, blockG_ret, blockG_goto, blockG_panic, jumpG_normal, jumpG_ret, jumpG_exit, jumpG_panic]
      | (refine GW_region' [] (by kernel_rfl) ?_; intro Q hQ hP; simp [hC, hY, vv, h, c3, mx_lt, mx_box, mn_box, f0, f1, f2, f3, f4, f5]; (first | refine hQ _ _ _ _ ?_ | refine hP _ _ (fun _ => ?_)); clear hQ hP Q)
      | (refine GW_draw' [] follows (by kernel_rfl) (by kernel_rfl) ?_; intro Q hQ hP; simp [hC, hY, vv, h, c3, mx_lt, mx_box, mn_box, f0, f1, f2, f3, f4, f5]; (first | refine hQ _ _ _ _ (by kernel_rfl) ?_ | refine hP _ _ (by kernel_rfl) (fun _ => ?_)); clear hQ hP Q)
      | refine GW_block ?_
      | refine GW_ret ?_
      | refine GW_skip ?_
      | refine GW_exit ?_
      | refine GW_goto ?_
      | refine GW_label ?_
      | simp only [blockG_exit]
      | (refine GW_cond (by simp; rfl) ?_ ?_ <;> (intro hb; first | (exfalso; exact absurd hb (by decide)) | skip)))
    refine ⟨.inr trivial, ?_⟩
    simp [Tryd.results9]
  by_cases f6 : 1048576 < x0
  · skip
    repeat' (first
      | refine GW_seq ?_
      | simp only [List.length_cons, List.length_nil, Nat.reduceAdd, Nat.reduceMul, thenG_normal, thenG_ret, thenG_exit, thenG_goto, thenG_panic, blockG_normal, blockG_ret, blockG_goto, blockG_panic, jumpG_normal, jumpG_ret, jumpG_exit, jumpG_panic]
      | (refine GW_region' [] (by kernel_rfl) ?_; intro Q hQ hP; simp [hC, hY, vv, h, c3, mx_lt, mx_box, mn_box, f0, f1, f2, f3, f4, f5, f6]; (first | refine hQ _ _ _ _ ?_ | refine hP _ _ (fun _ => ?_)); clear hQ hP Q)
      | (refine GW_draw' [] follows (by kernel_rfl) (by kernel_rfl) ?_; intro Q hQ hP; simp [hC, hY, vv, h, c3, mx_lt, mx_box, mn_box, f0, f1, f2, f3, f4, f5, f6]; (first | refine hQ _ _ _ _ (by kernel_rfl) ?_ | refine hP _ _ (by kernel_rfl) (fun _ => ?_)); clear hQ hP Q)
      | refine GW_block ?_
      | refine GW_ret ?_
      | refine GW_skip ?_
      | refine GW_exit ?_
      | refine GW_goto ?_
      | refine GW_label ?_
      | simp only [blockG_exit]
      | (refine GW_cond (by simp; rfl) ?_ ?_ <;> (intro hb; first | (exfalso; exact absurd hb (by decide)) | skip)))
    refine ⟨.inr trivial, ?_⟩
    simp [Tryd.results9]
  by_cases f7 : 1048576 < x1
  · skip
    repeat' (first
      | refine GW_seq ?_
      | simp only [List.length_cons, List.length_nil, Nat.reduceAdd, Nat.reduceMul, thenG_normal, thenG_ret, thenG_exit, thenG_goto, thenG_panic, blockG_normal, blockG_ret, blockG_goto, blockG_panic, jumpG_normal, jumpG_ret, jumpG_exit, jumpG_panic]
      | (refine GW_region' [] (by kernel_rfl) ?_; intro Q hQ hP; simp [hC, hY, vv, h, c3, mx_lt, mx_box, mn_box, f0, f1, f2, f3, f4, f5, f6, f7]; (first | refine hQ _ _ _ _ ?_ | refine hP _ _ (fun _ => ?_)); clear hQ hP Q)
      | (refine GW_draw' [] follows (by kernel_rfl) (by kernel_rfl) ?_; intro Q hQ hP; simp [hC, hY, vv, h, c3, mx_lt, mx_box, mn_box, f0, f1, f2, f3, f4, f5, f6, f7]; (first | refine hQ _ _ _ _ (by kernel_rfl) ?_ | refine hP _ _ (by kernel_rfl) (fun _ => ?_)); clear hQ hP Q)
      | refine GW_block ?_
      | refine GW_ret ?_
      | refine GW_skip ?_
      | refine GW_exit ?_
      | refine GW_goto ?_
      | refine GW_label ?_
      | simp only [blockG_exit]
      | (refine GW_cond (by simp; rfl) ?_ ?_ <;> (intro hb; first | (exfalso; exact absurd hb (by decide)) | skip)))
    refine ⟨.inr trivial, ?_⟩
    simp [Tryd.results9]
  by_cases f8 : 1048576 < x2
  · skip
    repeat' (first
      | refine GW_seq ?_
      | simp only [List.length_cons, List.length_nil, Nat.reduceAdd, Nat.reduceMul, thenG_normal, thenG_ret, thenG_exit, thenG_goto, thenG_panic, blockG_normal, blockG_ret, blockG_goto, blockG_panic, jumpG_normal, jumpG_ret, jumpG_exit, jumpG_panic]
      | (refine GW_region' [] (by kernel_rfl) ?_; intro Q hQ hP; simp [hC, hY, vv, h, c3, mx_lt, mx_box, mn_box, f0, f1, f2, f3, f4, f5, f6, f7, f8]; (first | refine hQ _ _ _ _ ?_ | refine hP _ _ (fun _ => ?_)); clear hQ hP Q)
      | (refine GW_draw' [] follows (by kernel_rfl) (by kernel_rfl) ?_; intro Q hQ hP; simp [hC, hY, vv, h, c3, mx_lt, mx_box, mn_box, f0, f1, f2, f3, f4, f5, f6, f7, f8]; (first | refine hQ _ _ _ _ (by kernel_rfl) ?_ | refine hP _ _ (by kernel_rfl) (fun _ => ?_)); clear hQ hP Q)
      | refine GW_block ?_
      | refine GW_ret ?_
      | refine GW_skip ?_
      | refine GW_exit ?_
      | refine GW_goto ?_
      | refine GW_label ?_
      | simp only [blockG_exit]
      | (refine GW_cond (by simp; rfl) ?_ ?_ <;> (intro hb; first | (exfalso; exact absurd hb (by decide)) | skip)))
    refine ⟨.inr trivial, ?_⟩
    simp [Tryd.results9]
  by_cases f9 : x0 < -1048576
  · skip
    repeat' (first
      | refine GW_seq ?_
      | simp only [List.length_cons, List.length_nil, Nat.reduceAdd, Nat.reduceMul, thenG_normal, thenG_ret, thenG_exit, thenG_goto, thenG_panic, blockG_normal, blockG_ret, blockG_goto, blockG_panic, jumpG_normal, jumpG_ret, jumpG_exit, jumpG_panic]
      | (refine GW_region' [] (by kernel_rfl) ?_; intro Q hQ hP; simp [hC, hY, vv, h, c3, mx_lt, mx_box, mn_box, f0, f1, f2, f3, f4, f5, f6, f7, f8, f9]; (first | refine hQ _ _ _ _ ?_ | refine hP _ _ (fun _ => ?_)); clear hQ hP Q)
      | (refine GW_draw' [] follows (by kernel_rfl) (by kernel_rfl) ?_; intro Q hQ hP; simp [hC, hY, vv, h, c3, mx_lt, mx_box, mn_box, f0, f1, f2, f3, f4, f5, f6, f7, f8, f9]; (first | refine hQ _ _ _ _ (by kernel_rfl) ?_ | refine hP _ _ (by kernel_rfl) (fun _ => ?_)); clear hQ hP Q)
      | refine GW_block ?_
      | refine GW_ret ?_
      | refine GW_skip ?_
      | refine GW_exit ?_
      | refine GW_goto ?_
      | refine GW_label ?_
      | simp only [blockG_exit]
      | (refine GW_cond (by simp; rfl) ?_ ?_ <;> (intro hb; first | (exfalso; exact absurd hb (by decide)) | skip)))
    refine ⟨.inr trivial, ?_⟩
    simp [Tryd.results9]
  by_cases f10 : x1 < -1048576
  · skip
    repeat' (first
      | refine GW_seq ?_
      | simp only [List.length_cons, List.length_nil, Nat.reduceAdd, Nat.reduceMul, thenG_normal, thenG_ret, thenG_exit, thenG_goto, thenG_panic, blockG_normal, blockG_ret, blockG_goto, blockG_panic, jumpG_normal, jumpG_ret, jumpG_exit, jumpG_panic]
      | (refine GW_region' [] (by kernel_rfl) ?_; intro Q hQ hP; simp [hC, hY, vv, h, c3, mx_lt, mx_box, mn_box, f0, f1, f2, f3, f4, f5, f6, f7, f8, f9, f10]; (first | refine hQ _ _ _ _ ?_ | refine hP _ _ (fun _ => ?_)); clear hQ hP Q)
      | (refine GW_draw' [] follows (by kernel_rfl) (by kernel_rfl) ?_; intro Q hQ hP; simp [hC, hY, vv, h, c3, mx_lt, mx_box, mn_box, f0, f1, f2, f3, f4, f5, f6, f7, f8, f9, f10]; (first | refine hQ _ _ _ _ (by kernel_rfl) ?_ | refine hP _ _ (by kernel_rfl) (fun _ => ?_)); clear hQ hP Q)
      | refine GW_block ?_
      | refine GW_ret ?_
      | refine GW_skip ?_
      | refine GW_exit ?_
      | refine GW_goto ?_
      | refine GW_label ?_
      | simp only [blockG_exit]
      | (refine GW_cond (by simp; rfl) ?_ ?_ <;> (intro hb; first | (exfalso; exact absurd hb (by decide)) | skip)))
    refine ⟨.inr trivial, ?_⟩
    simp [Tryd.results9]
  by_cases f11 : x2 < -1048576
  · skip
    repeat' (first
      | refine GW_seq ?_
      | simp only [List.length_cons, List.length_nil, Nat.reduceAdd, Nat.reduceMul, thenG_normal, thenG_ret, thenG_exit, thenG_goto, thenG_panic, blockG_normal, blockG_ret, blockG_goto, blockG_panic, jumpG_normal, jumpG_ret, jumpG_exit, jumpG_panic]
      | (refine GW_region' [] (by kernel_rfl) ?_; intro Q hQ hP; simp [hC, hY, vv, h, c3, mx_lt, mx_box, mn_box, f0, f1, f2, f3, f4, f5, f6, f7, f8, f9, f10, f11]; (first | refine hQ _ _ _ _ ?_ | refine hP _ _ (fun _ => ?_)); clear hQ hP Q)
      | (refine GW_draw' [] follows (by kernel_rfl) (by kernel_rfl) ?_; intro Q hQ hP; simp [hC, hY, vv, h, c3, mx_lt, mx_box, mn_box, f0, f1, f2, f3, f4, f5, f6, f7, f8, f9, f10, f11]; (first | refine hQ _ _ _ _ (by kernel_rfl) ?_ | refine hP _ _ (by kernel_rfl) (fun _ => ?_)); clear hQ hP Q)
      | refine GW_block ?_
      | refine GW_ret ?_
      | refine GW_skip ?_
      | refine GW_exit ?_
      | refine GW_goto ?_
      | refine GW_label ?_
      | simp only [blockG_exit]
      | (refine GW_cond (by simp; rfl) ?_ ?_ <;> (intro hb; first | (exfalso; exact absurd hb (by decide)) | skip)))
    refine ⟨.inr trivial, ?_⟩
    simp [Tryd.results9]
  have hp := h.pin
  have hn0 := h.n0
  have hd0 := h.d0
  have hg0 := h.g0
  have hm0 := h.m0
  have ha : MayP n d g m (2 * x0) (2 * x1) (2 * x2) := ⟨⟨by omega, by omega⟩, ⟨by omega, by omega⟩, ⟨by omega, by omega⟩, by have := h.far; omega, h.n0, h.n1, h.d0, h.d1, h.g0, h.g1, h.m0, h.m1⟩
  have hb : MayP n d g (2 * m) x0 x1 x2 := ⟨h.i0, h.i1, h.i2, h.far, h.n0, h.n1, h.d0, h.d1, h.g0, h.g1, by omega, by omega⟩
  have hc : MayP n d (2 * g) m x0 x1 x2 := ⟨h.i0, h.i1, h.i2, h.far, h.n0, h.n1, h.d0, h.d1, by omega, by omega, h.m0, h.m1⟩
  have hx : MayP (2 * n) (2 * d) g m x0 x1 x2 := ⟨h.i0, h.i1, h.i2, h.far, by omega, by omega, by omega, by omega, h.g0, h.g1, h.m0, h.m1⟩
  have hy : MayP (2 * n) d g m x0 x1 x2 := ⟨h.i0, h.i1, h.i2, h.far, by omega, by omega, h.d0, h.d1, h.g0, h.g1, h.m0, h.m1⟩
  have pa := ha.pin
  have py := hy.pin
  have er : 2 * x0 * (2 * x0) + 2 * x1 * (2 * x1) + 2 * x2 * (2 * x2) = 4 * (x0 * x0 + x1 * x1 + x2 * x2) := by
    have e : ∀ x : Int, 2 * x * (2 * x) = 4 * (x * x) := fun x => by
      have : (4 : Int) = 2 * 2 := rfl
      rw [this]; ac_rfl
    rw [e, e, e]; omega
  rw [er] at pa
  obtain ⟨r, hr⟩ : ∃ r, x0 * x0 + x1 * x1 + x2 * x2 = r := ⟨_, rfl⟩
  rw [hr] at hp pa py er
  have sgn : n < 0 ↔ 2 * n < 0 := by omega
  have bp : ∀ x, PIn n d g m x r → 0 < d * d * r * r * r := fun x hh => by have := hh.q4.1; have := hh.r0; omega
  have hB := bp _ hp.1
  have le1 : ∀ x, PIn n d g m x r → PIn n d g m (2 * x) (4 * r) → ¬ (if pullV n d g m x r < -pullV n d g m x r then -pullV n d g m x r else pullV n d g m x r) < (if pullV n d g m (2 * x) (4 * r) < -pullV n d g m (2 * x) (4 * r) then -pullV n d g m (2 * x) (4 * r) else pullV n d g m (2 * x) (4 * r)) := fun x h1 h2 => by
    rw [abs_pull h1, abs_pull h2]; have := pmag_2x_le (n := n) (g := g) (m := m) (x := x) hB; omega
  have le2 : ∀ x, PIn n d g m x r → PIn (2 * n) d g m x r → ¬ (if pullV (2 * n) d g m x r < -pullV (2 * n) d g m x r then -pullV (2 * n) d g m x r else pullV (2 * n) d g m x r) < (if pullV n d g m x r < -pullV n d g m x r then -pullV n d g m x r else pullV n d g m x r) := fun x h1 h2 => by
    rw [abs_pull h1, abs_pull h2]; have := pmag_2n_le (n := n) (g := g) (m := m) (x := x) hB; omega
  have u0 := le1 x0 hp.1 pa.1
  have z0 := le2 x0 hp.1 py.1
  have v0 := hp.1.val
  have q0 := pa.1.val
  have s0 := py.1.val
  have u1 := le1 x1 hp.2.1 pa.2.1
  have z1 := le2 x1 hp.2.1 py.2.1
  have v1 := hp.2.1.val
  have q1 := pa.2.1.val
  have s1 := py.2.1.val
  have u2 := le1 x2 hp.2.2 pa.2.2
  have z2 := le2 x2 hp.2.2 py.2.2
  have v2 := hp.2.2.val
  have q2 := pa.2.2.val
  have s2 := py.2.2.val
  have eb0 : pullV n d g (2 * m) x0 r = pullV (2 * n) d g m x0 r := pullV_sg (pmag_2m _ _ _ _ _ _) sgn
  have ec0 : pullV n d (2 * g) m x0 r = pullV (2 * n) d g m x0 r := pullV_sg (pmag_2g _ _ _ _ _ _) sgn
  have ex0 : pullV (2 * n) (2 * d) g m x0 r = pullV n d g m x0 r := pullV_sg (pmag_2nd hB) sgn.symm
  have eb1 : pullV n d g (2 * m) x1 r = pullV (2 * n) d g m x1 r := pullV_sg (pmag_2m _ _ _ _ _ _) sgn
  have ec1 : pullV n d (2 * g) m x1 r = pullV (2 * n) d g m x1 r := pullV_sg (pmag_2g _ _ _ _ _ _) sgn
  have ex1 : pullV (2 * n) (2 * d) g m x1 r = pullV n d g m x1 r := pullV_sg (pmag_2nd hB) sgn.symm
  have eb2 : pullV n d g (2 * m) x2 r = pullV (2 * n) d g m x2 r := pullV_sg (pmag_2m _ _ _ _ _ _) sgn
  have ec2 : pullV n d (2 * g) m x2 r = pullV (2 * n) d g m x2 r := pullV_sg (pmag_2g _ _ _ _ _ _) sgn
  have ex2 : pullV (2 * n) (2 * d) g m x2 r = pullV n d g m x2 r := pullV_sg (pmag_2nd hB) sgn.symm
  obtain ⟨P0, eP0⟩ : ∃ p, pullV n d g m x0 r = p := ⟨_, rfl⟩
  obtain ⟨Q0, eQ0⟩ : ∃ p, pullV n d g m (2 * x0) (4 * r) = p := ⟨_, rfl⟩
  obtain ⟨S0, eS0⟩ : ∃ p, pullV (2 * n) d g m x0 r = p := ⟨_, rfl⟩
  rw [eP0] at v0 u0 z0 ex0
  rw [eQ0] at q0 u0
  rw [eS0] at s0 z0 eb0 ec0
  obtain ⟨P1, eP1⟩ : ∃ p, pullV n d g m x1 r = p := ⟨_, rfl⟩
  obtain ⟨Q1, eQ1⟩ : ∃ p, pullV n d g m (2 * x1) (4 * r) = p := ⟨_, rfl⟩
  obtain ⟨S1, eS1⟩ : ∃ p, pullV (2 * n) d g m x1 r = p := ⟨_, rfl⟩
  rw [eP1] at v1 u1 z1 ex1
  rw [eQ1] at q1 u1
  rw [eS1] at s1 z1 eb1 ec1
  obtain ⟨P2, eP2⟩ : ∃ p, pullV n d g m x2 r = p := ⟨_, rfl⟩
  obtain ⟨Q2, eQ2⟩ : ∃ p, pullV n d g m (2 * x2) (4 * r) = p := ⟨_, rfl⟩
  obtain ⟨S2, eS2⟩ : ∃ p, pullV (2 * n) d g m x2 r = p := ⟨_, rfl⟩
  rw [eP2] at v2 u2 z2 ex2
  rw [eQ2] at q2 u2
  rw [eS2] at s2 z2 eb2 ec2
  have w1 := h.at hr eP0 eP1 eP2
  have w2 := ha.at (r := 4 * r) er eQ0 eQ1 eQ2
  have w3 := hb.at hr eb0 eb1 eb2
  have w4 := hc.at hr ec0 ec1 ec2
  have w5 := hx.at hr ex0 ex1 ex2
  have w6 := hy.at hr eS0 eS1 eS2
  have k0 : Int.bmod (2 * x0) 18446744073709551616 = 2 * x0 := bm (by omega) (by omega)
  have k1 : Int.bmod (2 * x1) 18446744073709551616 = 2 * x1 := bm (by omega) (by omega)
  have k2 : Int.bmod (2 * x2) 18446744073709551616 = 2 * x2 := bm (by omega) (by omega)
  have k3 : Int.bmod (2 * m) 18446744073709551616 = 2 * m := bm (by omega) (by omega)
  have k4 : Int.bmod (2 * g) 18446744073709551616 = 2 * g := bm (by omega) (by omega)
  have k5 : Int.bmod (2 * n) 18446744073709551616 = 2 * n := bm (by omega) (by omega)
  have k6 : Int.bmod (2 * d) 18446744073709551616 = 2 * d := bm (by omega) (by omega)
  have l0 : Int.bmod (-P0) 18446744073709551616 = -P0 := bm (by omega) (by omega)
  have l1 : Int.bmod (-P1) 18446744073709551616 = -P1 := bm (by omega) (by omega)
  have l2 : Int.bmod (-P2) 18446744073709551616 = -P2 := bm (by omega) (by omega)
  have m0 : Int.bmod (-Q0) 18446744073709551616 = -Q0 := bm (by omega) (by omega)
  have m1 : Int.bmod (-Q1) 18446744073709551616 = -Q1 := bm (by omega) (by omega)
  have m2 : Int.bmod (-Q2) 18446744073709551616 = -Q2 := bm (by omega) (by omega)
  have n0 : Int.bmod (-S0) 18446744073709551616 = -S0 := bm (by omega) (by omega)
  have n1 : Int.bmod (-S1) 18446744073709551616 = -S1 := bm (by omega) (by omega)
  have n2 : Int.bmod (-S2) 18446744073709551616 = -S2 := bm (by omega) (by omega)
  repeat' (first
    | refine GW_seq ?_
    | refine GWL_start ?_
    | refine GWL_step ?_
    | simp only [List.length_cons, List.length_nil, Nat.reduceAdd, Nat.reduceMul, thenG_normal, thenG_ret, thenG_exit, thenG_goto, thenG_panic, blockG_normal, blockG_ret, blockG_goto, blockG_panic, jumpG_normal, jumpG_ret, jumpG_exit, jumpG_panic]
    | (refine GW_region' [] (by kernel_rfl) ?_; intro Q hQ hP; simp [hC, hY, vv, h, c3, mx_lt, mx_box, mn_box, f0, f1, f2, f3, f4, f5, f6, f7, f8, f9, f10, f11, w1, w2, w3, w4, w5, w6, k0, k1, k2, k3, k4, k5, k6, l0, l1, l2, m0, m1, m2, n0, n1, n2, u0, u1, u2, z0, z1, z2]; (first | refine hQ _ _ _ _ ?_ | refine hP _ _ (fun _ => ?_)); clear hQ hP Q)
    | (refine GW_draw' [] follows (by kernel_rfl) (by kernel_rfl) ?_; intro Q hQ hP; simp [hC, hY, vv, h, c3, mx_lt, mx_box, mn_box, f0, f1, f2, f3, f4, f5, f6, f7, f8, f9, f10, f11, w1, w2, w3, w4, w5, w6, k0, k1, k2, k3, k4, k5, k6, l0, l1, l2, m0, m1, m2, n0, n1, n2, u0, u1, u2, z0, z1, z2]; (first | refine hQ _ _ _ _ (by kernel_rfl) ?_ | refine hP _ _ (by kernel_rfl) (fun _ => ?_)); clear hQ hP Q)
    | refine GW_block ?_
    | refine GW_ret ?_
    | refine GW_skip ?_
    | refine GW_exit ?_
    | refine GW_goto ?_
    | refine GW_label ?_
    | simp only [blockG_exit]
    | (refine GW_cond (by simp; rfl) ?_ ?_ <;> (intro hb; first | (exfalso; exact absurd hb (by decide)) | skip)))
  refine ⟨.inr trivial, ?_⟩
  simp [Tryd.results9]
end Go.Gy
