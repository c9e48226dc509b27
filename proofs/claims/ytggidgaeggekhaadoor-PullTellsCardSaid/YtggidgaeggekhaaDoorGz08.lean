/-
  Lemmas of this claim, in their order (GyU9, GyUA, GyUG, GyUI, GyUJ, GyUK).
  Conditions: those of each theorem.
-/
import Derived.Test.YtggidgaeggekhaaDoorGz07
namespace Go.Gy
set_option linter.unusedSimpArgs false
set_option linter.unusedVariables false
open Go Go.RowKit Go.Proofs
@[simp] theorem ppull (n d g m x0 x1 x2 : Int) (h0 : inB x0) (h1 : inB x1) (h2 : inB x2) (k0 : PIn n d g m x0 (x0 * x0 + x1 * x1 + x2 * x2)) (k1 : PIn n d g m x1 (x0 * x0 + x1 * x1 + x2 * x2)) (k2 : PIn n d g m x2 (x0 * x0 + x1 * x1 + x2 * x2)) (K : Value → Prop) :
    callK Tryd.prog G1 33 #[.int .i64 n, .int .i64 d, .int .i64 g, .int .i64 m, .agg #[.int .i64 x0, .int .i64 x1, .int .i64 x2]] K ↔ K (.tuple #[.agg #[.int .i64 (pullV n d g m x0 (x0 * x0 + x1 * x1 + x2 * x2)), .int .i64 (pullV n d g m x1 (x0 * x0 + x1 * x1 + x2 * x2)), .int .i64 (pullV n d g m x2 (x0 * x0 + x1 * x1 + x2 * x2))], .int .i64 0]) :=
  callK_iff G1W (by kernel_rfl) (ppull_ok n d g m x0 x1 x2 h0 h1 h2 k0 k1 k2)
theorem pull_at {n d g m x0 x1 x2 p0 p1 p2 : Int} {r : Int} (hr : x0 * x0 + x1 * x1 + x2 * x2 = r) (h0 : inB x0) (h1 : inB x1) (h2 : inB x2) (k0 : PIn n d g m x0 r) (k1 : PIn n d g m x1 r) (k2 : PIn n d g m x2 r)
    (e0 : pullV n d g m x0 r = p0) (e1 : pullV n d g m x1 r = p1) (e2 : pullV n d g m x2 r = p2) (K : Value → Prop) :
    callK Tryd.prog G1 33 #[.int .i64 n, .int .i64 d, .int .i64 g, .int .i64 m, .agg #[.int .i64 x0, .int .i64 x1, .int .i64 x2]] K ↔ K (.tuple #[.agg #[.int .i64 p0, .int .i64 p1, .int .i64 p2], .int .i64 0]) := by
  subst hr e0 e1 e2
  exact ppull n d g m x0 x1 x2 h0 h1 h2 k0 k1 k2 K
theorem pull_err {n d g m x0 x1 x2 e : Int} (h0 : inB x0) (h1 : inB x1) (h2 : inB x2) (he : chkE n d g m x0 (x0 * x0 + x1 * x1 + x2 * x2) = e) (hn : e ≠ 0) (K : Value → Prop) :
    callK Tryd.prog G1 33 #[.int .i64 n, .int .i64 d, .int .i64 g, .int .i64 m, .agg #[.int .i64 x0, .int .i64 x1, .int .i64 x2]] K ↔ K (.tuple #[.agg #[.int .i64 0, .int .i64 0, .int .i64 0], .int .i64 e]) := by
  subst he
  exact callK_iff G1W (by kernel_rfl) (ppull_bad1 n d g m x0 x1 x2 h0 h1 h2 hn)
theorem by_at {n d g m r : Int} {b : Bool} (h : PIn n d g m 0 r) (e : decide (2 * n * g * m * (2 * n * g * m) < d * r * (d * r)) = b) (K : Value → Prop) :
    callK Tryd.prog G1 36 #[.int .i64 n, .int .i64 d, .int .i64 g, .int .i64 m, .int .i64 r] K ↔ K (.bool b) := by
  subst e
  exact callK_iff G1W (by kernel_rfl) (pby_ret n d g m r h)
theorem pmag_0 (n d g m r : Int) : pmag n d g m 0 r = 0 := by
  unfold pmag
  rw [Int.mul_zero, Int.zero_mul, Int.zero_ediv, isq_unique (r := 0) (by decide) (by decide) (by decide)]
  decide
theorem pullV_0 (n d g m r : Int) : pullV n d g m 0 r = 0 := by
  unfold pullV
  rw [pmag_0]
  split <;> split <;> rfl
theorem pmag_eq {n d g m x r q : Int} (h0 : 0 ≤ q) (h1 : q * q ≤ 2 * n * g * m * x * (2 * n * g * m * x) / (d * d * r * r * r)) (h2 : 2 * n * g * m * x * (2 * n * g * m * x) / (d * d * r * r * r) < (q + 1) * (q + 1)) : pmag n d g m x r = (q + 1) / 2 := by
  unfold pmag
  rw [isq_unique h0 h1 h2]
theorem inB_of {x : Int} (h0 : -2097152 ≤ x) (h1 : x ≤ 2097152) : inB x := ⟨h0, h1⟩
set_option maxHeartbeats 2000000 in
set_option maxRecDepth 100000 in
theorem wakes12_ret : Ret Tryd.prog G1 32 #[] (.bool true) := by
  refine ret_of G1F Tryd.func32 rfl Tryd.call32 rfl (by simp) (by simp [Tryd.ntmps32]) ?_
  intro C hC hC0 hY
  have b0 : inB 0 := by decide
  have b10 : inB 10 := by decide
  have b1 : inB 1 := by decide
  have b2 : inB 2 := by decide
  have bm2 : inB (-2) := by decide
  have b3 : inB 3 := by decide
  have w1 := pull_at (n := 1) (d := 1) (g := 100) (m := 1) (x0 := 10) (x1 := 0) (x2 := 0) (p0 := 1) (p1 := 0) (p2 := 0) (r := 100) (by decide) b10 b0 b0 (by constructor <;> decide) (by constructor <;> decide) (by constructor <;> decide)
    (by unfold pullV; rw [pmag_eq (q := 2) (by decide) (by decide) (by decide)]; decide) (pullV_0 _ _ _ _ _) (pullV_0 _ _ _ _ _)
  have w2 := pull_at (n := 1) (d := 1) (g := 149) (m := 1) (x0 := 10) (x1 := 0) (x2 := 0) (p0 := 1) (p1 := 0) (p2 := 0) (r := 100) (by decide) b10 b0 b0 (by constructor <;> decide) (by constructor <;> decide) (by constructor <;> decide)
    (by unfold pullV; rw [pmag_eq (q := 2) (by decide) (by decide) (by decide)]; decide) (pullV_0 _ _ _ _ _) (pullV_0 _ _ _ _ _)
  have w3 := pull_at (n := -1) (d := 1) (g := 150) (m := 1) (x0 := 10) (x1 := 0) (x2 := 0) (p0 := -2) (p1 := 0) (p2 := 0) (r := 100) (by decide) b10 b0 b0 (by constructor <;> decide) (by constructor <;> decide) (by constructor <;> decide)
    (by unfold pullV; rw [pmag_eq (q := 3) (by decide) (by decide) (by decide)]; decide) (pullV_0 _ _ _ _ _) (pullV_0 _ _ _ _ _)
  have w4 := pull_err (n := 1) (d := 1) (g := 1) (m := 1) (x0 := 0) (x1 := 0) (x2 := 0) (e := 30) b0 b0 b0 (by decide) (by decide)
  have w5 := pull_err (n := 1) (d := 0) (g := 1) (m := 1) (x0 := 1) (x1 := 2) (x2 := 3) (e := 2) b1 b2 b3 (by decide) (by decide)
  have w6 : ∀ K : Value → Prop, callK Tryd.prog G1 34 #[.agg #[.int .i64 1, .int .i64 (-2), .int .i64 3]] K ↔ K (.tuple #[.int .i64 14, .int .i64 0]) := psq 1 (-2) 3 b1 bm2 b3
  have w7 := by_at (n := 1) (d := 1) (g := 1) (m := 1) (r := 4) (b := true) (by constructor <;> decide) (by decide)
  have w8 := by_at (n := 1) (d := 1) (g := 1) (m := 1) (r := 2) (b := false) (by constructor <;> decide) (by decide)
  repeat' (first
    | refine GW_seq ?_
    | simp only [List.length_cons, List.length_nil, Nat.reduceAdd, Nat.reduceMul, thenG_normal, thenG_ret, thenG_exit, thenG_goto, thenG_panic, blockG_normal, blockG_ret, blockG_goto, blockG_panic, jumpG_normal, jumpG_ret, jumpG_exit, jumpG_panic]
    | (refine GW_region' [] (by kernel_rfl) ?_; intro Q hQ hP; simp [hC, hY, w1, w2, w3, w4, w5, w6, w7, w8]; (first | refine hQ _ _ _ _ ?_ | refine hP _ _ (fun _ => ?_)); clear hQ hP Q)
    | (refine GW_draw' [] follows (by kernel_rfl) (by kernel_rfl) ?_; intro Q hQ hP; simp [hC, hY, w1, w2, w3, w4, w5, w6, w7, w8]; (first | refine hQ _ _ _ _ (by kernel_rfl) ?_ | refine hP _ _ (by kernel_rfl) (fun _ => ?_)); clear hQ hP Q)
    | refine GW_block ?_
    | refine GW_ret ?_
    | refine GW_skip ?_
    | refine GW_exit ?_
    | refine GW_goto ?_
    | refine GW_label ?_
    | simp only [blockG_exit]
    | (refine GW_cond (by simp; rfl) ?_ ?_ <;> (intro hb; first | (exfalso; exact absurd hb (by decide)) | skip)))
  refine ⟨.inr trivial, ?_⟩
  simp [Tryd.results32]
@[simp] theorem wakes12 (K : Value → Prop) : callK Tryd.prog G1 32 #[] K ↔ K (.bool true) := callK_iff G1W (by kernel_rfl) wakes12_ret
/-! who may -/
structure MayP (n d g m x0 x1 x2 : Int) : Prop where
  i0 : inB x0
  i1 : inB x1
  i2 : inB x2
  far : ¬ (x0 = 0 ∧ x1 = 0 ∧ x2 = 0)
  n0 : -2097152 ≤ n
  n1 : n ≤ 2097152
  d0 : 1 ≤ d
  d1 : d ≤ 2097152
  g0 : 1 ≤ g
  g1 : g ≤ 1048576
  m0 : 1 ≤ m
  m1 : m ≤ 1024
set_option maxHeartbeats 4000000 in
theorem may_t (n d g m x0 x1 x2 : Int) (h : MayP n d g m x0 x1 x2) : Ret Tryd.prog G1 31 #[.int .i64 n, .int .i64 d, .int .i64 g, .int .i64 m, vv x0 x1 x2] (.bool true) := by
  refine ret_of G1F Tryd.func31 rfl Tryd.call31 rfl (by simp [vv]) (by simp [Tryd.ntmps31]) ?_
  intro C hC hC0 hY
  obtain ⟨⟨a0, a1⟩, ⟨a2, a3⟩, ⟨a4, a5⟩, far, q0, q1, q2, q3, q4, q5, q6, q7⟩ := h
  have b0 : ¬ x0 < -2097152 := by omega
  have b1 : ¬ 2097152 < x0 := by omega
  have b2 : ¬ x1 < -2097152 := by omega
  have b3 : ¬ 2097152 < x1 := by omega
  have b4 : ¬ x2 < -2097152 := by omega
  have b5 : ¬ 2097152 < x2 := by omega
  by_cases z0 : x0 = 0
  · by_cases z1 : x1 = 0
    · have z2 : (x2 != 0) = true := by simp; omega
      have y0 : (x0 != 0) = false := by simp [z0]
      have y1 : (x1 != 0) = false := by simp [z1]
      repeat' (first
        | refine GW_seq ?_
        | refine GWL_start ?_
        | refine GWL_step ?_
        | simp only [List.length_cons, List.length_nil, Nat.reduceAdd, Nat.reduceMul, thenG_normal, thenG_ret, thenG_exit, thenG_goto, thenG_panic, blockG_normal, blockG_ret, blockG_goto, blockG_panic, jumpG_normal, jumpG_ret, jumpG_exit, jumpG_panic]
        | (refine GW_region' [] (by kernel_rfl) ?_; intro Q hQ hP; simp [hC, hY, vv, b0, b1, b2, b3, b4, b5, q0, q1, q2, q3, q4, q5, q6, q7, y0, y1, z2]; (first | refine hQ _ _ _ _ ?_ | refine hP _ _ (fun _ => ?_)); clear hQ hP Q)
        | (refine GW_draw' [] follows (by kernel_rfl) (by kernel_rfl) ?_; intro Q hQ hP; simp [hC, hY, vv, b0, b1, b2, b3, b4, b5, q0, q1, q2, q3, q4, q5, q6, q7, y0, y1, z2]; (first | refine hQ _ _ _ _ (by kernel_rfl) ?_ | refine hP _ _ (by kernel_rfl) (fun _ => ?_)); clear hQ hP Q)
        | refine GW_block ?_
        | refine GW_ret ?_
        | refine GW_skip ?_
        | refine GW_exit ?_
        | refine GW_goto ?_
        | refine GW_label ?_
        | simp only [blockG_exit]
        | (refine GW_cond (by simp; rfl) ?_ ?_ <;> (intro hb; first | (exfalso; exact absurd hb (by decide)) | skip)))
      refine ⟨.inr trivial, ?_⟩
      simp [Tryd.results31]
    · have y0 : (x0 != 0) = false := by simp [z0]
      have y1 : (x1 != 0) = true := by simp [z1]
      repeat' (first
        | refine GW_seq ?_
        | refine GWL_start ?_
        | refine GWL_step ?_
        | simp only [List.length_cons, List.length_nil, Nat.reduceAdd, Nat.reduceMul, thenG_normal, thenG_ret, thenG_exit, thenG_goto, thenG_panic, blockG_normal, blockG_ret, blockG_goto, blockG_panic, jumpG_normal, jumpG_ret, jumpG_exit, jumpG_panic]
        | (refine GW_region' [] (by kernel_rfl) ?_; intro Q hQ hP; simp [hC, hY, vv, b0, b1, b2, b3, b4, b5, q0, q1, q2, q3, q4, q5, q6, q7, y0, y1]; (first | refine hQ _ _ _ _ ?_ | refine hP _ _ (fun _ => ?_)); clear hQ hP Q)
        | (refine GW_draw' [] follows (by kernel_rfl) (by kernel_rfl) ?_; intro Q hQ hP; simp [hC, hY, vv, b0, b1, b2, b3, b4, b5, q0, q1, q2, q3, q4, q5, q6, q7, y0, y1]; (first | refine hQ _ _ _ _ (by kernel_rfl) ?_ | refine hP _ _ (by kernel_rfl) (fun _ => ?_)); clear hQ hP Q)
        | refine GW_block ?_
        | refine GW_ret ?_
        | refine GW_skip ?_
        | refine GW_exit ?_
        | refine GW_goto ?_
        | refine GW_label ?_
        | simp only [blockG_exit]
        | (refine GW_cond (by simp; rfl) ?_ ?_ <;> (intro hb; first | (exfalso; exact absurd hb (by decide)) | skip)))
      refine ⟨.inr trivial, ?_⟩
      simp [Tryd.results31]
  · have y0 : (x0 != 0) = true := by simp [z0]
    repeat' (first
      | refine GW_seq ?_
      | refine GWL_start ?_
      | refine GWL_step ?_
      | simp only [List.length_cons, List.length_nil, Nat.reduceAdd, Nat.reduceMul, thenG_normal, thenG_ret, thenG_exit, thenG_goto, thenG_panic, blockG_normal, blockG_ret, blockG_goto, blockG_panic, jumpG_normal, jumpG_ret, jumpG_exit, jumpG_panic]
      | (refine GW_region' [] (by kernel_rfl) ?_; intro Q hQ hP; simp [hC, hY, vv, b0, b1, b2, b3, b4, b5, q0, q1, q2, q3, q4, q5, q6, q7, y0]; (first | refine hQ _ _ _ _ ?_ | refine hP _ _ (fun _ => ?_)); clear hQ hP Q)
      | (refine GW_draw' [] follows (by kernel_rfl) (by kernel_rfl) ?_; intro Q hQ hP; simp [hC, hY, vv, b0, b1, b2, b3, b4, b5, q0, q1, q2, q3, q4, q5, q6, q7, y0]; (first | refine hQ _ _ _ _ (by kernel_rfl) ?_ | refine hP _ _ (by kernel_rfl) (fun _ => ?_)); clear hQ hP Q)
      | refine GW_block ?_
      | refine GW_ret ?_
      | refine GW_skip ?_
      | refine GW_exit ?_
      | refine GW_goto ?_
      | refine GW_label ?_
      | simp only [blockG_exit]
      | (refine GW_cond (by simp; rfl) ?_ ?_ <;> (intro hb; first | (exfalso; exact absurd hb (by decide)) | skip)))
    refine ⟨.inr trivial, ?_⟩
    simp [Tryd.results31]
set_option maxHeartbeats 8000000 in
theorem may_f (n d g m x0 x1 x2 : Int) (h : ¬ MayP n d g m x0 x1 x2) : Ret Tryd.prog G1 31 #[.int .i64 n, .int .i64 d, .int .i64 g, .int .i64 m, vv x0 x1 x2] (.bool false) := by
  refine ret_of G1F Tryd.func31 rfl Tryd.call31 rfl (by simp [vv]) (by simp [Tryd.ntmps31]) ?_
  intro C hC hC0 hY
  by_cases a0 : -2097152 ≤ x0
  rotate_left
  · have f0 : x0 < -2097152 := by omega
    repeat' (first
      | refine GW_seq ?_
      | refine GWL_start ?_
      | refine GWL_step ?_
      | simp only [List.length_cons, List.length_nil, Nat.reduceAdd, Nat.reduceMul, thenG_normal, thenG_ret, thenG_exit, thenG_goto, thenG_panic, blockG_normal, blockG_ret, blockG_goto, blockG_panic, jumpG_normal, jumpG_ret, jumpG_exit, jumpG_panic]
      | (refine GW_region' [] (by kernel_rfl) ?_; intro Q hQ hP; simp [hC, hY, vv, f0]; (first | refine hQ _ _ _ _ ?_ | refine hP _ _ (fun _ => ?_)); clear hQ hP Q)
      | (refine GW_draw' [] follows (by kernel_rfl) (by kernel_rfl) ?_; intro Q hQ hP; simp [hC, hY, vv, f0]; (first | refine hQ _ _ _ _ (by kernel_rfl) ?_ | refine hP _ _ (by kernel_rfl) (fun _ => ?_)); clear hQ hP Q)
      | refine GW_block ?_
      | refine GW_ret ?_
      | refine GW_skip ?_
      | refine GW_exit ?_
      | refine GW_goto ?_
      | refine GW_label ?_
      | simp only [blockG_exit]
      | (refine GW_cond (by simp; rfl) ?_ ?_ <;> (intro hb; first | (exfalso; exact absurd hb (by decide)) | skip)))
    refine ⟨.inr trivial, ?_⟩
    simp [Tryd.results31]
  have b0 : ¬ x0 < -2097152 := by omega
  by_cases a1 : x0 ≤ 2097152
  rotate_left
  · have f1 : 2097152 < x0 := by omega
    repeat' (first
      | refine GW_seq ?_
      | refine GWL_start ?_
      | refine GWL_step ?_
      | simp only [List.length_cons, List.length_nil, Nat.reduceAdd, Nat.reduceMul, thenG_normal, thenG_ret, thenG_exit, thenG_goto, thenG_panic, blockG_normal, blockG_ret, blockG_goto, blockG_panic, jumpG_normal, jumpG_ret, jumpG_exit, jumpG_panic]
      | (refine GW_region' [] (by kernel_rfl) ?_; intro Q hQ hP; simp [hC, hY, vv, b0, f1]; (first | refine hQ _ _ _ _ ?_ | refine hP _ _ (fun _ => ?_)); clear hQ hP Q)
      | (refine GW_draw' [] follows (by kernel_rfl) (by kernel_rfl) ?_; intro Q hQ hP; simp [hC, hY, vv, b0, f1]; (first | refine hQ _ _ _ _ (by kernel_rfl) ?_ | refine hP _ _ (by kernel_rfl) (fun _ => ?_)); clear hQ hP Q)
      | refine GW_block ?_
      | refine GW_ret ?_
      | refine GW_skip ?_
      | refine GW_exit ?_
      | refine GW_goto ?_
      | refine GW_label ?_
      | simp only [blockG_exit]
      | (refine GW_cond (by simp; rfl) ?_ ?_ <;> (intro hb; first | (exfalso; exact absurd hb (by decide)) | skip)))
    refine ⟨.inr trivial, ?_⟩
    simp [Tryd.results31]
  have b1 : ¬ 2097152 < x0 := by omega
  by_cases a2 : -2097152 ≤ x1
  rotate_left
  · have f2 : x1 < -2097152 := by omega
    cases y0 : (x0 != 0)
    all_goals
      repeat' (first
        | refine GW_seq ?_
        | refine GWL_start ?_
        | refine GWL_step ?_
        | simp only [List.length_cons, List.length_nil, Nat.reduceAdd, Nat.reduceMul, thenG_normal, thenG_ret, thenG_exit, thenG_goto, thenG_panic, blockG_normal, blockG_ret, blockG_goto, blockG_panic, jumpG_normal, jumpG_ret, jumpG_exit, jumpG_panic]
        | (refine GW_region' [] (by kernel_rfl) ?_; intro Q hQ hP; simp [hC, hY, vv, b0, b1, f2, y0]; (first | refine hQ _ _ _ _ ?_ | refine hP _ _ (fun _ => ?_)); clear hQ hP Q)
        | (refine GW_draw' [] follows (by kernel_rfl) (by kernel_rfl) ?_; intro Q hQ hP; simp [hC, hY, vv, b0, b1, f2, y0]; (first | refine hQ _ _ _ _ (by kernel_rfl) ?_ | refine hP _ _ (by kernel_rfl) (fun _ => ?_)); clear hQ hP Q)
        | refine GW_block ?_
        | refine GW_ret ?_
        | refine GW_skip ?_
        | refine GW_exit ?_
        | refine GW_goto ?_
        | refine GW_label ?_
        | simp only [blockG_exit]
        | (refine GW_cond (by simp; rfl) ?_ ?_ <;> (intro hb; first | (exfalso; exact absurd hb (by decide)) | skip)))
    all_goals
      refine ⟨.inr trivial, ?_⟩
      simp [Tryd.results31]
  have b2 : ¬ x1 < -2097152 := by omega
  by_cases a3 : x1 ≤ 2097152
  rotate_left
  · have f3 : 2097152 < x1 := by omega
    cases y0 : (x0 != 0)
    all_goals
      repeat' (first
        | refine GW_seq ?_
        | refine GWL_start ?_
        | refine GWL_step ?_
        | simp only [List.length_cons, List.length_nil, Nat.reduceAdd, Nat.reduceMul, thenG_normal, thenG_ret, thenG_exit, thenG_goto, thenG_panic, blockG_normal, blockG_ret, blockG_goto, blockG_panic, jumpG_normal, jumpG_ret, jumpG_exit, jumpG_panic]
        | (refine GW_region' [] (by kernel_rfl) ?_; intro Q hQ hP; simp [hC, hY, vv, b0, b1, b2, f3, y0]; (first | refine hQ _ _ _ _ ?_ | refine hP _ _ (fun _ => ?_)); clear hQ hP Q)
        | (refine GW_draw' [] follows (by kernel_rfl) (by kernel_rfl) ?_; intro Q hQ hP; simp [hC, hY, vv, b0, b1, b2, f3, y0]; (first | refine hQ _ _ _ _ (by kernel_rfl) ?_ | refine hP _ _ (by kernel_rfl) (fun _ => ?_)); clear hQ hP Q)
        | refine GW_block ?_
        | refine GW_ret ?_
        | refine GW_skip ?_
        | refine GW_exit ?_
        | refine GW_goto ?_
        | refine GW_label ?_
        | simp only [blockG_exit]
        | (refine GW_cond (by simp; rfl) ?_ ?_ <;> (intro hb; first | (exfalso; exact absurd hb (by decide)) | skip)))
    all_goals
      refine ⟨.inr trivial, ?_⟩
      simp [Tryd.results31]
  have b3 : ¬ 2097152 < x1 := by omega
  by_cases a4 : -2097152 ≤ x2
  rotate_left
  · have f4 : x2 < -2097152 := by omega
    cases y0 : (x0 != 0) <;>
    cases y1 : (x1 != 0)
    all_goals
      repeat' (first
        | refine GW_seq ?_
        | refine GWL_start ?_
        | refine GWL_step ?_
        | simp only [List.length_cons, List.length_nil, Nat.reduceAdd, Nat.reduceMul, thenG_normal, thenG_ret, thenG_exit, thenG_goto, thenG_panic, blockG_normal, blockG_ret, blockG_goto, blockG_panic, jumpG_normal, jumpG_ret, jumpG_exit, jumpG_panic]
        | (refine GW_region' [] (by kernel_rfl) ?_; intro Q hQ hP; simp [hC, hY, vv, b0, b1, b2, b3, f4, y0, y1]; (first | refine hQ _ _ _ _ ?_ | refine hP _ _ (fun _ => ?_)); clear hQ hP Q)
        | (refine GW_draw' [] follows (by kernel_rfl) (by kernel_rfl) ?_; intro Q hQ hP; simp [hC, hY, vv, b0, b1, b2, b3, f4, y0, y1]; (first | refine hQ _ _ _ _ (by kernel_rfl) ?_ | refine hP _ _ (by kernel_rfl) (fun _ => ?_)); clear hQ hP Q)
        | refine GW_block ?_
        | refine GW_ret ?_
        | refine GW_skip ?_
        | refine GW_exit ?_
        | refine GW_goto ?_
        | refine GW_label ?_
        | simp only [blockG_exit]
        | (refine GW_cond (by simp; rfl) ?_ ?_ <;> (intro hb; first | (exfalso; exact absurd hb (by decide)) | skip)))
    all_goals
      refine ⟨.inr trivial, ?_⟩
      simp [Tryd.results31]
  have b4 : ¬ x2 < -2097152 := by omega
  by_cases a5 : x2 ≤ 2097152
  rotate_left
  · have f5 : 2097152 < x2 := by omega
    cases y0 : (x0 != 0) <;>
    cases y1 : (x1 != 0)
    all_goals
      repeat' (first
        | refine GW_seq ?_
        | refine GWL_start ?_
        | refine GWL_step ?_
        | simp only [List.length_cons, List.length_nil, Nat.reduceAdd, Nat.reduceMul, thenG_normal, thenG_ret, thenG_exit, thenG_goto, thenG_panic, blockG_normal, blockG_ret, blockG_goto, blockG_panic, jumpG_normal, jumpG_ret, jumpG_exit, jumpG_panic]
        | (refine GW_region' [] (by kernel_rfl) ?_; intro Q hQ hP; simp [hC, hY, vv, b0, b1, b2, b3, b4, f5, y0, y1]; (first | refine hQ _ _ _ _ ?_ | refine hP _ _ (fun _ => ?_)); clear hQ hP Q)
        | (refine GW_draw' [] follows (by kernel_rfl) (by kernel_rfl) ?_; intro Q hQ hP; simp [hC, hY, vv, b0, b1, b2, b3, b4, f5, y0, y1]; (first | refine hQ _ _ _ _ (by kernel_rfl) ?_ | refine hP _ _ (by kernel_rfl) (fun _ => ?_)); clear hQ hP Q)
        | refine GW_block ?_
        | refine GW_ret ?_
        | refine GW_skip ?_
        | refine GW_exit ?_
        | refine GW_goto ?_
        | refine GW_label ?_
        | simp only [blockG_exit]
        | (refine GW_cond (by simp; rfl) ?_ ?_ <;> (intro hb; first | (exfalso; exact absurd hb (by decide)) | skip)))
    all_goals
      refine ⟨.inr trivial, ?_⟩
      simp [Tryd.results31]
  have b5 : ¬ 2097152 < x2 := by omega
  by_cases far : x0 = 0 ∧ x1 = 0 ∧ x2 = 0
  · obtain ⟨z0, z1, z2⟩ := far
    have y0 : (x0 != 0) = false := by simp [z0]
    have y1 : (x1 != 0) = false := by simp [z1]
    have y2 : (x2 != 0) = false := by simp [z2]
    repeat' (first
      | refine GW_seq ?_
      | refine GWL_start ?_
      | refine GWL_step ?_
      | simp only [List.length_cons, List.length_nil, Nat.reduceAdd, Nat.reduceMul, thenG_normal, thenG_ret, thenG_exit, thenG_goto, thenG_panic, blockG_normal, blockG_ret, blockG_goto, blockG_panic, jumpG_normal, jumpG_ret, jumpG_exit, jumpG_panic]
      | (refine GW_region' [] (by kernel_rfl) ?_; intro Q hQ hP; simp [hC, hY, vv, b0, b1, b2, b3, b4, b5, y0, y1, y2]; (first | refine hQ _ _ _ _ ?_ | refine hP _ _ (fun _ => ?_)); clear hQ hP Q)
      | (refine GW_draw' [] follows (by kernel_rfl) (by kernel_rfl) ?_; intro Q hQ hP; simp [hC, hY, vv, b0, b1, b2, b3, b4, b5, y0, y1, y2]; (first | refine hQ _ _ _ _ (by kernel_rfl) ?_ | refine hP _ _ (by kernel_rfl) (fun _ => ?_)); clear hQ hP Q)
      | refine GW_block ?_
      | refine GW_ret ?_
      | refine GW_skip ?_
      | refine GW_exit ?_
      | refine GW_goto ?_
      | refine GW_label ?_
      | simp only [blockG_exit]
      | (refine GW_cond (by simp; rfl) ?_ ?_ <;> (intro hb; first | (exfalso; exact absurd hb (by decide)) | skip)))
    refine ⟨.inr trivial, ?_⟩
    simp [Tryd.results31]
  have hor : (x0 != 0) = true ∨ (x0 != 0) = false ∧ (x1 != 0) = true ∨ (x0 != 0) = false ∧ (x1 != 0) = false ∧ (x2 != 0) = true := by
    simp; omega
  by_cases q0 : -2097152 ≤ n
  rotate_left
  · rcases hor with y0 | ⟨y0, y1⟩ | ⟨y0, y1, y2⟩
    · skip
      repeat' (first
        | refine GW_seq ?_
        | refine GWL_start ?_
        | refine GWL_step ?_
        | simp only [List.length_cons, List.length_nil, Nat.reduceAdd, Nat.reduceMul, thenG_normal, thenG_ret, thenG_exit, thenG_goto, thenG_panic, blockG_normal, blockG_ret, blockG_goto, blockG_panic, jumpG_normal, jumpG_ret, jumpG_exit, jumpG_panic]
        | (refine GW_region' [] (by kernel_rfl) ?_; intro Q hQ hP; simp [hC, hY, vv, b0, b1, b2, b3, b4, b5, q0, y0]; (first | refine hQ _ _ _ _ ?_ | refine hP _ _ (fun _ => ?_)); clear hQ hP Q)
        | (refine GW_draw' [] follows (by kernel_rfl) (by kernel_rfl) ?_; intro Q hQ hP; simp [hC, hY, vv, b0, b1, b2, b3, b4, b5, q0, y0]; (first | refine hQ _ _ _ _ (by kernel_rfl) ?_ | refine hP _ _ (by kernel_rfl) (fun _ => ?_)); clear hQ hP Q)
        | refine GW_block ?_
        | refine GW_ret ?_
        | refine GW_skip ?_
        | refine GW_exit ?_
        | refine GW_goto ?_
        | refine GW_label ?_
        | simp only [blockG_exit]
        | (refine GW_cond (by simp; rfl) ?_ ?_ <;> (intro hb; first | (exfalso; exact absurd hb (by decide)) | skip)))
      refine ⟨.inr trivial, ?_⟩
      simp [Tryd.results31]
    · skip
      repeat' (first
        | refine GW_seq ?_
        | refine GWL_start ?_
        | refine GWL_step ?_
        | simp only [List.length_cons, List.length_nil, Nat.reduceAdd, Nat.reduceMul, thenG_normal, thenG_ret, thenG_exit, thenG_goto, thenG_panic, blockG_normal, blockG_ret, blockG_goto, blockG_panic, jumpG_normal, jumpG_ret, jumpG_exit, jumpG_panic]
        | (refine GW_region' [] (by kernel_rfl) ?_; intro Q hQ hP; simp [hC, hY, vv, b0, b1, b2, b3, b4, b5, q0, y0, y1]; (first | refine hQ _ _ _ _ ?_ | refine hP _ _ (fun _ => ?_)); clear hQ hP Q)
        | (refine GW_draw' [] follows (by kernel_rfl) (by kernel_rfl) ?_; intro Q hQ hP; simp [hC, hY, vv, b0, b1, b2, b3, b4, b5, q0, y0, y1]; (first | refine hQ _ _ _ _ (by kernel_rfl) ?_ | refine hP _ _ (by kernel_rfl) (fun _ => ?_)); clear hQ hP Q)
        | refine GW_block ?_
        | refine GW_ret ?_
        | refine GW_skip ?_
        | refine GW_exit ?_
        | refine GW_goto ?_
        | refine GW_label ?_
        | simp only [blockG_exit]
        | (refine GW_cond (by simp; rfl) ?_ ?_ <;> (intro hb; first | (exfalso; exact absurd hb (by decide)) | skip)))
      refine ⟨.inr trivial, ?_⟩
      simp [Tryd.results31]
    · skip
      repeat' (first
        | refine GW_seq ?_
        | refine GWL_start ?_
        | refine GWL_step ?_
        | simp only [List.length_cons, List.length_nil, Nat.reduceAdd, Nat.reduceMul, thenG_normal, thenG_ret, thenG_exit, thenG_goto, thenG_panic, blockG_normal, blockG_ret, blockG_goto, blockG_panic, jumpG_normal, jumpG_ret, jumpG_exit, jumpG_panic]
        | (refine GW_region' [] (by kernel_rfl) ?_; intro Q hQ hP; simp [hC, hY, vv, b0, b1, b2, b3, b4, b5, q0, y0, y1, y2]; (first | refine hQ _ _ _ _ ?_ | refine hP _ _ (fun _ => ?_)); clear hQ hP Q)
        | (refine GW_draw' [] follows (by kernel_rfl) (by kernel_rfl) ?_; intro Q hQ hP; simp [hC, hY, vv, b0, b1, b2, b3, b4, b5, q0, y0, y1, y2]; (first | refine hQ _ _ _ _ (by kernel_rfl) ?_ | refine hP _ _ (by kernel_rfl) (fun _ => ?_)); clear hQ hP Q)
        | refine GW_block ?_
        | refine GW_ret ?_
        | refine GW_skip ?_
        | refine GW_exit ?_
        | refine GW_goto ?_
        | refine GW_label ?_
        | simp only [blockG_exit]
        | (refine GW_cond (by simp; rfl) ?_ ?_ <;> (intro hb; first | (exfalso; exact absurd hb (by decide)) | skip)))
      refine ⟨.inr trivial, ?_⟩
      simp [Tryd.results31]
  by_cases q1 : n ≤ 2097152
  rotate_left
  · rcases hor with y0 | ⟨y0, y1⟩ | ⟨y0, y1, y2⟩
    · skip
      repeat' (first
        | refine GW_seq ?_
        | refine GWL_start ?_
        | refine GWL_step ?_
        | simp only [List.length_cons, List.length_nil, Nat.reduceAdd, Nat.reduceMul, thenG_normal, thenG_ret, thenG_exit, thenG_goto, thenG_panic, blockG_normal, blockG_ret, blockG_goto, blockG_panic, jumpG_normal, jumpG_ret, jumpG_exit, jumpG_panic]
        | (refine GW_region' [] (by kernel_rfl) ?_; intro Q hQ hP; simp [hC, hY, vv, b0, b1, b2, b3, b4, b5, q0, q1, y0]; (first | refine hQ _ _ _ _ ?_ | refine hP _ _ (fun _ => ?_)); clear hQ hP Q)
        | (refine GW_draw' [] follows (by kernel_rfl) (by kernel_rfl) ?_; intro Q hQ hP; simp [hC, hY, vv, b0, b1, b2, b3, b4, b5, q0, q1, y0]; (first | refine hQ _ _ _ _ (by kernel_rfl) ?_ | refine hP _ _ (by kernel_rfl) (fun _ => ?_)); clear hQ hP Q)
        | refine GW_block ?_
        | refine GW_ret ?_
        | refine GW_skip ?_
        | refine GW_exit ?_
        | refine GW_goto ?_
        | refine GW_label ?_
        | simp only [blockG_exit]
        | (refine GW_cond (by simp; rfl) ?_ ?_ <;> (intro hb; first | (exfalso; exact absurd hb (by decide)) | skip)))
      refine ⟨.inr trivial, ?_⟩
      simp [Tryd.results31]
    · skip
      repeat' (first
        | refine GW_seq ?_
        | refine GWL_start ?_
        | refine GWL_step ?_
        | simp only [List.length_cons, List.length_nil, Nat.reduceAdd, Nat.reduceMul, thenG_normal, thenG_ret, thenG_exit, thenG_goto, thenG_panic, blockG_normal, blockG_ret, blockG_goto, blockG_panic, jumpG_normal, jumpG_ret, jumpG_exit, jumpG_panic]
        | (refine GW_region' [] (by kernel_rfl) ?_; intro Q hQ hP; simp [hC, hY, vv, b0, b1, b2, b3, b4, b5, q0, q1, y0, y1]; (first | refine hQ _ _ _ _ ?_ | refine hP _ _ (fun _ => ?_)); clear hQ hP Q)
        | (refine GW_draw' [] follows (by kernel_rfl) (by kernel_rfl) ?_; intro Q hQ hP; simp [hC, hY, vv, b0, b1, b2, b3, b4, b5, q0, q1, y0, y1]; (first | refine hQ _ _ _ _ (by kernel_rfl) ?_ | refine hP _ _ (by kernel_rfl) (fun _ => ?_)); clear hQ hP Q)
        | refine GW_block ?_
        | refine GW_ret ?_
        | refine GW_skip ?_
        | refine GW_exit ?_
        | refine GW_goto ?_
        | refine GW_label ?_
        | simp only [blockG_exit]
        | (refine GW_cond (by simp; rfl) ?_ ?_ <;> (intro hb; first | (exfalso; exact absurd hb (by decide)) | skip)))
      refine ⟨.inr trivial, ?_⟩
      simp [Tryd.results31]
    · skip
      repeat' (first
        | refine GW_seq ?_
        | refine GWL_start ?_
        | refine GWL_step ?_
        | simp only [List.length_cons, List.length_nil, Nat.reduceAdd, Nat.reduceMul, thenG_normal, thenG_ret, thenG_exit, thenG_goto, thenG_panic, blockG_normal, blockG_ret, blockG_goto, blockG_panic, jumpG_normal, jumpG_ret, jumpG_exit, jumpG_panic]
        | (refine GW_region' [] (by kernel_rfl) ?_; intro Q hQ hP; simp [hC, hY, vv, b0, b1, b2, b3, b4, b5, q0, q1, y0, y1, y2]; (first | refine hQ _ _ _ _ ?_ | refine hP _ _ (fun _ => ?_)); clear hQ hP Q)
        | (refine GW_draw' [] follows (by kernel_rfl) (by kernel_rfl) ?_; intro Q hQ hP; simp [hC, hY, vv, b0, b1, b2, b3, b4, b5, q0, q1, y0, y1, y2]; (first | refine hQ _ _ _ _ (by kernel_rfl) ?_ | refine hP _ _ (by kernel_rfl) (fun _ => ?_)); clear hQ hP Q)
        | refine GW_block ?_
        | refine GW_ret ?_
        | refine GW_skip ?_
        | refine GW_exit ?_
        | refine GW_goto ?_
        | refine GW_label ?_
        | simp only [blockG_exit]
        | (refine GW_cond (by simp; rfl) ?_ ?_ <;> (intro hb; first | (exfalso; exact absurd hb (by decide)) | skip)))
      refine ⟨.inr trivial, ?_⟩
      simp [Tryd.results31]
  by_cases q2 : 1 ≤ d
  rotate_left
  · rcases hor with y0 | ⟨y0, y1⟩ | ⟨y0, y1, y2⟩
    · skip
      repeat' (first
        | refine GW_seq ?_
        | refine GWL_start ?_
        | refine GWL_step ?_
        | simp only [List.length_cons, List.length_nil, Nat.reduceAdd, Nat.reduceMul, thenG_normal, thenG_ret, thenG_exit, thenG_goto, thenG_panic, blockG_normal, blockG_ret, blockG_goto, blockG_panic, jumpG_normal, jumpG_ret, jumpG_exit, jumpG_panic]
        | (refine GW_region' [] (by kernel_rfl) ?_; intro Q hQ hP; simp [hC, hY, vv, b0, b1, b2, b3, b4, b5, q0, q1, q2, y0]; (first | refine hQ _ _ _ _ ?_ | refine hP _ _ (fun _ => ?_)); clear hQ hP Q)
        | (refine GW_draw' [] follows (by kernel_rfl) (by kernel_rfl) ?_; intro Q hQ hP; simp [hC, hY, vv, b0, b1, b2, b3, b4, b5, q0, q1, q2, y0]; (first | refine hQ _ _ _ _ (by kernel_rfl) ?_ | refine hP _ _ (by kernel_rfl) (fun _ => ?_)); clear hQ hP Q)
        | refine GW_block ?_
        | refine GW_ret ?_
        | refine GW_skip ?_
        | refine GW_exit ?_
        | refine GW_goto ?_
        | refine GW_label ?_
        | simp only [blockG_exit]
        | (refine GW_cond (by simp; rfl) ?_ ?_ <;> (intro hb; first | (exfalso; exact absurd hb (by decide)) | skip)))
      refine ⟨.inr trivial, ?_⟩
      simp [Tryd.results31]
    · skip
      repeat' (first
        | refine GW_seq ?_
        | refine GWL_start ?_
        | refine GWL_step ?_
        | simp only [List.length_cons, List.length_nil, Nat.reduceAdd, Nat.reduceMul, thenG_normal, thenG_ret, thenG_exit, thenG_goto, thenG_panic, blockG_normal, blockG_ret, blockG_goto, blockG_panic, jumpG_normal, jumpG_ret, jumpG_exit, jumpG_panic]
        | (refine GW_region' [] (by kernel_rfl) ?_; intro Q hQ hP; simp [hC, hY, vv, b0, b1, b2, b3, b4, b5, q0, q1, q2, y0, y1]; (first | refine hQ _ _ _ _ ?_ | refine hP _ _ (fun _ => ?_)); clear hQ hP Q)
        | (refine GW_draw' [] follows (by kernel_rfl) (by kernel_rfl) ?_; intro Q hQ hP; simp [hC, hY, vv, b0, b1, b2, b3, b4, b5, q0, q1, q2, y0, y1]; (first | refine hQ _ _ _ _ (by kernel_rfl) ?_ | refine hP _ _ (by kernel_rfl) (fun _ => ?_)); clear hQ hP Q)
        | refine GW_block ?_
        | refine GW_ret ?_
        | refine GW_skip ?_
        | refine GW_exit ?_
        | refine GW_goto ?_
        | refine GW_label ?_
        | simp only [blockG_exit]
        | (refine GW_cond (by simp; rfl) ?_ ?_ <;> (intro hb; first | (exfalso; exact absurd hb (by decide)) | skip)))
      refine ⟨.inr trivial, ?_⟩
      simp [Tryd.results31]
    · skip
      repeat' (first
        | refine GW_seq ?_
        | refine GWL_start ?_
        | refine GWL_step ?_
        | simp only [List.length_cons, List.length_nil, Nat.reduceAdd, Nat.reduceMul, thenG_normal, thenG_ret, thenG_exit, thenG_goto, thenG_panic, blockG_normal, blockG_ret, blockG_goto, blockG_panic, jumpG_normal, jumpG_ret, jumpG_exit, jumpG_panic]
        | (refine GW_region' [] (by kernel_rfl) ?_; intro Q hQ hP; simp [hC, hY, vv, b0, b1, b2, b3, b4, b5, q0, q1, q2, y0, y1, y2]; (first | refine hQ _ _ _ _ ?_ | refine hP _ _ (fun _ => ?_)); clear hQ hP Q)
        | (refine GW_draw' [] follows (by kernel_rfl) (by kernel_rfl) ?_; intro Q hQ hP; simp [hC, hY, vv, b0, b1, b2, b3, b4, b5, q0, q1, q2, y0, y1, y2]; (first | refine hQ _ _ _ _ (by kernel_rfl) ?_ | refine hP _ _ (by kernel_rfl) (fun _ => ?_)); clear hQ hP Q)
        | refine GW_block ?_
        | refine GW_ret ?_
        | refine GW_skip ?_
        | refine GW_exit ?_
        | refine GW_goto ?_
        | refine GW_label ?_
        | simp only [blockG_exit]
        | (refine GW_cond (by simp; rfl) ?_ ?_ <;> (intro hb; first | (exfalso; exact absurd hb (by decide)) | skip)))
      refine ⟨.inr trivial, ?_⟩
      simp [Tryd.results31]
  by_cases q3 : d ≤ 2097152
  rotate_left
  · rcases hor with y0 | ⟨y0, y1⟩ | ⟨y0, y1, y2⟩
    · skip
      repeat' (first
        | refine GW_seq ?_
        | refine GWL_start ?_
        | refine GWL_step ?_
        | simp only [List.length_cons, List.length_nil, Nat.reduceAdd, Nat.reduceMul, thenG_normal, thenG_ret, thenG_exit, thenG_goto, thenG_panic, blockG_normal, blockG_ret, blockG_goto, blockG_panic, jumpG_normal, jumpG_ret, jumpG_exit, jumpG_panic]
        | (refine GW_region' [] (by kernel_rfl) ?_; intro Q hQ hP; simp [hC, hY, vv, b0, b1, b2, b3, b4, b5, q0, q1, q2, q3, y0]; (first | refine hQ _ _ _ _ ?_ | refine hP _ _ (fun _ => ?_)); clear hQ hP Q)
        | (refine GW_draw' [] follows (by kernel_rfl) (by kernel_rfl) ?_; intro Q hQ hP; simp [hC, hY, vv, b0, b1, b2, b3, b4, b5, q0, q1, q2, q3, y0]; (first | refine hQ _ _ _ _ (by kernel_rfl) ?_ | refine hP _ _ (by kernel_rfl) (fun _ => ?_)); clear hQ hP Q)
        | refine GW_block ?_
        | refine GW_ret ?_
        | refine GW_skip ?_
        | refine GW_exit ?_
        | refine GW_goto ?_
        | refine GW_label ?_
        | simp only [blockG_exit]
        | (refine GW_cond (by simp; rfl) ?_ ?_ <;> (intro hb; first | (exfalso; exact absurd hb (by decide)) | skip)))
      refine ⟨.inr trivial, ?_⟩
      simp [Tryd.results31]
    · skip
      repeat' (first
        | refine GW_seq ?_
        | refine GWL_start ?_
        | refine GWL_step ?_
        | simp only [List.length_cons, List.length_nil, Nat.reduceAdd, Nat.reduceMul, thenG_normal, thenG_ret, thenG_exit, thenG_goto, thenG_panic, blockG_normal, blockG_ret, blockG_goto, blockG_panic, jumpG_normal, jumpG_ret, jumpG_exit, jumpG_panic]
        | (refine GW_region' [] (by kernel_rfl) ?_; intro Q hQ hP; simp [hC, hY, vv, b0, b1, b2, b3, b4, b5, q0, q1, q2, q3, y0, y1]; (first | refine hQ _ _ _ _ ?_ | refine hP _ _ (fun _ => ?_)); clear hQ hP Q)
        | (refine GW_draw' [] follows (by kernel_rfl) (by kernel_rfl) ?_; intro Q hQ hP; simp [hC, hY, vv, b0, b1, b2, b3, b4, b5, q0, q1, q2, q3, y0, y1]; (first | refine hQ _ _ _ _ (by kernel_rfl) ?_ | refine hP _ _ (by kernel_rfl) (fun _ => ?_)); clear hQ hP Q)
        | refine GW_block ?_
        | refine GW_ret ?_
        | refine GW_skip ?_
        | refine GW_exit ?_
        | refine GW_goto ?_
        | refine GW_label ?_
        | simp only [blockG_exit]
        | (refine GW_cond (by simp; rfl) ?_ ?_ <;> (intro hb; first | (exfalso; exact absurd hb (by decide)) | skip)))
      refine ⟨.inr trivial, ?_⟩
      simp [Tryd.results31]
    · skip
      repeat' (first
        | refine GW_seq ?_
        | refine GWL_start ?_
        | refine GWL_step ?_
        | simp only [List.length_cons, List.length_nil, Nat.reduceAdd, Nat.reduceMul, thenG_normal, thenG_ret, thenG_exit, thenG_goto, thenG_panic, blockG_normal, blockG_ret, blockG_goto, blockG_panic, jumpG_normal, jumpG_ret, jumpG_exit, jumpG_panic]
        | (refine GW_region' [] (by kernel_rfl) ?_; intro Q hQ hP; simp [hC, hY, vv, b0, b1, b2, b3, b4, b5, q0, q1, q2, q3, y0, y1, y2]; (first | refine hQ _ _ _ _ ?_ | refine hP _ _ (fun _ => ?_)); clear hQ hP Q)
        | (refine GW_draw' [] follows (by kernel_rfl) (by kernel_rfl) ?_; intro Q hQ hP; simp [hC, hY, vv, b0, b1, b2, b3, b4, b5, q0, q1, q2, q3, y0, y1, y2]; (first | refine hQ _ _ _ _ (by kernel_rfl) ?_ | refine hP _ _ (by kernel_rfl) (fun _ => ?_)); clear hQ hP Q)
        | refine GW_block ?_
        | refine GW_ret ?_
        | refine GW_skip ?_
        | refine GW_exit ?_
        | refine GW_goto ?_
        | refine GW_label ?_
        | simp only [blockG_exit]
        | (refine GW_cond (by simp; rfl) ?_ ?_ <;> (intro hb; first | (exfalso; exact absurd hb (by decide)) | skip)))
      refine ⟨.inr trivial, ?_⟩
      simp [Tryd.results31]
  by_cases q4 : 1 ≤ g
  rotate_left
  · rcases hor with y0 | ⟨y0, y1⟩ | ⟨y0, y1, y2⟩
    · skip
      repeat' (first
        | refine GW_seq ?_
        | refine GWL_start ?_
        | refine GWL_step ?_
        | simp only [List.length_cons, List.length_nil, Nat.reduceAdd, Nat.reduceMul, thenG_normal, thenG_ret, thenG_exit, thenG_goto, thenG_panic, blockG_normal, blockG_ret, blockG_goto, blockG_panic, jumpG_normal, jumpG_ret, jumpG_exit, jumpG_panic]
        | (refine GW_region' [] (by kernel_rfl) ?_; intro Q hQ hP; simp [hC, hY, vv, b0, b1, b2, b3, b4, b5, q0, q1, q2, q3, q4, y0]; (first | refine hQ _ _ _ _ ?_ | refine hP _ _ (fun _ => ?_)); clear hQ hP Q)
        | (refine GW_draw' [] follows (by kernel_rfl) (by kernel_rfl) ?_; intro Q hQ hP; simp [hC, hY, vv, b0, b1, b2, b3, b4, b5, q0, q1, q2, q3, q4, y0]; (first | refine hQ _ _ _ _ (by kernel_rfl) ?_ | refine hP _ _ (by kernel_rfl) (fun _ => ?_)); clear hQ hP Q)
        | refine GW_block ?_
        | refine GW_ret ?_
        | refine GW_skip ?_
        | refine GW_exit ?_
        | refine GW_goto ?_
        | refine GW_label ?_
        | simp only [blockG_exit]
        | (refine GW_cond (by simp; rfl) ?_ ?_ <;> (intro hb; first | (exfalso; exact absurd hb (by decide)) | skip)))
      refine ⟨.inr trivial, ?_⟩
      simp [Tryd.results31]
    · skip
      repeat' (first
        | refine GW_seq ?_
        | refine GWL_start ?_
        | refine GWL_step ?_
        | simp only [List.length_cons, List.length_nil, Nat.reduceAdd, Nat.reduceMul, thenG_normal, thenG_ret, thenG_exit, thenG_goto, thenG_panic, blockG_normal, blockG_ret, blockG_goto, blockG_panic, jumpG_normal, jumpG_ret, jumpG_exit, jumpG_panic]
        | (refine GW_region' [] (by kernel_rfl) ?_; intro Q hQ hP; simp [hC, hY, vv, b0, b1, b2, b3, b4, b5, q0, q1, q2, q3, q4, y0, y1]; (first | refine hQ _ _ _ _ ?_ | refine hP _ _ (fun _ => ?_)); clear hQ hP Q)
        | (refine GW_draw' [] follows (by kernel_rfl) (by kernel_rfl) ?_; intro Q hQ hP; simp [hC, hY, vv, b0, b1, b2, b3, b4, b5, q0, q1, q2, q3, q4, y0, y1]; (first | refine hQ _ _ _ _ (by kernel_rfl) ?_ | refine hP _ _ (by kernel_rfl) (fun _ => ?_)); clear hQ hP Q)
        | refine GW_block ?_
        | refine GW_ret ?_
        | refine GW_skip ?_
        | refine GW_exit ?_
        | refine GW_goto ?_
        | refine GW_label ?_
        | simp only [blockG_exit]
        | (refine GW_cond (by simp; rfl) ?_ ?_ <;> (intro hb; first | (exfalso; exact absurd hb (by decide)) | skip)))
      refine ⟨.inr trivial, ?_⟩
      simp [Tryd.results31]
    · skip
      repeat' (first
        | refine GW_seq ?_
        | refine GWL_start ?_
        | refine GWL_step ?_
        | simp only [List.length_cons, List.length_nil, Nat.reduceAdd, Nat.reduceMul, thenG_normal, thenG_ret, thenG_exit, thenG_goto, thenG_panic, blockG_normal, blockG_ret, blockG_goto, blockG_panic, jumpG_normal, jumpG_ret, jumpG_exit, jumpG_panic]
        | (refine GW_region' [] (by kernel_rfl) ?_; intro Q hQ hP; simp [hC, hY, vv, b0, b1, b2, b3, b4, b5, q0, q1, q2, q3, q4, y0, y1, y2]; (first | refine hQ _ _ _ _ ?_ | refine hP _ _ (fun _ => ?_)); clear hQ hP Q)
        | (refine GW_draw' [] follows (by kernel_rfl) (by kernel_rfl) ?_; intro Q hQ hP; simp [hC, hY, vv, b0, b1, b2, b3, b4, b5, q0, q1, q2, q3, q4, y0, y1, y2]; (first | refine hQ _ _ _ _ (by kernel_rfl) ?_ | refine hP _ _ (by kernel_rfl) (fun _ => ?_)); clear hQ hP Q)
        | refine GW_block ?_
        | refine GW_ret ?_
        | refine GW_skip ?_
        | refine GW_exit ?_
        | refine GW_goto ?_
        | refine GW_label ?_
        | simp only [blockG_exit]
        | (refine GW_cond (by simp; rfl) ?_ ?_ <;> (intro hb; first | (exfalso; exact absurd hb (by decide)) | skip)))
      refine ⟨.inr trivial, ?_⟩
      simp [Tryd.results31]
  by_cases q5 : g ≤ 1048576
  rotate_left
  · rcases hor with y0 | ⟨y0, y1⟩ | ⟨y0, y1, y2⟩
    · skip
      repeat' (first
        | refine GW_seq ?_
        | refine GWL_start ?_
        | refine GWL_step ?_
        | simp only [List.length_cons, List.length_nil, Nat.reduceAdd, Nat.reduceMul, thenG_normal, thenG_ret, thenG_exit, thenG_goto, thenG_panic, blockG_normal, blockG_ret, blockG_goto, blockG_panic, jumpG_normal, jumpG_ret, jumpG_exit, jumpG_panic]
        | (refine GW_region' [] (by kernel_rfl) ?_; intro Q hQ hP; simp [hC, hY, vv, b0, b1, b2, b3, b4, b5, q0, q1, q2, q3, q4, q5, y0]; (first | refine hQ _ _ _ _ ?_ | refine hP _ _ (fun _ => ?_)); clear hQ hP Q)
        | (refine GW_draw' [] follows (by kernel_rfl) (by kernel_rfl) ?_; intro Q hQ hP; simp [hC, hY, vv, b0, b1, b2, b3, b4, b5, q0, q1, q2, q3, q4, q5, y0]; (first | refine hQ _ _ _ _ (by kernel_rfl) ?_ | refine hP _ _ (by kernel_rfl) (fun _ => ?_)); clear hQ hP Q)
        | refine GW_block ?_
        | refine GW_ret ?_
        | refine GW_skip ?_
        | refine GW_exit ?_
        | refine GW_goto ?_
        | refine GW_label ?_
        | simp only [blockG_exit]
        | (refine GW_cond (by simp; rfl) ?_ ?_ <;> (intro hb; first | (exfalso; exact absurd hb (by decide)) | skip)))
      refine ⟨.inr trivial, ?_⟩
      simp [Tryd.results31]
    · skip
      repeat' (first
        | refine GW_seq ?_
        | refine GWL_start ?_
        | refine GWL_step ?_
        | simp only [List.length_cons, List.length_nil, Nat.reduceAdd, Nat.reduceMul, thenG_normal, thenG_ret, thenG_exit, thenG_goto, thenG_panic, blockG_normal, blockG_ret, blockG_goto, blockG_panic, jumpG_normal, jumpG_ret, jumpG_exit, jumpG_panic]
        | (refine GW_region' [] (by kernel_rfl) ?_; intro Q hQ hP; simp [hC, hY, vv, b0, b1, b2, b3, b4, b5, q0, q1, q2, q3, q4, q5, y0, y1]; (first | refine hQ _ _ _ _ ?_ | refine hP _ _ (fun _ => ?_)); clear hQ hP Q)
        | (refine GW_draw' [] follows (by kernel_rfl) (by kernel_rfl) ?_; intro Q hQ hP; simp [hC, hY, vv, b0, b1, b2, b3, b4, b5, q0, q1, q2, q3, q4, q5, y0, y1]; (first | refine hQ _ _ _ _ (by kernel_rfl) ?_ | refine hP _ _ (by kernel_rfl) (fun _ => ?_)); clear hQ hP Q)
        | refine GW_block ?_
        | refine GW_ret ?_
        | refine GW_skip ?_
        | refine GW_exit ?_
        | refine GW_goto ?_
        | refine GW_label ?_
        | simp only [blockG_exit]
        | (refine GW_cond (by simp; rfl) ?_ ?_ <;> (intro hb; first | (exfalso; exact absurd hb (by decide)) | skip)))
      refine ⟨.inr trivial, ?_⟩
      simp [Tryd.results31]
    · skip
      repeat' (first
        | refine GW_seq ?_
        | refine GWL_start ?_
        | refine GWL_step ?_
        | simp only [List.length_cons, List.length_nil, Nat.reduceAdd, Nat.reduceMul, thenG_normal, thenG_ret, thenG_exit, thenG_goto, thenG_panic, blockG_normal, blockG_ret, blockG_goto, blockG_panic, jumpG_normal, jumpG_ret, jumpG_exit, jumpG_panic]
        | (refine GW_region' [] (by kernel_rfl) ?_; intro Q hQ hP; simp [hC, hY, vv, b0, b1, b2, b3, b4, b5, q0, q1, q2, q3, q4, q5, y0, y1, y2]; (first | refine hQ _ _ _ _ ?_ | refine hP _ _ (fun _ => ?_)); clear hQ hP Q)
        | (refine GW_draw' [] follows (by kernel_rfl) (by kernel_rfl) ?_; intro Q hQ hP; simp [hC, hY, vv, b0, b1, b2, b3, b4, b5, q0, q1, q2, q3, q4, q5, y0, y1, y2]; (first | refine hQ _ _ _ _ (by kernel_rfl) ?_ | refine hP _ _ (by kernel_rfl) (fun _ => ?_)); clear hQ hP Q)
        | refine GW_block ?_
        | refine GW_ret ?_
        | refine GW_skip ?_
        | refine GW_exit ?_
        | refine GW_goto ?_
        | refine GW_label ?_
        | simp only [blockG_exit]
        | (refine GW_cond (by simp; rfl) ?_ ?_ <;> (intro hb; first | (exfalso; exact absurd hb (by decide)) | skip)))
      refine ⟨.inr trivial, ?_⟩
      simp [Tryd.results31]
  by_cases q6 : 1 ≤ m
  rotate_left
  · rcases hor with y0 | ⟨y0, y1⟩ | ⟨y0, y1, y2⟩
    · skip
      repeat' (first
        | refine GW_seq ?_
        | refine GWL_start ?_
        | refine GWL_step ?_
        | simp only [List.length_cons, List.length_nil, Nat.reduceAdd, Nat.reduceMul, thenG_normal, thenG_ret, thenG_exit, thenG_goto, thenG_panic, blockG_normal, blockG_ret, blockG_goto, blockG_panic, jumpG_normal, jumpG_ret, jumpG_exit, jumpG_panic]
        | (refine GW_region' [] (by kernel_rfl) ?_; intro Q hQ hP; simp [hC, hY, vv, b0, b1, b2, b3, b4, b5, q0, q1, q2, q3, q4, q5, q6, y0]; (first | refine hQ _ _ _ _ ?_ | refine hP _ _ (fun _ => ?_)); clear hQ hP Q)
        | (refine GW_draw' [] follows (by kernel_rfl) (by kernel_rfl) ?_; intro Q hQ hP; simp [hC, hY, vv, b0, b1, b2, b3, b4, b5, q0, q1, q2, q3, q4, q5, q6, y0]; (first | refine hQ _ _ _ _ (by kernel_rfl) ?_ | refine hP _ _ (by kernel_rfl) (fun _ => ?_)); clear hQ hP Q)
        | refine GW_block ?_
        | refine GW_ret ?_
        | refine GW_skip ?_
        | refine GW_exit ?_
        | refine GW_goto ?_
        | refine GW_label ?_
        | simp only [blockG_exit]
        | (refine GW_cond (by simp; rfl) ?_ ?_ <;> (intro hb; first | (exfalso; exact absurd hb (by decide)) | skip)))
      refine ⟨.inr trivial, ?_⟩
      simp [Tryd.results31]
    · skip
      repeat' (first
        | refine GW_seq ?_
        | refine GWL_start ?_
        | refine GWL_step ?_
        | simp only [List.length_cons, List.length_nil, Nat.reduceAdd, Nat.reduceMul, thenG_normal, thenG_ret, thenG_exit, thenG_goto, thenG_panic, blockG_normal, blockG_ret, blockG_goto, blockG_panic, jumpG_normal, jumpG_ret, jumpG_exit, jumpG_panic]
        | (refine GW_region' [] (by kernel_rfl) ?_; intro Q hQ hP; simp [hC, hY, vv, b0, b1, b2, b3, b4, b5, q0, q1, q2, q3, q4, q5, q6, y0, y1]; (first | refine hQ _ _ _ _ ?_ | refine hP _ _ (fun _ => ?_)); clear hQ hP Q)
        | (refine GW_draw' [] follows (by kernel_rfl) (by kernel_rfl) ?_; intro Q hQ hP; simp [hC, hY, vv, b0, b1, b2, b3, b4, b5, q0, q1, q2, q3, q4, q5, q6, y0, y1]; (first | refine hQ _ _ _ _ (by kernel_rfl) ?_ | refine hP _ _ (by kernel_rfl) (fun _ => ?_)); clear hQ hP Q)
        | refine GW_block ?_
        | refine GW_ret ?_
        | refine GW_skip ?_
        | refine GW_exit ?_
        | refine GW_goto ?_
        | refine GW_label ?_
        | simp only [blockG_exit]
        | (refine GW_cond (by simp; rfl) ?_ ?_ <;> (intro hb; first | (exfalso; exact absurd hb (by decide)) | skip)))
      refine ⟨.inr trivial, ?_⟩
      simp [Tryd.results31]
    · skip
      repeat' (first
        | refine GW_seq ?_
        | refine GWL_start ?_
        | refine GWL_step ?_
        | simp only [List.length_cons, List.length_nil, Nat.reduceAdd, Nat.reduceMul, thenG_normal, thenG_ret, thenG_exit, thenG_goto, thenG_panic, blockG_normal, blockG_ret, blockG_goto, blockG_panic, jumpG_normal, jumpG_ret, jumpG_exit, jumpG_panic]
        | (refine GW_region' [] (by kernel_rfl) ?_; intro Q hQ hP; simp [hC, hY, vv, b0, b1, b2, b3, b4, b5, q0, q1, q2, q3, q4, q5, q6, y0, y1, y2]; (first | refine hQ _ _ _ _ ?_ | refine hP _ _ (fun _ => ?_)); clear hQ hP Q)
        | (refine GW_draw' [] follows (by kernel_rfl) (by kernel_rfl) ?_; intro Q hQ hP; simp [hC, hY, vv, b0, b1, b2, b3, b4, b5, q0, q1, q2, q3, q4, q5, q6, y0, y1, y2]; (first | refine hQ _ _ _ _ (by kernel_rfl) ?_ | refine hP _ _ (by kernel_rfl) (fun _ => ?_)); clear hQ hP Q)
        | refine GW_block ?_
        | refine GW_ret ?_
        | refine GW_skip ?_
        | refine GW_exit ?_
        | refine GW_goto ?_
        | refine GW_label ?_
        | simp only [blockG_exit]
        | (refine GW_cond (by simp; rfl) ?_ ?_ <;> (intro hb; first | (exfalso; exact absurd hb (by decide)) | skip)))
      refine ⟨.inr trivial, ?_⟩
      simp [Tryd.results31]
  by_cases q7 : m ≤ 1024
  rotate_left
  · rcases hor with y0 | ⟨y0, y1⟩ | ⟨y0, y1, y2⟩
    · skip
      repeat' (first
        | refine GW_seq ?_
        | refine GWL_start ?_
        | refine GWL_step ?_
        | simp only [List.length_cons, List.length_nil, Nat.reduceAdd, Nat.reduceMul, thenG_normal, thenG_ret, thenG_exit, thenG_goto, thenG_panic, blockG_normal, blockG_ret, blockG_goto, blockG_panic, jumpG_normal, jumpG_ret, jumpG_exit, jumpG_panic]
        | (refine GW_region' [] (by kernel_rfl) ?_; intro Q hQ hP; simp [hC, hY, vv, b0, b1, b2, b3, b4, b5, q0, q1, q2, q3, q4, q5, q6, q7, y0]; (first | refine hQ _ _ _ _ ?_ | refine hP _ _ (fun _ => ?_)); clear hQ hP Q)
        | (refine GW_draw' [] follows (by kernel_rfl) (by kernel_rfl) ?_; intro Q hQ hP; simp [hC, hY, vv, b0, b1, b2, b3, b4, b5, q0, q1, q2, q3, q4, q5, q6, q7, y0]; (first | refine hQ _ _ _ _ (by kernel_rfl) ?_ | refine hP _ _ (by kernel_rfl) (fun _ => ?_)); clear hQ hP Q)
        | refine GW_block ?_
        | refine GW_ret ?_
        | refine GW_skip ?_
        | refine GW_exit ?_
        | refine GW_goto ?_
        | refine GW_label ?_
        | simp only [blockG_exit]
        | (refine GW_cond (by simp; rfl) ?_ ?_ <;> (intro hb; first | (exfalso; exact absurd hb (by decide)) | skip)))
      refine ⟨.inr trivial, ?_⟩
      simp [Tryd.results31]
    · skip
      repeat' (first
        | refine GW_seq ?_
        | refine GWL_start ?_
        | refine GWL_step ?_
        | simp only [List.length_cons, List.length_nil, Nat.reduceAdd, Nat.reduceMul, thenG_normal, thenG_ret, thenG_exit, thenG_goto, thenG_panic, blockG_normal, blockG_ret, blockG_goto, blockG_panic, jumpG_normal, jumpG_ret, jumpG_exit, jumpG_panic]
        | (refine GW_region' [] (by kernel_rfl) ?_; intro Q hQ hP; simp [hC, hY, vv, b0, b1, b2, b3, b4, b5, q0, q1, q2, q3, q4, q5, q6, q7, y0, y1]; (first | refine hQ _ _ _ _ ?_ | refine hP _ _ (fun _ => ?_)); clear hQ hP Q)
        | (refine GW_draw' [] follows (by kernel_rfl) (by kernel_rfl) ?_; intro Q hQ hP; simp [hC, hY, vv, b0, b1, b2, b3, b4, b5, q0, q1, q2, q3, q4, q5, q6, q7, y0, y1]; (first | refine hQ _ _ _ _ (by kernel_rfl) ?_ | refine hP _ _ (by kernel_rfl) (fun _ => ?_)); clear hQ hP Q)
        | refine GW_block ?_
        | refine GW_ret ?_
        | refine GW_skip ?_
        | refine GW_exit ?_
        | refine GW_goto ?_
        | refine GW_label ?_
        | simp only [blockG_exit]
        | (refine GW_cond (by simp; rfl) ?_ ?_ <;> (intro hb; first | (exfalso; exact absurd hb (by decide)) | skip)))
      refine ⟨.inr trivial, ?_⟩
      simp [Tryd.results31]
    · skip
      repeat' (first
        | refine GW_seq ?_
        | refine GWL_start ?_
        | refine GWL_step ?_
        | simp only [List.length_cons, List.length_nil, Nat.reduceAdd, Nat.reduceMul, thenG_normal, thenG_ret, thenG_exit, thenG_goto, thenG_panic, blockG_normal, blockG_ret, blockG_goto, blockG_panic, jumpG_normal, jumpG_ret, jumpG_exit, jumpG_panic]
        | (refine GW_region' [] (by kernel_rfl) ?_; intro Q hQ hP; simp [hC, hY, vv, b0, b1, b2, b3, b4, b5, q0, q1, q2, q3, q4, q5, q6, q7, y0, y1, y2]; (first | refine hQ _ _ _ _ ?_ | refine hP _ _ (fun _ => ?_)); clear hQ hP Q)
        | (refine GW_draw' [] follows (by kernel_rfl) (by kernel_rfl) ?_; intro Q hQ hP; simp [hC, hY, vv, b0, b1, b2, b3, b4, b5, q0, q1, q2, q3, q4, q5, q6, q7, y0, y1, y2]; (first | refine hQ _ _ _ _ (by kernel_rfl) ?_ | refine hP _ _ (by kernel_rfl) (fun _ => ?_)); clear hQ hP Q)
        | refine GW_block ?_
        | refine GW_ret ?_
        | refine GW_skip ?_
        | refine GW_exit ?_
        | refine GW_goto ?_
        | refine GW_label ?_
        | simp only [blockG_exit]
        | (refine GW_cond (by simp; rfl) ?_ ?_ <;> (intro hb; first | (exfalso; exact absurd hb (by decide)) | skip)))
      refine ⟨.inr trivial, ?_⟩
      simp [Tryd.results31]
  exact absurd ⟨⟨a0, a1⟩, ⟨a2, a3⟩, ⟨a4, a5⟩, far, q0, q1, q2, q3, q4, q5, q6, q7⟩ h
@[simp] theorem mayT (n d g m x0 x1 x2 : Int) (h : MayP n d g m x0 x1 x2) (K : Value → Prop) : callK Tryd.prog G1 31 #[.int .i64 n, .int .i64 d, .int .i64 g, .int .i64 m, .agg #[.int .i64 x0, .int .i64 x1, .int .i64 x2]] K ↔ K (.bool true) := callK_iff G1W (by kernel_rfl) (may_t n d g m x0 x1 x2 h)
@[simp] theorem mayF (n d g m x0 x1 x2 : Int) (h : ¬ MayP n d g m x0 x1 x2) (K : Value → Prop) : callK Tryd.prog G1 31 #[.int .i64 n, .int .i64 d, .int .i64 g, .int .i64 m, .agg #[.int .i64 x0, .int .i64 x1, .int .i64 x2]] K ↔ K (.bool false) := callK_iff G1W (by kernel_rfl) (may_f n d g m x0 x1 x2 h)
end Go.Gy
namespace Go.Gy
set_option linter.unusedSimpArgs false
set_option linter.unusedVariables false
open Go Go.RowKit Go.Proofs
theorem sq_pos {x : Int} (h : x ≠ 0) : 1 ≤ x * x := by
  by_cases h0 : 0 ≤ x
  · exact Int.mul_pos (by omega) (by omega)
  · rw [← Int.neg_mul_neg]; exact Int.mul_pos (by omega) (by omega)
theorem MayP.pin {n d g m x0 x1 x2 : Int} (h : MayP n d g m x0 x1 x2) : PIn n d g m x0 (x0 * x0 + x1 * x1 + x2 * x2) ∧ PIn n d g m x1 (x0 * x0 + x1 * x1 + x2 * x2) ∧ PIn n d g m x2 (x0 * x0 + x1 * x1 + x2 * x2) := by
  have s0 := inB_sq h.i0
  have s1 := inB_sq h.i1
  have s2 := inB_sq h.i2
  have hr : 1 ≤ x0 * x0 + x1 * x1 + x2 * x2 := by
    by_cases z0 : x0 = 0
    · by_cases z1 : x1 = 0
      · have := sq_pos (x := x2) (fun z2 => h.far ⟨z0, z1, z2⟩); omega
      · have := sq_pos z1; omega
    · have := sq_pos z0; omega
  refine ⟨⟨h.n0, h.n1, h.d0, h.d1, h.g0, h.g1, h.m0, h.m1, h.i0.1, h.i0.2, hr, by omega, by omega⟩, ⟨h.n0, h.n1, h.d0, h.d1, h.g0, h.g1, h.m0, h.m1, h.i1.1, h.i1.2, hr, by omega, by omega⟩, ⟨h.n0, h.n1, h.d0, h.d1, h.g0, h.g1, h.m0, h.m1, h.i2.1, h.i2.2, hr, by omega, by omega⟩⟩
theorem MayP.at {n d g m x0 x1 x2 r p0 p1 p2 : Int} (h : MayP n d g m x0 x1 x2) (hr : x0 * x0 + x1 * x1 + x2 * x2 = r) (e0 : pullV n d g m x0 r = p0) (e1 : pullV n d g m x1 r = p1) (e2 : pullV n d g m x2 r = p2) (K : Value → Prop) :
    callK Tryd.prog G1 33 #[.int .i64 n, .int .i64 d, .int .i64 g, .int .i64 m, .agg #[.int .i64 x0, .int .i64 x1, .int .i64 x2]] K ↔ K (.tuple #[.agg #[.int .i64 p0, .int .i64 p1, .int .i64 p2], .int .i64 0]) := by
  have hp := h.pin
  rw [hr] at hp
  exact pull_at hr h.i0 h.i1 h.i2 hp.1 hp.2.1 hp.2.2 e0 e1 e2 K
theorem pmag_negx (n d g m x r : Int) : pmag n d g m (-x) r = pmag n d g m x r := by
  unfold pmag
  rw [Int.mul_neg, Int.neg_mul_neg]
theorem pmag_negn (n d g m x r : Int) : pmag (-n) d g m x r = pmag n d g m x r := by
  unfold pmag
  have e : 2 * -n * g * m * x = -(2 * n * g * m * x) := by simp only [Int.mul_neg, Int.neg_mul]
  rw [e, Int.neg_mul_neg]
theorem pmag_n0 (d g m x r : Int) : pmag 0 d g m x r = 0 := by
  unfold pmag
  simp only [Int.mul_zero, Int.zero_mul, Int.zero_ediv]
  rw [isq_unique (r := 0) (by decide) (by decide) (by decide)]
  decide
theorem pullV_negx (n d g m x r : Int) : pullV n d g m (-x) r = -pullV n d g m x r := by
  unfold pullV
  rw [pmag_negx]
  have h0 : x = 0 → pmag n d g m x r = 0 := fun h => by subst h; exact pmag_0 _ _ _ _ _
  generalize pmag n d g m x r = M at *
  (repeat' split) <;> omega
theorem pullV_negn (n d g m x r : Int) : pullV (-n) d g m x r = -pullV n d g m x r := by
  unfold pullV
  rw [pmag_negn]
  have h0 : n = 0 → pmag n d g m x r = 0 := fun h => by subst h; exact pmag_n0 _ _ _ _ _
  generalize pmag n d g m x r = M at *
  (repeat' split) <;> omega
theorem PIn.val {n d g m x r : Int} (h : PIn n d g m x r) : -4503599627370496 ≤ pullV n d g m x r ∧ pullV n d g m x r ≤ 4503599627370496 := by
  have := h.mag
  unfold pullV
  (repeat' split) <;> omega
theorem MayP.negx {n d g m x0 x1 x2 : Int} (h : MayP n d g m x0 x1 x2) : MayP n d g m (-x0) (-x1) (-x2) :=
  ⟨⟨by have := h.i0.2; omega, by have := h.i0.1; omega⟩, ⟨by have := h.i1.2; omega, by have := h.i1.1; omega⟩, ⟨by have := h.i2.2; omega, by have := h.i2.1; omega⟩, by have := h.far; omega, h.n0, h.n1, h.d0, h.d1, h.g0, h.g1, h.m0, h.m1⟩
theorem MayP.negn {n d g m x0 x1 x2 : Int} (h : MayP n d g m x0 x1 x2) : MayP (-n) d g m x0 x1 x2 :=
  ⟨h.i0, h.i1, h.i2, h.far, by have := h.n1; omega, by have := h.n0; omega, h.d0, h.d1, h.g0, h.g1, h.m0, h.m1⟩
theorem MayP.rot {n d g m x0 x1 x2 : Int} (h : MayP n d g m x0 x1 x2) : MayP n d g m x1 x2 x0 := ⟨h.i1, h.i2, h.i0, by have := h.far; omega, h.n0, h.n1, h.d0, h.d1, h.g0, h.g1, h.m0, h.m1⟩
theorem MayP.swp {n d g m x0 x1 x2 : Int} (h : MayP n d g m x0 x1 x2) : MayP n d g m x1 x0 (-x2) := ⟨h.i1, h.i0, ⟨by have := h.i2.2; omega, by have := h.i2.1; omega⟩, by have := h.far; omega, h.n0, h.n1, h.d0, h.d1, h.g0, h.g1, h.m0, h.m1⟩
set_option maxHeartbeats 4000000 in
set_option maxRecDepth 100000 in
theorem PullTurns_ret (n d g m x0 x1 x2 : Int) (hn : i64 n) (hd : i64 d) (hg : i64 g) (hm : i64 m) (hx0 : i64 x0) (hx1 : i64 x1) (hx2 : i64 x2) : Ret Tryd.prog G1 8 #[.int .i64 n, .int .i64 d, .int .i64 g, .int .i64 m, vv x0 x1 x2] (.bool true) := by
  refine ret_of G1F Tryd.func8 rfl Tryd.call8 rfl (by simp [vv]) (by simp [Tryd.ntmps8]) ?_
  intro C hC hC0 hY
  by_cases h : MayP n d g m x0 x1 x2
  rotate_left
  · skip
    repeat' (first
      | refine GW_seq ?_
      | simp only [List.length_cons, List.length_nil, Nat.reduceAdd, Nat.reduceMul, thenG_normal, thenG_ret, thenG_exit, thenG_goto, thenG_panic, blockG_normal, blockG_ret, blockG_goto, blockG_panic, jumpG_normal, jumpG_ret, jumpG_exit, jumpG_panic]
      | (refine GW_region' [] (by kernel_rfl) ?_; intro Q hQ hP; simp [hC, hY, vv, h]; (first | refine hQ _ _ _ _ ?_ | refine hP _ _ (fun _ => ?_)); clear hQ hP Q)
      | (refine GW_draw' [] follows (by kernel_rfl) (by kernel_rfl) ?_; intro Q hQ hP; simp [hC, hY, vv, h]; (first | refine hQ _ _ _ _ (by kernel_rfl) ?_ | refine hP _ _ (by kernel_rfl) (fun _ => ?_)); clear hQ hP Q)
      | refine GW_block ?_
      | refine GW_ret ?_
      | refine GW_skip ?_
      | refine GW_exit ?_
      | refine GW_goto ?_
      | refine GW_label ?_
      | simp only [blockG_exit]
      | (refine GW_cond (by simp; rfl) ?_ ?_ <;> (intro hb; first | (exfalso; exact absurd hb (by decide)) | skip)))
    refine ⟨.inr trivial, ?_⟩
    simp [Tryd.results8]
  have hp := h.pin
  obtain ⟨r, hr⟩ : ∃ r, x0 * x0 + x1 * x1 + x2 * x2 = r := ⟨_, rfl⟩
  rw [hr] at hp
  obtain ⟨p0, e0⟩ : ∃ p, pullV n d g m x0 r = p := ⟨_, rfl⟩
  obtain ⟨p1, e1⟩ : ∃ p, pullV n d g m x1 r = p := ⟨_, rfl⟩
  obtain ⟨p2, e2⟩ : ∃ p, pullV n d g m x2 r = p := ⟨_, rfl⟩
  have v0 := hp.1.val
  have v1 := hp.2.1.val
  have v2 := hp.2.2.val
  rw [e0] at v0
  rw [e1] at v1
  rw [e2] at v2
  have w1 := h.at hr e0 e1 e2
  have w2 := h.negx.at (r := r) (by rw [Int.neg_mul_neg, Int.neg_mul_neg, Int.neg_mul_neg]; exact hr) (by rw [pullV_negx, e0]) (by rw [pullV_negx, e1]) (by rw [pullV_negx, e2])
  have w3 := h.negn.at (r := r) hr (by rw [pullV_negn, e0]) (by rw [pullV_negn, e1]) (by rw [pullV_negn, e2])
  have w4 := h.rot.at (r := r) (by omega) e1 e2 e0
  have w5 := h.swp.at (r := r) (by rw [Int.neg_mul_neg]; omega) e1 e0 (by rw [pullV_negx, e2])
  have c0 : Int.bmod (-x0) 18446744073709551616 = -x0 := bm (by have := h.i0.2; omega) (by have := h.i0.1; omega)
  have c1 : Int.bmod (-x1) 18446744073709551616 = -x1 := bm (by have := h.i1.2; omega) (by have := h.i1.1; omega)
  have c2 : Int.bmod (-x2) 18446744073709551616 = -x2 := bm (by have := h.i2.2; omega) (by have := h.i2.1; omega)
  have c3 : Int.bmod (-n) 18446744073709551616 = -n := bm (by have := h.n1; omega) (by have := h.n0; omega)
  have c4 : Int.bmod (-p0) 18446744073709551616 = -p0 := bm (by omega) (by omega)
  have c5 : Int.bmod (-p1) 18446744073709551616 = -p1 := bm (by omega) (by omega)
  have c6 : Int.bmod (-p2) 18446744073709551616 = -p2 := bm (by omega) (by omega)
  repeat' (first
    | refine GW_seq ?_
    | simp only [List.length_cons, List.length_nil, Nat.reduceAdd, Nat.reduceMul, thenG_normal, thenG_ret, thenG_exit, thenG_goto, thenG_panic, blockG_normal, blockG_ret, blockG_goto, blockG_panic, jumpG_normal, jumpG_ret, jumpG_exit, jumpG_panic]
    | (refine GW_region' [] (by kernel_rfl) ?_; intro Q hQ hP; simp [hC, hY, vv, h, w1, w2, w3, w4, w5, c0, c1, c2, c3, c4, c5, c6]; (first | refine hQ _ _ _ _ ?_ | refine hP _ _ (fun _ => ?_)); clear hQ hP Q)
    | (refine GW_draw' [] follows (by kernel_rfl) (by kernel_rfl) ?_; intro Q hQ hP; simp [hC, hY, vv, h, w1, w2, w3, w4, w5, c0, c1, c2, c3, c4, c5, c6]; (first | refine hQ _ _ _ _ (by kernel_rfl) ?_ | refine hP _ _ (by kernel_rfl) (fun _ => ?_)); clear hQ hP Q)
    | refine GW_block ?_
    | refine GW_ret ?_
    | refine GW_skip ?_
    | refine GW_exit ?_
    | refine GW_goto ?_
    | refine GW_label ?_
    | simp only [blockG_exit]
    | (refine GW_cond (by simp; rfl) ?_ ?_ <;> (intro hb; first | (exfalso; exact absurd hb (by decide)) | skip)))
  refine ⟨.inr trivial, ?_⟩
  simp [Tryd.results8]
/-! who is too far -/
theorem sq_lt_zero {q : Int} (h0 : 0 ≤ q) : (isq q + 1) / 2 = 0 ↔ q = 0 := by
  obtain ⟨h1, h2, h3⟩ := isq_spec q h0
  constructor
  · intro h
    have h4 : isq q = 0 := by omega
    rw [h4] at h3
    omega
  · intro h
    subst h
    rw [isq_unique (r := 0) (by decide) (by decide) (by decide)]
    decide
theorem PIn.zero {n d g m x r : Int} (h : PIn n d g m x r) : pullV n d g m x r = 0 ↔ 2 * n * g * m * x * (2 * n * g * m * x) < d * d * r * r * r := by
  have hB : 0 < d * d * r * r * r := by have := h.q4.1; have := h.r0; omega
  have hA := sq_nonneg (2 * n * g * m * x)
  have e1 : pullV n d g m x r = 0 ↔ pmag n d g m x r = 0 := by
    have := h.mag
    unfold pullV
    (repeat' split) <;> omega
  rw [e1]
  unfold pmag
  rw [sq_lt_zero (Int.ediv_nonneg hA (by omega))]
  generalize 2 * n * g * m * x * (2 * n * g * m * x) = A at *
  generalize d * d * r * r * r = B at *
  constructor
  · intro h
    have e2 := Int.emod_lt_of_pos A hB
    have e3 := Int.mul_ediv_add_emod A B
    rw [h] at e3
    omega
  · intro h; exact Int.ediv_eq_zero_of_lt hA h
theorem PIn.beyond {n d g m x r : Int} (h : PIn n d g m x r) (hb : 2 * n * g * m * (2 * n * g * m) < d * r * (d * r)) : pullV n d g m x r = 0 := by
  rw [h.zero]
  have e1 : 2 * n * g * m * x * (2 * n * g * m * x) = 2 * n * g * m * (2 * n * g * m) * (x * x) := by
    rw [Int.mul_assoc (2 * n * g * m) x, Int.mul_left_comm x, ← Int.mul_assoc]
  have e2 : d * d * r * r * r = d * r * (d * r) * r := by
    congr 1
    rw [Int.mul_assoc d r, Int.mul_left_comm r, ← Int.mul_assoc, ← Int.mul_assoc]
  rw [e1, e2]
  have hr := h.r0
  have h1 : 2 * n * g * m * (2 * n * g * m) * (x * x) ≤ 2 * n * g * m * (2 * n * g * m) * r := Int.mul_le_mul_of_nonneg_left h.xr (sq_nonneg _)
  exact Int.lt_of_le_of_lt h1 (Int.mul_lt_mul_of_pos_right hb (by omega))
theorem PIn.alone {n d g m x : Int} (h : PIn n d g m x (x * x)) (hx : x ≠ 0) : pullV n d g m x (x * x) = 0 ↔ 2 * n * g * m * (2 * n * g * m) < d * (x * x) * (d * (x * x)) := by
  rw [h.zero]
  have e1 : 2 * n * g * m * x * (2 * n * g * m * x) = 2 * n * g * m * (2 * n * g * m) * (x * x) := by
    rw [Int.mul_assoc (2 * n * g * m) x, Int.mul_left_comm x, ← Int.mul_assoc]
  have e2 : ∀ y : Int, d * d * y * y * y = d * y * (d * y) * y := fun y => by
    congr 1
    rw [Int.mul_assoc d y, Int.mul_left_comm y, ← Int.mul_assoc, ← Int.mul_assoc]
  rw [e1, e2 (x * x)]
  have hp : 0 < x * x := by have := sq_pos hx; omega
  constructor
  · intro h1; exact Int.lt_of_mul_lt_mul_right h1 (by omega)
  · intro h1; exact Int.mul_lt_mul_of_pos_right h1 hp
end Go.Gy
namespace Go.Gy
set_option linter.unusedSimpArgs false
set_option linter.unusedVariables false
open Go Go.RowKit Go.Proofs
def onL (n d g m x r : Int) (k : Blk) : List (Nat × Blk) := [(200, ib n), (208, ib d), (216, ib g), (224, ib m), (232, ib x), (240, ib r), (248, k)]
def onHp (n d g m x r : Int) : Hp := hpL G1 (onL n d g m x r (ib 0))
theorem onHp_rst (n d g m x r : Int) : rst (onHp n d g m x r) [200, 208, 216, 224, 232, 240, 248] = onHp n d g m x r := hpL_rst G1F (by simp [onL])
theorem onHp_closed (n d g m x r : Int) (D : Nat → Prop) (k : Nat) (c : Blk) (h : onHp n d g m x r k = some c) : c.ids D := by
  rcases hpL_mem h with h | h
  · simp [onL] at h
    rcases h with ⟨_, rfl⟩ | ⟨_, rfl⟩ | ⟨_, rfl⟩ | ⟨_, rfl⟩ | ⟨_, rfl⟩ | ⟨_, rfl⟩ | ⟨_, rfl⟩ <;> simp [ib]
  · exact G1_closed _ _ _ h
theorem onHp_free (n d g m x r : Int) (k : Nat) (hk : 300 ≤ k) : onHp n d g m x r k = none := by
  simp [onHp, onL, show ¬ k = 200 by omega, show ¬ k = 208 by omega, show ¬ k = 216 by omega, show ¬ k = 224 by omega, show ¬ k = 232 by omega, show ¬ k = 240 by omega, show ¬ k = 248 by omega, show 100 ≤ k by omega]
theorem on1_ok (n d g m x r : Int) (h : PIn n d g m x r) : Fun Tryd.prog G1 79 [.pointer (some ⟨200, 0, none⟩), .pointer (some ⟨208, 0, none⟩), .pointer (some ⟨216, 0, none⟩), .pointer (some ⟨224, 0, none⟩), .pointer (some ⟨232, 0, none⟩), .pointer (some ⟨240, 0, none⟩), .pointer (some ⟨248, 0, none⟩)].toArray (onHp n d g m x r) [200, 208, 216, 224, 232, 240, 248] (.ret (.tuple #[]) [(248, ib (pullV n d g m x r))]) := by
  refine fun_of (B := 300) G1F (fun k hk => hpL_low (by simp [onL]) hk) Tryd.func79 rfl Tryd.call79 ?_ ?_ ?_ (by simp [Tryd.ntmps79]) (by omega) ?_ ?_
  · rw [onHp_rst]; simp [onHp, onL, dom]
  · rw [onHp_rst]; exact onHp_closed n d g m x r _
  · refine ⟨flatV_ids (by simp), by simp [keys, onHp, onL, dom], fun k b c e1 e2 => ?_, by simp [ib]⟩
    simp at e1 e2
    rw [e1.2, e2.2]
  · rw [onHp_rst]; exact onHp_free n d g m x r
  · intro C hC hC0 hY
    rw [onHp_rst] at hC0 ⊢
    repeat' (first
      | refine GW_seq ?_
      | simp only [List.length_cons, List.length_nil, Nat.reduceAdd, Nat.reduceMul, thenG_normal, thenG_ret, thenG_exit, thenG_goto, thenG_panic, blockG_normal, blockG_ret, blockG_goto, blockG_panic, jumpG_normal, jumpG_ret, jumpG_exit, jumpG_panic]
      | (refine GW_region' [1000071] (by kernel_rfl) ?_; intro Q hQ hP; simp [hC, hY, onHp, onL, ib]; (repeat (first | ((refine callP_of (one_ok _ _ _ _ _ _ h) ?_); try simp [hC, hY, onHp, onL, ib]))); (first | refine hQ _ _ _ _ ?_ | refine hP _ _ (fun _ => ?_)); clear hQ hP Q)
      | (refine GW_draw' [1000071] follows (by kernel_rfl) (by kernel_rfl) ?_; intro Q hQ hP; simp [hC, hY, onHp, onL, ib]; (repeat (first | ((refine callP_of (one_ok _ _ _ _ _ _ h) ?_); try simp [hC, hY, onHp, onL, ib]))); (first | refine hQ _ _ _ _ (by kernel_rfl) ?_ | refine hP _ _ (by kernel_rfl) (fun _ => ?_)); clear hQ hP Q)
      | refine GW_block ?_
      | refine GW_ret ?_
      | refine GW_skip ?_
      | refine GW_exit ?_
      | refine GW_goto ?_
      | refine GW_label ?_
      | simp only [blockG_exit]
      | (refine GW_cond (by simp; rfl) ?_ ?_ <;> (intro hb; first | (exfalso; exact absurd hb (by decide)) | skip)))
    refine ⟨.inl rfl, by simp [Tryd.results79], fun k hk => ?_⟩
    first | rfl | simp [updL, ib, onHp, onL]
theorem on1_bad (n d g m x r : Int) (h : chkE n d g m x r ≠ 0) : Fun Tryd.prog G1 79 [.pointer (some ⟨200, 0, none⟩), .pointer (some ⟨208, 0, none⟩), .pointer (some ⟨216, 0, none⟩), .pointer (some ⟨224, 0, none⟩), .pointer (some ⟨232, 0, none⟩), .pointer (some ⟨240, 0, none⟩), .pointer (some ⟨248, 0, none⟩)].toArray (onHp n d g m x r) [200, 208, 216, 224, 232, 240, 248] (.pan (erV (chkE n d g m x r))) := by
  refine fun_of (B := 300) G1F (fun k hk => hpL_low (by simp [onL]) hk) Tryd.func79 rfl Tryd.call79 ?_ ?_ trivial (by simp [Tryd.ntmps79]) (by omega) ?_ ?_
  · rw [onHp_rst]; simp [onHp, onL, dom]
  · rw [onHp_rst]; exact onHp_closed n d g m x r _
  · rw [onHp_rst]; exact onHp_free n d g m x r
  · intro C hC hC0 hY
    rw [onHp_rst] at hC0 ⊢
    repeat' (first
      | refine GW_seq ?_
      | simp only [List.length_cons, List.length_nil, Nat.reduceAdd, Nat.reduceMul, thenG_normal, thenG_ret, thenG_exit, thenG_goto, thenG_panic, blockG_normal, blockG_ret, blockG_goto, blockG_panic, jumpG_normal, jumpG_ret, jumpG_exit, jumpG_panic]
      | (refine GW_region' [1000071] (by kernel_rfl) ?_; intro Q hQ hP; simp [hC, hY, onHp, onL, ib]; (repeat (first | ((refine callP_of (one_bad _ _ _ _ _ _ h) ?_); try simp [hC, hY, onHp, onL, ib]))); (first | refine hQ _ _ _ _ ?_ | refine hP _ _ (fun _ => ?_)); clear hQ hP Q)
      | (refine GW_draw' [1000071] follows (by kernel_rfl) (by kernel_rfl) ?_; intro Q hQ hP; simp [hC, hY, onHp, onL, ib]; (repeat (first | ((refine callP_of (one_bad _ _ _ _ _ _ h) ?_); try simp [hC, hY, onHp, onL, ib]))); (first | refine hQ _ _ _ _ (by kernel_rfl) ?_ | refine hP _ _ (by kernel_rfl) (fun _ => ?_)); clear hQ hP Q)
      | refine GW_block ?_
      | refine GW_ret ?_
      | refine GW_skip ?_
      | refine GW_exit ?_
      | refine GW_goto ?_
      | refine GW_label ?_
      | simp only [blockG_exit]
      | (refine GW_cond (by simp; rfl) ?_ ?_ <;> (intro hb; first | (exfalso; exact absurd hb (by decide)) | skip)))
    refine ⟨rfl, fun k hk => ?_⟩
    have hk3 : k < 300 := Classical.byContradiction fun h => hk (onHp_free n d g m x r k (by omega))
    first | rfl | (simp (disch := omega) only [upd_far]; rfl)
theorem pone_ok (n d g m x r : Int) (h : PIn n d g m x r) : Ret Tryd.prog G1 38 #[.int .i64 n, .int .i64 d, .int .i64 g, .int .i64 m, .int .i64 x, .int .i64 r] (.tuple #[.int .i64 (pullV n d g m x r), .int .i64 0]) := by
  refine ret_of G1F Tryd.func38 rfl Tryd.call38 (by simp) (by simp) (by simp [Tryd.ntmps38]) ?_
  intro C hC hC0 hY
  repeat' (first
    | refine GW_seq ?_
    | simp only [List.length_cons, List.length_nil, Nat.reduceAdd, Nat.reduceMul, thenG_normal, thenG_ret, thenG_exit, thenG_goto, thenG_panic, blockG_normal, blockG_ret, blockG_goto, blockG_panic, jumpG_normal, jumpG_ret, jumpG_exit, jumpG_panic]
    | (refine GW_region' [67] (by kernel_rfl) ?_; intro Q hQ hP; simp [hC, hY, ib]; (repeat (first | ((refine heapK_of (hp' := onHp n d g m x r) (ptold_ret (fun k hk => hpL_low (by simp [onL]) hk) (by simp) rfl (by simp) (on1_ok n d g m x r h)) (by simp [onHp, onL, ib]) (fun k hk => hpL_low (by simp [onL]) hk) trivial ?_); try simp [hC, hY, ib]))); (first | refine hQ _ _ _ _ ?_ | refine hP _ _ (fun _ => ?_)); clear hQ hP Q)
    | (refine GW_draw' [67] follows (by kernel_rfl) (by kernel_rfl) ?_; intro Q hQ hP; simp [hC, hY, ib]; (repeat (first | ((refine heapK_of (hp' := onHp n d g m x r) (ptold_ret (fun k hk => hpL_low (by simp [onL]) hk) (by simp) rfl (by simp) (on1_ok n d g m x r h)) (by simp [onHp, onL, ib]) (fun k hk => hpL_low (by simp [onL]) hk) trivial ?_); try simp [hC, hY, ib]))); (first | refine hQ _ _ _ _ (by kernel_rfl) ?_ | refine hP _ _ (by kernel_rfl) (fun _ => ?_)); clear hQ hP Q)
    | refine GW_block ?_
    | refine GW_ret ?_
    | refine GW_skip ?_
    | refine GW_exit ?_
    | refine GW_goto ?_
    | refine GW_label ?_
    | simp only [blockG_exit]
    | (refine GW_cond (by simp; rfl) ?_ ?_ <;> (intro hb; first | (exfalso; exact absurd hb (by decide)) | skip)))
  refine ⟨.inr trivial, ?_⟩
  simp [Tryd.results38]
theorem pone_bad (n d g m x r : Int) (h : chkE n d g m x r ≠ 0) : Ret Tryd.prog G1 38 #[.int .i64 n, .int .i64 d, .int .i64 g, .int .i64 m, .int .i64 x, .int .i64 r] (.tuple #[.int .i64 0, .int .i64 (chkE n d g m x r)]) := by
  refine ret_of G1F Tryd.func38 rfl Tryd.call38 (by simp) (by simp) (by simp [Tryd.ntmps38]) ?_
  intro C hC hC0 hY
  repeat' (first
    | refine GW_seq ?_
    | simp only [List.length_cons, List.length_nil, Nat.reduceAdd, Nat.reduceMul, thenG_normal, thenG_ret, thenG_exit, thenG_goto, thenG_panic, blockG_normal, blockG_ret, blockG_goto, blockG_panic, jumpG_normal, jumpG_ret, jumpG_exit, jumpG_panic]
    | (refine GW_region' [67] (by kernel_rfl) ?_; intro Q hQ hP; simp [hC, hY, ib]; (repeat (first | ((refine heapK_of (hp' := onHp n d g m x r) (ptold_pan (fun k hk => hpL_low (by simp [onL]) hk) (by simp) rfl (by simp) (on1_bad n d g m x r h)) (by simp [onHp, onL, ib]) (fun k hk => hpL_low (by simp [onL]) hk) trivial ?_); try simp [hC, hY, ib]))); (first | refine hQ _ _ _ _ ?_ | refine hP _ _ (fun _ => ?_)); clear hQ hP Q)
    | (refine GW_draw' [67] follows (by kernel_rfl) (by kernel_rfl) ?_; intro Q hQ hP; simp [hC, hY, ib]; (repeat (first | ((refine heapK_of (hp' := onHp n d g m x r) (ptold_pan (fun k hk => hpL_low (by simp [onL]) hk) (by simp) rfl (by simp) (on1_bad n d g m x r h)) (by simp [onHp, onL, ib]) (fun k hk => hpL_low (by simp [onL]) hk) trivial ?_); try simp [hC, hY, ib]))); (first | refine hQ _ _ _ _ (by kernel_rfl) ?_ | refine hP _ _ (by kernel_rfl) (fun _ => ?_)); clear hQ hP Q)
    | refine GW_block ?_
    | refine GW_ret ?_
    | refine GW_skip ?_
    | refine GW_exit ?_
    | refine GW_goto ?_
    | refine GW_label ?_
    | simp only [blockG_exit]
    | (refine GW_cond (by simp; rfl) ?_ ?_ <;> (intro hb; first | (exfalso; exact absurd hb (by decide)) | skip)))
  refine ⟨.inr trivial, ?_⟩
  simp [Tryd.results38]
/-! the document's answer, but for the roots -/
theorem rbetween_ret (n a b : Int) : Ret Tryd.prog G1 78 #[.int .i64 n, .int .i64 a, .int .i64 b] (.bool (decide (a ≤ n) && decide (n ≤ b))) := by
  refine ret_of G1F Tryd.func78 rfl Tryd.call78 rfl (by simp) (by simp [Tryd.ntmps78]) ?_
  intro C hC hC0 hY
  by_cases h : a ≤ n
  · skip
    repeat' (first
      | refine GW_seq ?_
      | simp only [List.length_cons, List.length_nil, Nat.reduceAdd, Nat.reduceMul, thenG_normal, thenG_ret, thenG_exit, thenG_goto, thenG_panic, blockG_normal, blockG_ret, blockG_goto, blockG_panic, jumpG_normal, jumpG_ret, jumpG_exit, jumpG_panic]
      | (refine GW_region' [] (by kernel_rfl) ?_; intro Q hQ hP; simp [hC, hY, h]; (first | refine hQ _ _ _ _ ?_ | refine hP _ _ (fun _ => ?_)); clear hQ hP Q)
      | (refine GW_draw' [] follows (by kernel_rfl) (by kernel_rfl) ?_; intro Q hQ hP; simp [hC, hY, h]; (first | refine hQ _ _ _ _ (by kernel_rfl) ?_ | refine hP _ _ (by kernel_rfl) (fun _ => ?_)); clear hQ hP Q)
      | refine GW_block ?_
      | refine GW_ret ?_
      | refine GW_skip ?_
      | refine GW_exit ?_
      | refine GW_goto ?_
      | refine GW_label ?_
      | simp only [blockG_exit]
      | (refine GW_cond (by simp; rfl) ?_ ?_ <;> (intro hb; first | (exfalso; exact absurd hb (by decide)) | skip)))
    refine ⟨.inr trivial, ?_⟩
    simp [Tryd.results78, h]
  · skip
    repeat' (first
      | refine GW_seq ?_
      | simp only [List.length_cons, List.length_nil, Nat.reduceAdd, Nat.reduceMul, thenG_normal, thenG_ret, thenG_exit, thenG_goto, thenG_panic, blockG_normal, blockG_ret, blockG_goto, blockG_panic, jumpG_normal, jumpG_ret, jumpG_exit, jumpG_panic]
      | (refine GW_region' [] (by kernel_rfl) ?_; intro Q hQ hP; simp [hC, hY, h]; (first | refine hQ _ _ _ _ ?_ | refine hP _ _ (fun _ => ?_)); clear hQ hP Q)
      | (refine GW_draw' [] follows (by kernel_rfl) (by kernel_rfl) ?_; intro Q hQ hP; simp [hC, hY, h]; (first | refine hQ _ _ _ _ (by kernel_rfl) ?_ | refine hP _ _ (by kernel_rfl) (fun _ => ?_)); clear hQ hP Q)
      | refine GW_block ?_
      | refine GW_ret ?_
      | refine GW_skip ?_
      | refine GW_exit ?_
      | refine GW_goto ?_
      | refine GW_label ?_
      | simp only [blockG_exit]
      | (refine GW_cond (by simp; rfl) ?_ ?_ <;> (intro hb; first | (exfalso; exact absurd hb (by decide)) | skip)))
    refine ⟨.inr trivial, ?_⟩
    simp [Tryd.results78, h]
@[simp] theorem rbetween (n a b : Int) (K : Value → Prop) : callK Tryd.prog G1 78 #[.int .i64 n, .int .i64 a, .int .i64 b] K ↔ K (.bool (decide (a ≤ n) && decide (n ≤ b))) := callK_iff G1W (by kernel_rfl) (rbetween_ret n a b)
theorem rsquare_ret (a : Int) : Ret Tryd.prog G1 81 #[wd a] (wd (sz a * sz a)) := by
  refine ret_of G1F Tryd.func81 rfl Tryd.call81 (by simp) (by simp) (by simp [Tryd.ntmps81]) ?_
  intro C hC hC0 hY
  repeat' (first
    | refine GW_seq ?_
    | simp only [List.length_cons, List.length_nil, Nat.reduceAdd, Nat.reduceMul, thenG_normal, thenG_ret, thenG_exit, thenG_goto, thenG_panic, blockG_normal, blockG_ret, blockG_goto, blockG_panic, jumpG_normal, jumpG_ret, jumpG_exit, jumpG_panic]
    | (refine GW_region' [] (by kernel_rfl) ?_; intro Q hQ hP; simp [hC, hY]; (first | refine hQ _ _ _ _ ?_ | refine hP _ _ (fun _ => ?_)); clear hQ hP Q)
    | (refine GW_draw' [] follows (by kernel_rfl) (by kernel_rfl) ?_; intro Q hQ hP; simp [hC, hY]; (first | refine hQ _ _ _ _ (by kernel_rfl) ?_ | refine hP _ _ (by kernel_rfl) (fun _ => ?_)); clear hQ hP Q)
    | refine GW_block ?_
    | refine GW_ret ?_
    | refine GW_skip ?_
    | refine GW_exit ?_
    | refine GW_goto ?_
    | refine GW_label ?_
    | simp only [blockG_exit]
    | (refine GW_cond (by simp; rfl) ?_ ?_ <;> (intro hb; first | (exfalso; exact absurd hb (by decide)) | skip)))
  refine ⟨.inr trivial, ?_⟩
  simp [Tryd.results81]
@[simp] theorem rsquare (a : Int) (K : Value → Prop) : callK Tryd.prog G1 81 #[Value.agg #[.int .u64 (wi (a) 0), .int .u64 (wi (a) 1), .int .u64 (wi (a) 2), .int .u64 (wi (a) 3)]] K ↔ K (wd (sz a * sz a)) := callK_iff G1W (by kernel_rfl) (rsquare_ret a)
end Go.Gy
namespace Go.Gy
set_option linter.unusedSimpArgs false
set_option linter.unusedVariables false
open Go Go.RowKit Go.Proofs
set_option maxHeartbeats 1000000 in
theorem rprod2_fun (a0 a1 : Int) (hi : i64 a0 ∧ i64 a1) (hw : wr (a0) ∧ wr (a0 * a1)) : Fun Tryd.prog G1 82 #[.slice (some ⟨100, 0, none⟩) 2 2] (hpL G1 [(100, ⟨#[.int .i64 a0, .int .i64 a1], 3⟩)]) [100] (.ret (wd (a0 * a1)) []) := by
  have hrst : rst (hpL G1 [(100, ⟨#[.int .i64 a0, .int .i64 a1], 3⟩)]) [100] = hpL G1 [(100, ⟨#[.int .i64 a0, .int .i64 a1], 3⟩)] := hpL_rst G1F (by simp)
  have hfree : ∀ k, 200 ≤ k → hpL G1 [(100, ⟨#[.int .i64 a0, .int .i64 a1], 3⟩)] k = none := fun k hk => by simp [show ¬ k = 100 by omega, show 100 ≤ k by omega]
  refine fun_of (B := 200) G1F (fun k hk => hpL_low (by simp) hk) Tryd.func82 rfl Tryd.call82 ?_ ?_ ⟨flatV_ids (by simp), by simp [keys], by simp, by simp⟩ (by simp [Tryd.ntmps82]) (by omega) ?_ ?_
  · rw [hrst]; simp [dom]
  · rw [hrst]
    intro k c h
    rcases hpL_mem h with h | h
    · simp at h
      rcases h with ⟨_, rfl⟩
      simp
    · exact G1_closed _ _ _ h
  · rw [hrst]; exact hfree
  · intro C hC hC0 hY
    rw [hrst] at hC0 ⊢
    obtain ⟨i0, i1⟩ := hi
    obtain ⟨w0, w1⟩ := hw
    have s0 := wr_sz w0
    have s1 := wr_sz w1
    have t1 := wr_sz (i64_wr i1)
    have j1 := i64_1
    have e1 : sz 1 = 1 := by decide
    repeat' (first
      | refine GW_seq ?_
      | refine GWL_start ?_
      | refine GWL_step ?_
      | simp only [List.length_cons, List.length_nil, Nat.reduceAdd, Nat.reduceMul, thenG_normal, thenG_ret, thenG_exit, thenG_goto, thenG_panic, blockG_normal, blockG_ret, blockG_goto, blockG_panic, jumpG_normal, jumpG_ret, jumpG_exit, jumpG_panic]
      | (refine GW_region' [] (by kernel_rfl) ?_; intro Q hQ hP; simp [hC, hY, j1, e1, Int.one_mul, i0, i1, s0, s1, t1]; (first | refine hQ _ _ _ _ ?_ | refine hP _ _ (fun _ => ?_)); clear hQ hP Q)
      | (refine GW_draw' [] follows (by kernel_rfl) (by kernel_rfl) ?_; intro Q hQ hP; simp [hC, hY, j1, e1, Int.one_mul, i0, i1, s0, s1, t1]; (first | refine hQ _ _ _ _ (by kernel_rfl) ?_ | refine hP _ _ (by kernel_rfl) (fun _ => ?_)); clear hQ hP Q)
      | refine GW_block ?_
      | refine GW_ret ?_
      | refine GW_skip ?_
      | refine GW_exit ?_
      | refine GW_goto ?_
      | refine GW_label ?_
      | simp only [blockG_exit]
      | (refine GW_cond (by simp; rfl) ?_ ?_ <;> (intro hb; first | (exfalso; exact absurd hb (by decide)) | skip)))
    refine ⟨.inr rfl, by simp [Tryd.results82], fun k hk => ?_⟩
    have hk3 : k < 200 := Classical.byContradiction fun h => hk (hfree k (by omega))
    simp (disch := omega) only [upd_far]
    rfl
set_option maxHeartbeats 1000000 in
theorem rprod4_fun (a0 a1 a2 a3 : Int) (hi : i64 a0 ∧ i64 a1 ∧ i64 a2 ∧ i64 a3) (hw : wr (a0) ∧ wr (a0 * a1) ∧ wr (a0 * a1 * a2) ∧ wr (a0 * a1 * a2 * a3)) : Fun Tryd.prog G1 82 #[.slice (some ⟨100, 0, none⟩) 4 4] (hpL G1 [(100, ⟨#[.int .i64 a0, .int .i64 a1, .int .i64 a2, .int .i64 a3], 3⟩)]) [100] (.ret (wd (a0 * a1 * a2 * a3)) []) := by
  have hrst : rst (hpL G1 [(100, ⟨#[.int .i64 a0, .int .i64 a1, .int .i64 a2, .int .i64 a3], 3⟩)]) [100] = hpL G1 [(100, ⟨#[.int .i64 a0, .int .i64 a1, .int .i64 a2, .int .i64 a3], 3⟩)] := hpL_rst G1F (by simp)
  have hfree : ∀ k, 200 ≤ k → hpL G1 [(100, ⟨#[.int .i64 a0, .int .i64 a1, .int .i64 a2, .int .i64 a3], 3⟩)] k = none := fun k hk => by simp [show ¬ k = 100 by omega, show 100 ≤ k by omega]
  refine fun_of (B := 200) G1F (fun k hk => hpL_low (by simp) hk) Tryd.func82 rfl Tryd.call82 ?_ ?_ ⟨flatV_ids (by simp), by simp [keys], by simp, by simp⟩ (by simp [Tryd.ntmps82]) (by omega) ?_ ?_
  · rw [hrst]; simp [dom]
  · rw [hrst]
    intro k c h
    rcases hpL_mem h with h | h
    · simp at h
      rcases h with ⟨_, rfl⟩
      simp
    · exact G1_closed _ _ _ h
  · rw [hrst]; exact hfree
  · intro C hC hC0 hY
    rw [hrst] at hC0 ⊢
    obtain ⟨i0, i1, i2, i3⟩ := hi
    obtain ⟨w0, w1, w2, w3⟩ := hw
    have s0 := wr_sz w0
    have s1 := wr_sz w1
    have s2 := wr_sz w2
    have s3 := wr_sz w3
    have t1 := wr_sz (i64_wr i1)
    have t2 := wr_sz (i64_wr i2)
    have t3 := wr_sz (i64_wr i3)
    have j1 := i64_1
    have e1 : sz 1 = 1 := by decide
    repeat' (first
      | refine GW_seq ?_
      | refine GWL_start ?_
      | refine GWL_step ?_
      | simp only [List.length_cons, List.length_nil, Nat.reduceAdd, Nat.reduceMul, thenG_normal, thenG_ret, thenG_exit, thenG_goto, thenG_panic, blockG_normal, blockG_ret, blockG_goto, blockG_panic, jumpG_normal, jumpG_ret, jumpG_exit, jumpG_panic]
      | (refine GW_region' [] (by kernel_rfl) ?_; intro Q hQ hP; simp [hC, hY, j1, e1, Int.one_mul, i0, i1, i2, i3, s0, s1, s2, s3, t1, t2, t3]; (first | refine hQ _ _ _ _ ?_ | refine hP _ _ (fun _ => ?_)); clear hQ hP Q)
      | (refine GW_draw' [] follows (by kernel_rfl) (by kernel_rfl) ?_; intro Q hQ hP; simp [hC, hY, j1, e1, Int.one_mul, i0, i1, i2, i3, s0, s1, s2, s3, t1, t2, t3]; (first | refine hQ _ _ _ _ (by kernel_rfl) ?_ | refine hP _ _ (by kernel_rfl) (fun _ => ?_)); clear hQ hP Q)
      | refine GW_block ?_
      | refine GW_ret ?_
      | refine GW_skip ?_
      | refine GW_exit ?_
      | refine GW_goto ?_
      | refine GW_label ?_
      | simp only [blockG_exit]
      | (refine GW_cond (by simp; rfl) ?_ ?_ <;> (intro hb; first | (exfalso; exact absurd hb (by decide)) | skip)))
    refine ⟨.inr rfl, by simp [Tryd.results82], fun k hk => ?_⟩
    have hk3 : k < 200 := Classical.byContradiction fun h => hk (hfree k (by omega))
    simp (disch := omega) only [upd_far]
    rfl
set_option maxHeartbeats 1000000 in
theorem rprod5_fun (a0 a1 a2 a3 a4 : Int) (hi : i64 a0 ∧ i64 a1 ∧ i64 a2 ∧ i64 a3 ∧ i64 a4) (hw : wr (a0) ∧ wr (a0 * a1) ∧ wr (a0 * a1 * a2) ∧ wr (a0 * a1 * a2 * a3) ∧ wr (a0 * a1 * a2 * a3 * a4)) : Fun Tryd.prog G1 82 #[.slice (some ⟨100, 0, none⟩) 5 5] (hpL G1 [(100, ⟨#[.int .i64 a0, .int .i64 a1, .int .i64 a2, .int .i64 a3, .int .i64 a4], 3⟩)]) [100] (.ret (wd (a0 * a1 * a2 * a3 * a4)) []) := by
  have hrst : rst (hpL G1 [(100, ⟨#[.int .i64 a0, .int .i64 a1, .int .i64 a2, .int .i64 a3, .int .i64 a4], 3⟩)]) [100] = hpL G1 [(100, ⟨#[.int .i64 a0, .int .i64 a1, .int .i64 a2, .int .i64 a3, .int .i64 a4], 3⟩)] := hpL_rst G1F (by simp)
  have hfree : ∀ k, 200 ≤ k → hpL G1 [(100, ⟨#[.int .i64 a0, .int .i64 a1, .int .i64 a2, .int .i64 a3, .int .i64 a4], 3⟩)] k = none := fun k hk => by simp [show ¬ k = 100 by omega, show 100 ≤ k by omega]
  refine fun_of (B := 200) G1F (fun k hk => hpL_low (by simp) hk) Tryd.func82 rfl Tryd.call82 ?_ ?_ ⟨flatV_ids (by simp), by simp [keys], by simp, by simp⟩ (by simp [Tryd.ntmps82]) (by omega) ?_ ?_
  · rw [hrst]; simp [dom]
  · rw [hrst]
    intro k c h
    rcases hpL_mem h with h | h
    · simp at h
      rcases h with ⟨_, rfl⟩
      simp
    · exact G1_closed _ _ _ h
  · rw [hrst]; exact hfree
  · intro C hC hC0 hY
    rw [hrst] at hC0 ⊢
    obtain ⟨i0, i1, i2, i3, i4⟩ := hi
    obtain ⟨w0, w1, w2, w3, w4⟩ := hw
    have s0 := wr_sz w0
    have s1 := wr_sz w1
    have s2 := wr_sz w2
    have s3 := wr_sz w3
    have s4 := wr_sz w4
    have t1 := wr_sz (i64_wr i1)
    have t2 := wr_sz (i64_wr i2)
    have t3 := wr_sz (i64_wr i3)
    have t4 := wr_sz (i64_wr i4)
    have j1 := i64_1
    have e1 : sz 1 = 1 := by decide
    repeat' (first
      | refine GW_seq ?_
      | refine GWL_start ?_
      | refine GWL_step ?_
      | simp only [List.length_cons, List.length_nil, Nat.reduceAdd, Nat.reduceMul, thenG_normal, thenG_ret, thenG_exit, thenG_goto, thenG_panic, blockG_normal, blockG_ret, blockG_goto, blockG_panic, jumpG_normal, jumpG_ret, jumpG_exit, jumpG_panic]
      | (refine GW_region' [] (by kernel_rfl) ?_; intro Q hQ hP; simp [hC, hY, j1, e1, Int.one_mul, i0, i1, i2, i3, i4, s0, s1, s2, s3, s4, t1, t2, t3, t4]; (first | refine hQ _ _ _ _ ?_ | refine hP _ _ (fun _ => ?_)); clear hQ hP Q)
      | (refine GW_draw' [] follows (by kernel_rfl) (by kernel_rfl) ?_; intro Q hQ hP; simp [hC, hY, j1, e1, Int.one_mul, i0, i1, i2, i3, i4, s0, s1, s2, s3, s4, t1, t2, t3, t4]; (first | refine hQ _ _ _ _ (by kernel_rfl) ?_ | refine hP _ _ (by kernel_rfl) (fun _ => ?_)); clear hQ hP Q)
      | refine GW_block ?_
      | refine GW_ret ?_
      | refine GW_skip ?_
      | refine GW_exit ?_
      | refine GW_goto ?_
      | refine GW_label ?_
      | simp only [blockG_exit]
      | (refine GW_cond (by simp; rfl) ?_ ?_ <;> (intro hb; first | (exfalso; exact absurd hb (by decide)) | skip)))
    refine ⟨.inr rfl, by simp [Tryd.results82], fun k hk => ?_⟩
    have hk3 : k < 200 := Classical.byContradiction fun h => hk (hfree k (by omega))
    simp (disch := omega) only [upd_far]
    rfl
theorem rSquare_ok (x0 x1 x2 : Int) (h0 : inB x0) (h1 : inB x1) (h2 : inB x2) : Ret Tryd.prog G1 37 #[vv x0 x1 x2] (.tuple #[.int .i64 (x0 * x0 + x1 * x1 + x2 * x2), .int .i64 0]) := by
  refine ret_of G1F Tryd.func37 rfl Tryd.call37 (by simp [vv]) (by simp [vv]) (by simp [Tryd.ntmps37]) ?_
  intro C hC hC0 hY
  have z0 := inB_sq h0
  have z1 := inB_sq h1
  have z2 := inB_sq h2
  obtain ⟨l0, u0⟩ := h0
  obtain ⟨l1, u1⟩ := h1
  obtain ⟨l2, u2⟩ := h2
  have b0 : Int.bmod (x0 * x0) 18446744073709551616 = x0 * x0 := bm (by omega) (by omega)
  have b1 : Int.bmod (x1 * x1) 18446744073709551616 = x1 * x1 := bm (by omega) (by omega)
  have b2 : Int.bmod (x2 * x2) 18446744073709551616 = x2 * x2 := bm (by omega) (by omega)
  have b3 : Int.bmod (x0 * x0 + x1 * x1) 18446744073709551616 = x0 * x0 + x1 * x1 := bm (by omega) (by omega)
  have b4 : Int.bmod (x0 * x0 + x1 * x1 + x2 * x2) 18446744073709551616 = x0 * x0 + x1 * x1 + x2 * x2 := bm (by omega) (by omega)
  repeat' (first
    | refine GW_seq ?_
    | refine GWL_start ?_
    | refine GWL_step ?_
    | simp only [List.length_cons, List.length_nil, Nat.reduceAdd, Nat.reduceMul, thenG_normal, thenG_ret, thenG_exit, thenG_goto, thenG_panic, blockG_normal, blockG_ret, blockG_goto, blockG_panic, jumpG_normal, jumpG_ret, jumpG_exit, jumpG_panic]
    | (refine GW_region' [] (by kernel_rfl) ?_; intro Q hQ hP; simp [hC, hY, vv, l0, u0, l1, u1, l2, u2, b0, b1, b2, b3, b4]; (first | refine hQ _ _ _ _ ?_ | refine hP _ _ (fun _ => ?_)); clear hQ hP Q)
    | (refine GW_draw' [] follows (by kernel_rfl) (by kernel_rfl) ?_; intro Q hQ hP; simp [hC, hY, vv, l0, u0, l1, u1, l2, u2, b0, b1, b2, b3, b4]; (first | refine hQ _ _ _ _ (by kernel_rfl) ?_ | refine hP _ _ (by kernel_rfl) (fun _ => ?_)); clear hQ hP Q)
    | refine GW_block ?_
    | refine GW_ret ?_
    | refine GW_skip ?_
    | refine GW_exit ?_
    | refine GW_goto ?_
    | refine GW_label ?_
    | simp only [blockG_exit]
    | (refine GW_cond (by simp; rfl) ?_ ?_ <;> (intro hb; first | (exfalso; exact absurd hb (by decide)) | skip)))
  refine ⟨.inr trivial, ?_⟩
  simp [Tryd.results37]
theorem rSquare_bad (x0 x1 x2 : Int) (h : ¬ (inB x0 ∧ inB x1 ∧ inB x2)) : Ret Tryd.prog G1 37 #[vv x0 x1 x2] (.tuple #[.int .i64 0, .int .i64 2]) := by
  refine ret_of G1F Tryd.func37 rfl Tryd.call37 (by simp [vv]) (by simp [vv]) (by simp [Tryd.ntmps37]) ?_
  intro C hC hC0 hY
  by_cases l0 : -2097152 ≤ x0
  rotate_left
  · skip
    repeat' (first
      | refine GW_seq ?_
      | refine GWL_start ?_
      | refine GWL_step ?_
      | simp only [List.length_cons, List.length_nil, Nat.reduceAdd, Nat.reduceMul, thenG_normal, thenG_ret, thenG_exit, thenG_goto, thenG_panic, blockG_normal, blockG_ret, blockG_goto, blockG_panic, jumpG_normal, jumpG_ret, jumpG_exit, jumpG_panic]
      | (refine GW_region' [] (by kernel_rfl) ?_; intro Q hQ hP; simp [hC, hY, vv, l0]; (first | refine hQ _ _ _ _ ?_ | refine hP _ _ (fun _ => ?_)); clear hQ hP Q)
      | (refine GW_draw' [] follows (by kernel_rfl) (by kernel_rfl) ?_; intro Q hQ hP; simp [hC, hY, vv, l0]; (first | refine hQ _ _ _ _ (by kernel_rfl) ?_ | refine hP _ _ (by kernel_rfl) (fun _ => ?_)); clear hQ hP Q)
      | refine GW_block ?_
      | refine GW_ret ?_
      | refine GW_skip ?_
      | refine GW_exit ?_
      | refine GW_goto ?_
      | refine GW_label ?_
      | simp only [blockG_exit]
      | (refine GW_cond (by simp; rfl) ?_ ?_ <;> (intro hb; first | (exfalso; exact absurd hb (by decide)) | skip)))
    refine ⟨.inr trivial, ?_⟩
    simp [Tryd.results37]
  by_cases u0 : x0 ≤ 2097152
  rotate_left
  · skip
    repeat' (first
      | refine GW_seq ?_
      | refine GWL_start ?_
      | refine GWL_step ?_
      | simp only [List.length_cons, List.length_nil, Nat.reduceAdd, Nat.reduceMul, thenG_normal, thenG_ret, thenG_exit, thenG_goto, thenG_panic, blockG_normal, blockG_ret, blockG_goto, blockG_panic, jumpG_normal, jumpG_ret, jumpG_exit, jumpG_panic]
      | (refine GW_region' [] (by kernel_rfl) ?_; intro Q hQ hP; simp [hC, hY, vv, l0, u0]; (first | refine hQ _ _ _ _ ?_ | refine hP _ _ (fun _ => ?_)); clear hQ hP Q)
      | (refine GW_draw' [] follows (by kernel_rfl) (by kernel_rfl) ?_; intro Q hQ hP; simp [hC, hY, vv, l0, u0]; (first | refine hQ _ _ _ _ (by kernel_rfl) ?_ | refine hP _ _ (by kernel_rfl) (fun _ => ?_)); clear hQ hP Q)
      | refine GW_block ?_
      | refine GW_ret ?_
      | refine GW_skip ?_
      | refine GW_exit ?_
      | refine GW_goto ?_
      | refine GW_label ?_
      | simp only [blockG_exit]
      | (refine GW_cond (by simp; rfl) ?_ ?_ <;> (intro hb; first | (exfalso; exact absurd hb (by decide)) | skip)))
    refine ⟨.inr trivial, ?_⟩
    simp [Tryd.results37]
  by_cases l1 : -2097152 ≤ x1
  rotate_left
  · skip
    repeat' (first
      | refine GW_seq ?_
      | refine GWL_start ?_
      | refine GWL_step ?_
      | simp only [List.length_cons, List.length_nil, Nat.reduceAdd, Nat.reduceMul, thenG_normal, thenG_ret, thenG_exit, thenG_goto, thenG_panic, blockG_normal, blockG_ret, blockG_goto, blockG_panic, jumpG_normal, jumpG_ret, jumpG_exit, jumpG_panic]
      | (refine GW_region' [] (by kernel_rfl) ?_; intro Q hQ hP; simp [hC, hY, vv, l0, u0, l1]; (first | refine hQ _ _ _ _ ?_ | refine hP _ _ (fun _ => ?_)); clear hQ hP Q)
      | (refine GW_draw' [] follows (by kernel_rfl) (by kernel_rfl) ?_; intro Q hQ hP; simp [hC, hY, vv, l0, u0, l1]; (first | refine hQ _ _ _ _ (by kernel_rfl) ?_ | refine hP _ _ (by kernel_rfl) (fun _ => ?_)); clear hQ hP Q)
      | refine GW_block ?_
      | refine GW_ret ?_
      | refine GW_skip ?_
      | refine GW_exit ?_
      | refine GW_goto ?_
      | refine GW_label ?_
      | simp only [blockG_exit]
      | (refine GW_cond (by simp; rfl) ?_ ?_ <;> (intro hb; first | (exfalso; exact absurd hb (by decide)) | skip)))
    refine ⟨.inr trivial, ?_⟩
    simp [Tryd.results37]
  by_cases u1 : x1 ≤ 2097152
  rotate_left
  · skip
    repeat' (first
      | refine GW_seq ?_
      | refine GWL_start ?_
      | refine GWL_step ?_
      | simp only [List.length_cons, List.length_nil, Nat.reduceAdd, Nat.reduceMul, thenG_normal, thenG_ret, thenG_exit, thenG_goto, thenG_panic, blockG_normal, blockG_ret, blockG_goto, blockG_panic, jumpG_normal, jumpG_ret, jumpG_exit, jumpG_panic]
      | (refine GW_region' [] (by kernel_rfl) ?_; intro Q hQ hP; simp [hC, hY, vv, l0, u0, l1, u1]; (first | refine hQ _ _ _ _ ?_ | refine hP _ _ (fun _ => ?_)); clear hQ hP Q)
      | (refine GW_draw' [] follows (by kernel_rfl) (by kernel_rfl) ?_; intro Q hQ hP; simp [hC, hY, vv, l0, u0, l1, u1]; (first | refine hQ _ _ _ _ (by kernel_rfl) ?_ | refine hP _ _ (by kernel_rfl) (fun _ => ?_)); clear hQ hP Q)
      | refine GW_block ?_
      | refine GW_ret ?_
      | refine GW_skip ?_
      | refine GW_exit ?_
      | refine GW_goto ?_
      | refine GW_label ?_
      | simp only [blockG_exit]
      | (refine GW_cond (by simp; rfl) ?_ ?_ <;> (intro hb; first | (exfalso; exact absurd hb (by decide)) | skip)))
    refine ⟨.inr trivial, ?_⟩
    simp [Tryd.results37]
  by_cases l2 : -2097152 ≤ x2
  rotate_left
  · skip
    repeat' (first
      | refine GW_seq ?_
      | refine GWL_start ?_
      | refine GWL_step ?_
      | simp only [List.length_cons, List.length_nil, Nat.reduceAdd, Nat.reduceMul, thenG_normal, thenG_ret, thenG_exit, thenG_goto, thenG_panic, blockG_normal, blockG_ret, blockG_goto, blockG_panic, jumpG_normal, jumpG_ret, jumpG_exit, jumpG_panic]
      | (refine GW_region' [] (by kernel_rfl) ?_; intro Q hQ hP; simp [hC, hY, vv, l0, u0, l1, u1, l2]; (first | refine hQ _ _ _ _ ?_ | refine hP _ _ (fun _ => ?_)); clear hQ hP Q)
      | (refine GW_draw' [] follows (by kernel_rfl) (by kernel_rfl) ?_; intro Q hQ hP; simp [hC, hY, vv, l0, u0, l1, u1, l2]; (first | refine hQ _ _ _ _ (by kernel_rfl) ?_ | refine hP _ _ (by kernel_rfl) (fun _ => ?_)); clear hQ hP Q)
      | refine GW_block ?_
      | refine GW_ret ?_
      | refine GW_skip ?_
      | refine GW_exit ?_
      | refine GW_goto ?_
      | refine GW_label ?_
      | simp only [blockG_exit]
      | (refine GW_cond (by simp; rfl) ?_ ?_ <;> (intro hb; first | (exfalso; exact absurd hb (by decide)) | skip)))
    refine ⟨.inr trivial, ?_⟩
    simp [Tryd.results37]
  by_cases u2 : x2 ≤ 2097152
  rotate_left
  · skip
    repeat' (first
      | refine GW_seq ?_
      | refine GWL_start ?_
      | refine GWL_step ?_
      | simp only [List.length_cons, List.length_nil, Nat.reduceAdd, Nat.reduceMul, thenG_normal, thenG_ret, thenG_exit, thenG_goto, thenG_panic, blockG_normal, blockG_ret, blockG_goto, blockG_panic, jumpG_normal, jumpG_ret, jumpG_exit, jumpG_panic]
      | (refine GW_region' [] (by kernel_rfl) ?_; intro Q hQ hP; simp [hC, hY, vv, l0, u0, l1, u1, l2, u2]; (first | refine hQ _ _ _ _ ?_ | refine hP _ _ (fun _ => ?_)); clear hQ hP Q)
      | (refine GW_draw' [] follows (by kernel_rfl) (by kernel_rfl) ?_; intro Q hQ hP; simp [hC, hY, vv, l0, u0, l1, u1, l2, u2]; (first | refine hQ _ _ _ _ (by kernel_rfl) ?_ | refine hP _ _ (by kernel_rfl) (fun _ => ?_)); clear hQ hP Q)
      | refine GW_block ?_
      | refine GW_ret ?_
      | refine GW_skip ?_
      | refine GW_exit ?_
      | refine GW_goto ?_
      | refine GW_label ?_
      | simp only [blockG_exit]
      | (refine GW_cond (by simp; rfl) ?_ ?_ <;> (intro hb; first | (exfalso; exact absurd hb (by decide)) | skip)))
    refine ⟨.inr trivial, ?_⟩
    simp [Tryd.results37]
  exact absurd ⟨⟨l0, u0⟩, ⟨l1, u1⟩, ⟨l2, u2⟩⟩ h
set_option maxHeartbeats 8000000 in
theorem rmay_ret (n d g m x r : Int) : Ret Tryd.prog G1 80 #[.int .i64 n, .int .i64 d, .int .i64 g, .int .i64 m, .int .i64 x, .int .i64 r] (.int .i64 (chkE n d g m x r)) := by
  refine ret_of G1F Tryd.func80 rfl Tryd.call80 (by simp) (by simp) (by simp [Tryd.ntmps80]) ?_
  intro C hC hC0 hY
  by_cases f0 : -2097152 ≤ n
  rotate_left
  · have hE : chkE n d g m x r = 2 := if_neg (by omega)
    rw [hE]
    repeat' (first
      | refine GW_seq ?_
      | simp only [List.length_cons, List.length_nil, Nat.reduceAdd, Nat.reduceMul, thenG_normal, thenG_ret, thenG_exit, thenG_goto, thenG_panic, blockG_normal, blockG_ret, blockG_goto, blockG_panic, jumpG_normal, jumpG_ret, jumpG_exit, jumpG_panic]
      | (refine GW_region' [] (by kernel_rfl) ?_; intro Q hQ hP; simp [hC, hY, f0]; (first | refine hQ _ _ _ _ ?_ | refine hP _ _ (fun _ => ?_)); clear hQ hP Q)
      | (refine GW_draw' [] follows (by kernel_rfl) (by kernel_rfl) ?_; intro Q hQ hP; simp [hC, hY, f0]; (first | refine hQ _ _ _ _ (by kernel_rfl) ?_ | refine hP _ _ (by kernel_rfl) (fun _ => ?_)); clear hQ hP Q)
      | refine GW_block ?_
      | refine GW_ret ?_
      | refine GW_skip ?_
      | refine GW_exit ?_
      | refine GW_goto ?_
      | refine GW_label ?_
      | simp only [blockG_exit]
      | (refine GW_cond (by simp; rfl) ?_ ?_ <;> (intro hb; first | (exfalso; exact absurd hb (by decide)) | skip)))
    refine ⟨.inr trivial, ?_⟩
    simp [Tryd.results80]
  by_cases f1 : n ≤ 2097152
  rotate_left
  · have hE : chkE n d g m x r = 2 := if_neg (by omega)
    rw [hE]
    repeat' (first
      | refine GW_seq ?_
      | simp only [List.length_cons, List.length_nil, Nat.reduceAdd, Nat.reduceMul, thenG_normal, thenG_ret, thenG_exit, thenG_goto, thenG_panic, blockG_normal, blockG_ret, blockG_goto, blockG_panic, jumpG_normal, jumpG_ret, jumpG_exit, jumpG_panic]
      | (refine GW_region' [] (by kernel_rfl) ?_; intro Q hQ hP; simp [hC, hY, f0, f1]; (first | refine hQ _ _ _ _ ?_ | refine hP _ _ (fun _ => ?_)); clear hQ hP Q)
      | (refine GW_draw' [] follows (by kernel_rfl) (by kernel_rfl) ?_; intro Q hQ hP; simp [hC, hY, f0, f1]; (first | refine hQ _ _ _ _ (by kernel_rfl) ?_ | refine hP _ _ (by kernel_rfl) (fun _ => ?_)); clear hQ hP Q)
      | refine GW_block ?_
      | refine GW_ret ?_
      | refine GW_skip ?_
      | refine GW_exit ?_
      | refine GW_goto ?_
      | refine GW_label ?_
      | simp only [blockG_exit]
      | (refine GW_cond (by simp; rfl) ?_ ?_ <;> (intro hb; first | (exfalso; exact absurd hb (by decide)) | skip)))
    refine ⟨.inr trivial, ?_⟩
    simp [Tryd.results80]
  by_cases f2 : 1 ≤ d
  rotate_left
  · have hE : chkE n d g m x r = 2 := if_neg (by omega)
    rw [hE]
    repeat' (first
      | refine GW_seq ?_
      | simp only [List.length_cons, List.length_nil, Nat.reduceAdd, Nat.reduceMul, thenG_normal, thenG_ret, thenG_exit, thenG_goto, thenG_panic, blockG_normal, blockG_ret, blockG_goto, blockG_panic, jumpG_normal, jumpG_ret, jumpG_exit, jumpG_panic]
      | (refine GW_region' [] (by kernel_rfl) ?_; intro Q hQ hP; simp [hC, hY, f0, f1, f2]; (first | refine hQ _ _ _ _ ?_ | refine hP _ _ (fun _ => ?_)); clear hQ hP Q)
      | (refine GW_draw' [] follows (by kernel_rfl) (by kernel_rfl) ?_; intro Q hQ hP; simp [hC, hY, f0, f1, f2]; (first | refine hQ _ _ _ _ (by kernel_rfl) ?_ | refine hP _ _ (by kernel_rfl) (fun _ => ?_)); clear hQ hP Q)
      | refine GW_block ?_
      | refine GW_ret ?_
      | refine GW_skip ?_
      | refine GW_exit ?_
      | refine GW_goto ?_
      | refine GW_label ?_
      | simp only [blockG_exit]
      | (refine GW_cond (by simp; rfl) ?_ ?_ <;> (intro hb; first | (exfalso; exact absurd hb (by decide)) | skip)))
    refine ⟨.inr trivial, ?_⟩
    simp [Tryd.results80]
  by_cases f3 : d ≤ 2097152
  rotate_left
  · have hE : chkE n d g m x r = 2 := if_neg (by omega)
    rw [hE]
    repeat' (first
      | refine GW_seq ?_
      | simp only [List.length_cons, List.length_nil, Nat.reduceAdd, Nat.reduceMul, thenG_normal, thenG_ret, thenG_exit, thenG_goto, thenG_panic, blockG_normal, blockG_ret, blockG_goto, blockG_panic, jumpG_normal, jumpG_ret, jumpG_exit, jumpG_panic]
      | (refine GW_region' [] (by kernel_rfl) ?_; intro Q hQ hP; simp [hC, hY, f0, f1, f2, f3]; (first | refine hQ _ _ _ _ ?_ | refine hP _ _ (fun _ => ?_)); clear hQ hP Q)
      | (refine GW_draw' [] follows (by kernel_rfl) (by kernel_rfl) ?_; intro Q hQ hP; simp [hC, hY, f0, f1, f2, f3]; (first | refine hQ _ _ _ _ (by kernel_rfl) ?_ | refine hP _ _ (by kernel_rfl) (fun _ => ?_)); clear hQ hP Q)
      | refine GW_block ?_
      | refine GW_ret ?_
      | refine GW_skip ?_
      | refine GW_exit ?_
      | refine GW_goto ?_
      | refine GW_label ?_
      | simp only [blockG_exit]
      | (refine GW_cond (by simp; rfl) ?_ ?_ <;> (intro hb; first | (exfalso; exact absurd hb (by decide)) | skip)))
    refine ⟨.inr trivial, ?_⟩
    simp [Tryd.results80]
  by_cases f4 : 1 ≤ g
  rotate_left
  · have hE : chkE n d g m x r = 2 := if_neg (by omega)
    rw [hE]
    repeat' (first
      | refine GW_seq ?_
      | simp only [List.length_cons, List.length_nil, Nat.reduceAdd, Nat.reduceMul, thenG_normal, thenG_ret, thenG_exit, thenG_goto, thenG_panic, blockG_normal, blockG_ret, blockG_goto, blockG_panic, jumpG_normal, jumpG_ret, jumpG_exit, jumpG_panic]
      | (refine GW_region' [] (by kernel_rfl) ?_; intro Q hQ hP; simp [hC, hY, f0, f1, f2, f3, f4]; (first | refine hQ _ _ _ _ ?_ | refine hP _ _ (fun _ => ?_)); clear hQ hP Q)
      | (refine GW_draw' [] follows (by kernel_rfl) (by kernel_rfl) ?_; intro Q hQ hP; simp [hC, hY, f0, f1, f2, f3, f4]; (first | refine hQ _ _ _ _ (by kernel_rfl) ?_ | refine hP _ _ (by kernel_rfl) (fun _ => ?_)); clear hQ hP Q)
      | refine GW_block ?_
      | refine GW_ret ?_
      | refine GW_skip ?_
      | refine GW_exit ?_
      | refine GW_goto ?_
      | refine GW_label ?_
      | simp only [blockG_exit]
      | (refine GW_cond (by simp; rfl) ?_ ?_ <;> (intro hb; first | (exfalso; exact absurd hb (by decide)) | skip)))
    refine ⟨.inr trivial, ?_⟩
    simp [Tryd.results80]
  by_cases f5 : g ≤ 1048576
  rotate_left
  · have hE : chkE n d g m x r = 2 := if_neg (by omega)
    rw [hE]
    repeat' (first
      | refine GW_seq ?_
      | simp only [List.length_cons, List.length_nil, Nat.reduceAdd, Nat.reduceMul, thenG_normal, thenG_ret, thenG_exit, thenG_goto, thenG_panic, blockG_normal, blockG_ret, blockG_goto, blockG_panic, jumpG_normal, jumpG_ret, jumpG_exit, jumpG_panic]
      | (refine GW_region' [] (by kernel_rfl) ?_; intro Q hQ hP; simp [hC, hY, f0, f1, f2, f3, f4, f5]; (first | refine hQ _ _ _ _ ?_ | refine hP _ _ (fun _ => ?_)); clear hQ hP Q)
      | (refine GW_draw' [] follows (by kernel_rfl) (by kernel_rfl) ?_; intro Q hQ hP; simp [hC, hY, f0, f1, f2, f3, f4, f5]; (first | refine hQ _ _ _ _ (by kernel_rfl) ?_ | refine hP _ _ (by kernel_rfl) (fun _ => ?_)); clear hQ hP Q)
      | refine GW_block ?_
      | refine GW_ret ?_
      | refine GW_skip ?_
      | refine GW_exit ?_
      | refine GW_goto ?_
      | refine GW_label ?_
      | simp only [blockG_exit]
      | (refine GW_cond (by simp; rfl) ?_ ?_ <;> (intro hb; first | (exfalso; exact absurd hb (by decide)) | skip)))
    refine ⟨.inr trivial, ?_⟩
    simp [Tryd.results80]
  by_cases f6 : 1 ≤ m
  rotate_left
  · have hE : chkE n d g m x r = 2 := if_neg (by omega)
    rw [hE]
    repeat' (first
      | refine GW_seq ?_
      | simp only [List.length_cons, List.length_nil, Nat.reduceAdd, Nat.reduceMul, thenG_normal, thenG_ret, thenG_exit, thenG_goto, thenG_panic, blockG_normal, blockG_ret, blockG_goto, blockG_panic, jumpG_normal, jumpG_ret, jumpG_exit, jumpG_panic]
      | (refine GW_region' [] (by kernel_rfl) ?_; intro Q hQ hP; simp [hC, hY, f0, f1, f2, f3, f4, f5, f6]; (first | refine hQ _ _ _ _ ?_ | refine hP _ _ (fun _ => ?_)); clear hQ hP Q)
      | (refine GW_draw' [] follows (by kernel_rfl) (by kernel_rfl) ?_; intro Q hQ hP; simp [hC, hY, f0, f1, f2, f3, f4, f5, f6]; (first | refine hQ _ _ _ _ (by kernel_rfl) ?_ | refine hP _ _ (by kernel_rfl) (fun _ => ?_)); clear hQ hP Q)
      | refine GW_block ?_
      | refine GW_ret ?_
      | refine GW_skip ?_
      | refine GW_exit ?_
      | refine GW_goto ?_
      | refine GW_label ?_
      | simp only [blockG_exit]
      | (refine GW_cond (by simp; rfl) ?_ ?_ <;> (intro hb; first | (exfalso; exact absurd hb (by decide)) | skip)))
    refine ⟨.inr trivial, ?_⟩
    simp [Tryd.results80]
  by_cases f7 : m ≤ 1024
  rotate_left
  · have hE : chkE n d g m x r = 2 := if_neg (by omega)
    rw [hE]
    repeat' (first
      | refine GW_seq ?_
      | simp only [List.length_cons, List.length_nil, Nat.reduceAdd, Nat.reduceMul, thenG_normal, thenG_ret, thenG_exit, thenG_goto, thenG_panic, blockG_normal, blockG_ret, blockG_goto, blockG_panic, jumpG_normal, jumpG_ret, jumpG_exit, jumpG_panic]
      | (refine GW_region' [] (by kernel_rfl) ?_; intro Q hQ hP; simp [hC, hY, f0, f1, f2, f3, f4, f5, f6, f7]; (first | refine hQ _ _ _ _ ?_ | refine hP _ _ (fun _ => ?_)); clear hQ hP Q)
      | (refine GW_draw' [] follows (by kernel_rfl) (by kernel_rfl) ?_; intro Q hQ hP; simp [hC, hY, f0, f1, f2, f3, f4, f5, f6, f7]; (first | refine hQ _ _ _ _ (by kernel_rfl) ?_ | refine hP _ _ (by kernel_rfl) (fun _ => ?_)); clear hQ hP Q)
      | refine GW_block ?_
      | refine GW_ret ?_
      | refine GW_skip ?_
      | refine GW_exit ?_
      | refine GW_goto ?_
      | refine GW_label ?_
      | simp only [blockG_exit]
      | (refine GW_cond (by simp; rfl) ?_ ?_ <;> (intro hb; first | (exfalso; exact absurd hb (by decide)) | skip)))
    refine ⟨.inr trivial, ?_⟩
    simp [Tryd.results80]
  by_cases f8 : -2097152 ≤ x
  rotate_left
  · have hE : chkE n d g m x r = 2 := if_neg (by omega)
    rw [hE]
    repeat' (first
      | refine GW_seq ?_
      | simp only [List.length_cons, List.length_nil, Nat.reduceAdd, Nat.reduceMul, thenG_normal, thenG_ret, thenG_exit, thenG_goto, thenG_panic, blockG_normal, blockG_ret, blockG_goto, blockG_panic, jumpG_normal, jumpG_ret, jumpG_exit, jumpG_panic]
      | (refine GW_region' [] (by kernel_rfl) ?_; intro Q hQ hP; simp [hC, hY, f0, f1, f2, f3, f4, f5, f6, f7, f8]; (first | refine hQ _ _ _ _ ?_ | refine hP _ _ (fun _ => ?_)); clear hQ hP Q)
      | (refine GW_draw' [] follows (by kernel_rfl) (by kernel_rfl) ?_; intro Q hQ hP; simp [hC, hY, f0, f1, f2, f3, f4, f5, f6, f7, f8]; (first | refine hQ _ _ _ _ (by kernel_rfl) ?_ | refine hP _ _ (by kernel_rfl) (fun _ => ?_)); clear hQ hP Q)
      | refine GW_block ?_
      | refine GW_ret ?_
      | refine GW_skip ?_
      | refine GW_exit ?_
      | refine GW_goto ?_
      | refine GW_label ?_
      | simp only [blockG_exit]
      | (refine GW_cond (by simp; rfl) ?_ ?_ <;> (intro hb; first | (exfalso; exact absurd hb (by decide)) | skip)))
    refine ⟨.inr trivial, ?_⟩
    simp [Tryd.results80]
  by_cases f9 : x ≤ 2097152
  rotate_left
  · have hE : chkE n d g m x r = 2 := if_neg (by omega)
    rw [hE]
    repeat' (first
      | refine GW_seq ?_
      | simp only [List.length_cons, List.length_nil, Nat.reduceAdd, Nat.reduceMul, thenG_normal, thenG_ret, thenG_exit, thenG_goto, thenG_panic, blockG_normal, blockG_ret, blockG_goto, blockG_panic, jumpG_normal, jumpG_ret, jumpG_exit, jumpG_panic]
      | (refine GW_region' [] (by kernel_rfl) ?_; intro Q hQ hP; simp [hC, hY, f0, f1, f2, f3, f4, f5, f6, f7, f8, f9]; (first | refine hQ _ _ _ _ ?_ | refine hP _ _ (fun _ => ?_)); clear hQ hP Q)
      | (refine GW_draw' [] follows (by kernel_rfl) (by kernel_rfl) ?_; intro Q hQ hP; simp [hC, hY, f0, f1, f2, f3, f4, f5, f6, f7, f8, f9]; (first | refine hQ _ _ _ _ (by kernel_rfl) ?_ | refine hP _ _ (by kernel_rfl) (fun _ => ?_)); clear hQ hP Q)
      | refine GW_block ?_
      | refine GW_ret ?_
      | refine GW_skip ?_
      | refine GW_exit ?_
      | refine GW_goto ?_
      | refine GW_label ?_
      | simp only [blockG_exit]
      | (refine GW_cond (by simp; rfl) ?_ ?_ <;> (intro hb; first | (exfalso; exact absurd hb (by decide)) | skip)))
    refine ⟨.inr trivial, ?_⟩
    simp [Tryd.results80]
  by_cases f10 : 0 ≤ r
  rotate_left
  · have hE : chkE n d g m x r = 2 := if_neg (by omega)
    rw [hE]
    repeat' (first
      | refine GW_seq ?_
      | simp only [List.length_cons, List.length_nil, Nat.reduceAdd, Nat.reduceMul, thenG_normal, thenG_ret, thenG_exit, thenG_goto, thenG_panic, blockG_normal, blockG_ret, blockG_goto, blockG_panic, jumpG_normal, jumpG_ret, jumpG_exit, jumpG_panic]
      | (refine GW_region' [] (by kernel_rfl) ?_; intro Q hQ hP; simp [hC, hY, f0, f1, f2, f3, f4, f5, f6, f7, f8, f9, f10]; (first | refine hQ _ _ _ _ ?_ | refine hP _ _ (fun _ => ?_)); clear hQ hP Q)
      | (refine GW_draw' [] follows (by kernel_rfl) (by kernel_rfl) ?_; intro Q hQ hP; simp [hC, hY, f0, f1, f2, f3, f4, f5, f6, f7, f8, f9, f10]; (first | refine hQ _ _ _ _ (by kernel_rfl) ?_ | refine hP _ _ (by kernel_rfl) (fun _ => ?_)); clear hQ hP Q)
      | refine GW_block ?_
      | refine GW_ret ?_
      | refine GW_skip ?_
      | refine GW_exit ?_
      | refine GW_goto ?_
      | refine GW_label ?_
      | simp only [blockG_exit]
      | (refine GW_cond (by simp; rfl) ?_ ?_ <;> (intro hb; first | (exfalso; exact absurd hb (by decide)) | skip)))
    refine ⟨.inr trivial, ?_⟩
    simp [Tryd.results80]
  by_cases f11 : r ≤ 13194139533312
  rotate_left
  · have hE : chkE n d g m x r = 2 := if_neg (by omega)
    rw [hE]
    repeat' (first
      | refine GW_seq ?_
      | simp only [List.length_cons, List.length_nil, Nat.reduceAdd, Nat.reduceMul, thenG_normal, thenG_ret, thenG_exit, thenG_goto, thenG_panic, blockG_normal, blockG_ret, blockG_goto, blockG_panic, jumpG_normal, jumpG_ret, jumpG_exit, jumpG_panic]
      | (refine GW_region' [] (by kernel_rfl) ?_; intro Q hQ hP; simp [hC, hY, f0, f1, f2, f3, f4, f5, f6, f7, f8, f9, f10, f11]; (first | refine hQ _ _ _ _ ?_ | refine hP _ _ (fun _ => ?_)); clear hQ hP Q)
      | (refine GW_draw' [] follows (by kernel_rfl) (by kernel_rfl) ?_; intro Q hQ hP; simp [hC, hY, f0, f1, f2, f3, f4, f5, f6, f7, f8, f9, f10, f11]; (first | refine hQ _ _ _ _ (by kernel_rfl) ?_ | refine hP _ _ (by kernel_rfl) (fun _ => ?_)); clear hQ hP Q)
      | refine GW_block ?_
      | refine GW_ret ?_
      | refine GW_skip ?_
      | refine GW_exit ?_
      | refine GW_goto ?_
      | refine GW_label ?_
      | simp only [blockG_exit]
      | (refine GW_cond (by simp; rfl) ?_ ?_ <;> (intro hb; first | (exfalso; exact absurd hb (by decide)) | skip)))
    refine ⟨.inr trivial, ?_⟩
    simp [Tryd.results80]
  have hall : chkE n d g m x r = (if r = 0 then 30 else if x * x ≤ r then 0 else 2) := if_pos ⟨f0, f1, f2, f3, f4, f5, f6, f7, f8, f9, f10, f11⟩
  rw [hall]
  by_cases hr : r = 0
  · rw [if_pos hr]
    subst hr
    repeat' (first
      | refine GW_seq ?_
      | simp only [List.length_cons, List.length_nil, Nat.reduceAdd, Nat.reduceMul, thenG_normal, thenG_ret, thenG_exit, thenG_goto, thenG_panic, blockG_normal, blockG_ret, blockG_goto, blockG_panic, jumpG_normal, jumpG_ret, jumpG_exit, jumpG_panic]
      | (refine GW_region' [] (by kernel_rfl) ?_; intro Q hQ hP; simp [hC, hY, f0, f1, f2, f3, f4, f5, f6, f7, f8, f9, f10, f11]; (first | refine hQ _ _ _ _ ?_ | refine hP _ _ (fun _ => ?_)); clear hQ hP Q)
      | (refine GW_draw' [] follows (by kernel_rfl) (by kernel_rfl) ?_; intro Q hQ hP; simp [hC, hY, f0, f1, f2, f3, f4, f5, f6, f7, f8, f9, f10, f11]; (first | refine hQ _ _ _ _ (by kernel_rfl) ?_ | refine hP _ _ (by kernel_rfl) (fun _ => ?_)); clear hQ hP Q)
      | refine GW_block ?_
      | refine GW_ret ?_
      | refine GW_skip ?_
      | refine GW_exit ?_
      | refine GW_goto ?_
      | refine GW_label ?_
      | simp only [blockG_exit]
      | (refine GW_cond (by simp; rfl) ?_ ?_ <;> (intro hb; first | (exfalso; exact absurd hb (by decide)) | skip)))
    refine ⟨.inr trivial, ?_⟩
    simp [Tryd.results80]
  have hr1 : (r == 0) = false := by simpa using hr
  rw [if_neg hr]
  have hb2 : Int.bmod (x * x) 18446744073709551616 = x * x := bm (by have := inB_sq (x := x) ⟨f8, f9⟩; omega) (by have := inB_sq (x := x) ⟨f8, f9⟩; omega)
  by_cases hx : x * x ≤ r
  · have hx' : ¬ r < x * x := by omega
    rw [if_pos hx]
    repeat' (first
      | refine GW_seq ?_
      | simp only [List.length_cons, List.length_nil, Nat.reduceAdd, Nat.reduceMul, thenG_normal, thenG_ret, thenG_exit, thenG_goto, thenG_panic, blockG_normal, blockG_ret, blockG_goto, blockG_panic, jumpG_normal, jumpG_ret, jumpG_exit, jumpG_panic]
      | (refine GW_region' [] (by kernel_rfl) ?_; intro Q hQ hP; simp [hC, hY, f0, f1, f2, f3, f4, f5, f6, f7, f8, f9, f10, f11, hr1, hx', hb2]; (first | refine hQ _ _ _ _ ?_ | refine hP _ _ (fun _ => ?_)); clear hQ hP Q)
      | (refine GW_draw' [] follows (by kernel_rfl) (by kernel_rfl) ?_; intro Q hQ hP; simp [hC, hY, f0, f1, f2, f3, f4, f5, f6, f7, f8, f9, f10, f11, hr1, hx', hb2]; (first | refine hQ _ _ _ _ (by kernel_rfl) ?_ | refine hP _ _ (by kernel_rfl) (fun _ => ?_)); clear hQ hP Q)
      | refine GW_block ?_
      | refine GW_ret ?_
      | refine GW_skip ?_
      | refine GW_exit ?_
      | refine GW_goto ?_
      | refine GW_label ?_
      | simp only [blockG_exit]
      | (refine GW_cond (by simp; rfl) ?_ ?_ <;> (intro hb; first | (exfalso; exact absurd hb (by decide)) | skip)))
    refine ⟨.inr trivial, ?_⟩
    simp [Tryd.results80]
  · have hx' : r < x * x := by omega
    rw [if_neg hx]
    repeat' (first
      | refine GW_seq ?_
      | simp only [List.length_cons, List.length_nil, Nat.reduceAdd, Nat.reduceMul, thenG_normal, thenG_ret, thenG_exit, thenG_goto, thenG_panic, blockG_normal, blockG_ret, blockG_goto, blockG_panic, jumpG_normal, jumpG_ret, jumpG_exit, jumpG_panic]
      | (refine GW_region' [] (by kernel_rfl) ?_; intro Q hQ hP; simp [hC, hY, f0, f1, f2, f3, f4, f5, f6, f7, f8, f9, f10, f11, hr1, hx', hb2]; (first | refine hQ _ _ _ _ ?_ | refine hP _ _ (fun _ => ?_)); clear hQ hP Q)
      | (refine GW_draw' [] follows (by kernel_rfl) (by kernel_rfl) ?_; intro Q hQ hP; simp [hC, hY, f0, f1, f2, f3, f4, f5, f6, f7, f8, f9, f10, f11, hr1, hx', hb2]; (first | refine hQ _ _ _ _ (by kernel_rfl) ?_ | refine hP _ _ (by kernel_rfl) (fun _ => ?_)); clear hQ hP Q)
      | refine GW_block ?_
      | refine GW_ret ?_
      | refine GW_skip ?_
      | refine GW_exit ?_
      | refine GW_goto ?_
      | refine GW_label ?_
      | simp only [blockG_exit]
      | (refine GW_cond (by simp; rfl) ?_ ?_ <;> (intro hb; first | (exfalso; exact absurd hb (by decide)) | skip)))
    refine ⟨.inr trivial, ?_⟩
    simp [Tryd.results80]
@[simp] theorem rmay (n d g m x r : Int) (K : Value → Prop) : callK Tryd.prog G1 80 #[.int .i64 n, .int .i64 d, .int .i64 g, .int .i64 m, .int .i64 x, .int .i64 r] K ↔ K (.int .i64 (chkE n d g m x r)) := callK_iff G1W (by kernel_rfl) (rmay_ret n d g m x r)
theorem rby_bad (n d g m r : Int) (h : chkE n d g m 0 r ≠ 0) : Ret Tryd.prog G1 41 #[.int .i64 n, .int .i64 d, .int .i64 g, .int .i64 m, .int .i64 r] (.bool false) := by
  refine ret_of G1F Tryd.func41 rfl Tryd.call41 (by simp) (by simp) (by simp [Tryd.ntmps41]) ?_
  intro C hC hC0 hY
  have hcb : (chkE n d g m 0 r != 0) = true := by simpa using h
  repeat' (first
    | refine GW_seq ?_
    | simp only [List.length_cons, List.length_nil, Nat.reduceAdd, Nat.reduceMul, thenG_normal, thenG_ret, thenG_exit, thenG_goto, thenG_panic, blockG_normal, blockG_ret, blockG_goto, blockG_panic, jumpG_normal, jumpG_ret, jumpG_exit, jumpG_panic]
    | (refine GW_region' [] (by kernel_rfl) ?_; intro Q hQ hP; simp [hC, hY, hcb]; (first | refine hQ _ _ _ _ ?_ | refine hP _ _ (fun _ => ?_)); clear hQ hP Q)
    | (refine GW_draw' [] follows (by kernel_rfl) (by kernel_rfl) ?_; intro Q hQ hP; simp [hC, hY, hcb]; (first | refine hQ _ _ _ _ (by kernel_rfl) ?_ | refine hP _ _ (by kernel_rfl) (fun _ => ?_)); clear hQ hP Q)
    | refine GW_block ?_
    | refine GW_ret ?_
    | refine GW_skip ?_
    | refine GW_exit ?_
    | refine GW_goto ?_
    | refine GW_label ?_
    | simp only [blockG_exit]
    | (refine GW_cond (by simp; rfl) ?_ ?_ <;> (intro hb; first | (exfalso; exact absurd hb (by decide)) | skip)))
  refine ⟨.inr trivial, ?_⟩
  simp [Tryd.results41]
theorem rby_ret (n d g m r : Int) (h : PIn n d g m 0 r) : Ret Tryd.prog G1 41 #[.int .i64 n, .int .i64 d, .int .i64 g, .int .i64 m, .int .i64 r] (.bool (decide (2 * n * g * m * (2 * n * g * m) < d * r * (d * r)))) := by
  refine ret_of G1F Tryd.func41 rfl Tryd.call41 rfl (by simp) (by simp [Tryd.ntmps41]) ?_
  intro C hC hC0 hY
  have p1 := h.p1
  have p2 := h.p2
  have p3 := h.p3
  have hr0 := h.r0
  have hr1 := h.r1
  have hd0 := h.d0
  have hd1 := h.d1
  have hdr := absmul (p := 2097152) (q := 13194139533312) (by omega) hd1 (by omega) hr1
  have t1 := rprod4_fun 2 n g m ⟨⟨by decide, by decide⟩, ⟨by have := h.n0; omega, by have := h.n1; omega⟩, ⟨by have := h.g0; omega, by have := h.g1; omega⟩, ⟨by have := h.m0; omega, by have := h.m1; omega⟩⟩
    ⟨⟨by decide, by decide⟩, ⟨by omega, by omega⟩, ⟨by omega, by omega⟩, ⟨by omega, by omega⟩⟩
  have t2 := rprod2_fun d r ⟨⟨by omega, by omega⟩, ⟨by omega, by omega⟩⟩ ⟨⟨by omega, by omega⟩, ⟨by omega, by omega⟩⟩
  have sA := wr_sz (z := 2 * n * g * m) ⟨by omega, by omega⟩
  have sB := wr_sz (z := d * r) ⟨by omega, by omega⟩
  have hA := (absmul p3.1 p3.2 p3.1 p3.2)
  have hB := (absmul hdr.1 hdr.2 hdr.1 hdr.2)
  have sA2 := wr_sz (z := 2 * n * g * m * (2 * n * g * m)) ⟨by omega, by omega⟩
  have sB2 := wr_sz (z := d * r * (d * r)) ⟨by omega, by omega⟩
  have hE : chkE n d g m 0 r = 0 := chk_in.2 h
  repeat' (first
    | refine GW_seq ?_
    | simp only [List.length_cons, List.length_nil, Nat.reduceAdd, Nat.reduceMul, thenG_normal, thenG_ret, thenG_exit, thenG_goto, thenG_panic, blockG_normal, blockG_ret, blockG_goto, blockG_panic, jumpG_normal, jumpG_ret, jumpG_exit, jumpG_panic]
    | (refine GW_region' [82] (by kernel_rfl) ?_; intro Q hQ hP; simp [hC, hY, hE, sA, sB, sA2, sB2]; (repeat (first | ((refine heapK_sl t1 (by simp) (by simp) (by omega) ?_ ?_; focus (simp; done)); try simp [hC, hY, hE, sA, sB, sA2, sB2]) | ((refine heapK_sl t2 (by simp) (by simp) (by omega) ?_ ?_; focus (simp; done)); try simp [hC, hY, hE, sA, sB, sA2, sB2]))); (first | refine hQ _ _ _ _ ?_ | refine hP _ _ (fun _ => ?_)); clear hQ hP Q)
    | (refine GW_draw' [82] follows (by kernel_rfl) (by kernel_rfl) ?_; intro Q hQ hP; simp [hC, hY, hE, sA, sB, sA2, sB2]; (repeat (first | ((refine heapK_sl t1 (by simp) (by simp) (by omega) ?_ ?_; focus (simp; done)); try simp [hC, hY, hE, sA, sB, sA2, sB2]) | ((refine heapK_sl t2 (by simp) (by simp) (by omega) ?_ ?_; focus (simp; done)); try simp [hC, hY, hE, sA, sB, sA2, sB2]))); (first | refine hQ _ _ _ _ (by kernel_rfl) ?_ | refine hP _ _ (by kernel_rfl) (fun _ => ?_)); clear hQ hP Q)
    | refine GW_block ?_
    | refine GW_ret ?_
    | refine GW_skip ?_
    | refine GW_exit ?_
    | refine GW_goto ?_
    | refine GW_label ?_
    | simp only [blockG_exit]
    | (refine GW_cond (by simp; rfl) ?_ ?_ <;> (intro hb; first | (exfalso; exact absurd hb (by decide)) | skip)))
  refine ⟨.inr trivial, ?_⟩
  simp [Tryd.results41]
  generalize 2 * n * g * m * (2 * n * g * m) = A
  generalize d * r * (d * r) = B
  unfold cmpI
  (repeat' split) <;> omega
end Go.Gy
namespace Go.Gy
set_option linter.unusedSimpArgs false
set_option linter.unusedVariables false
open Go Go.RowKit Go.Proofs
@[simp] theorem r4Half' (a b : Int) (ha : wr a) (hB : wr b) (h0 : 0 ≤ a) (hb0 : 0 < b) (K : Value → Prop) : callK Tryd.prog G1 19 #[Value.agg #[.int .u64 (wi (a) 0), .int .u64 (wi (a) 1), .int .u64 (wi (a) 2), .int .u64 (wi (a) 3)], Value.agg #[.int .u64 (wi (b) 0), .int .u64 (wi (b) 1), .int .u64 (wi (b) 2), .int .u64 (wi (b) 3)]] K ↔ K (.tuple #[wd ((isq (a / b) + 1) / 2), .int .i64 0]) := callK_iff G1W (by kernel_rfl) ((r4Half_p_ret a b ha hB h0 hb0).up G1up)
@[simp] theorem toint2' (z : Int) (K : Value → Prop) : callK Tryd.prog G1 57 #[Value.agg #[.int .u64 (wi (z) 0), .int .u64 (wi (z) 1), .int .u64 (wi (z) 2), .int .u64 (wi (z) 3)]] K ↔ K (.tuple #[.int .i64 (if i64 (sz z) then sz z else 0), .bool (decide (i64 (sz z)))]) := callK_iff G1W (by kernel_rfl) ((int2_ret z).up G1up)
/-- What one comes to. -/
def oneV (n d g m x r : Int) : Int := if chkE n d g m x r = 0 then pullV n d g m x r else 0
@[simp] theorem pone (n d g m x r : Int) (K : Value → Prop) : callK Tryd.prog G1 38 #[.int .i64 n, .int .i64 d, .int .i64 g, .int .i64 m, .int .i64 x, .int .i64 r] K ↔ K (.tuple #[.int .i64 (oneV n d g m x r), .int .i64 (chkE n d g m x r)]) := by
  unfold oneV
  by_cases h : chkE n d g m x r = 0
  · rw [if_pos h, h]; exact callK_iff G1W (by kernel_rfl) (pone_ok n d g m x r (chk_in.1 h))
  · rw [if_neg h]; exact callK_iff G1W (by kernel_rfl) (pone_bad n d g m x r h)
set_option maxHeartbeats 4000000 in
theorem rone_ok (n d g m x r : Int) (h : PIn n d g m x r) : Ret Tryd.prog G1 39 #[.int .i64 n, .int .i64 d, .int .i64 g, .int .i64 m, .int .i64 x, .int .i64 r] (.tuple #[.int .i64 (pullV n d g m x r), .int .i64 0]) := by
  refine ret_of G1F Tryd.func39 rfl Tryd.call39 (by simp) (by simp) (by simp [Tryd.ntmps39]) ?_
  intro C hC hC0 hY
  have p1 := h.p1
  have p2 := h.p2
  have p3 := h.p3
  have p4 := h.p4
  have q1 := h.q1
  have q2 := h.q2
  have q3 := h.q3
  have q4 := h.q4
  have r0 := h.r0
  have t1 := rprod5_fun 2 n g m x ⟨by decide, ⟨by have := h.n0; omega, by have := h.n1; omega⟩, ⟨by have := h.g0; omega, by have := h.g1; omega⟩, ⟨by have := h.m0; omega, by have := h.m1; omega⟩, ⟨by have := h.x0; omega, by have := h.x1; omega⟩⟩
    ⟨⟨by decide, by decide⟩, ⟨by omega, by omega⟩, ⟨by omega, by omega⟩, ⟨by omega, by omega⟩, ⟨by omega, by omega⟩⟩
  have t2 := rprod5_fun d d r r r ⟨⟨by have := h.d0; omega, by have := h.d1; omega⟩, ⟨by have := h.d0; omega, by have := h.d1; omega⟩, ⟨by omega, by have := h.r1; omega⟩, ⟨by omega, by have := h.r1; omega⟩, ⟨by omega, by have := h.r1; omega⟩⟩
    ⟨⟨by have := h.d0; omega, by have := h.d1; omega⟩, ⟨by omega, by omega⟩, ⟨by omega, by omega⟩, ⟨by omega, by omega⟩, ⟨by omega, by omega⟩⟩
  have wA : wr (2 * n * g * m * x) := ⟨by omega, by omega⟩
  have sA := wr_sz wA
  have hAle := h.a_le
  have hA0 := sq_nonneg (2 * n * g * m * x)
  have wA2 : wr (2 * n * g * m * x * (2 * n * g * m * x)) := ⟨by omega, by omega⟩
  have wB : wr (d * d * r * r * r) := ⟨by omega, by omega⟩
  have hB0 : 0 < d * d * r * r * r := by omega
  have hm := h.mag
  have hmw : wr (pmag n d g m x r) := ⟨by omega, by omega⟩
  have sM := wr_sz hmw
  have iM : i64 (pmag n d g m x r) := ⟨by omega, by omega⟩
  have hmb : Int.bmod (-pmag n d g m x r) 18446744073709551616 = -pmag n d g m x r := bm (by omega) (by omega)
  have hpm : (isq (2 * n * g * m * x * (2 * n * g * m * x) / (d * d * r * r * r)) + 1) / 2 = pmag n d g m x r := rfl
  have hE : chkE n d g m x r = 0 := chk_in.2 h
  have hv : pullV n d g m x r = if (n < 0 ∧ 0 < x) ∨ (0 < n ∧ x < 0) then -pmag n d g m x r else pmag n d g m x r := by
    have z1 : x = 0 → pmag n d g m x r = 0 := fun e => by subst e; exact pmag_0 n d g m r
    have z2 : n = 0 → pmag n d g m x r = 0 := fun e => by subst e; exact pmag_n0 d g m x r
    unfold pullV
    (repeat' split) <;> omega
  rw [hv]
  by_cases n1 : n < 0 <;> by_cases n2 : 0 < n <;> by_cases x1 : x < 0 <;> by_cases x2 : 0 < x
  all_goals first | (exfalso; omega) | skip
  all_goals simp only [n1, n2, x1, x2, and_self, and_true, true_and, and_false, false_and, or_self, or_true, true_or, or_false, false_or, if_true, if_false]
  all_goals
    repeat' (first
      | refine GW_seq ?_
      | simp only [List.length_cons, List.length_nil, Nat.reduceAdd, Nat.reduceMul, thenG_normal, thenG_ret, thenG_exit, thenG_goto, thenG_panic, blockG_normal, blockG_ret, blockG_goto, blockG_panic, jumpG_normal, jumpG_ret, jumpG_exit, jumpG_panic]
      | (refine GW_region' [82] (by kernel_rfl) ?_; intro Q hQ hP; simp [hC, hY, hE, sA, wA2, wB, hA0, hB0, hpm, sM, iM, hmb, n1, n2, x1, x2]; (repeat (first | ((refine heapK_sl t1 (by simp) (by simp) (by omega) ?_ ?_; focus (simp; done)); try simp [hC, hY, hE, sA, wA2, wB, hA0, hB0, hpm, sM, iM, hmb, n1, n2, x1, x2]) | ((refine heapK_sl t2 (by simp) (by simp) (by omega) ?_ ?_; focus (simp; done)); try simp [hC, hY, hE, sA, wA2, wB, hA0, hB0, hpm, sM, iM, hmb, n1, n2, x1, x2]))); (first | refine hQ _ _ _ _ ?_ | refine hP _ _ (fun _ => ?_)); clear hQ hP Q)
      | (refine GW_draw' [82] follows (by kernel_rfl) (by kernel_rfl) ?_; intro Q hQ hP; simp [hC, hY, hE, sA, wA2, wB, hA0, hB0, hpm, sM, iM, hmb, n1, n2, x1, x2]; (repeat (first | ((refine heapK_sl t1 (by simp) (by simp) (by omega) ?_ ?_; focus (simp; done)); try simp [hC, hY, hE, sA, wA2, wB, hA0, hB0, hpm, sM, iM, hmb, n1, n2, x1, x2]) | ((refine heapK_sl t2 (by simp) (by simp) (by omega) ?_ ?_; focus (simp; done)); try simp [hC, hY, hE, sA, wA2, wB, hA0, hB0, hpm, sM, iM, hmb, n1, n2, x1, x2]))); (first | refine hQ _ _ _ _ (by kernel_rfl) ?_ | refine hP _ _ (by kernel_rfl) (fun _ => ?_)); clear hQ hP Q)
      | refine GW_block ?_
      | refine GW_ret ?_
      | refine GW_skip ?_
      | refine GW_exit ?_
      | refine GW_goto ?_
      | refine GW_label ?_
      | simp only [blockG_exit]
      | (refine GW_cond (by simp; rfl) ?_ ?_ <;> (intro hb; first | (exfalso; exact absurd hb (by decide)) | skip)))
  all_goals
    refine ⟨.inr trivial, ?_⟩
    simp [Tryd.results39]
theorem rone_bad (n d g m x r : Int) (h : chkE n d g m x r ≠ 0) : Ret Tryd.prog G1 39 #[.int .i64 n, .int .i64 d, .int .i64 g, .int .i64 m, .int .i64 x, .int .i64 r] (.tuple #[.int .i64 0, .int .i64 (chkE n d g m x r)]) := by
  refine ret_of G1F Tryd.func39 rfl Tryd.call39 (by simp) (by simp) (by simp [Tryd.ntmps39]) ?_
  intro C hC hC0 hY
  have hcb : (chkE n d g m x r != 0) = true := by simpa using h
  repeat' (first
    | refine GW_seq ?_
    | simp only [List.length_cons, List.length_nil, Nat.reduceAdd, Nat.reduceMul, thenG_normal, thenG_ret, thenG_exit, thenG_goto, thenG_panic, blockG_normal, blockG_ret, blockG_goto, blockG_panic, jumpG_normal, jumpG_ret, jumpG_exit, jumpG_panic]
    | (refine GW_region' [] (by kernel_rfl) ?_; intro Q hQ hP; simp [hC, hY, hcb]; (first | refine hQ _ _ _ _ ?_ | refine hP _ _ (fun _ => ?_)); clear hQ hP Q)
    | (refine GW_draw' [] follows (by kernel_rfl) (by kernel_rfl) ?_; intro Q hQ hP; simp [hC, hY, hcb]; (first | refine hQ _ _ _ _ (by kernel_rfl) ?_ | refine hP _ _ (by kernel_rfl) (fun _ => ?_)); clear hQ hP Q)
    | refine GW_block ?_
    | refine GW_ret ?_
    | refine GW_skip ?_
    | refine GW_exit ?_
    | refine GW_goto ?_
    | refine GW_label ?_
    | simp only [blockG_exit]
    | (refine GW_cond (by simp; rfl) ?_ ?_ <;> (intro hb; first | (exfalso; exact absurd hb (by decide)) | skip)))
  refine ⟨.inr trivial, ?_⟩
  simp [Tryd.results39]
@[simp] theorem rone (n d g m x r : Int) (K : Value → Prop) : callK Tryd.prog G1 39 #[.int .i64 n, .int .i64 d, .int .i64 g, .int .i64 m, .int .i64 x, .int .i64 r] K ↔ K (.tuple #[.int .i64 (oneV n d g m x r), .int .i64 (chkE n d g m x r)]) := by
  unfold oneV
  by_cases h : chkE n d g m x r = 0
  · rw [if_pos h, h]; exact callK_iff G1W (by kernel_rfl) (rone_ok n d g m x r (chk_in.1 h))
  · rw [if_neg h]; exact callK_iff G1W (by kernel_rfl) (rone_bad n d g m x r h)
instance inBdec (x : Int) : Decidable (inB x) := by unfold inB; infer_instance
/-- What a square comes to, and its error. -/
def sqV (x0 x1 x2 : Int) : Int := if inB x0 ∧ inB x1 ∧ inB x2 then x0 * x0 + x1 * x1 + x2 * x2 else 0
def sqE (x0 x1 x2 : Int) : Int := if inB x0 ∧ inB x1 ∧ inB x2 then 0 else 2
theorem psqu (x0 x1 x2 : Int) (K : Value → Prop) : callK Tryd.prog G1 34 #[.agg #[.int .i64 x0, .int .i64 x1, .int .i64 x2]] K ↔ K (.tuple #[.int .i64 (sqV x0 x1 x2), .int .i64 (sqE x0 x1 x2)]) := by
  unfold sqV sqE
  by_cases h : inB x0 ∧ inB x1 ∧ inB x2
  · rw [if_pos h, if_pos h]; exact callK_iff G1W (by kernel_rfl) (psq_ret x0 x1 x2 h.1 h.2.1 h.2.2)
  · rw [if_neg h, if_neg h]; exact callK_iff G1W (by kernel_rfl) (psq_bad x0 x1 x2 h)
theorem rsqu (x0 x1 x2 : Int) (K : Value → Prop) : callK Tryd.prog G1 37 #[.agg #[.int .i64 x0, .int .i64 x1, .int .i64 x2]] K ↔ K (.tuple #[.int .i64 (sqV x0 x1 x2), .int .i64 (sqE x0 x1 x2)]) := by
  unfold sqV sqE
  by_cases h : inB x0 ∧ inB x1 ∧ inB x2
  · rw [if_pos h, if_pos h]; exact callK_iff G1W (by kernel_rfl) (rSquare_ok x0 x1 x2 h.1 h.2.1 h.2.2)
  · rw [if_neg h, if_neg h]; exact callK_iff G1W (by kernel_rfl) (rSquare_bad x0 x1 x2 h)
/-- What a pull's error is, and each of its coordinates. -/
def puE (n d g m x0 x1 x2 : Int) : Int := if inB x0 ∧ inB x1 ∧ inB x2 then chkE n d g m x0 (x0 * x0 + x1 * x1 + x2 * x2) else 2
def puV (n d g m x0 x1 x2 x : Int) : Int := if puE n d g m x0 x1 x2 = 0 then pullV n d g m x (x0 * x0 + x1 * x1 + x2 * x2) else 0
theorem pin_all {n d g m x0 x1 x2 : Int} (h0 : inB x0) (h1 : inB x1) (h2 : inB x2) (h : PIn n d g m x0 (x0 * x0 + x1 * x1 + x2 * x2)) : PIn n d g m x1 (x0 * x0 + x1 * x1 + x2 * x2) ∧ PIn n d g m x2 (x0 * x0 + x1 * x1 + x2 * x2) := by
  have s0 := sq_nonneg x0
  have s1 := sq_nonneg x1
  have s2 := sq_nonneg x2
  exact ⟨{ h with x0 := h1.1, x1 := h1.2, xr := by omega }, { h with x0 := h2.1, x1 := h2.2, xr := by omega }⟩
theorem ppull_u (n d g m x0 x1 x2 : Int) (K : Value → Prop) : callK Tryd.prog G1 33 #[.int .i64 n, .int .i64 d, .int .i64 g, .int .i64 m, .agg #[.int .i64 x0, .int .i64 x1, .int .i64 x2]] K ↔
    K (.tuple #[.agg #[.int .i64 (puV n d g m x0 x1 x2 x0), .int .i64 (puV n d g m x0 x1 x2 x1), .int .i64 (puV n d g m x0 x1 x2 x2)], .int .i64 (puE n d g m x0 x1 x2)]) := by
  unfold puV
  by_cases h : inB x0 ∧ inB x1 ∧ inB x2
  · have e : puE n d g m x0 x1 x2 = chkE n d g m x0 (x0 * x0 + x1 * x1 + x2 * x2) := if_pos h
    rw [e]
    by_cases hc : chkE n d g m x0 (x0 * x0 + x1 * x1 + x2 * x2) = 0
    · simp only [hc, if_true]
      have k0 := chk_in.1 hc
      have k := pin_all h.1 h.2.1 h.2.2 k0
      exact callK_iff G1W (by kernel_rfl) (ppull_ok n d g m x0 x1 x2 h.1 h.2.1 h.2.2 k0 k.1 k.2)
    · simp only [hc, if_false]
      exact callK_iff G1W (by kernel_rfl) (ppull_bad1 n d g m x0 x1 x2 h.1 h.2.1 h.2.2 hc)
  · have e : puE n d g m x0 x1 x2 = 2 := if_neg h
    rw [e]
    exact callK_iff G1W (by kernel_rfl) (ppull_bad0 n d g m x0 x1 x2 h)
set_option maxHeartbeats 2000000 in
theorem rpull_ok (n d g m x0 x1 x2 : Int) (h : inB x0 ∧ inB x1 ∧ inB x2) (k0 : PIn n d g m x0 (x0 * x0 + x1 * x1 + x2 * x2)) : Ret Tryd.prog G1 40 #[.int .i64 n, .int .i64 d, .int .i64 g, .int .i64 m, vv x0 x1 x2] (.tuple #[vv (pullV n d g m x0 (x0 * x0 + x1 * x1 + x2 * x2)) (pullV n d g m x1 (x0 * x0 + x1 * x1 + x2 * x2)) (pullV n d g m x2 (x0 * x0 + x1 * x1 + x2 * x2)), .int .i64 0]) := by
  refine ret_of G1F Tryd.func40 rfl Tryd.call40 (by simp [vv]) (by simp [vv]) (by simp [Tryd.ntmps40]) ?_
  intro C hC hC0 hY
  have k := pin_all h.1 h.2.1 h.2.2 k0
  have e0 : sqV x0 x1 x2 = x0 * x0 + x1 * x1 + x2 * x2 := if_pos h
  have e1 : sqE x0 x1 x2 = 0 := if_pos h
  have f0 := chk_in.2 k0
  have f1 := chk_in.2 k.1
  have f2 := chk_in.2 k.2
  generalize x0 * x0 + x1 * x1 + x2 * x2 = r at *
  have g0 : oneV n d g m x0 r = pullV n d g m x0 r := if_pos f0
  have g1 : oneV n d g m x1 r = pullV n d g m x1 r := if_pos f1
  have g2 : oneV n d g m x2 r = pullV n d g m x2 r := if_pos f2
  repeat' (first
    | refine GW_seq ?_
    | refine GWL_start ?_
    | refine GWL_step ?_
    | simp only [List.length_cons, List.length_nil, Nat.reduceAdd, Nat.reduceMul, thenG_normal, thenG_ret, thenG_exit, thenG_goto, thenG_panic, blockG_normal, blockG_ret, blockG_goto, blockG_panic, jumpG_normal, jumpG_ret, jumpG_exit, jumpG_panic]
    | (refine GW_region' [] (by kernel_rfl) ?_; intro Q hQ hP; simp [hC, hY, vv, rsqu, e0, e1, f0, f1, f2, g0, g1, g2]; (first | refine hQ _ _ _ _ ?_ | refine hP _ _ (fun _ => ?_)); clear hQ hP Q)
    | (refine GW_draw' [] follows (by kernel_rfl) (by kernel_rfl) ?_; intro Q hQ hP; simp [hC, hY, vv, rsqu, e0, e1, f0, f1, f2, g0, g1, g2]; (first | refine hQ _ _ _ _ (by kernel_rfl) ?_ | refine hP _ _ (by kernel_rfl) (fun _ => ?_)); clear hQ hP Q)
    | refine GW_block ?_
    | refine GW_ret ?_
    | refine GW_skip ?_
    | refine GW_exit ?_
    | refine GW_goto ?_
    | refine GW_label ?_
    | simp only [blockG_exit]
    | (refine GW_cond (by simp; rfl) ?_ ?_ <;> (intro hb; first | (exfalso; exact absurd hb (by decide)) | skip)))
  refine ⟨.inr trivial, ?_⟩
  simp [Tryd.results40, vv]
theorem rpull_bad0 (n d g m x0 x1 x2 : Int) (h : ¬ (inB x0 ∧ inB x1 ∧ inB x2)) : Ret Tryd.prog G1 40 #[.int .i64 n, .int .i64 d, .int .i64 g, .int .i64 m, vv x0 x1 x2] (.tuple #[vv 0 0 0, .int .i64 2]) := by
  refine ret_of G1F Tryd.func40 rfl Tryd.call40 (by simp [vv]) (by simp [vv]) (by simp [Tryd.ntmps40]) ?_
  intro C hC hC0 hY
  have e0 : sqV x0 x1 x2 = 0 := if_neg h
  have e1 : sqE x0 x1 x2 = 2 := if_neg h
  repeat' (first
    | refine GW_seq ?_
    | refine GWL_start ?_
    | refine GWL_step ?_
    | simp only [List.length_cons, List.length_nil, Nat.reduceAdd, Nat.reduceMul, thenG_normal, thenG_ret, thenG_exit, thenG_goto, thenG_panic, blockG_normal, blockG_ret, blockG_goto, blockG_panic, jumpG_normal, jumpG_ret, jumpG_exit, jumpG_panic]
    | (refine GW_region' [] (by kernel_rfl) ?_; intro Q hQ hP; simp [hC, hY, vv, rsqu, e0, e1]; (first | refine hQ _ _ _ _ ?_ | refine hP _ _ (fun _ => ?_)); clear hQ hP Q)
    | (refine GW_draw' [] follows (by kernel_rfl) (by kernel_rfl) ?_; intro Q hQ hP; simp [hC, hY, vv, rsqu, e0, e1]; (first | refine hQ _ _ _ _ (by kernel_rfl) ?_ | refine hP _ _ (by kernel_rfl) (fun _ => ?_)); clear hQ hP Q)
    | refine GW_block ?_
    | refine GW_ret ?_
    | refine GW_skip ?_
    | refine GW_exit ?_
    | refine GW_goto ?_
    | refine GW_label ?_
    | simp only [blockG_exit]
    | (refine GW_cond (by simp; rfl) ?_ ?_ <;> (intro hb; first | (exfalso; exact absurd hb (by decide)) | skip)))
  refine ⟨.inr trivial, ?_⟩
  simp [Tryd.results40, vv]
theorem rpull_bad1 (n d g m x0 x1 x2 : Int) (h : inB x0 ∧ inB x1 ∧ inB x2) (he : chkE n d g m x0 (x0 * x0 + x1 * x1 + x2 * x2) ≠ 0) : Ret Tryd.prog G1 40 #[.int .i64 n, .int .i64 d, .int .i64 g, .int .i64 m, vv x0 x1 x2] (.tuple #[vv 0 0 0, .int .i64 (chkE n d g m x0 (x0 * x0 + x1 * x1 + x2 * x2))]) := by
  refine ret_of G1F Tryd.func40 rfl Tryd.call40 (by simp [vv]) (by simp [vv]) (by simp [Tryd.ntmps40]) ?_
  intro C hC hC0 hY
  have e0 : sqV x0 x1 x2 = x0 * x0 + x1 * x1 + x2 * x2 := if_pos h
  have e1 : sqE x0 x1 x2 = 0 := if_pos h
  have hcb : (chkE n d g m x0 (x0 * x0 + x1 * x1 + x2 * x2) != 0) = true := by simpa using he
  repeat' (first
    | refine GW_seq ?_
    | refine GWL_start ?_
    | refine GWL_step ?_
    | simp only [List.length_cons, List.length_nil, Nat.reduceAdd, Nat.reduceMul, thenG_normal, thenG_ret, thenG_exit, thenG_goto, thenG_panic, blockG_normal, blockG_ret, blockG_goto, blockG_panic, jumpG_normal, jumpG_ret, jumpG_exit, jumpG_panic]
    | (refine GW_region' [] (by kernel_rfl) ?_; intro Q hQ hP; simp [hC, hY, vv, rsqu, e0, e1, hcb]; (first | refine hQ _ _ _ _ ?_ | refine hP _ _ (fun _ => ?_)); clear hQ hP Q)
    | (refine GW_draw' [] follows (by kernel_rfl) (by kernel_rfl) ?_; intro Q hQ hP; simp [hC, hY, vv, rsqu, e0, e1, hcb]; (first | refine hQ _ _ _ _ (by kernel_rfl) ?_ | refine hP _ _ (by kernel_rfl) (fun _ => ?_)); clear hQ hP Q)
    | refine GW_block ?_
    | refine GW_ret ?_
    | refine GW_skip ?_
    | refine GW_exit ?_
    | refine GW_goto ?_
    | refine GW_label ?_
    | simp only [blockG_exit]
    | (refine GW_cond (by simp; rfl) ?_ ?_ <;> (intro hb; first | (exfalso; exact absurd hb (by decide)) | skip)))
  refine ⟨.inr trivial, ?_⟩
  simp [Tryd.results40, vv]
theorem rpull_u (n d g m x0 x1 x2 : Int) (K : Value → Prop) : callK Tryd.prog G1 40 #[.int .i64 n, .int .i64 d, .int .i64 g, .int .i64 m, .agg #[.int .i64 x0, .int .i64 x1, .int .i64 x2]] K ↔
    K (.tuple #[.agg #[.int .i64 (puV n d g m x0 x1 x2 x0), .int .i64 (puV n d g m x0 x1 x2 x1), .int .i64 (puV n d g m x0 x1 x2 x2)], .int .i64 (puE n d g m x0 x1 x2)]) := by
  unfold puV
  by_cases h : inB x0 ∧ inB x1 ∧ inB x2
  · have e : puE n d g m x0 x1 x2 = chkE n d g m x0 (x0 * x0 + x1 * x1 + x2 * x2) := if_pos h
    rw [e]
    by_cases hc : chkE n d g m x0 (x0 * x0 + x1 * x1 + x2 * x2) = 0
    · simp only [hc, if_true]
      exact callK_iff G1W (by kernel_rfl) (rpull_ok n d g m x0 x1 x2 h (chk_in.1 hc))
    · simp only [hc, if_false]
      exact callK_iff G1W (by kernel_rfl) (rpull_bad1 n d g m x0 x1 x2 h hc)
  · have e : puE n d g m x0 x1 x2 = 2 := if_neg h
    rw [e]
    exact callK_iff G1W (by kernel_rfl) (rpull_bad0 n d g m x0 x1 x2 h)
/-- Who is too far. -/
def byV (n d g m r : Int) : Bool := if chkE n d g m 0 r = 0 then decide (2 * n * g * m * (2 * n * g * m) < d * r * (d * r)) else false
theorem pby_u (n d g m r : Int) (K : Value → Prop) : callK Tryd.prog G1 36 #[.int .i64 n, .int .i64 d, .int .i64 g, .int .i64 m, .int .i64 r] K ↔ K (.bool (byV n d g m r)) := by
  unfold byV
  by_cases h : chkE n d g m 0 r = 0
  · rw [if_pos h]; exact callK_iff G1W (by kernel_rfl) (pby_ret n d g m r (chk_in.1 h))
  · rw [if_neg h]; exact callK_iff G1W (by kernel_rfl) (pby_bad n d g m r h)
theorem rby_u (n d g m r : Int) (K : Value → Prop) : callK Tryd.prog G1 41 #[.int .i64 n, .int .i64 d, .int .i64 g, .int .i64 m, .int .i64 r] K ↔ K (.bool (byV n d g m r)) := by
  unfold byV
  by_cases h : chkE n d g m 0 r = 0
  · rw [if_pos h]; exact callK_iff G1W (by kernel_rfl) (rby_ret n d g m r (chk_in.1 h))
  · rw [if_neg h]; exact callK_iff G1W (by kernel_rfl) (rby_bad n d g m r h)
end Go.Gy
namespace Go.Gy
set_option linter.unusedSimpArgs false
set_option linter.unusedVariables false
open Go Go.RowKit Go.Proofs
set_option maxHeartbeats 2000000 in
set_option maxRecDepth 8000 in
theorem PullTells_ret (n d g m x r x0 x1 x2 : Int) (hn : i64 n) (hd : i64 d) (hg : i64 g) (hm : i64 m) (hx : i64 x) (hr : i64 r) (hx0 : i64 x0) (hx1 : i64 x1) (hx2 : i64 x2) : Ret Tryd.prog G1 11 #[.int .i64 n, .int .i64 d, .int .i64 g, .int .i64 m, .int .i64 x, .int .i64 r, vv x0 x1 x2] (.bool true) := by
  refine ret_of G1F Tryd.func11 rfl Tryd.call11 (by simp [vv]) (by simp [vv]) (by simp [Tryd.ntmps11]) ?_
  intro C hC hC0 hY
  repeat' (first
    | refine GW_seq ?_
    | simp only [List.length_cons, List.length_nil, Nat.reduceAdd, Nat.reduceMul, thenG_normal, thenG_ret, thenG_exit, thenG_goto, thenG_panic, blockG_normal, blockG_ret, blockG_goto, blockG_panic, jumpG_normal, jumpG_ret, jumpG_exit, jumpG_panic]
    | (refine GW_region' [] (by kernel_rfl) ?_; intro Q hQ hP; simp [hC, hY, vv, psqu, rsqu, ppull_u, rpull_u, pby_u, rby_u]; (first | refine hQ _ _ _ _ ?_ | refine hP _ _ (fun _ => ?_)); clear hQ hP Q)
    | (refine GW_draw' [] follows (by kernel_rfl) (by kernel_rfl) ?_; intro Q hQ hP; simp [hC, hY, vv, psqu, rsqu, ppull_u, rpull_u, pby_u, rby_u]; (first | refine hQ _ _ _ _ (by kernel_rfl) ?_ | refine hP _ _ (by kernel_rfl) (fun _ => ?_)); clear hQ hP Q)
    | refine GW_block ?_
    | refine GW_ret ?_
    | refine GW_skip ?_
    | refine GW_exit ?_
    | refine GW_goto ?_
    | refine GW_label ?_
    | simp only [blockG_exit]
    | (refine GW_cond (by simp; rfl) ?_ ?_ <;> (intro hb; first | (exfalso; exact absurd hb (by decide)) | skip)))
  refine ⟨.inr trivial, ?_⟩
  simp [Tryd.results11]
end Go.Gy
