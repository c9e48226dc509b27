/-
  Laws of layer 12 (pull): may, wakes.
  Conditions: none.
-/
import Derived.Test.YtggidgaeggekhaaDoorGyU8
namespace Go.Gy
set_option linter.unusedSimpArgs false
set_option linter.unusedVariables false
open Go Go.RowKit Go.Proofs
@[simp] theorem ppull (n d g m x0 x1 x2 : Int) (h0 : inB x0) (h1 : inB x1) (h2 : inB x2) (k0 : PIn n d g m x0 (x0 * x0 + x1 * x1 + x2 * x2)) (k1 : PIn n d g m x1 (x0 * x0 + x1 * x1 + x2 * x2)) (k2 : PIn n d g m x2 (x0 * x0 + x1 * x1 + x2 * x2)) (K : Value → Prop) :
    callK Tryd.prog G1 33 #[.int .i64 n, .int .i64 d, .int .i64 g, .int .i64 m, .agg #[.int .i64 x0, .int .i64 x1, .int .i64 x2]] K ↔ K (.tuple #[.agg #[.int .i64 (pullV n d g m x0 (x0 * x0 + x1 * x1 + x2 * x2)), .int .i64 (pullV n d g m x1 (x0 * x0 + x1 * x1 + x2 * x2)), .int .i64 (pullV n d g m x2 (x0 * x0 + x1 * x1 + x2 * x2))], .int .i64 0]) :=
  callK_iff G1W (by kernel_rfl) (ppull_ok n d g m x0 x1 x2 h0 h1 h2 k0 k1 k2)
theorem pull_at {n d g m x0 x1 x2 p0 p1 p2 : Int} {r : Int} (hr : x0 * x0 + x1 * x1 + x2 * x2 = r) (h0 : inB x0) (h1 : inB x1) (h2 : inB x2) (k0 : PIn n d g m x0 r) (k1 : PIn n d g m x1 r) (k2 : PIn n d g m x2 r)
    (e0 : pullV n d g m x0 r = p0) (e1 : pullV n d g m x1 r = p1) (e2 : pullV n d g m x2 r = p2) (K : Value → Prop) :
    callK Tryd.prog G1 33 #[.int .i64 n, .int .i64 d, .int .i64 g, .int .i64 m, .agg #[.int .i64 x0, .int .i64 x1, .int .i64 x2]] K ↔ K (.tuple #[.agg #[.int .i64 p0, .int .i64 p1, .int .i64 p2], .int .i64 0]) := by
  subst hr e0 e1 e2
  exact ppull n d g m x0 x1 x2 h0 h1 h2 k0 k1 k2 K
theorem pull_err {n d g m x0 x1 x2 e : Int} (h0 : inB x0) (h1 : inB x1) (h2 : inB x2) (he : chkE n d g m x0 (x0 * x0 + x1 * x1 + x2 * x2) = e) (hn : e ≠ 0) (K : Value → Prop) :
    callK Tryd.prog G1 33 #[.int .i64 n, .int .i64 d, .int .i64 g, .int .i64 m, .agg #[.int .i64 x0, .int .i64 x1, .int .i64 x2]] K ↔ K (.tuple #[.agg #[.int .i64 0, .int .i64 0, .int .i64 0], .int .i64 e]) := by
  subst he
  exact callK_iff G1W (by kernel_rfl) (ppull_bad1 n d g m x0 x1 x2 h0 h1 h2 hn)
theorem by_at {n d g m r : Int} {b : Bool} (h : PIn n d g m 0 r) (e : decide (2 * n * g * m * (2 * n * g * m) < d * r * (d * r)) = b) (K : Value → Prop) :
    callK Tryd.prog G1 36 #[.int .i64 n, .int .i64 d, .int .i64 g, .int .i64 m, .int .i64 r] K ↔ K (.bool b) := by
  subst e
  exact callK_iff G1W (by kernel_rfl) (pby_ret n d g m r h)
theorem pmag_0 (n d g m r : Int) : pmag n d g m 0 r = 0 := by
  unfold pmag
  rw [Int.mul_zero, Int.zero_mul, Int.zero_ediv, isq_unique (r := 0) (by decide) (by decide) (by decide)]
  decide
theorem pullV_0 (n d g m r : Int) : pullV n d g m 0 r = 0 := by
  unfold pullV
  rw [pmag_0]
  split <;> split <;> rfl
theorem pmag_eq {n d g m x r q : Int} (h0 : 0 ≤ q) (h1 : q * q ≤ 2 * n * g * m * x * (2 * n * g * m * x) / (d * d * r * r * r)) (h2 : 2 * n * g * m * x * (2 * n * g * m * x) / (d * d * r * r * r) < (q + 1) * (q + 1)) : pmag n d g m x r = (q + 1) / 2 := by
  unfold pmag
  rw [isq_unique h0 h1 h2]
theorem inB_of {x : Int} (h0 : -2097152 ≤ x) (h1 : x ≤ 2097152) : inB x := ⟨h0, h1⟩
set_option maxHeartbeats 2000000 in
set_option maxRecDepth 100000 in
theorem wakes12_ret : Ret Tryd.prog G1 32 #[] (.bool true) := by
  refine ret_of G1F Tryd.func32 rfl Tryd.call32 rfl (by simp) (by simp [Tryd.ntmps32]) ?_
  intro C hC hC0 hY
  have b0 : inB 0 := by decide
  have b10 : inB 10 := by decide
  have b1 : inB 1 := by decide
  have b2 : inB 2 := by decide
  have bm2 : inB (-2) := by decide
  have b3 : inB 3 := by decide
  have w1 := pull_at (n := 1) (d := 1) (g := 100) (m := 1) (x0 := 10) (x1 := 0) (x2 := 0) (p0 := 1) (p1 := 0) (p2 := 0) (r := 100) (by decide) b10 b0 b0 (by constructor <;> decide) (by constructor <;> decide) (by constructor <;> decide)
    (by unfold pullV; rw [pmag_eq (q := 2) (by decide) (by decide) (by decide)]; decide) (pullV_0 _ _ _ _ _) (pullV_0 _ _ _ _ _)
  have w2 := pull_at (n := 1) (d := 1) (g := 149) (m := 1) (x0 := 10) (x1 := 0) (x2 := 0) (p0 := 1) (p1 := 0) (p2 := 0) (r := 100) (by decide) b10 b0 b0 (by constructor <;> decide) (by constructor <;> decide) (by constructor <;> decide)
    (by unfold pullV; rw [pmag_eq (q := 2) (by decide) (by decide) (by decide)]; decide) (pullV_0 _ _ _ _ _) (pullV_0 _ _ _ _ _)
  have w3 := pull_at (n := -1) (d := 1) (g := 150) (m := 1) (x0 := 10) (x1 := 0) (x2 := 0) (p0 := -2) (p1 := 0) (p2 := 0) (r := 100) (by decide) b10 b0 b0 (by constructor <;> decide) (by constructor <;> decide) (by constructor <;> decide)
    (by unfold pullV; rw [pmag_eq (q := 3) (by decide) (by decide) (by decide)]; decide) (pullV_0 _ _ _ _ _) (pullV_0 _ _ _ _ _)
  have w4 := pull_err (n := 1) (d := 1) (g := 1) (m := 1) (x0 := 0) (x1 := 0) (x2 := 0) (e := 30) b0 b0 b0 (by decide) (by decide)
  have w5 := pull_err (n := 1) (d := 0) (g := 1) (m := 1) (x0 := 1) (x1 := 2) (x2 := 3) (e := 2) b1 b2 b3 (by decide) (by decide)
  have w6 : ∀ K : Value → Prop, callK Tryd.prog G1 34 #[.agg #[.int .i64 1, .int .i64 (-2), .int .i64 3]] K ↔ K (.tuple #[.int .i64 14, .int .i64 0]) := psq 1 (-2) 3 b1 bm2 b3
  have w7 := by_at (n := 1) (d := 1) (g := 1) (m := 1) (r := 4) (b := true) (by constructor <;> decide) (by decide)
  have w8 := by_at (n := 1) (d := 1) (g := 1) (m := 1) (r := 2) (b := false) (by constructor <;> decide) (by decide)
  repeat' (first
    | refine GW_seq ?_
    | simp only [List.length_cons, List.length_nil, Nat.reduceAdd, Nat.reduceMul, thenG_normal, thenG_ret, thenG_exit, thenG_goto, thenG_panic, blockG_normal, blockG_ret, blockG_goto, blockG_panic, jumpG_normal, jumpG_ret, jumpG_exit, jumpG_panic]
    | (refine GW_region' [] (by kernel_rfl) ?_; intro Q hQ hP; simp [hC, hY, w1, w2, w3, w4, w5, w6, w7, w8]; (first | refine hQ _ _ _ _ ?_ | refine hP _ _ (fun _ => ?_)); clear hQ hP Q)
    | (refine GW_draw' [] follows (by kernel_rfl) (by kernel_rfl) ?_; intro Q hQ hP; simp [hC, hY, w1, w2, w3, w4, w5, w6, w7, w8]; (first | refine hQ _ _ _ _ (by kernel_rfl) ?_ | refine hP _ _ (by kernel_rfl) (fun _ => ?_)); clear hQ hP Q)
    | refine GW_block ?_
    | refine GW_ret ?_
    | refine GW_skip ?_
    | refine GW_exit ?_
    | refine GW_goto ?_
    | refine GW_label ?_
    | simp only [blockG_exit]
    | (refine GW_cond (by simp; rfl) ?_ ?_ <;> (intro hb; first | (exfalso; exact absurd hb (by decide)) | skip)))
  refine ⟨.inr trivial, ?_⟩
  simp [Tryd.results32]
@[simp] theorem wakes12 (K : Value → Prop) : callK Tryd.prog G1 32 #[] K ↔ K (.bool true) := callK_iff G1W (by kernel_rfl) wakes12_ret
/-! who may -/
structure MayP (n d g m x0 x1 x2 : Int) : Prop where
  i0 : inB x0
  i1 : inB x1
  i2 : inB x2
  far : ¬ (x0 = 0 ∧ x1 = 0 ∧ x2 = 0)
  n0 : -2097152 ≤ n
  n1 : n ≤ 2097152
  d0 : 1 ≤ d
  d1 : d ≤ 2097152
  g0 : 1 ≤ g
  g1 : g ≤ 1048576
  m0 : 1 ≤ m
  m1 : m ≤ 1024
set_option maxHeartbeats 4000000 in
theorem may_t (n d g m x0 x1 x2 : Int) (h : MayP n d g m x0 x1 x2) : Ret Tryd.prog G1 31 #[.int .i64 n, .int .i64 d, .int .i64 g, .int .i64 m, vv x0 x1 x2] (.bool true) := by
  refine ret_of G1F Tryd.func31 rfl Tryd.call31 rfl (by simp [vv]) (by simp [Tryd.ntmps31]) ?_
  intro C hC hC0 hY
  obtain ⟨⟨a0, a1⟩, ⟨a2, a3⟩, ⟨a4, a5⟩, far, q0, q1, q2, q3, q4, q5, q6, q7⟩ := h
  have b0 : ¬ x0 < -2097152 := by omega
  have b1 : ¬ 2097152 < x0 := by omega
  have b2 : ¬ x1 < -2097152 := by omega
  have b3 : ¬ 2097152 < x1 := by omega
  have b4 : ¬ x2 < -2097152 := by omega
  have b5 : ¬ 2097152 < x2 := by omega
  by_cases z0 : x0 = 0
  · by_cases z1 : x1 = 0
    · have z2 : (x2 != 0) = true := by simp; omega
      have y0 : (x0 != 0) = false := by simp [z0]
      have y1 : (x1 != 0) = false := by simp [z1]
      repeat' (first
        | refine GW_seq ?_
        | refine GWL_start ?_
        | refine GWL_step ?_
        | simp only [List.length_cons, List.length_nil, Nat.reduceAdd, Nat.reduceMul, thenG_normal, thenG_ret, thenG_exit, thenG_goto, thenG_panic, blockG_normal, blockG_ret, blockG_goto, blockG_panic, jumpG_normal, jumpG_ret, jumpG_exit, jumpG_panic]
        | (refine GW_region' [] (by kernel_rfl) ?_; intro Q hQ hP; simp [hC, hY, vv, b0, b1, b2, b3, b4, b5, q0, q1, q2, q3, q4, q5, q6, q7, y0, y1, z2]; (first | refine hQ _ _ _ _ ?_ | refine hP _ _ (fun _ => ?_)); clear hQ hP Q)
        | (refine GW_draw' [] follows (by kernel_rfl) (by kernel_rfl) ?_; intro Q hQ hP; simp [hC, hY, vv, b0, b1, b2, b3, b4, b5, q0, q1, q2, q3, q4, q5, q6, q7, y0, y1, z2]; (first | refine hQ _ _ _ _ (by kernel_rfl) ?_ | refine hP _ _ (by kernel_rfl) (fun _ => ?_)); clear hQ hP Q)
        | refine GW_block ?_
        | refine GW_ret ?_
        | refine GW_skip ?_
        | refine GW_exit ?_
        | refine GW_goto ?_
        | refine GW_label ?_
        | simp only [blockG_exit]
        | (refine GW_cond (by simp; rfl) ?_ ?_ <;> (intro hb; first | (exfalso; exact absurd hb (by decide)) | skip)))
      refine ⟨.inr trivial, ?_⟩
      simp [Tryd.results31]
    · have y0 : (x0 != 0) = false := by simp [z0]
      have y1 : (x1 != 0) = true := by simp [z1]
      repeat' (first
        | refine GW_seq ?_
        | refine GWL_start ?_
        | refine GWL_step ?_
        | simp only [List.length_cons, List.length_nil, Nat.reduceAdd, Nat.reduceMul, thenG_normal, thenG_ret, thenG_exit, thenG_goto, thenG_panic, blockG_normal, blockG_ret, blockG_goto, blockG_panic, jumpG_normal, jumpG_ret, jumpG_exit, jumpG_panic]
        | (refine GW_region' [] (by kernel_rfl) ?_; intro Q hQ hP; simp [hC, hY, vv, b0, b1, b2, b3, b4, b5, q0, q1, q2, q3, q4, q5, q6, q7, y0, y1]; (first | refine hQ _ _ _ _ ?_ | refine hP _ _ (fun _ => ?_)); clear hQ hP Q)
        | (refine GW_draw' [] follows (by kernel_rfl) (by kernel_rfl) ?_; intro Q hQ hP; simp [hC, hY, vv, b0, b1, b2, b3, b4, b5, q0, q1, q2, q3, q4, q5, q6, q7, y0, y1]; (first | refine hQ _ _ _ _ (by kernel_rfl) ?_ | refine hP _ _ (by kernel_rfl) (fun _ => ?_)); clear hQ hP Q)
        | refine GW_block ?_
        | refine GW_ret ?_
        | refine GW_skip ?_
        | refine GW_exit ?_
        | refine GW_goto ?_
        | refine GW_label ?_
        | simp only [blockG_exit]
        | (refine GW_cond (by simp; rfl) ?_ ?_ <;> (intro hb; first | (exfalso; exact absurd hb (by decide)) | skip)))
      refine ⟨.inr trivial, ?_⟩
      simp [Tryd.results31]
  · have y0 : (x0 != 0) = true := by simp [z0]
    repeat' (first
      | refine GW_seq ?_
      | refine GWL_start ?_
      | refine GWL_step ?_
      | simp only [List.length_cons, List.length_nil, Nat.reduceAdd, Nat.reduceMul, thenG_normal, thenG_ret, thenG_exit, thenG_goto, thenG_panic, blockG_normal, blockG_ret, blockG_goto, blockG_panic, jumpG_normal, jumpG_ret, jumpG_exit, jumpG_panic]
      | (refine GW_region' [] (by kernel_rfl) ?_; intro Q hQ hP; simp [hC, hY, vv, b0, b1, b2, b3, b4, b5, q0, q1, q2, q3, q4, q5, q6, q7, y0]; (first | refine hQ _ _ _ _ ?_ | refine hP _ _ (fun _ => ?_)); clear hQ hP Q)
      | (refine GW_draw' [] follows (by kernel_rfl) (by kernel_rfl) ?_; intro Q hQ hP; simp [hC, hY, vv, b0, b1, b2, b3, b4, b5, q0, q1, q2, q3, q4, q5, q6, q7, y0]; (first | refine hQ _ _ _ _ (by kernel_rfl) ?_ | refine hP _ _ (by kernel_rfl) (fun _ => ?_)); clear hQ hP Q)
      | refine GW_block ?_
      | refine GW_ret ?_
      | refine GW_skip ?_
      | refine GW_exit ?_
      | refine GW_goto ?_
      | refine GW_label ?_
      | simp only [blockG_exit]
      | (refine GW_cond (by simp; rfl) ?_ ?_ <;> (intro hb; first | (exfalso; exact absurd hb (by decide)) | skip)))
    refine ⟨.inr trivial, ?_⟩
    simp [Tryd.results31]
set_option maxHeartbeats 8000000 in
theorem may_f (n d g m x0 x1 x2 : Int) (h : ¬ MayP n d g m x0 x1 x2) : Ret Tryd.prog G1 31 #[.int .i64 n, .int .i64 d, .int .i64 g, .int .i64 m, vv x0 x1 x2] (.bool false) := by
  refine ret_of G1F Tryd.func31 rfl Tryd.call31 rfl (by simp [vv]) (by simp [Tryd.ntmps31]) ?_
  intro C hC hC0 hY
  by_cases a0 : -2097152 ≤ x0
  rotate_left
  · have f0 : x0 < -2097152 := by omega
    repeat' (first
      | refine GW_seq ?_
      | refine GWL_start ?_
      | refine GWL_step ?_
      | simp only [List.length_cons, List.length_nil, Nat.reduceAdd, Nat.reduceMul, thenG_normal, thenG_ret, thenG_exit, thenG_goto, thenG_panic, blockG_normal, blockG_ret, blockG_goto, blockG_panic, jumpG_normal, jumpG_ret, jumpG_exit, jumpG_panic]
      | (refine GW_region' [] (by kernel_rfl) ?_; intro Q hQ hP; simp [hC, hY, vv, f0]; (first | refine hQ _ _ _ _ ?_ | refine hP _ _ (fun _ => ?_)); clear hQ hP Q)
      | (refine GW_draw' [] follows (by kernel_rfl) (by kernel_rfl) ?_; intro Q hQ hP; simp [hC, hY, vv, f0]; (first | refine hQ _ _ _ _ (by kernel_rfl) ?_ | refine hP _ _ (by kernel_rfl) (fun _ => ?_)); clear hQ hP Q)
      | refine GW_block ?_
      | refine GW_ret ?_
      | refine GW_skip ?_
      | refine GW_exit ?_
      | refine GW_goto ?_
      | refine GW_label ?_
      | simp only [blockG_exit]
      | (refine GW_cond (by simp; rfl) ?_ ?_ <;> (intro hb; first | (exfalso; exact absurd hb (by decide)) | skip)))
    refine ⟨.inr trivial, ?_⟩
    simp [Tryd.results31]
  have b0 : ¬ x0 < -2097152 := by omega
  by_cases a1 : x0 ≤ 2097152
  rotate_left
  · have f1 : 2097152 < x0 := by omega
    repeat' (first
      | refine GW_seq ?_
      | refine GWL_start ?_
      | refine GWL_step ?_
      | simp only [List.length_cons, List.length_nil, Nat.reduceAdd, Nat.reduceMul, thenG_normal, thenG_ret, thenG_exit, thenG_goto, thenG_panic, blockG_normal, blockG_ret, blockG_goto, blockG_panic, jumpG_normal, jumpG_ret, jumpG_exit, jumpG_panic]
      | (refine GW_region' [] (by kernel_rfl) ?_; intro Q hQ hP; simp [hC, hY, vv, b0, f1]; (first | refine hQ _ _ _ _ ?_ | refine hP _ _ (fun _ => ?_)); clear hQ hP Q)
      | (refine GW_draw' [] follows (by kernel_rfl) (by kernel_rfl) ?_; intro Q hQ hP; simp [hC, hY, vv, b0, f1]; (first | refine hQ _ _ _ _ (by kernel_rfl) ?_ | refine hP _ _ (by kernel_rfl) (fun _ => ?_)); clear hQ hP Q)
      | refine GW_block ?_
      | refine GW_ret ?_
      | refine GW_skip ?_
      | refine GW_exit ?_
      | refine GW_goto ?_
      | refine GW_label ?_
      | simp only [blockG_exit]
      | (refine GW_cond (by simp; rfl) ?_ ?_ <;> (intro hb; first | (exfalso; exact absurd hb (by decide)) | skip)))
    refine ⟨.inr trivial, ?_⟩
    simp [Tryd.results31]
  have b1 : ¬ 2097152 < x0 := by omega
  by_cases a2 : -2097152 ≤ x1
  rotate_left
  · have f2 : x1 < -2097152 := by omega
    cases y0 : (x0 != 0)
    all_goals
      repeat' (first
        | refine GW_seq ?_
        | refine GWL_start ?_
        | refine GWL_step ?_
        | simp only [List.length_cons, List.length_nil, Nat.reduceAdd, Nat.reduceMul, thenG_normal, thenG_ret, thenG_exit, thenG_goto, thenG_panic, blockG_normal, blockG_ret, blockG_goto, blockG_panic, jumpG_normal, jumpG_ret, jumpG_exit, jumpG_panic]
        | (refine GW_region' [] (by kernel_rfl) ?_; intro Q hQ hP; simp [hC, hY, vv, b0, b1, f2, y0]; (first | refine hQ _ _ _ _ ?_ | refine hP _ _ (fun _ => ?_)); clear hQ hP Q)
        | (refine GW_draw' [] follows (by kernel_rfl) (by kernel_rfl) ?_; intro Q hQ hP; simp [hC, hY, vv, b0, b1, f2, y0]; (first | refine hQ _ _ _ _ (by kernel_rfl) ?_ | refine hP _ _ (by kernel_rfl) (fun _ => ?_)); clear hQ hP Q)
        | refine GW_block ?_
        | refine GW_ret ?_
        | refine GW_skip ?_
        | refine GW_exit ?_
        | refine GW_goto ?_
        | refine GW_label ?_
        | simp only [blockG_exit]
        | (refine GW_cond (by simp; rfl) ?_ ?_ <;> (intro hb; first | (exfalso; exact absurd hb (by decide)) | skip)))
    all_goals
      refine ⟨.inr trivial, ?_⟩
      simp [Tryd.results31]
  have b2 : ¬ x1 < -2097152 := by omega
  by_cases a3 : x1 ≤ 2097152
  rotate_left
  · have f3 : 2097152 < x1 := by omega
    cases y0 : (x0 != 0)
    all_goals
      repeat' (first
        | refine GW_seq ?_
        | refine GWL_start ?_
        | refine GWL_step ?_
        | simp only [List.length_cons, List.length_nil, Nat.reduceAdd, Nat.reduceMul, thenG_normal, thenG_ret, thenG_exit, thenG_goto, thenG_panic, blockG_normal, blockG_ret, blockG_goto, blockG_panic, jumpG_normal, jumpG_ret, jumpG_exit, jumpG_panic]
        | (refine GW_region' [] (by kernel_rfl) ?_; intro Q hQ hP; simp [hC, hY, vv, b0, b1, b2, f3, y0]; (first | refine hQ _ _ _ _ ?_ | refine hP _ _ (fun _ => ?_)); clear hQ hP Q)
        | (refine GW_draw' [] follows (by kernel_rfl) (by kernel_rfl) ?_; intro Q hQ hP; simp [hC, hY, vv, b0, b1, b2, f3, y0]; (first | refine hQ _ _ _ _ (by kernel_rfl) ?_ | refine hP _ _ (by kernel_rfl) (fun _ => ?_)); clear hQ hP Q)
        | refine GW_block ?_
        | refine GW_ret ?_
        | refine GW_skip ?_
        | refine GW_exit ?_
        | refine GW_goto ?_
        | refine GW_label ?_
        | simp only [blockG_exit]
        | (refine GW_cond (by simp; rfl) ?_ ?_ <;> (intro hb; first | (exfalso; exact absurd hb (by decide)) | skip)))
    all_goals
      refine ⟨.inr trivial, ?_⟩
      simp [Tryd.results31]
  have b3 : ¬ 2097152 < x1 := by omega
  by_cases a4 : -2097152 ≤ x2
  rotate_left
  · have f4 : x2 < -2097152 := by omega
    cases y0 : (x0 != 0) <;>
    cases y1 : (x1 != 0)
    all_goals
      repeat' (first
        | refine GW_seq ?_
        | refine GWL_start ?_
        | refine GWL_step ?_
        | simp only [List.length_cons, List.length_nil, Nat.reduceAdd, Nat.reduceMul, thenG_normal, thenG_ret, thenG_exit, thenG_goto, thenG_panic, blockG_normal, blockG_ret, blockG_goto, blockG_panic, jumpG_normal, jumpG_ret, jumpG_exit, jumpG_panic]
        | (refine GW_region' [] (by kernel_rfl) ?_; intro Q hQ hP; simp [hC, hY, vv, b0, b1, b2, b3, f4, y0, y1]; (first | refine hQ _ _ _ _ ?_ | refine hP _ _ (fun _ => ?_)); clear hQ hP Q)
        | (refine GW_draw' [] follows (by kernel_rfl) (by kernel_rfl) ?_; intro Q hQ hP; simp [hC, hY, vv, b0, b1, b2, b3, f4, y0, y1]; (first | refine hQ _ _ _ _ (by kernel_rfl) ?_ | refine hP _ _ (by kernel_rfl) (fun _ => ?_)); clear hQ hP Q)
        | refine GW_block ?_
        | refine GW_ret ?_
        | refine GW_skip ?_
        | refine GW_exit ?_
        | refine GW_goto ?_
        | refine GW_label ?_
        | simp only [blockG_exit]
        | (refine GW_cond (by simp; rfl) ?_ ?_ <;> (intro hb; first | (exfalso; exact absurd hb (by decide)) | skip)))
    all_goals
      refine ⟨.inr trivial, ?_⟩
      simp [Tryd.results31]
  have b4 : ¬ x2 < -2097152 := by omega
  by_cases a5 : x2 ≤ 2097152
  rotate_left
  · have f5 : 2097152 < x2 := by omega
    cases y0 : (x0 != 0) <;>
    cases y1 : (x1 != 0)
    all_goals
      repeat' (first
        | refine GW_seq ?_
        | refine GWL_start ?_
        | refine GWL_step ?_
        | simp only [List.length_cons, List.length_nil, Nat.reduceAdd, Nat.reduceMul, thenG_normal, thenG_ret, thenG_exit, thenG_goto, thenG_panic, blockG_normal, blockG_ret, blockG_goto, blockG_panic, jumpG_normal, jumpG_ret, jumpG_exit, jumpG_panic]
        | (refine GW_region' [] (by kernel_rfl) ?_; intro Q hQ hP; simp [hC, hY, vv, b0, b1, b2, b3, b4, f5, y0, y1]; (first | refine hQ _ _ _ _ ?_ | refine hP _ _ (fun _ => ?_)); clear hQ hP Q)
        | (refine GW_draw' [] follows (by kernel_rfl) (by kernel_rfl) ?_; intro Q hQ hP; simp [hC, hY, vv, b0, b1, b2, b3, b4, f5, y0, y1]; (first | refine hQ _ _ _ _ (by kernel_rfl) ?_ | refine hP _ _ (by kernel_rfl) (fun _ => ?_)); clear hQ hP Q)
        | refine GW_block ?_
        | refine GW_ret ?_
        | refine GW_skip ?_
        | refine GW_exit ?_
        | refine GW_goto ?_
        | refine GW_label ?_
        | simp only [blockG_exit]
        | (refine GW_cond (by simp; rfl) ?_ ?_ <;> (intro hb; first | (exfalso; exact absurd hb (by decide)) | skip)))
    all_goals
      refine ⟨.inr trivial, ?_⟩
      simp [Tryd.results31]
  have b5 : ¬ 2097152 < x2 := by omega
  by_cases far : x0 = 0 ∧ x1 = 0 ∧ x2 = 0
  · obtain ⟨z0, z1, z2⟩ := far
    have y0 : (x0 != 0) = false := by simp [z0]
    have y1 : (x1 != 0) = false := by simp [z1]
    have y2 : (x2 != 0) = false := by simp [z2]
    repeat' (first
      | refine GW_seq ?_
      | refine GWL_start ?_
      | refine GWL_step ?_
      | simp only [List.length_cons, List.length_nil, Nat.reduceAdd, Nat.reduceMul, thenG_normal, thenG_ret, thenG_exit, thenG_goto, thenG_panic, blockG_normal, blockG_ret, blockG_goto, blockG_panic, jumpG_normal, jumpG_ret, jumpG_exit, jumpG_panic]
      | (refine GW_region' [] (by kernel_rfl) ?_; intro Q hQ hP; simp [hC, hY, vv, b0, b1, b2, b3, b4, b5, y0, y1, y2]; (first | refine hQ _ _ _ _ ?_ | refine hP _ _ (fun _ => ?_)); clear hQ hP Q)
      | (refine GW_draw' [] follows (by kernel_rfl) (by kernel_rfl) ?_; intro Q hQ hP; simp [hC, hY, vv, b0, b1, b2, b3, b4, b5, y0, y1, y2]; (first | refine hQ _ _ _ _ (by kernel_rfl) ?_ | refine hP _ _ (by kernel_rfl) (fun _ => ?_)); clear hQ hP Q)
      | refine GW_block ?_
      | refine GW_ret ?_
      | refine GW_skip ?_
      | refine GW_exit ?_
      | refine GW_goto ?_
      | refine GW_label ?_
      | simp only [blockG_exit]
      | (refine GW_cond (by simp; rfl) ?_ ?_ <;> (intro hb; first | (exfalso; exact absurd hb (by decide)) | skip)))
    refine ⟨.inr trivial, ?_⟩
    simp [Tryd.results31]
  have hor : (x0 != 0) = true ∨ (x0 != 0) = false ∧ (x1 != 0) = true ∨ (x0 != 0) = false ∧ (x1 != 0) = false ∧ (x2 != 0) = true := by
    simp; omega
  by_cases q0 : -2097152 ≤ n
  rotate_left
  · rcases hor with y0 | ⟨y0, y1⟩ | ⟨y0, y1, y2⟩
    · skip
      repeat' (first
        | refine GW_seq ?_
        | refine GWL_start ?_
        | refine GWL_step ?_
        | simp only [List.length_cons, List.length_nil, Nat.reduceAdd, Nat.reduceMul, thenG_normal, thenG_ret, thenG_exit, thenG_goto, thenG_panic, blockG_normal, blockG_ret, blockG_goto, blockG_panic, jumpG_normal, jumpG_ret, jumpG_exit, jumpG_panic]
        | (refine GW_region' [] (by kernel_rfl) ?_; intro Q hQ hP; simp [hC, hY, vv, b0, b1, b2, b3, b4, b5, q0, y0]; (first | refine hQ _ _ _ _ ?_ | refine hP _ _ (fun _ => ?_)); clear hQ hP Q)
        | (refine GW_draw' [] follows (by kernel_rfl) (by kernel_rfl) ?_; intro Q hQ hP; simp [hC, hY, vv, b0, b1, b2, b3, b4, b5, q0, y0]; (first | refine hQ _ _ _ _ (by kernel_rfl) ?_ | refine hP _ _ (by kernel_rfl) (fun _ => ?_)); clear hQ hP Q)
        | refine GW_block ?_
        | refine GW_ret ?_
        | refine GW_skip ?_
        | refine GW_exit ?_
        | refine GW_goto ?_
        | refine GW_label ?_
        | simp only [blockG_exit]
        | (refine GW_cond (by simp; rfl) ?_ ?_ <;> (intro hb; first | (exfalso; exact absurd hb (by decide)) | skip)))
      refine ⟨.inr trivial, ?_⟩
      simp [Tryd.results31]
    · skip
      repeat' (first
        | refine GW_seq ?_
        | refine GWL_start ?_
        | refine GWL_step ?_
        | simp only [List.length_cons, List.length_nil, Nat.reduceAdd, Nat.reduceMul, thenG_normal, thenG_ret, thenG_exit, thenG_goto, thenG_panic, blockG_normal, blockG_ret, blockG_goto, blockG_panic, jumpG_normal, jumpG_ret, jumpG_exit, jumpG_panic]
        | (refine GW_region' [] (by kernel_rfl) ?_; intro Q hQ hP; simp [hC, hY, vv, b0, b1, b2, b3, b4, b5, q0, y0, y1]; (first | refine hQ _ _ _ _ ?_ | refine hP _ _ (fun _ => ?_)); clear hQ hP Q)
        | (refine GW_draw' [] follows (by kernel_rfl) (by kernel_rfl) ?_; intro Q hQ hP; simp [hC, hY, vv, b0, b1, b2, b3, b4, b5, q0, y0, y1]; (first | refine hQ _ _ _ _ (by kernel_rfl) ?_ | refine hP _ _ (by kernel_rfl) (fun _ => ?_)); clear hQ hP Q)
        | refine GW_block ?_
        | refine GW_ret ?_
        | refine GW_skip ?_
        | refine GW_exit ?_
        | refine GW_goto ?_
        | refine GW_label ?_
        | simp only [blockG_exit]
        | (refine GW_cond (by simp; rfl) ?_ ?_ <;> (intro hb; first | (exfalso; exact absurd hb (by decide)) | skip)))
      refine ⟨.inr trivial, ?_⟩
      simp [Tryd.results31]
    · skip
      repeat' (first
        | refine GW_seq ?_
        | refine GWL_start ?_
        | refine GWL_step ?_
        | simp only [List.length_cons, List.length_nil, Nat.reduceAdd, Nat.reduceMul, thenG_normal, thenG_ret, thenG_exit, thenG_goto, thenG_panic, blockG_normal, blockG_ret, blockG_goto, blockG_panic, jumpG_normal, jumpG_ret, jumpG_exit, jumpG_panic]
        | (refine GW_region' [] (by kernel_rfl) ?_; intro Q hQ hP; simp [hC, hY, vv, b0, b1, b2, b3, b4, b5, q0, y0, y1, y2]; (first | refine hQ _ _ _ _ ?_ | refine hP _ _ (fun _ => ?_)); clear hQ hP Q)
        | (refine GW_draw' [] follows (by kernel_rfl) (by kernel_rfl) ?_; intro Q hQ hP; simp [hC, hY, vv, b0, b1, b2, b3, b4, b5, q0, y0, y1, y2]; (first | refine hQ _ _ _ _ (by kernel_rfl) ?_ | refine hP _ _ (by kernel_rfl) (fun _ => ?_)); clear hQ hP Q)
        | refine GW_block ?_
        | refine GW_ret ?_
        | refine GW_skip ?_
        | refine GW_exit ?_
        | refine GW_goto ?_
        | refine GW_label ?_
        | simp only [blockG_exit]
        | (refine GW_cond (by simp; rfl) ?_ ?_ <;> (intro hb; first | (exfalso; exact absurd hb (by decide)) | skip)))
      refine ⟨.inr trivial, ?_⟩
      simp [Tryd.results31]
  by_cases q1 : n ≤ 2097152
  rotate_left
  · rcases hor with y0 | ⟨y0, y1⟩ | ⟨y0, y1, y2⟩
    · skip
      repeat' (first
        | refine GW_seq ?_
        | refine GWL_start ?_
        | refine GWL_step ?_
        | simp only [List.length_cons, List.length_nil, Nat.reduceAdd, Nat.reduceMul, thenG_normal, thenG_ret, thenG_exit, thenG_goto, thenG_panic, blockG_normal, blockG_ret, blockG_goto, blockG_panic, jumpG_normal, jumpG_ret, jumpG_exit, jumpG_panic]
        | (refine GW_region' [] (by kernel_rfl) ?_; intro Q hQ hP; simp [hC, hY, vv, b0, b1, b2, b3, b4, b5, q0, q1, y0]; (first | refine hQ _ _ _ _ ?_ | refine hP _ _ (fun _ => ?_)); clear hQ hP Q)
        | (refine GW_draw' [] follows (by kernel_rfl) (by kernel_rfl) ?_; intro Q hQ hP; simp [hC, hY, vv, b0, b1, b2, b3, b4, b5, q0, q1, y0]; (first | refine hQ _ _ _ _ (by kernel_rfl) ?_ | refine hP _ _ (by kernel_rfl) (fun _ => ?_)); clear hQ hP Q)
        | refine GW_block ?_
        | refine GW_ret ?_
        | refine GW_skip ?_
        | refine GW_exit ?_
        | refine GW_goto ?_
        | refine GW_label ?_
        | simp only [blockG_exit]
        | (refine GW_cond (by simp; rfl) ?_ ?_ <;> (intro hb; first | (exfalso; exact absurd hb (by decide)) | skip)))
      refine ⟨.inr trivial, ?_⟩
      simp [Tryd.results31]
    · skip
      repeat' (first
        | refine GW_seq ?_
        | refine GWL_start ?_
        | refine GWL_step ?_
        | simp only [List.length_cons, List.length_nil, Nat.reduceAdd, Nat.reduceMul, thenG_normal, thenG_ret, thenG_exit, thenG_goto, thenG_panic, blockG_normal, blockG_ret, blockG_goto, blockG_panic, jumpG_normal, jumpG_ret, jumpG_exit, jumpG_panic]
        | (refine GW_region' [] (by kernel_rfl) ?_; intro Q hQ hP; simp [hC, hY, vv, b0, b1, b2, b3, b4, b5, q0, q1, y0, y1]; (first | refine hQ _ _ _ _ ?_ | refine hP _ _ (fun _ => ?_)); clear hQ hP Q)
        | (refine GW_draw' [] follows (by kernel_rfl) (by kernel_rfl) ?_; intro Q hQ hP; simp [hC, hY, vv, b0, b1, b2, b3, b4, b5, q0, q1, y0, y1]; (first | refine hQ _ _ _ _ (by kernel_rfl) ?_ | refine hP _ _ (by kernel_rfl) (fun _ => ?_)); clear hQ hP Q)
        | refine GW_block ?_
        | refine GW_ret ?_
        | refine GW_skip ?_
        | refine GW_exit ?_
        | refine GW_goto ?_
        | refine GW_label ?_
        | simp only [blockG_exit]
        | (refine GW_cond (by simp; rfl) ?_ ?_ <;> (intro hb; first | (exfalso; exact absurd hb (by decide)) | skip)))
      refine ⟨.inr trivial, ?_⟩
      simp [Tryd.results31]
    · skip
      repeat' (first
        | refine GW_seq ?_
        | refine GWL_start ?_
        | refine GWL_step ?_
        | simp only [List.length_cons, List.length_nil, Nat.reduceAdd, Nat.reduceMul, thenG_normal, thenG_ret, thenG_exit, thenG_goto, thenG_panic, blockG_normal, blockG_ret, blockG_goto, blockG_panic, jumpG_normal, jumpG_ret, jumpG_exit, jumpG_panic]
        | (refine GW_region' [] (by kernel_rfl) ?_; intro Q hQ hP; simp [hC, hY, vv, b0, b1, b2, b3, b4, b5, q0, q1, y0, y1, y2]; (first | refine hQ _ _ _ _ ?_ | refine hP _ _ (fun _ => ?_)); clear hQ hP Q)
        | (refine GW_draw' [] follows (by kernel_rfl) (by kernel_rfl) ?_; intro Q hQ hP; simp [hC, hY, vv, b0, b1, b2, b3, b4, b5, q0, q1, y0, y1, y2]; (first | refine hQ _ _ _ _ (by kernel_rfl) ?_ | refine hP _ _ (by kernel_rfl) (fun _ => ?_)); clear hQ hP Q)
        | refine GW_block ?_
        | refine GW_ret ?_
        | refine GW_skip ?_
        | refine GW_exit ?_
        | refine GW_goto ?_
        | refine GW_label ?_
        | simp only [blockG_exit]
        | (refine GW_cond (by simp; rfl) ?_ ?_ <;> (intro hb; first | (exfalso; exact absurd hb (by decide)) | skip)))
      refine ⟨.inr trivial, ?_⟩
      simp [Tryd.results31]
  by_cases q2 : 1 ≤ d
  rotate_left
  · rcases hor with y0 | ⟨y0, y1⟩ | ⟨y0, y1, y2⟩
    · skip
      repeat' (first
        | refine GW_seq ?_
        | refine GWL_start ?_
        | refine GWL_step ?_
        | simp only [List.length_cons, List.length_nil, Nat.reduceAdd, Nat.reduceMul, thenG_normal, thenG_ret, thenG_exit, thenG_goto, thenG_panic, blockG_normal, blockG_ret, blockG_goto, blockG_panic, jumpG_normal, jumpG_ret, jumpG_exit, jumpG_panic]
        | (refine GW_region' [] (by kernel_rfl) ?_; intro Q hQ hP; simp [hC, hY, vv, b0, b1, b2, b3, b4, b5, q0, q1, q2, y0]; (first | refine hQ _ _ _ _ ?_ | refine hP _ _ (fun _ => ?_)); clear hQ hP Q)
        | (refine GW_draw' [] follows (by kernel_rfl) (by kernel_rfl) ?_; intro Q hQ hP; simp [hC, hY, vv, b0, b1, b2, b3, b4, b5, q0, q1, q2, y0]; (first | refine hQ _ _ _ _ (by kernel_rfl) ?_ | refine hP _ _ (by kernel_rfl) (fun _ => ?_)); clear hQ hP Q)
        | refine GW_block ?_
        | refine GW_ret ?_
        | refine GW_skip ?_
        | refine GW_exit ?_
        | refine GW_goto ?_
        | refine GW_label ?_
        | simp only [blockG_exit]
        | (refine GW_cond (by simp; rfl) ?_ ?_ <;> (intro hb; first | (exfalso; exact absurd hb (by decide)) | skip)))
      refine ⟨.inr trivial, ?_⟩
      simp [Tryd.results31]
    · skip
      repeat' (first
        | refine GW_seq ?_
        | refine GWL_start ?_
        | refine GWL_step ?_
        | simp only [List.length_cons, List.length_nil, Nat.reduceAdd, Nat.reduceMul, thenG_normal, thenG_ret, thenG_exit, thenG_goto, thenG_panic, blockG_normal, blockG_ret, blockG_goto, blockG_panic, jumpG_normal, jumpG_ret, jumpG_exit, jumpG_panic]
        | (refine GW_region' [] (by kernel_rfl) ?_; intro Q hQ hP; simp [hC, hY, vv, b0, b1, b2, b3, b4, b5, q0, q1, q2, y0, y1]; (first | refine hQ _ _ _ _ ?_ | refine hP _ _ (fun _ => ?_)); clear hQ hP Q)
        | (refine GW_draw' [] follows (by kernel_rfl) (by kernel_rfl) ?_; intro Q hQ hP; simp [hC, hY, vv, b0, b1, b2, b3, b4, b5, q0, q1, q2, y0, y1]; (first | refine hQ _ _ _ _ (by kernel_rfl) ?_ | refine hP _ _ (by kernel_rfl) (fun _ => ?_)); clear hQ hP Q)
        | refine GW_block ?_
        | refine GW_ret ?_
        | refine GW_skip ?_
        | refine GW_exit ?_
        | refine GW_goto ?_
        | refine GW_label ?_
        | simp only [blockG_exit]
        | (refine GW_cond (by simp; rfl) ?_ ?_ <;> (intro hb; first | (exfalso; exact absurd hb (by decide)) | skip)))
      refine ⟨.inr trivial, ?_⟩
      simp [Tryd.results31]
    · skip
      repeat' (first
        | refine GW_seq ?_
        | refine GWL_start ?_
        | refine GWL_step ?_
        | simp only [List.length_cons, List.length_nil, Nat.reduceAdd, Nat.reduceMul, thenG_normal, thenG_ret, thenG_exit, thenG_goto, thenG_panic, blockG_normal, blockG_ret, blockG_goto, blockG_panic, jumpG_normal, jumpG_ret, jumpG_exit, jumpG_panic]
        | (refine GW_region' [] (by kernel_rfl) ?_; intro Q hQ hP; simp [hC, hY, vv, b0, b1, b2, b3, b4, b5, q0, q1, q2, y0, y1, y2]; (first | refine hQ _ _ _ _ ?_ | refine hP _ _ (fun _ => ?_)); clear hQ hP Q)
        | (refine GW_draw' [] follows (by kernel_rfl) (by kernel_rfl) ?_; intro Q hQ hP; simp [hC, hY, vv, b0, b1, b2, b3, b4, b5, q0, q1, q2, y0, y1, y2]; (first | refine hQ _ _ _ _ (by kernel_rfl) ?_ | refine hP _ _ (by kernel_rfl) (fun _ => ?_)); clear hQ hP Q)
        | refine GW_block ?_
        | refine GW_ret ?_
        | refine GW_skip ?_
        | refine GW_exit ?_
        | refine GW_goto ?_
        | refine GW_label ?_
        | simp only [blockG_exit]
        | (refine GW_cond (by simp; rfl) ?_ ?_ <;> (intro hb; first | (exfalso; exact absurd hb (by decide)) | skip)))
      refine ⟨.inr trivial, ?_⟩
      simp [Tryd.results31]
  by_cases q3 : d ≤ 2097152
  rotate_left
  · rcases hor with y0 | ⟨y0, y1⟩ | ⟨y0, y1, y2⟩
    · skip
      repeat' (first
        | refine GW_seq ?_
        | refine GWL_start ?_
        | refine GWL_step ?_
        | simp only [List.length_cons, List.length_nil, Nat.reduceAdd, Nat.reduceMul, thenG_normal, thenG_ret, thenG_exit, thenG_goto, thenG_panic, blockG_normal, blockG_ret, blockG_goto, blockG_panic, jumpG_normal, jumpG_ret, jumpG_exit, jumpG_panic]
        | (refine GW_region' [] (by kernel_rfl) ?_; intro Q hQ hP; simp [hC, hY, vv, b0, b1, b2, b3, b4, b5, q0, q1, q2, q3, y0]; (first | refine hQ _ _ _ _ ?_ | refine hP _ _ (fun _ => ?_)); clear hQ hP Q)
        | (refine GW_draw' [] follows (by kernel_rfl) (by kernel_rfl) ?_; intro Q hQ hP; simp [hC, hY, vv, b0, b1, b2, b3, b4, b5, q0, q1, q2, q3, y0]; (first | refine hQ _ _ _ _ (by kernel_rfl) ?_ | refine hP _ _ (by kernel_rfl) (fun _ => ?_)); clear hQ hP Q)
        | refine GW_block ?_
        | refine GW_ret ?_
        | refine GW_skip ?_
        | refine GW_exit ?_
        | refine GW_goto ?_
        | refine GW_label ?_
        | simp only [blockG_exit]
        | (refine GW_cond (by simp; rfl) ?_ ?_ <;> (intro hb; first | (exfalso; exact absurd hb (by decide)) | skip)))
      refine ⟨.inr trivial, ?_⟩
      simp [Tryd.results31]
    · skip
      repeat' (first
        | refine GW_seq ?_
        | refine GWL_start ?_
        | refine GWL_step ?_
        | simp only [List.length_cons, List.length_nil, Nat.reduceAdd, Nat.reduceMul, thenG_normal, thenG_ret, thenG_exit, thenG_goto, thenG_panic, blockG_normal, blockG_ret, blockG_goto, blockG_panic, jumpG_normal, jumpG_ret, jumpG_exit, jumpG_panic]
        | (refine GW_region' [] (by kernel_rfl) ?_; intro Q hQ hP; simp [hC, hY, vv, b0, b1, b2, b3, b4, b5, q0, q1, q2, q3, y0, y1]; (first | refine hQ _ _ _ _ ?_ | refine hP _ _ (fun _ => ?_)); clear hQ hP Q)
        | (refine GW_draw' [] follows (by kernel_rfl) (by kernel_rfl) ?_; intro Q hQ hP; simp [hC, hY, vv, b0, b1, b2, b3, b4, b5, q0, q1, q2, q3, y0, y1]; (first | refine hQ _ _ _ _ (by kernel_rfl) ?_ | refine hP _ _ (by kernel_rfl) (fun _ => ?_)); clear hQ hP Q)
        | refine GW_block ?_
        | refine GW_ret ?_
        | refine GW_skip ?_
        | refine GW_exit ?_
        | refine GW_goto ?_
        | refine GW_label ?_
        | simp only [blockG_exit]
        | (refine GW_cond (by simp; rfl) ?_ ?_ <;> (intro hb; first | (exfalso; exact absurd hb (by decide)) | skip)))
      refine ⟨.inr trivial, ?_⟩
      simp [Tryd.results31]
    · skip
      repeat' (first
        | refine GW_seq ?_
        | refine GWL_start ?_
        | refine GWL_step ?_
        | simp only [List.length_cons, List.length_nil, Nat.reduceAdd, Nat.reduceMul, thenG_normal, thenG_ret, thenG_exit, thenG_goto, thenG_panic, blockG_normal, blockG_ret, blockG_goto, blockG_panic, jumpG_normal, jumpG_ret, jumpG_exit, jumpG_panic]
        | (refine GW_region' [] (by kernel_rfl) ?_; intro Q hQ hP; simp [hC, hY, vv, b0, b1, b2, b3, b4, b5, q0, q1, q2, q3, y0, y1, y2]; (first | refine hQ _ _ _ _ ?_ | refine hP _ _ (fun _ => ?_)); clear hQ hP Q)
        | (refine GW_draw' [] follows (by kernel_rfl) (by kernel_rfl) ?_; intro Q hQ hP; simp [hC, hY, vv, b0, b1, b2, b3, b4, b5, q0, q1, q2, q3, y0, y1, y2]; (first | refine hQ _ _ _ _ (by kernel_rfl) ?_ | refine hP _ _ (by kernel_rfl) (fun _ => ?_)); clear hQ hP Q)
        | refine GW_block ?_
        | refine GW_ret ?_
        | refine GW_skip ?_
        | refine GW_exit ?_
        | refine GW_goto ?_
        | refine GW_label ?_
        | simp only [blockG_exit]
        | (refine GW_cond (by simp; rfl) ?_ ?_ <;> (intro hb; first | (exfalso; exact absurd hb (by decide)) | skip)))
      refine ⟨.inr trivial, ?_⟩
      simp [Tryd.results31]
  by_cases q4 : 1 ≤ g
  rotate_left
  · rcases hor with y0 | ⟨y0, y1⟩ | ⟨y0, y1, y2⟩
    · skip
      repeat' (first
        | refine GW_seq ?_
        | refine GWL_start ?_
        | refine GWL_step ?_
        | simp only [List.length_cons, List.length_nil, Nat.reduceAdd, Nat.reduceMul, thenG_normal, thenG_ret, thenG_exit, thenG_goto, thenG_panic, blockG_normal, blockG_ret, blockG_goto, blockG_panic, jumpG_normal, jumpG_ret, jumpG_exit, jumpG_panic]
        | (refine GW_region' [] (by kernel_rfl) ?_; intro Q hQ hP; simp [hC, hY, vv, b0, b1, b2, b3, b4, b5, q0, q1, q2, q3, q4, y0]; (first | refine hQ _ _ _ _ ?_ | refine hP _ _ (fun _ => ?_)); clear hQ hP Q)
        | (refine GW_draw' [] follows (by kernel_rfl) (by kernel_rfl) ?_; intro Q hQ hP; simp [hC, hY, vv, b0, b1, b2, b3, b4, b5, q0, q1, q2, q3, q4, y0]; (first | refine hQ _ _ _ _ (by kernel_rfl) ?_ | refine hP _ _ (by kernel_rfl) (fun _ => ?_)); clear hQ hP Q)
        | refine GW_block ?_
        | refine GW_ret ?_
        | refine GW_skip ?_
        | refine GW_exit ?_
        | refine GW_goto ?_
        | refine GW_label ?_
        | simp only [blockG_exit]
        | (refine GW_cond (by simp; rfl) ?_ ?_ <;> (intro hb; first | (exfalso; exact absurd hb (by decide)) | skip)))
      refine ⟨.inr trivial, ?_⟩
      simp [Tryd.results31]
    · skip
      repeat' (first
        | refine GW_seq ?_
        | refine GWL_start ?_
        | refine GWL_step ?_
        | simp only [List.length_cons, List.length_nil, Nat.reduceAdd, Nat.reduceMul, thenG_normal, thenG_ret, thenG_exit, thenG_goto, thenG_panic, blockG_normal, blockG_ret, blockG_goto, blockG_panic, jumpG_normal, jumpG_ret, jumpG_exit, jumpG_panic]
        | (refine GW_region' [] (by kernel_rfl) ?_; intro Q hQ hP; simp [hC, hY, vv, b0, b1, b2, b3, b4, b5, q0, q1, q2, q3, q4, y0, y1]; (first | refine hQ _ _ _ _ ?_ | refine hP _ _ (fun _ => ?_)); clear hQ hP Q)
        | (refine GW_draw' [] follows (by kernel_rfl) (by kernel_rfl) ?_; intro Q hQ hP; simp [hC, hY, vv, b0, b1, b2, b3, b4, b5, q0, q1, q2, q3, q4, y0, y1]; (first | refine hQ _ _ _ _ (by kernel_rfl) ?_ | refine hP _ _ (by kernel_rfl) (fun _ => ?_)); clear hQ hP Q)
        | refine GW_block ?_
        | refine GW_ret ?_
        | refine GW_skip ?_
        | refine GW_exit ?_
        | refine GW_goto ?_
        | refine GW_label ?_
        | simp only [blockG_exit]
        | (refine GW_cond (by simp; rfl) ?_ ?_ <;> (intro hb; first | (exfalso; exact absurd hb (by decide)) | skip)))
      refine ⟨.inr trivial, ?_⟩
      simp [Tryd.results31]
    · skip
      repeat' (first
        | refine GW_seq ?_
        | refine GWL_start ?_
        | refine GWL_step ?_
        | simp only [List.length_cons, List.length_nil, Nat.reduceAdd, Nat.reduceMul, thenG_normal, thenG_ret, thenG_exit, thenG_goto, thenG_panic, blockG_normal, blockG_ret, blockG_goto, blockG_panic, jumpG_normal, jumpG_ret, jumpG_exit, jumpG_panic]
        | (refine GW_region' [] (by kernel_rfl) ?_; intro Q hQ hP; simp [hC, hY, vv, b0, b1, b2, b3, b4, b5, q0, q1, q2, q3, q4, y0, y1, y2]; (first | refine hQ _ _ _ _ ?_ | refine hP _ _ (fun _ => ?_)); clear hQ hP Q)
        | (refine GW_draw' [] follows (by kernel_rfl) (by kernel_rfl) ?_; intro Q hQ hP; simp [hC, hY, vv, b0, b1, b2, b3, b4, b5, q0, q1, q2, q3, q4, y0, y1, y2]; (first | refine hQ _ _ _ _ (by kernel_rfl) ?_ | refine hP _ _ (by kernel_rfl) (fun _ => ?_)); clear hQ hP Q)
        | refine GW_block ?_
        | refine GW_ret ?_
        | refine GW_skip ?_
        | refine GW_exit ?_
        | refine GW_goto ?_
        | refine GW_label ?_
        | simp only [blockG_exit]
        | (refine GW_cond (by simp; rfl) ?_ ?_ <;> (intro hb; first | (exfalso; exact absurd hb (by decide)) | skip)))
      refine ⟨.inr trivial, ?_⟩
      simp [Tryd.results31]
  by_cases q5 : g ≤ 1048576
  rotate_left
  · rcases hor with y0 | ⟨y0, y1⟩ | ⟨y0, y1, y2⟩
    · skip
      repeat' (first
        | refine GW_seq ?_
        | refine GWL_start ?_
        | refine GWL_step ?_
        | simp only [List.length_cons, List.length_nil, Nat.reduceAdd, Nat.reduceMul, thenG_normal, thenG_ret, thenG_exit, thenG_goto, thenG_panic, blockG_normal, blockG_ret, blockG_goto, blockG_panic, jumpG_normal, jumpG_ret, jumpG_exit, jumpG_panic]
        | (refine GW_region' [] (by kernel_rfl) ?_; intro Q hQ hP; simp [hC, hY, vv, b0, b1, b2, b3, b4, b5, q0, q1, q2, q3, q4, q5, y0]; (first | refine hQ _ _ _ _ ?_ | refine hP _ _ (fun _ => ?_)); clear hQ hP Q)
        | (refine GW_draw' [] follows (by kernel_rfl) (by kernel_rfl) ?_; intro Q hQ hP; simp [hC, hY, vv, b0, b1, b2, b3, b4, b5, q0, q1, q2, q3, q4, q5, y0]; (first | refine hQ _ _ _ _ (by kernel_rfl) ?_ | refine hP _ _ (by kernel_rfl) (fun _ => ?_)); clear hQ hP Q)
        | refine GW_block ?_
        | refine GW_ret ?_
        | refine GW_skip ?_
        | refine GW_exit ?_
        | refine GW_goto ?_
        | refine GW_label ?_
        | simp only [blockG_exit]
        | (refine GW_cond (by simp; rfl) ?_ ?_ <;> (intro hb; first | (exfalso; exact absurd hb (by decide)) | skip)))
      refine ⟨.inr trivial, ?_⟩
      simp [Tryd.results31]
    · skip
      repeat' (first
        | refine GW_seq ?_
        | refine GWL_start ?_
        | refine GWL_step ?_
        | simp only [List.length_cons, List.length_nil, Nat.reduceAdd, Nat.reduceMul, thenG_normal, thenG_ret, thenG_exit, thenG_goto, thenG_panic, blockG_normal, blockG_ret, blockG_goto, blockG_panic, jumpG_normal, jumpG_ret, jumpG_exit, jumpG_panic]
        | (refine GW_region' [] (by kernel_rfl) ?_; intro Q hQ hP; simp [hC, hY, vv, b0, b1, b2, b3, b4, b5, q0, q1, q2, q3, q4, q5, y0, y1]; (first | refine hQ _ _ _ _ ?_ | refine hP _ _ (fun _ => ?_)); clear hQ hP Q)
        | (refine GW_draw' [] follows (by kernel_rfl) (by kernel_rfl) ?_; intro Q hQ hP; simp [hC, hY, vv, b0, b1, b2, b3, b4, b5, q0, q1, q2, q3, q4, q5, y0, y1]; (first | refine hQ _ _ _ _ (by kernel_rfl) ?_ | refine hP _ _ (by kernel_rfl) (fun _ => ?_)); clear hQ hP Q)
        | refine GW_block ?_
        | refine GW_ret ?_
        | refine GW_skip ?_
        | refine GW_exit ?_
        | refine GW_goto ?_
        | refine GW_label ?_
        | simp only [blockG_exit]
        | (refine GW_cond (by simp; rfl) ?_ ?_ <;> (intro hb; first | (exfalso; exact absurd hb (by decide)) | skip)))
      refine ⟨.inr trivial, ?_⟩
      simp [Tryd.results31]
    · skip
      repeat' (first
        | refine GW_seq ?_
        | refine GWL_start ?_
        | refine GWL_step ?_
        | simp only [List.length_cons, List.length_nil, Nat.reduceAdd, Nat.reduceMul, thenG_normal, thenG_ret, thenG_exit, thenG_goto, thenG_panic, blockG_normal, blockG_ret, blockG_goto, blockG_panic, jumpG_normal, jumpG_ret, jumpG_exit, jumpG_panic]
        | (refine GW_region' [] (by kernel_rfl) ?_; intro Q hQ hP; simp [hC, hY, vv, b0, b1, b2, b3, b4, b5, q0, q1, q2, q3, q4, q5, y0, y1, y2]; (first | refine hQ _ _ _ _ ?_ | refine hP _ _ (fun _ => ?_)); clear hQ hP Q)
        | (refine GW_draw' [] follows (by kernel_rfl) (by kernel_rfl) ?_; intro Q hQ hP; simp [hC, hY, vv, b0, b1, b2, b3, b4, b5, q0, q1, q2, q3, q4, q5, y0, y1, y2]; (first | refine hQ _ _ _ _ (by kernel_rfl) ?_ | refine hP _ _ (by kernel_rfl) (fun _ => ?_)); clear hQ hP Q)
        | refine GW_block ?_
        | refine GW_ret ?_
        | refine GW_skip ?_
        | refine GW_exit ?_
        | refine GW_goto ?_
        | refine GW_label ?_
        | simp only [blockG_exit]
        | (refine GW_cond (by simp; rfl) ?_ ?_ <;> (intro hb; first | (exfalso; exact absurd hb (by decide)) | skip)))
      refine ⟨.inr trivial, ?_⟩
      simp [Tryd.results31]
  by_cases q6 : 1 ≤ m
  rotate_left
  · rcases hor with y0 | ⟨y0, y1⟩ | ⟨y0, y1, y2⟩
    · skip
      repeat' (first
        | refine GW_seq ?_
        | refine GWL_start ?_
        | refine GWL_step ?_
        | simp only [List.length_cons, List.length_nil, Nat.reduceAdd, Nat.reduceMul, thenG_normal, thenG_ret, thenG_exit, thenG_goto, thenG_panic, blockG_normal, blockG_ret, blockG_goto, blockG_panic, jumpG_normal, jumpG_ret, jumpG_exit, jumpG_panic]
        | (refine GW_region' [] (by kernel_rfl) ?_; intro Q hQ hP; simp [hC, hY, vv, b0, b1, b2, b3, b4, b5, q0, q1, q2, q3, q4, q5, q6, y0]; (first | refine hQ _ _ _ _ ?_ | refine hP _ _ (fun _ => ?_)); clear hQ hP Q)
        | (refine GW_draw' [] follows (by kernel_rfl) (by kernel_rfl) ?_; intro Q hQ hP; simp [hC, hY, vv, b0, b1, b2, b3, b4, b5, q0, q1, q2, q3, q4, q5, q6, y0]; (first | refine hQ _ _ _ _ (by kernel_rfl) ?_ | refine hP _ _ (by kernel_rfl) (fun _ => ?_)); clear hQ hP Q)
        | refine GW_block ?_
        | refine GW_ret ?_
        | refine GW_skip ?_
        | refine GW_exit ?_
        | refine GW_goto ?_
        | refine GW_label ?_
        | simp only [blockG_exit]
        | (refine GW_cond (by simp; rfl) ?_ ?_ <;> (intro hb; first | (exfalso; exact absurd hb (by decide)) | skip)))
      refine ⟨.inr trivial, ?_⟩
      simp [Tryd.results31]
    · skip
      repeat' (first
        | refine GW_seq ?_
        | refine GWL_start ?_
        | refine GWL_step ?_
        | simp only [List.length_cons, List.length_nil, Nat.reduceAdd, Nat.reduceMul, thenG_normal, thenG_ret, thenG_exit, thenG_goto, thenG_panic, blockG_normal, blockG_ret, blockG_goto, blockG_panic, jumpG_normal, jumpG_ret, jumpG_exit, jumpG_panic]
        | (refine GW_region' [] (by kernel_rfl) ?_; intro Q hQ hP; simp [hC, hY, vv, b0, b1, b2, b3, b4, b5, q0, q1, q2, q3, q4, q5, q6, y0, y1]; (first | refine hQ _ _ _ _ ?_ | refine hP _ _ (fun _ => ?_)); clear hQ hP Q)
        | (refine GW_draw' [] follows (by kernel_rfl) (by kernel_rfl) ?_; intro Q hQ hP; simp [hC, hY, vv, b0, b1, b2, b3, b4, b5, q0, q1, q2, q3, q4, q5, q6, y0, y1]; (first | refine hQ _ _ _ _ (by kernel_rfl) ?_ | refine hP _ _ (by kernel_rfl) (fun _ => ?_)); clear hQ hP Q)
        | refine GW_block ?_
        | refine GW_ret ?_
        | refine GW_skip ?_
        | refine GW_exit ?_
        | refine GW_goto ?_
        | refine GW_label ?_
        | simp only [blockG_exit]
        | (refine GW_cond (by simp; rfl) ?_ ?_ <;> (intro hb; first | (exfalso; exact absurd hb (by decide)) | skip)))
      refine ⟨.inr trivial, ?_⟩
      simp [Tryd.results31]
    · skip
      repeat' (first
        | refine GW_seq ?_
        | refine GWL_start ?_
        | refine GWL_step ?_
        | simp only [List.length_cons, List.length_nil, Nat.reduceAdd, Nat.reduceMul, thenG_normal, thenG_ret, thenG_exit, thenG_goto, thenG_panic, blockG_normal, blockG_ret, blockG_goto, blockG_panic, jumpG_normal, jumpG_ret, jumpG_exit, jumpG_panic]
        | (refine GW_region' [] (by kernel_rfl) ?_; intro Q hQ hP; simp [hC, hY, vv, b0, b1, b2, b3, b4, b5, q0, q1, q2, q3, q4, q5, q6, y0, y1, y2]; (first | refine hQ _ _ _ _ ?_ | refine hP _ _ (fun _ => ?_)); clear hQ hP Q)
        | (refine GW_draw' [] follows (by kernel_rfl) (by kernel_rfl) ?_; intro Q hQ hP; simp [hC, hY, vv, b0, b1, b2, b3, b4, b5, q0, q1, q2, q3, q4, q5, q6, y0, y1, y2]; (first | refine hQ _ _ _ _ (by kernel_rfl) ?_ | refine hP _ _ (by kernel_rfl) (fun _ => ?_)); clear hQ hP Q)
        | refine GW_block ?_
        | refine GW_ret ?_
        | refine GW_skip ?_
        | refine GW_exit ?_
        | refine GW_goto ?_
        | refine GW_label ?_
        | simp only [blockG_exit]
        | (refine GW_cond (by simp; rfl) ?_ ?_ <;> (intro hb; first | (exfalso; exact absurd hb (by decide)) | skip)))
      refine ⟨.inr trivial, ?_⟩
      simp [Tryd.results31]
  by_cases q7 : m ≤ 1024
  rotate_left
  · rcases hor with y0 | ⟨y0, y1⟩ | ⟨y0, y1, y2⟩
    · skip
      repeat' (first
        | refine GW_seq ?_
        | refine GWL_start ?_
        | refine GWL_step ?_
        | simp only [List.length_cons, List.length_nil, Nat.reduceAdd, Nat.reduceMul, thenG_normal, thenG_ret, thenG_exit, thenG_goto, thenG_panic, blockG_normal, blockG_ret, blockG_goto, blockG_panic, jumpG_normal, jumpG_ret, jumpG_exit, jumpG_panic]
        | (refine GW_region' [] (by kernel_rfl) ?_; intro Q hQ hP; simp [hC, hY, vv, b0, b1, b2, b3, b4, b5, q0, q1, q2, q3, q4, q5, q6, q7, y0]; (first | refine hQ _ _ _ _ ?_ | refine hP _ _ (fun _ => ?_)); clear hQ hP Q)
        | (refine GW_draw' [] follows (by kernel_rfl) (by kernel_rfl) ?_; intro Q hQ hP; simp [hC, hY, vv, b0, b1, b2, b3, b4, b5, q0, q1, q2, q3, q4, q5, q6, q7, y0]; (first | refine hQ _ _ _ _ (by kernel_rfl) ?_ | refine hP _ _ (by kernel_rfl) (fun _ => ?_)); clear hQ hP Q)
        | refine GW_block ?_
        | refine GW_ret ?_
        | refine GW_skip ?_
        | refine GW_exit ?_
        | refine GW_goto ?_
        | refine GW_label ?_
        | simp only [blockG_exit]
        | (refine GW_cond (by simp; rfl) ?_ ?_ <;> (intro hb; first | (exfalso; exact absurd hb (by decide)) | skip)))
      refine ⟨.inr trivial, ?_⟩
      simp [Tryd.results31]
    · skip
      repeat' (first
        | refine GW_seq ?_
        | refine GWL_start ?_
        | refine GWL_step ?_
        | simp only [List.length_cons, List.length_nil, Nat.reduceAdd, Nat.reduceMul, thenG_normal, thenG_ret, thenG_exit, thenG_goto, thenG_panic, blockG_normal, blockG_ret, blockG_goto, blockG_panic, jumpG_normal, jumpG_ret, jumpG_exit, jumpG_panic]
        | (refine GW_region' [] (by kernel_rfl) ?_; intro Q hQ hP; simp [hC, hY, vv, b0, b1, b2, b3, b4, b5, q0, q1, q2, q3, q4, q5, q6, q7, y0, y1]; (first | refine hQ _ _ _ _ ?_ | refine hP _ _ (fun _ => ?_)); clear hQ hP Q)
        | (refine GW_draw' [] follows (by kernel_rfl) (by kernel_rfl) ?_; intro Q hQ hP; simp [hC, hY, vv, b0, b1, b2, b3, b4, b5, q0, q1, q2, q3, q4, q5, q6, q7, y0, y1]; (first | refine hQ _ _ _ _ (by kernel_rfl) ?_ | refine hP _ _ (by kernel_rfl) (fun _ => ?_)); clear hQ hP Q)
        | refine GW_block ?_
        | refine GW_ret ?_
        | refine GW_skip ?_
        | refine GW_exit ?_
        | refine GW_goto ?_
        | refine GW_label ?_
        | simp only [blockG_exit]
        | (refine GW_cond (by simp; rfl) ?_ ?_ <;> (intro hb; first | (exfalso; exact absurd hb (by decide)) | skip)))
      refine ⟨.inr trivial, ?_⟩
      simp [Tryd.results31]
    · skip
      repeat' (first
        | refine GW_seq ?_
        | refine GWL_start ?_
        | refine GWL_step ?_
        | simp only [List.length_cons, List.length_nil, Nat.reduceAdd, Nat.reduceMul, thenG_normal, thenG_ret, thenG_exit, thenG_goto, thenG_panic, blockG_normal, blockG_ret, blockG_goto, blockG_panic, jumpG_normal, jumpG_ret, jumpG_exit, jumpG_panic]
        | (refine GW_region' [] (by kernel_rfl) ?_; intro Q hQ hP; simp [hC, hY, vv, b0, b1, b2, b3, b4, b5, q0, q1, q2, q3, q4, q5, q6, q7, y0, y1, y2]; (first | refine hQ _ _ _ _ ?_ | refine hP _ _ (fun _ => ?_)); clear hQ hP Q)
        | (refine GW_draw' [] follows (by kernel_rfl) (by kernel_rfl) ?_; intro Q hQ hP; simp [hC, hY, vv, b0, b1, b2, b3, b4, b5, q0, q1, q2, q3, q4, q5, q6, q7, y0, y1, y2]; (first | refine hQ _ _ _ _ (by kernel_rfl) ?_ | refine hP _ _ (by kernel_rfl) (fun _ => ?_)); clear hQ hP Q)
        | refine GW_block ?_
        | refine GW_ret ?_
        | refine GW_skip ?_
        | refine GW_exit ?_
        | refine GW_goto ?_
        | refine GW_label ?_
        | simp only [blockG_exit]
        | (refine GW_cond (by simp; rfl) ?_ ?_ <;> (intro hb; first | (exfalso; exact absurd hb (by decide)) | skip)))
      refine ⟨.inr trivial, ?_⟩
      simp [Tryd.results31]
  exact absurd ⟨⟨a0, a1⟩, ⟨a2, a3⟩, ⟨a4, a5⟩, far, q0, q1, q2, q3, q4, q5, q6, q7⟩ h
@[simp] theorem mayT (n d g m x0 x1 x2 : Int) (h : MayP n d g m x0 x1 x2) (K : Value → Prop) : callK Tryd.prog G1 31 #[.int .i64 n, .int .i64 d, .int .i64 g, .int .i64 m, .agg #[.int .i64 x0, .int .i64 x1, .int .i64 x2]] K ↔ K (.bool true) := callK_iff G1W (by kernel_rfl) (may_t n d g m x0 x1 x2 h)
@[simp] theorem mayF (n d g m x0 x1 x2 : Int) (h : ¬ MayP n d g m x0 x1 x2) (K : Value → Prop) : callK Tryd.prog G1 31 #[.int .i64 n, .int .i64 d, .int .i64 g, .int .i64 m, .agg #[.int .i64 x0, .int .i64 x1, .int .i64 x2]] K ↔ K (.bool false) := callK_iff G1W (by kernel_rfl) (may_f n d g m x0 x1 x2 h)
end Go.Gy
