/-
  Laws of layer 12 (pull): PullTurns, PullBeyond.
  Conditions: none.
-/
import Derived.Test.YtggidgaeggekhaaDoorGyU9
namespace Go.Gy
set_option linter.unusedSimpArgs false
set_option linter.unusedVariables false
open Go Go.RowKit Go.Proofs
theorem sq_pos {x : Int} (h : x ≠ 0) : 1 ≤ x * x := by
  by_cases h0 : 0 ≤ x
  · exact Int.mul_pos (by omega) (by omega)
  · rw [← Int.neg_mul_neg]; exact Int.mul_pos (by omega) (by omega)
theorem MayP.pin {n d g m x0 x1 x2 : Int} (h : MayP n d g m x0 x1 x2) : PIn n d g m x0 (x0 * x0 + x1 * x1 + x2 * x2) ∧ PIn n d g m x1 (x0 * x0 + x1 * x1 + x2 * x2) ∧ PIn n d g m x2 (x0 * x0 + x1 * x1 + x2 * x2) := by
  have s0 := inB_sq h.i0
  have s1 := inB_sq h.i1
  have s2 := inB_sq h.i2
  have hr : 1 ≤ x0 * x0 + x1 * x1 + x2 * x2 := by
    by_cases z0 : x0 = 0
    · by_cases z1 : x1 = 0
      · have := sq_pos (x := x2) (fun z2 => h.far ⟨z0, z1, z2⟩); omega
      · have := sq_pos z1; omega
    · have := sq_pos z0; omega
  refine ⟨⟨h.n0, h.n1, h.d0, h.d1, h.g0, h.g1, h.m0, h.m1, h.i0.1, h.i0.2, hr, by omega, by omega⟩, ⟨h.n0, h.n1, h.d0, h.d1, h.g0, h.g1, h.m0, h.m1, h.i1.1, h.i1.2, hr, by omega, by omega⟩, ⟨h.n0, h.n1, h.d0, h.d1, h.g0, h.g1, h.m0, h.m1, h.i2.1, h.i2.2, hr, by omega, by omega⟩⟩
theorem MayP.at {n d g m x0 x1 x2 r p0 p1 p2 : Int} (h : MayP n d g m x0 x1 x2) (hr : x0 * x0 + x1 * x1 + x2 * x2 = r) (e0 : pullV n d g m x0 r = p0) (e1 : pullV n d g m x1 r = p1) (e2 : pullV n d g m x2 r = p2) (K : Value → Prop) :
    callK Tryd.prog G1 33 #[.int .i64 n, .int .i64 d, .int .i64 g, .int .i64 m, .agg #[.int .i64 x0, .int .i64 x1, .int .i64 x2]] K ↔ K (.tuple #[.agg #[.int .i64 p0, .int .i64 p1, .int .i64 p2], .int .i64 0]) := by
  have hp := h.pin
  rw [hr] at hp
  exact pull_at hr h.i0 h.i1 h.i2 hp.1 hp.2.1 hp.2.2 e0 e1 e2 K
theorem pmag_negx (n d g m x r : Int) : pmag n d g m (-x) r = pmag n d g m x r := by
  unfold pmag
  rw [Int.mul_neg, Int.neg_mul_neg]
theorem pmag_negn (n d g m x r : Int) : pmag (-n) d g m x r = pmag n d g m x r := by
  unfold pmag
  have e : 2 * -n * g * m * x = -(2 * n * g * m * x) := by simp only [Int.mul_neg, Int.neg_mul]
  rw [e, Int.neg_mul_neg]
theorem pmag_n0 (d g m x r : Int) : pmag 0 d g m x r = 0 := by
  unfold pmag
  simp only [Int.mul_zero, Int.zero_mul, Int.zero_ediv]
  rw [isq_unique (r := 0) (by decide) (by decide) (by decide)]
  decide
theorem pullV_negx (n d g m x r : Int) : pullV n d g m (-x) r = -pullV n d g m x r := by
  unfold pullV
  rw [pmag_negx]
  have h0 : x = 0 → pmag n d g m x r = 0 := fun h => by subst h; exact pmag_0 _ _ _ _ _
  generalize pmag n d g m x r = M at *
  (repeat' split) <;> omega
theorem pullV_negn (n d g m x r : Int) : pullV (-n) d g m x r = -pullV n d g m x r := by
  unfold pullV
  rw [pmag_negn]
  have h0 : n = 0 → pmag n d g m x r = 0 := fun h => by subst h; exact pmag_n0 _ _ _ _ _
  generalize pmag n d g m x r = M at *
  (repeat' split) <;> omega
theorem PIn.val {n d g m x r : Int} (h : PIn n d g m x r) : -4503599627370496 ≤ pullV n d g m x r ∧ pullV n d g m x r ≤ 4503599627370496 := by
  have := h.mag
  unfold pullV
  (repeat' split) <;> omega
theorem MayP.negx {n d g m x0 x1 x2 : Int} (h : MayP n d g m x0 x1 x2) : MayP n d g m (-x0) (-x1) (-x2) :=
  ⟨⟨by have := h.i0.2; omega, by have := h.i0.1; omega⟩, ⟨by have := h.i1.2; omega, by have := h.i1.1; omega⟩, ⟨by have := h.i2.2; omega, by have := h.i2.1; omega⟩, by have := h.far; omega, h.n0, h.n1, h.d0, h.d1, h.g0, h.g1, h.m0, h.m1⟩
theorem MayP.negn {n d g m x0 x1 x2 : Int} (h : MayP n d g m x0 x1 x2) : MayP (-n) d g m x0 x1 x2 :=
  ⟨h.i0, h.i1, h.i2, h.far, by have := h.n1; omega, by have := h.n0; omega, h.d0, h.d1, h.g0, h.g1, h.m0, h.m1⟩
theorem MayP.rot {n d g m x0 x1 x2 : Int} (h : MayP n d g m x0 x1 x2) : MayP n d g m x1 x2 x0 := ⟨h.i1, h.i2, h.i0, by have := h.far; omega, h.n0, h.n1, h.d0, h.d1, h.g0, h.g1, h.m0, h.m1⟩
theorem MayP.swp {n d g m x0 x1 x2 : Int} (h : MayP n d g m x0 x1 x2) : MayP n d g m x1 x0 (-x2) := ⟨h.i1, h.i0, ⟨by have := h.i2.2; omega, by have := h.i2.1; omega⟩, by have := h.far; omega, h.n0, h.n1, h.d0, h.d1, h.g0, h.g1, h.m0, h.m1⟩
set_option maxHeartbeats 4000000 in
set_option maxRecDepth 100000 in
theorem PullTurns_ret (n d g m x0 x1 x2 : Int) (hn : i64 n) (hd : i64 d) (hg : i64 g) (hm : i64 m) (hx0 : i64 x0) (hx1 : i64 x1) (hx2 : i64 x2) : Ret Tryd.prog G1 8 #[.int .i64 n, .int .i64 d, .int .i64 g, .int .i64 m, vv x0 x1 x2] (.bool true) := by
  refine ret_of G1F Tryd.func8 rfl Tryd.call8 rfl (by simp [vv]) (by simp [Tryd.ntmps8]) ?_
  intro C hC hC0 hY
  by_cases h : MayP n d g m x0 x1 x2
  rotate_left
  · skip
    repeat' (first
      | refine GW_seq ?_
      | simp only [List.length_cons, List.length_nil, Nat.reduceAdd, Nat.reduceMul, thenG_normal, thenG_ret, thenG_exit, thenG_goto, thenG_panic, blockG_normal, blockG_ret, blockG_goto, blockG_panic, jumpG_normal, jumpG_ret, jumpG_exit, jumpG_panic]
      | (refine GW_region' [] (by kernel_rfl) ?_; intro Q hQ hP; simp [hC, hY, vv, h]; (first | refine hQ _ _ _ _ ?_ | refine hP _ _ (fun _ => ?_)); clear hQ hP Q)
      | (refine GW_draw' [] follows (by kernel_rfl) (by kernel_rfl) ?_; intro Q hQ hP; simp [hC, hY, vv, h]; (first | refine hQ _ _ _ _ (by kernel_rfl) ?_ | refine hP _ _ (by kernel_rfl) (fun _ => ?_)); clear hQ hP Q)
      | refine GW_block ?_
      | refine GW_ret ?_
      | refine GW_skip ?_
      | refine GW_exit ?_
      | refine GW_goto ?_
      | refine GW_label ?_
      | simp only [blockG_exit]
      | (refine GW_cond (by simp; rfl) ?_ ?_ <;> (intro hb; first | (exfalso; exact absurd hb (by decide)) | skip)))
    refine ⟨.inr trivial, ?_⟩
    simp [Tryd.results8]
  have hp := h.pin
  obtain ⟨r, hr⟩ : ∃ r, x0 * x0 + x1 * x1 + x2 * x2 = r := ⟨_, rfl⟩
  rw [hr] at hp
  obtain ⟨p0, e0⟩ : ∃ p, pullV n d g m x0 r = p := ⟨_, rfl⟩
  obtain ⟨p1, e1⟩ : ∃ p, pullV n d g m x1 r = p := ⟨_, rfl⟩
  obtain ⟨p2, e2⟩ : ∃ p, pullV n d g m x2 r = p := ⟨_, rfl⟩
  have v0 := hp.1.val
  have v1 := hp.2.1.val
  have v2 := hp.2.2.val
  rw [e0] at v0
  rw [e1] at v1
  rw [e2] at v2
  have w1 := h.at hr e0 e1 e2
  have w2 := h.negx.at (r := r) (by rw [Int.neg_mul_neg, Int.neg_mul_neg, Int.neg_mul_neg]; exact hr) (by rw [pullV_negx, e0]) (by rw [pullV_negx, e1]) (by rw [pullV_negx, e2])
  have w3 := h.negn.at (r := r) hr (by rw [pullV_negn, e0]) (by rw [pullV_negn, e1]) (by rw [pullV_negn, e2])
  have w4 := h.rot.at (r := r) (by omega) e1 e2 e0
  have w5 := h.swp.at (r := r) (by rw [Int.neg_mul_neg]; omega) e1 e0 (by rw [pullV_negx, e2])
  have c0 : Int.bmod (-x0) 18446744073709551616 = -x0 := bm (by have := h.i0.2; omega) (by have := h.i0.1; omega)
  have c1 : Int.bmod (-x1) 18446744073709551616 = -x1 := bm (by have := h.i1.2; omega) (by have := h.i1.1; omega)
  have c2 : Int.bmod (-x2) 18446744073709551616 = -x2 := bm (by have := h.i2.2; omega) (by have := h.i2.1; omega)
  have c3 : Int.bmod (-n) 18446744073709551616 = -n := bm (by have := h.n1; omega) (by have := h.n0; omega)
  have c4 : Int.bmod (-p0) 18446744073709551616 = -p0 := bm (by omega) (by omega)
  have c5 : Int.bmod (-p1) 18446744073709551616 = -p1 := bm (by omega) (by omega)
  have c6 : Int.bmod (-p2) 18446744073709551616 = -p2 := bm (by omega) (by omega)
  repeat' (first
    | refine GW_seq ?_
    | simp only [List.length_cons, List.length_nil, Nat.reduceAdd, Nat.reduceMul, thenG_normal, thenG_ret, thenG_exit, thenG_goto, thenG_panic, blockG_normal, blockG_ret, blockG_goto, blockG_panic, jumpG_normal, jumpG_ret, jumpG_exit, jumpG_panic]
    | (refine GW_region' [] (by kernel_rfl) ?_; intro Q hQ hP; simp [hC, hY, vv, h, w1, w2, w3, w4, w5, c0, c1, c2, c3, c4, c5, c6]; (first | refine hQ _ _ _ _ ?_ | refine hP _ _ (fun _ => ?_)); clear hQ hP Q)
    | (refine GW_draw' [] follows (by kernel_rfl) (by kernel_rfl) ?_; intro Q hQ hP; simp [hC, hY, vv, h, w1, w2, w3, w4, w5, c0, c1, c2, c3, c4, c5, c6]; (first | refine hQ _ _ _ _ (by kernel_rfl) ?_ | refine hP _ _ (by kernel_rfl) (fun _ => ?_)); clear hQ hP Q)
    | refine GW_block ?_
    | refine GW_ret ?_
    | refine GW_skip ?_
    | refine GW_exit ?_
    | refine GW_goto ?_
    | refine GW_label ?_
    | simp only [blockG_exit]
    | (refine GW_cond (by simp; rfl) ?_ ?_ <;> (intro hb; first | (exfalso; exact absurd hb (by decide)) | skip)))
  refine ⟨.inr trivial, ?_⟩
  simp [Tryd.results8]
/-! who is too far -/
theorem sq_lt_zero {q : Int} (h0 : 0 ≤ q) : (isq q + 1) / 2 = 0 ↔ q = 0 := by
  obtain ⟨h1, h2, h3⟩ := isq_spec q h0
  constructor
  · intro h
    have h4 : isq q = 0 := by omega
    rw [h4] at h3
    omega
  · intro h
    subst h
    rw [isq_unique (r := 0) (by decide) (by decide) (by decide)]
    decide
theorem PIn.zero {n d g m x r : Int} (h : PIn n d g m x r) : pullV n d g m x r = 0 ↔ 2 * n * g * m * x * (2 * n * g * m * x) < d * d * r * r * r := by
  have hB : 0 < d * d * r * r * r := by have := h.q4.1; have := h.r0; omega
  have hA := sq_nonneg (2 * n * g * m * x)
  have e1 : pullV n d g m x r = 0 ↔ pmag n d g m x r = 0 := by
    have := h.mag
    unfold pullV
    (repeat' split) <;> omega
  rw [e1]
  unfold pmag
  rw [sq_lt_zero (Int.ediv_nonneg hA (by omega))]
  generalize 2 * n * g * m * x * (2 * n * g * m * x) = A at *
  generalize d * d * r * r * r = B at *
  constructor
  · intro h
    have e2 := Int.emod_lt_of_pos A hB
    have e3 := Int.mul_ediv_add_emod A B
    rw [h] at e3
    omega
  · intro h; exact Int.ediv_eq_zero_of_lt hA h
theorem PIn.beyond {n d g m x r : Int} (h : PIn n d g m x r) (hb : 2 * n * g * m * (2 * n * g * m) < d * r * (d * r)) : pullV n d g m x r = 0 := by
  rw [h.zero]
  have e1 : 2 * n * g * m * x * (2 * n * g * m * x) = 2 * n * g * m * (2 * n * g * m) * (x * x) := by
    rw [Int.mul_assoc (2 * n * g * m) x, Int.mul_left_comm x, ← Int.mul_assoc]
  have e2 : d * d * r * r * r = d * r * (d * r) * r := by
    congr 1
    rw [Int.mul_assoc d r, Int.mul_left_comm r, ← Int.mul_assoc, ← Int.mul_assoc]
  rw [e1, e2]
  have hr := h.r0
  have h1 : 2 * n * g * m * (2 * n * g * m) * (x * x) ≤ 2 * n * g * m * (2 * n * g * m) * r := Int.mul_le_mul_of_nonneg_left h.xr (sq_nonneg _)
  exact Int.lt_of_le_of_lt h1 (Int.mul_lt_mul_of_pos_right hb (by omega))
theorem PIn.alone {n d g m x : Int} (h : PIn n d g m x (x * x)) (hx : x ≠ 0) : pullV n d g m x (x * x) = 0 ↔ 2 * n * g * m * (2 * n * g * m) < d * (x * x) * (d * (x * x)) := by
  rw [h.zero]
  have e1 : 2 * n * g * m * x * (2 * n * g * m * x) = 2 * n * g * m * (2 * n * g * m) * (x * x) := by
    rw [Int.mul_assoc (2 * n * g * m) x, Int.mul_left_comm x, ← Int.mul_assoc]
  have e2 : ∀ y : Int, d * d * y * y * y = d * y * (d * y) * y := fun y => by
    congr 1
    rw [Int.mul_assoc d y, Int.mul_left_comm y, ← Int.mul_assoc, ← Int.mul_assoc]
  rw [e1, e2 (x * x)]
  have hp : 0 < x * x := by have := sq_pos hx; omega
  constructor
  · intro h1; exact Int.lt_of_mul_lt_mul_right h1 (by omega)
  · intro h1; exact Int.mul_lt_mul_of_pos_right h1 hp
end Go.Gy
