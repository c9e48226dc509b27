/-
  Laws of layer 4 (root): RootFraction.
  Conditions: none.
-/
import Derived.Test.YtggidgaeggekhaaDoorGyW1
namespace Go.Gy
set_option linter.unusedSimpArgs false
set_option linter.unusedVariables false
open Go Go.RowKit Go.Proofs
theorem sg_np {a : Int} (ha : wr a) (h : a ≤ 0) : cmpI (sz a) 0 ≤ 0 := by rw [wr_sz ha]; unfold cmpI; split <;> (try split) <;> omega
theorem sg_pp {a : Int} (ha : wr a) (h : 0 < a) : ¬ cmpI (sz a) 0 ≤ 0 := by rw [wr_sz ha]; unfold cmpI; split <;> (try split) <;> omega
theorem frac_up {a b : Int} (ha : 0 ≤ a) (hb : 0 < b) : isq (a / b) * isq (a / b) * b ≤ a ∧ a < (isq (a / b) + 1) * (isq (a / b) + 1) * b := by
  have hq : 0 ≤ a / b := Int.ediv_nonneg ha (by omega)
  obtain ⟨r0, r1, r2⟩ := isq_spec (a / b) hq
  have h1 := Int.emod_add_mul_ediv a b
  have h2 := Int.emod_nonneg a (b := b) (by omega)
  have h3 := Int.emod_lt_of_pos a hb
  generalize isq (a / b) = r at *
  generalize a / b = q at *
  constructor
  · have : r * r * b ≤ q * b := Int.mul_le_mul_of_nonneg_right r1 (by omega)
    rw [Int.mul_comm q b] at this
    omega
  · have h4 : (q + 1) * b ≤ (r + 1) * (r + 1) * b := Int.mul_le_mul_of_nonneg_right (by omega) (by omega)
    rw [Int.add_mul, Int.mul_comm q b] at h4
    omega
/-- A product that is not over is one. -/
theorem mul_wr {x y : Int} (h : mulO x y = false) : sz x * sz y = sz (sz x * sz y) := by
  unfold mulO at h
  simp only [decide_eq_false_iff_not, Classical.not_not] at h
  exact (wr_sz h).symm
theorem mulO_f {x y : Int} (hx : wr x) (hy : wr y) (h : wr (x * y)) : mulO x y = false := by
  unfold mulO
  rw [wr_sz hx, wr_sz hy]
  simp only [decide_eq_false_iff_not, Classical.not_not]
  exact h
theorem small_a {a : Int} (ha : wr a) (h0 : 0 ≤ a) (h : wi a 3 < 288230376151711744) : a < 1809251394333065553493296640760748560207343510400633813116524750123642650624 := by
  have h1 := ha.2
  unfold wi at h
  omega
theorem small_b {b : Int} (hb : wr b) (h0 : 0 < b) (h1 : wi b 1 < 1152921504606846976) (h2 : wi b 2 = 0) (h3 : wi b 3 = 0) : b < 21267647932558653966460912964485513216 := by
  have h4 := hb.2
  unfold wi at h1 h2 h3
  omega
set_option maxHeartbeats 2000000 in
theorem RootFraction_ret (a b : Int) (ha : wr a) (hB : wr b) : Ret Tryd.prog G0 5 #[wd a, wd b] (.bool true) := by
  refine ret_of G0F Tryd.func5 rfl Tryd.call5 rfl (by simp) (by simp [Tryd.ntmps5]) ?_
  intro C hC hC0 hY
  by_cases ha0 : a < 0
  · have s1 := sg_n ha ha0
    repeat' (first
      | refine GW_seq ?_
      | simp only [List.length_cons, List.length_nil, Nat.reduceAdd, Nat.reduceMul, thenG_normal, thenG_ret, thenG_exit, thenG_goto, thenG_panic, blockG_normal, blockG_ret, blockG_goto, blockG_panic, jumpG_normal, jumpG_ret, jumpG_exit, jumpG_panic]
      | (refine GW_region' [] (by kernel_rfl) ?_; intro Q hQ hP; simp [hC, hY, s1]; (first | refine hQ _ _ _ _ ?_ | refine hP _ _ (fun _ => ?_)); clear hQ hP Q)
      | (refine GW_draw' [] follows (by kernel_rfl) (by kernel_rfl) ?_; intro Q hQ hP; simp [hC, hY, s1]; (first | refine hQ _ _ _ _ (by kernel_rfl) ?_ | refine hP _ _ (by kernel_rfl) (fun _ => ?_)); clear hQ hP Q)
      | refine GW_block ?_
      | refine GW_ret ?_
      | refine GW_skip ?_
      | refine GW_exit ?_
      | refine GW_goto ?_
      | refine GW_label ?_
      | simp only [blockG_exit]
      | (refine GW_cond (by simp; rfl) ?_ ?_ <;> (intro hb; first | (exfalso; exact absurd hb (by decide)) | skip)))
    refine ⟨.inr trivial, ?_⟩
    simp [Tryd.results5]
  have s1 := sg_p ha (by omega)
  by_cases hb0 : b ≤ 0
  · have s2 := sg_np hB hb0
    repeat' (first
      | refine GW_seq ?_
      | simp only [List.length_cons, List.length_nil, Nat.reduceAdd, Nat.reduceMul, thenG_normal, thenG_ret, thenG_exit, thenG_goto, thenG_panic, blockG_normal, blockG_ret, blockG_goto, blockG_panic, jumpG_normal, jumpG_ret, jumpG_exit, jumpG_panic]
      | (refine GW_region' [] (by kernel_rfl) ?_; intro Q hQ hP; simp [hC, hY, s1, s2]; (first | refine hQ _ _ _ _ ?_ | refine hP _ _ (fun _ => ?_)); clear hQ hP Q)
      | (refine GW_draw' [] follows (by kernel_rfl) (by kernel_rfl) ?_; intro Q hQ hP; simp [hC, hY, s1, s2]; (first | refine hQ _ _ _ _ (by kernel_rfl) ?_ | refine hP _ _ (by kernel_rfl) (fun _ => ?_)); clear hQ hP Q)
      | refine GW_block ?_
      | refine GW_ret ?_
      | refine GW_skip ?_
      | refine GW_exit ?_
      | refine GW_goto ?_
      | refine GW_label ?_
      | simp only [blockG_exit]
      | (refine GW_cond (by simp; rfl) ?_ ?_ <;> (intro hb; first | (exfalso; exact absurd hb (by decide)) | skip)))
    refine ⟨.inr trivial, ?_⟩
    simp [Tryd.results5]
  have s2 := sg_pp hB (by omega)
  by_cases g1 : 288230376151711744 ≤ wi a 3
  ·
    repeat' (first
      | refine GW_seq ?_
      | simp only [List.length_cons, List.length_nil, Nat.reduceAdd, Nat.reduceMul, thenG_normal, thenG_ret, thenG_exit, thenG_goto, thenG_panic, blockG_normal, blockG_ret, blockG_goto, blockG_panic, jumpG_normal, jumpG_ret, jumpG_exit, jumpG_panic]
      | (refine GW_region' [] (by kernel_rfl) ?_; intro Q hQ hP; simp [hC, hY, s1, s2, g1]; (first | refine hQ _ _ _ _ ?_ | refine hP _ _ (fun _ => ?_)); clear hQ hP Q)
      | (refine GW_draw' [] follows (by kernel_rfl) (by kernel_rfl) ?_; intro Q hQ hP; simp [hC, hY, s1, s2, g1]; (first | refine hQ _ _ _ _ (by kernel_rfl) ?_ | refine hP _ _ (by kernel_rfl) (fun _ => ?_)); clear hQ hP Q)
      | refine GW_block ?_
      | refine GW_ret ?_
      | refine GW_skip ?_
      | refine GW_exit ?_
      | refine GW_goto ?_
      | refine GW_label ?_
      | simp only [blockG_exit]
      | (refine GW_cond (by simp; rfl) ?_ ?_ <;> (intro hb; first | (exfalso; exact absurd hb (by decide)) | skip)))
    refine ⟨.inr trivial, ?_⟩
    simp [Tryd.results5]
  by_cases g2 : 1152921504606846976 ≤ wi b 1
  ·
    repeat' (first
      | refine GW_seq ?_
      | simp only [List.length_cons, List.length_nil, Nat.reduceAdd, Nat.reduceMul, thenG_normal, thenG_ret, thenG_exit, thenG_goto, thenG_panic, blockG_normal, blockG_ret, blockG_goto, blockG_panic, jumpG_normal, jumpG_ret, jumpG_exit, jumpG_panic]
      | (refine GW_region' [] (by kernel_rfl) ?_; intro Q hQ hP; simp [hC, hY, s1, s2, g1, g2]; (first | refine hQ _ _ _ _ ?_ | refine hP _ _ (fun _ => ?_)); clear hQ hP Q)
      | (refine GW_draw' [] follows (by kernel_rfl) (by kernel_rfl) ?_; intro Q hQ hP; simp [hC, hY, s1, s2, g1, g2]; (first | refine hQ _ _ _ _ (by kernel_rfl) ?_ | refine hP _ _ (by kernel_rfl) (fun _ => ?_)); clear hQ hP Q)
      | refine GW_block ?_
      | refine GW_ret ?_
      | refine GW_skip ?_
      | refine GW_exit ?_
      | refine GW_goto ?_
      | refine GW_label ?_
      | simp only [blockG_exit]
      | (refine GW_cond (by simp; rfl) ?_ ?_ <;> (intro hb; first | (exfalso; exact absurd hb (by decide)) | skip)))
    refine ⟨.inr trivial, ?_⟩
    simp [Tryd.results5]
  by_cases g3 : wi b 2 = 0
  rotate_left
  · have g3' : (wi b 2 != 0) = true := by simp [g3]
    repeat' (first
      | refine GW_seq ?_
      | simp only [List.length_cons, List.length_nil, Nat.reduceAdd, Nat.reduceMul, thenG_normal, thenG_ret, thenG_exit, thenG_goto, thenG_panic, blockG_normal, blockG_ret, blockG_goto, blockG_panic, jumpG_normal, jumpG_ret, jumpG_exit, jumpG_panic]
      | (refine GW_region' [] (by kernel_rfl) ?_; intro Q hQ hP; simp [hC, hY, s1, s2, g1, g2, g3']; (first | refine hQ _ _ _ _ ?_ | refine hP _ _ (fun _ => ?_)); clear hQ hP Q)
      | (refine GW_draw' [] follows (by kernel_rfl) (by kernel_rfl) ?_; intro Q hQ hP; simp [hC, hY, s1, s2, g1, g2, g3']; (first | refine hQ _ _ _ _ (by kernel_rfl) ?_ | refine hP _ _ (by kernel_rfl) (fun _ => ?_)); clear hQ hP Q)
      | refine GW_block ?_
      | refine GW_ret ?_
      | refine GW_skip ?_
      | refine GW_exit ?_
      | refine GW_goto ?_
      | refine GW_label ?_
      | simp only [blockG_exit]
      | (refine GW_cond (by simp; rfl) ?_ ?_ <;> (intro hb; first | (exfalso; exact absurd hb (by decide)) | skip)))
    refine ⟨.inr trivial, ?_⟩
    simp [Tryd.results5]
  by_cases g4 : wi b 3 = 0
  rotate_left
  · have g4' : (wi b 3 != 0) = true := by simp [g4]
    have g3b : (wi b 2 != 0) = false := by simp [g3]
    repeat' (first
      | refine GW_seq ?_
      | simp only [List.length_cons, List.length_nil, Nat.reduceAdd, Nat.reduceMul, thenG_normal, thenG_ret, thenG_exit, thenG_goto, thenG_panic, blockG_normal, blockG_ret, blockG_goto, blockG_panic, jumpG_normal, jumpG_ret, jumpG_exit, jumpG_panic]
      | (refine GW_region' [] (by kernel_rfl) ?_; intro Q hQ hP; simp [hC, hY, s1, s2, g1, g2, g3b, g4']; (first | refine hQ _ _ _ _ ?_ | refine hP _ _ (fun _ => ?_)); clear hQ hP Q)
      | (refine GW_draw' [] follows (by kernel_rfl) (by kernel_rfl) ?_; intro Q hQ hP; simp [hC, hY, s1, s2, g1, g2, g3b, g4']; (first | refine hQ _ _ _ _ (by kernel_rfl) ?_ | refine hP _ _ (by kernel_rfl) (fun _ => ?_)); clear hQ hP Q)
      | refine GW_block ?_
      | refine GW_ret ?_
      | refine GW_skip ?_
      | refine GW_exit ?_
      | refine GW_goto ?_
      | refine GW_label ?_
      | simp only [blockG_exit]
      | (refine GW_cond (by simp; rfl) ?_ ?_ <;> (intro hb; first | (exfalso; exact absurd hb (by decide)) | skip)))
    refine ⟨.inr trivial, ?_⟩
    simp [Tryd.results5]
  have g3b : (wi b 2 != 0) = false := by simp [g3]
  have g4b : (wi b 3 != 0) = false := by simp [g4]
  have ha1 : 0 ≤ a := by omega
  have hb1 : 0 < b := by omega
  have la := small_a ha ha1 (by omega)
  have lb := small_b hB hb1 (by omega) g3 g4
  obtain ⟨f1, f2⟩ := frac_up ha1 hb1
  obtain ⟨d1, d2⟩ := div_wr ha ha1 hb1
  obtain ⟨r0, r1, r2⟩ := isq_spec (a / b) d2
  have hq : a / b ≤ a := Int.ediv_le_self b ha1
  generalize hr : isq (a / b) = r at *
  have lr : r < 42535295865117307932921825928971026432 := sq_bd _ r0 (by decide) (by omega)
  have sza := wr_sz ha
  have szb := wr_sz hB
  rw [sza] at s1
  rw [szb] at s2
  have wR : wr r := ⟨Int.le_trans (by decide) r0, Int.lt_trans lr (by decide)⟩
  have wN : wr (r + 1) := ⟨Int.le_trans (by decide) (by omega : 0 ≤ r + 1), Int.lt_trans (by omega : r + 1 < 42535295865117307932921825928971026433) (by decide)⟩
  have rr0 : 0 ≤ r * r := Int.mul_nonneg r0 r0
  have wRR : wr (r * r) := ⟨Int.le_trans (by decide) rr0, Int.lt_of_le_of_lt (Int.le_trans r1 hq) ha.2⟩
  have wL : wr (r * r * b) := ⟨Int.le_trans (by decide) (Int.mul_nonneg rr0 (Int.le_of_lt hb1)), Int.lt_of_le_of_lt f1 ha.2⟩
  have nn : (r + 1) * (r + 1) ≤ 42535295865117307932921825928971026432 * 42535295865117307932921825928971026432 := Int.mul_le_mul (by omega) (by omega) (by omega) (by decide)
  have wNN : wr ((r + 1) * (r + 1)) := ⟨Int.le_trans (by decide) (Int.mul_nonneg (by omega) (by omega)), Int.lt_of_le_of_lt nn (by decide)⟩
  have z1 := wr_sz wR
  have z2 := wr_sz wN
  have z3 := wr_sz wRR
  have z4 := wr_sz wL
  have z5 := wr_sz wNN
  have m1 := mulO_f wR wR wRR
  have m2 := mulO_f wRR hB wL
  have m3 := mulO_f wN wN wNN
  have c1 : ¬ cmpI r 0 < 0 := by unfold cmpI; split <;> (try split) <;> omega
  have c2 : ¬ 0 < cmpI (r * r * b) a := by unfold cmpI; split <;> (try split) <;> omega
  have i1 := i64_1
  cases m4 : mulO ((r + 1) * (r + 1)) b
  · have z6 := mul_wr m4
    rw [z5, szb] at z6
    have c3 : 0 < cmpI ((r + 1) * (r + 1) * b) a := by unfold cmpI; split <;> (try split) <;> omega
    repeat' (first
      | refine GW_seq ?_
      | simp only [List.length_cons, List.length_nil, Nat.reduceAdd, Nat.reduceMul, thenG_normal, thenG_ret, thenG_exit, thenG_goto, thenG_panic, blockG_normal, blockG_ret, blockG_goto, blockG_panic, jumpG_normal, jumpG_ret, jumpG_exit, jumpG_panic]
      | (refine GW_region' [] (by kernel_rfl) ?_; intro Q hQ hP; simp [hC, hY, s1, s2, g1, g2, g3b, g4b, ha, hB, ha1, hb1, hr, sza, szb, z1, z2, z3, z4, z5, ← z6, m1, m2, m3, m4, c1, c2, c3, i1]; (first | refine hQ _ _ _ _ ?_ | refine hP _ _ (fun _ => ?_)); clear hQ hP Q)
      | (refine GW_draw' [] follows (by kernel_rfl) (by kernel_rfl) ?_; intro Q hQ hP; simp [hC, hY, s1, s2, g1, g2, g3b, g4b, ha, hB, ha1, hb1, hr, sza, szb, z1, z2, z3, z4, z5, ← z6, m1, m2, m3, m4, c1, c2, c3, i1]; (first | refine hQ _ _ _ _ (by kernel_rfl) ?_ | refine hP _ _ (by kernel_rfl) (fun _ => ?_)); clear hQ hP Q)
      | refine GW_block ?_
      | refine GW_ret ?_
      | refine GW_skip ?_
      | refine GW_exit ?_
      | refine GW_goto ?_
      | refine GW_label ?_
      | simp only [blockG_exit]
      | (refine GW_cond (by simp; rfl) ?_ ?_ <;> (intro hb; first | (exfalso; exact absurd hb (by decide)) | skip)))
    refine ⟨.inr trivial, ?_⟩
    simp [Tryd.results5]
  ·
    repeat' (first
      | refine GW_seq ?_
      | simp only [List.length_cons, List.length_nil, Nat.reduceAdd, Nat.reduceMul, thenG_normal, thenG_ret, thenG_exit, thenG_goto, thenG_panic, blockG_normal, blockG_ret, blockG_goto, blockG_panic, jumpG_normal, jumpG_ret, jumpG_exit, jumpG_panic]
      | (refine GW_region' [] (by kernel_rfl) ?_; intro Q hQ hP; simp [hC, hY, s1, s2, g1, g2, g3b, g4b, ha, hB, ha1, hb1, hr, sza, szb, z1, z2, z3, z4, z5, m1, m2, m3, m4, c1, c2, i1]; (first | refine hQ _ _ _ _ ?_ | refine hP _ _ (fun _ => ?_)); clear hQ hP Q)
      | (refine GW_draw' [] follows (by kernel_rfl) (by kernel_rfl) ?_; intro Q hQ hP; simp [hC, hY, s1, s2, g1, g2, g3b, g4b, ha, hB, ha1, hb1, hr, sza, szb, z1, z2, z3, z4, z5, m1, m2, m3, m4, c1, c2, i1]; (first | refine hQ _ _ _ _ (by kernel_rfl) ?_ | refine hP _ _ (by kernel_rfl) (fun _ => ?_)); clear hQ hP Q)
      | refine GW_block ?_
      | refine GW_ret ?_
      | refine GW_skip ?_
      | refine GW_exit ?_
      | refine GW_goto ?_
      | refine GW_label ?_
      | simp only [blockG_exit]
      | (refine GW_cond (by simp; rfl) ?_ ?_ <;> (intro hb; first | (exfalso; exact absurd hb (by decide)) | skip)))
    refine ⟨.inr trivial, ?_⟩
    simp [Tryd.results5]
set_option maxHeartbeats 2000000 in
theorem RootHalf_ret (a b : Int) (ha : wr a) (hB : wr b) : Ret Tryd.prog G0 6 #[wd a, wd b] (.bool true) := by
  refine ret_of G0F Tryd.func6 rfl Tryd.call6 rfl (by simp) (by simp [Tryd.ntmps6]) ?_
  intro C hC hC0 hY
  by_cases ha0 : a < 0
  · have s1 := sg_n ha ha0
    repeat' (first
      | refine GW_seq ?_
      | simp only [List.length_cons, List.length_nil, Nat.reduceAdd, Nat.reduceMul, thenG_normal, thenG_ret, thenG_exit, thenG_goto, thenG_panic, blockG_normal, blockG_ret, blockG_goto, blockG_panic, jumpG_normal, jumpG_ret, jumpG_exit, jumpG_panic]
      | (refine GW_region' [] (by kernel_rfl) ?_; intro Q hQ hP; simp [hC, hY, s1]; (first | refine hQ _ _ _ _ ?_ | refine hP _ _ (fun _ => ?_)); clear hQ hP Q)
      | (refine GW_draw' [] follows (by kernel_rfl) (by kernel_rfl) ?_; intro Q hQ hP; simp [hC, hY, s1]; (first | refine hQ _ _ _ _ (by kernel_rfl) ?_ | refine hP _ _ (by kernel_rfl) (fun _ => ?_)); clear hQ hP Q)
      | refine GW_block ?_
      | refine GW_ret ?_
      | refine GW_skip ?_
      | refine GW_exit ?_
      | refine GW_goto ?_
      | refine GW_label ?_
      | simp only [blockG_exit]
      | (refine GW_cond (by simp; rfl) ?_ ?_ <;> (intro hb; first | (exfalso; exact absurd hb (by decide)) | skip)))
    refine ⟨.inr trivial, ?_⟩
    simp [Tryd.results6]
  have s1 := sg_p ha (by omega)
  by_cases hb0 : b ≤ 0
  · have s2 := sg_np hB hb0
    repeat' (first
      | refine GW_seq ?_
      | simp only [List.length_cons, List.length_nil, Nat.reduceAdd, Nat.reduceMul, thenG_normal, thenG_ret, thenG_exit, thenG_goto, thenG_panic, blockG_normal, blockG_ret, blockG_goto, blockG_panic, jumpG_normal, jumpG_ret, jumpG_exit, jumpG_panic]
      | (refine GW_region' [] (by kernel_rfl) ?_; intro Q hQ hP; simp [hC, hY, s1, s2]; (first | refine hQ _ _ _ _ ?_ | refine hP _ _ (fun _ => ?_)); clear hQ hP Q)
      | (refine GW_draw' [] follows (by kernel_rfl) (by kernel_rfl) ?_; intro Q hQ hP; simp [hC, hY, s1, s2]; (first | refine hQ _ _ _ _ (by kernel_rfl) ?_ | refine hP _ _ (by kernel_rfl) (fun _ => ?_)); clear hQ hP Q)
      | refine GW_block ?_
      | refine GW_ret ?_
      | refine GW_skip ?_
      | refine GW_exit ?_
      | refine GW_goto ?_
      | refine GW_label ?_
      | simp only [blockG_exit]
      | (refine GW_cond (by simp; rfl) ?_ ?_ <;> (intro hb; first | (exfalso; exact absurd hb (by decide)) | skip)))
    refine ⟨.inr trivial, ?_⟩
    simp [Tryd.results6]
  have s2 := sg_pp hB (by omega)
  by_cases g1 : 288230376151711744 ≤ wi a 3
  ·
    repeat' (first
      | refine GW_seq ?_
      | simp only [List.length_cons, List.length_nil, Nat.reduceAdd, Nat.reduceMul, thenG_normal, thenG_ret, thenG_exit, thenG_goto, thenG_panic, blockG_normal, blockG_ret, blockG_goto, blockG_panic, jumpG_normal, jumpG_ret, jumpG_exit, jumpG_panic]
      | (refine GW_region' [] (by kernel_rfl) ?_; intro Q hQ hP; simp [hC, hY, s1, s2, g1]; (first | refine hQ _ _ _ _ ?_ | refine hP _ _ (fun _ => ?_)); clear hQ hP Q)
      | (refine GW_draw' [] follows (by kernel_rfl) (by kernel_rfl) ?_; intro Q hQ hP; simp [hC, hY, s1, s2, g1]; (first | refine hQ _ _ _ _ (by kernel_rfl) ?_ | refine hP _ _ (by kernel_rfl) (fun _ => ?_)); clear hQ hP Q)
      | refine GW_block ?_
      | refine GW_ret ?_
      | refine GW_skip ?_
      | refine GW_exit ?_
      | refine GW_goto ?_
      | refine GW_label ?_
      | simp only [blockG_exit]
      | (refine GW_cond (by simp; rfl) ?_ ?_ <;> (intro hb; first | (exfalso; exact absurd hb (by decide)) | skip)))
    refine ⟨.inr trivial, ?_⟩
    simp [Tryd.results6]
  by_cases g2 : 1152921504606846976 ≤ wi b 1
  ·
    repeat' (first
      | refine GW_seq ?_
      | simp only [List.length_cons, List.length_nil, Nat.reduceAdd, Nat.reduceMul, thenG_normal, thenG_ret, thenG_exit, thenG_goto, thenG_panic, blockG_normal, blockG_ret, blockG_goto, blockG_panic, jumpG_normal, jumpG_ret, jumpG_exit, jumpG_panic]
      | (refine GW_region' [] (by kernel_rfl) ?_; intro Q hQ hP; simp [hC, hY, s1, s2, g1, g2]; (first | refine hQ _ _ _ _ ?_ | refine hP _ _ (fun _ => ?_)); clear hQ hP Q)
      | (refine GW_draw' [] follows (by kernel_rfl) (by kernel_rfl) ?_; intro Q hQ hP; simp [hC, hY, s1, s2, g1, g2]; (first | refine hQ _ _ _ _ (by kernel_rfl) ?_ | refine hP _ _ (by kernel_rfl) (fun _ => ?_)); clear hQ hP Q)
      | refine GW_block ?_
      | refine GW_ret ?_
      | refine GW_skip ?_
      | refine GW_exit ?_
      | refine GW_goto ?_
      | refine GW_label ?_
      | simp only [blockG_exit]
      | (refine GW_cond (by simp; rfl) ?_ ?_ <;> (intro hb; first | (exfalso; exact absurd hb (by decide)) | skip)))
    refine ⟨.inr trivial, ?_⟩
    simp [Tryd.results6]
  by_cases g3 : wi b 2 = 0
  rotate_left
  · have g3' : (wi b 2 != 0) = true := by simp [g3]
    repeat' (first
      | refine GW_seq ?_
      | simp only [List.length_cons, List.length_nil, Nat.reduceAdd, Nat.reduceMul, thenG_normal, thenG_ret, thenG_exit, thenG_goto, thenG_panic, blockG_normal, blockG_ret, blockG_goto, blockG_panic, jumpG_normal, jumpG_ret, jumpG_exit, jumpG_panic]
      | (refine GW_region' [] (by kernel_rfl) ?_; intro Q hQ hP; simp [hC, hY, s1, s2, g1, g2, g3']; (first | refine hQ _ _ _ _ ?_ | refine hP _ _ (fun _ => ?_)); clear hQ hP Q)
      | (refine GW_draw' [] follows (by kernel_rfl) (by kernel_rfl) ?_; intro Q hQ hP; simp [hC, hY, s1, s2, g1, g2, g3']; (first | refine hQ _ _ _ _ (by kernel_rfl) ?_ | refine hP _ _ (by kernel_rfl) (fun _ => ?_)); clear hQ hP Q)
      | refine GW_block ?_
      | refine GW_ret ?_
      | refine GW_skip ?_
      | refine GW_exit ?_
      | refine GW_goto ?_
      | refine GW_label ?_
      | simp only [blockG_exit]
      | (refine GW_cond (by simp; rfl) ?_ ?_ <;> (intro hb; first | (exfalso; exact absurd hb (by decide)) | skip)))
    refine ⟨.inr trivial, ?_⟩
    simp [Tryd.results6]
  by_cases g4 : wi b 3 = 0
  rotate_left
  · have g4' : (wi b 3 != 0) = true := by simp [g4]
    have g3b : (wi b 2 != 0) = false := by simp [g3]
    repeat' (first
      | refine GW_seq ?_
      | simp only [List.length_cons, List.length_nil, Nat.reduceAdd, Nat.reduceMul, thenG_normal, thenG_ret, thenG_exit, thenG_goto, thenG_panic, blockG_normal, blockG_ret, blockG_goto, blockG_panic, jumpG_normal, jumpG_ret, jumpG_exit, jumpG_panic]
      | (refine GW_region' [] (by kernel_rfl) ?_; intro Q hQ hP; simp [hC, hY, s1, s2, g1, g2, g3b, g4']; (first | refine hQ _ _ _ _ ?_ | refine hP _ _ (fun _ => ?_)); clear hQ hP Q)
      | (refine GW_draw' [] follows (by kernel_rfl) (by kernel_rfl) ?_; intro Q hQ hP; simp [hC, hY, s1, s2, g1, g2, g3b, g4']; (first | refine hQ _ _ _ _ (by kernel_rfl) ?_ | refine hP _ _ (by kernel_rfl) (fun _ => ?_)); clear hQ hP Q)
      | refine GW_block ?_
      | refine GW_ret ?_
      | refine GW_skip ?_
      | refine GW_exit ?_
      | refine GW_goto ?_
      | refine GW_label ?_
      | simp only [blockG_exit]
      | (refine GW_cond (by simp; rfl) ?_ ?_ <;> (intro hb; first | (exfalso; exact absurd hb (by decide)) | skip)))
    refine ⟨.inr trivial, ?_⟩
    simp [Tryd.results6]
  have g3b : (wi b 2 != 0) = false := by simp [g3]
  have g4b : (wi b 3 != 0) = false := by simp [g4]
  have ha1 : 0 ≤ a := by omega
  have hb1 : 0 < b := by omega
  have la := small_a ha ha1 (by omega)
  have lb := small_b hB hb1 (by omega) g3 g4
  obtain ⟨f1, f2⟩ := frac_up ha1 hb1
  obtain ⟨d1, d2⟩ := div_wr ha ha1 hb1
  obtain ⟨r0, r1, r2⟩ := isq_spec (a / b) d2
  have hq : a / b ≤ a := Int.ediv_le_self b ha1
  generalize hr : isq (a / b) = r at *
  have lr : r < 42535295865117307932921825928971026432 := sq_bd _ r0 (by decide) (by omega)
  have sza := wr_sz ha
  have szb := wr_sz hB
  rw [sza] at s1
  rw [szb] at s2
  generalize hh : (r + 1) / 2 = h at *
  have h0 : 0 ≤ h := by omega
  have wr_b : ∀ x : Int, 0 ≤ x → x < 42535295865117307932921825928971026437 → wr x := fun x h1 h2 => ⟨Int.le_trans (by decide) h1, Int.lt_trans h2 (by decide)⟩
  have wH := wr_b h h0 (by omega)
  have wT := wr_b (h + h) (by omega) (by omega)
  have wM := wr_b (h + h + 1) (by omega) (by omega)
  have hu : (r + 1) * (r + 1) * b ≤ (h + h + 1) * (h + h + 1) * b := Int.mul_le_mul_of_nonneg_right (Int.mul_le_mul (by omega) (by omega) (by omega) (by omega)) (Int.le_of_lt hb1)
  have nn : (h + h + 1) * (h + h + 1) ≤ 42535295865117307932921825928971026437 * 42535295865117307932921825928971026437 := Int.mul_le_mul (by omega) (by omega) (by omega) (by decide)
  have wMM : wr ((h + h + 1) * (h + h + 1)) := ⟨Int.le_trans (by decide) (Int.mul_nonneg (by omega) (by omega)), Int.lt_of_le_of_lt nn (by decide)⟩
  have z1 := wr_sz wH
  have z2 := wr_sz wM
  have z3 := wr_sz wMM
  have m3 := mulO_f wM wM wMM
  have c1 : ¬ cmpI h 0 < 0 := by unfold cmpI; split <;> (try split) <;> omega
  have i1 := i64_1
  by_cases hz : h = 0
  · have hw := words_z h (by rw [z1]; exact hz)
    cases m4 : mulO ((h + h + 1) * (h + h + 1)) b
    · have z6 := mul_wr m4
      rw [z3, szb] at z6
      have c3 : 0 < cmpI ((h + h + 1) * (h + h + 1) * b) a := by unfold cmpI; split <;> (try split) <;> omega
      repeat' (first
        | refine GW_seq ?_
        | simp only [List.length_cons, List.length_nil, Nat.reduceAdd, Nat.reduceMul, thenG_normal, thenG_ret, thenG_exit, thenG_goto, thenG_panic, blockG_normal, blockG_ret, blockG_goto, blockG_panic, jumpG_normal, jumpG_ret, jumpG_exit, jumpG_panic]
        | (refine GW_region' [] (by kernel_rfl) ?_; intro Q hQ hP; simp [hC, hY, s1, s2, g1, g2, g3b, g4b, ha, hB, ha1, hb1, hr, hh, sza, szb, z1, z2, z3, ← z6, m3, m4, c1, c3, i1, hw]; (first | refine hQ _ _ _ _ ?_ | refine hP _ _ (fun _ => ?_)); clear hQ hP Q)
        | (refine GW_draw' [] follows (by kernel_rfl) (by kernel_rfl) ?_; intro Q hQ hP; simp [hC, hY, s1, s2, g1, g2, g3b, g4b, ha, hB, ha1, hb1, hr, hh, sza, szb, z1, z2, z3, ← z6, m3, m4, c1, c3, i1, hw]; (first | refine hQ _ _ _ _ (by kernel_rfl) ?_ | refine hP _ _ (by kernel_rfl) (fun _ => ?_)); clear hQ hP Q)
        | refine GW_block ?_
        | refine GW_ret ?_
        | refine GW_skip ?_
        | refine GW_exit ?_
        | refine GW_goto ?_
        | refine GW_label ?_
        | simp only [blockG_exit]
        | (refine GW_cond (by simp; rfl) ?_ ?_ <;> (intro hb; first | (exfalso; exact absurd hb (by decide)) | skip)))
      refine ⟨.inr trivial, ?_⟩
      simp [Tryd.results6]
    ·
      repeat' (first
        | refine GW_seq ?_
        | simp only [List.length_cons, List.length_nil, Nat.reduceAdd, Nat.reduceMul, thenG_normal, thenG_ret, thenG_exit, thenG_goto, thenG_panic, blockG_normal, blockG_ret, blockG_goto, blockG_panic, jumpG_normal, jumpG_ret, jumpG_exit, jumpG_panic]
        | (refine GW_region' [] (by kernel_rfl) ?_; intro Q hQ hP; simp [hC, hY, s1, s2, g1, g2, g3b, g4b, ha, hB, ha1, hb1, hr, hh, sza, szb, z1, z2, z3, m3, m4, c1, i1, hw]; (first | refine hQ _ _ _ _ ?_ | refine hP _ _ (fun _ => ?_)); clear hQ hP Q)
        | (refine GW_draw' [] follows (by kernel_rfl) (by kernel_rfl) ?_; intro Q hQ hP; simp [hC, hY, s1, s2, g1, g2, g3b, g4b, ha, hB, ha1, hb1, hr, hh, sza, szb, z1, z2, z3, m3, m4, c1, i1, hw]; (first | refine hQ _ _ _ _ (by kernel_rfl) ?_ | refine hP _ _ (by kernel_rfl) (fun _ => ?_)); clear hQ hP Q)
        | refine GW_block ?_
        | refine GW_ret ?_
        | refine GW_skip ?_
        | refine GW_exit ?_
        | refine GW_goto ?_
        | refine GW_label ?_
        | simp only [blockG_exit]
        | (refine GW_cond (by simp; rfl) ?_ ?_ <;> (intro hb; first | (exfalso; exact absurd hb (by decide)) | skip)))
      refine ⟨.inr trivial, ?_⟩
      simp [Tryd.results6]
  · have hw := words_ne h (by rw [z1]; exact hz)
    have wS := wr_b (h + h - 1) (by omega) (by omega)
    have hl : (h + h - 1) * (h + h - 1) ≤ r * r := Int.mul_le_mul (by omega) (by omega) (by omega) r0
    have hl2 : (h + h - 1) * (h + h - 1) * b ≤ r * r * b := Int.mul_le_mul_of_nonneg_right hl (Int.le_of_lt hb1)
    have ss0 : 0 ≤ (h + h - 1) * (h + h - 1) := Int.mul_nonneg (by omega) (by omega)
    have wSS : wr ((h + h - 1) * (h + h - 1)) := ⟨Int.le_trans (by decide) ss0, Int.lt_of_le_of_lt (Int.le_trans hl (Int.le_trans r1 hq)) ha.2⟩
    have wL : wr ((h + h - 1) * (h + h - 1) * b) := ⟨Int.le_trans (by decide) (Int.mul_nonneg ss0 (Int.le_of_lt hb1)), Int.lt_of_le_of_lt (Int.le_trans hl2 f1) ha.2⟩
    have z7 := wr_sz wS
    have z8 := wr_sz wSS
    have z9 := wr_sz wL
    have m1 := mulO_f wS wS wSS
    have m2 := mulO_f wSS hB wL
    have c2 : ¬ 0 < cmpI ((h + h - 1) * (h + h - 1) * b) a := by unfold cmpI; split <;> (try split) <;> omega
    cases m4 : mulO ((h + h + 1) * (h + h + 1)) b
    · have z6 := mul_wr m4
      rw [z3, szb] at z6
      have c3 : 0 < cmpI ((h + h + 1) * (h + h + 1) * b) a := by unfold cmpI; split <;> (try split) <;> omega
      repeat' (first
        | refine GW_seq ?_
        | simp only [List.length_cons, List.length_nil, Nat.reduceAdd, Nat.reduceMul, thenG_normal, thenG_ret, thenG_exit, thenG_goto, thenG_panic, blockG_normal, blockG_ret, blockG_goto, blockG_panic, jumpG_normal, jumpG_ret, jumpG_exit, jumpG_panic]
        | (refine GW_region' [] (by kernel_rfl) ?_; intro Q hQ hP; simp [hC, hY, s1, s2, g1, g2, g3b, g4b, ha, hB, ha1, hb1, hr, hh, sza, szb, z1, z2, z3, ← z6, z7, z8, z9, m1, m2, m3, m4, c1, c2, c3, i1, hw]; (first | refine hQ _ _ _ _ ?_ | refine hP _ _ (fun _ => ?_)); clear hQ hP Q)
        | (refine GW_draw' [] follows (by kernel_rfl) (by kernel_rfl) ?_; intro Q hQ hP; simp [hC, hY, s1, s2, g1, g2, g3b, g4b, ha, hB, ha1, hb1, hr, hh, sza, szb, z1, z2, z3, ← z6, z7, z8, z9, m1, m2, m3, m4, c1, c2, c3, i1, hw]; (first | refine hQ _ _ _ _ (by kernel_rfl) ?_ | refine hP _ _ (by kernel_rfl) (fun _ => ?_)); clear hQ hP Q)
        | refine GW_block ?_
        | refine GW_ret ?_
        | refine GW_skip ?_
        | refine GW_exit ?_
        | refine GW_goto ?_
        | refine GW_label ?_
        | simp only [blockG_exit]
        | (refine GW_cond (by simp; rfl) ?_ ?_ <;> (intro hb; first | (exfalso; exact absurd hb (by decide)) | skip)))
      refine ⟨.inr trivial, ?_⟩
      simp [Tryd.results6]
    ·
      repeat' (first
        | refine GW_seq ?_
        | simp only [List.length_cons, List.length_nil, Nat.reduceAdd, Nat.reduceMul, thenG_normal, thenG_ret, thenG_exit, thenG_goto, thenG_panic, blockG_normal, blockG_ret, blockG_goto, blockG_panic, jumpG_normal, jumpG_ret, jumpG_exit, jumpG_panic]
        | (refine GW_region' [] (by kernel_rfl) ?_; intro Q hQ hP; simp [hC, hY, s1, s2, g1, g2, g3b, g4b, ha, hB, ha1, hb1, hr, hh, sza, szb, z1, z2, z3, z7, z8, z9, m1, m2, m3, m4, c1, c2, i1, hw]; (first | refine hQ _ _ _ _ ?_ | refine hP _ _ (fun _ => ?_)); clear hQ hP Q)
        | (refine GW_draw' [] follows (by kernel_rfl) (by kernel_rfl) ?_; intro Q hQ hP; simp [hC, hY, s1, s2, g1, g2, g3b, g4b, ha, hB, ha1, hb1, hr, hh, sza, szb, z1, z2, z3, z7, z8, z9, m1, m2, m3, m4, c1, c2, i1, hw]; (first | refine hQ _ _ _ _ (by kernel_rfl) ?_ | refine hP _ _ (by kernel_rfl) (fun _ => ?_)); clear hQ hP Q)
        | refine GW_block ?_
        | refine GW_ret ?_
        | refine GW_skip ?_
        | refine GW_exit ?_
        | refine GW_goto ?_
        | refine GW_label ?_
        | simp only [blockG_exit]
        | (refine GW_cond (by simp; rfl) ?_ ?_ <;> (intro hb; first | (exfalso; exact absurd hb (by decide)) | skip)))
      refine ⟨.inr trivial, ?_⟩
      simp [Tryd.results6]
end Go.Gy
