/-
  Laws of layer 12 (pull): times, PullNearest.
  Conditions: none.
-/
import Derived.Test.YtggidgaeggekhaaDoorGyUA
namespace Go.Gy
set_option linter.unusedSimpArgs false
set_option linter.unusedVariables false
open Go Go.RowKit Go.Proofs
@[simp] theorem rg12 : Array.range 12 = #[0, 1, 2, 3, 4, 5, 6, 7, 8, 9, 10, 11] := rfl
theorem mulO_no {a b : Int} (ha : sz a = a) (hb : sz b = b) (h : wr (a * b)) : mulO a b = false := by
  unfold mulO; rw [ha, hb]; simp only [decide_eq_false_iff_not, Classical.not_not]; exact h
theorem mulO_yes {a b : Int} (ha : sz a = a) (hb : sz b = b) (h : ¬ wr (a * b)) : mulO a b = true := by
  unfold mulO; rw [ha, hb]; simp only [decide_eq_true_eq]; exact h
theorem mulO_one {b : Int} (hb : sz b = b) (h : wr b) : mulO 1 b = false := mulO_no (by decide) hb (by rw [Int.one_mul]; exact h)
set_option maxHeartbeats 4000000 in
theorem wt3 (a0 a1 a2 : Int) (hi : wr a0 ∧ wr a1 ∧ wr a2) (hw : wr (a0) ∧ wr (a0 * a1) ∧ wr (a0 * a1 * a2)) : Fun Tryd.prog G1 35 #[.slice (some ⟨100, 0, none⟩) 3 3] (hpL G1 [(100, ⟨#[.int .u64 (wi a0 0), .int .u64 (wi a0 1), .int .u64 (wi a0 2), .int .u64 (wi a0 3), .int .u64 (wi a1 0), .int .u64 (wi a1 1), .int .u64 (wi a1 2), .int .u64 (wi a1 3), .int .u64 (wi a2 0), .int .u64 (wi a2 1), .int .u64 (wi a2 2), .int .u64 (wi a2 3)], 24⟩)]) [100] (.ret (.tuple #[wd (a0 * a1 * a2), .bool true]) []) := by
  have hrst : rst (hpL G1 [(100, ⟨#[.int .u64 (wi a0 0), .int .u64 (wi a0 1), .int .u64 (wi a0 2), .int .u64 (wi a0 3), .int .u64 (wi a1 0), .int .u64 (wi a1 1), .int .u64 (wi a1 2), .int .u64 (wi a1 3), .int .u64 (wi a2 0), .int .u64 (wi a2 1), .int .u64 (wi a2 2), .int .u64 (wi a2 3)], 24⟩)]) [100] = hpL G1 [(100, ⟨#[.int .u64 (wi a0 0), .int .u64 (wi a0 1), .int .u64 (wi a0 2), .int .u64 (wi a0 3), .int .u64 (wi a1 0), .int .u64 (wi a1 1), .int .u64 (wi a1 2), .int .u64 (wi a1 3), .int .u64 (wi a2 0), .int .u64 (wi a2 1), .int .u64 (wi a2 2), .int .u64 (wi a2 3)], 24⟩)] := hpL_rst G1F (by simp)
  have hfree : ∀ k, 200 ≤ k → (hpL G1 [(100, ⟨#[.int .u64 (wi a0 0), .int .u64 (wi a0 1), .int .u64 (wi a0 2), .int .u64 (wi a0 3), .int .u64 (wi a1 0), .int .u64 (wi a1 1), .int .u64 (wi a1 2), .int .u64 (wi a1 3), .int .u64 (wi a2 0), .int .u64 (wi a2 1), .int .u64 (wi a2 2), .int .u64 (wi a2 3)], 24⟩)]) k = none := fun k hk => by simp [show ¬ k = 100 by omega, show 100 ≤ k by omega]
  refine fun_of (B := 200) G1F (fun k hk => hpL_low (by simp) hk) Tryd.func35 rfl Tryd.call35 ?_ ?_ ⟨flatV_ids (by simp), by simp [keys], by simp, by simp⟩ (by simp [Tryd.ntmps35]) (by omega) ?_ ?_
  · rw [hrst]; simp [dom]
  · rw [hrst]
    intro k c h
    rcases hpL_mem h with h | h
    · simp at h
      rcases h with ⟨_, rfl⟩
      simp
    · exact G1_closed _ _ _ h
  · rw [hrst]; exact hfree
  · intro C hC hC0 hY
    rw [hrst] at hC0 ⊢
    obtain ⟨i0, i1, i2⟩ := hi
    obtain ⟨w0, w1, w2⟩ := hw
    have t0 := wr_sz i0
    have t1 := wr_sz i1
    have t2 := wr_sz i2
    have s0 := wr_sz w0
    have s1 := wr_sz w1
    have s2 := wr_sz w2
    have j1 := i64_1
    have e1 : sz 1 = 1 := by decide
    have o0 := mulO_one t0 i0
    have o1 := mulO_no (a := a0) (b := a1) s0 t1 w1
    have o2 := mulO_no (a := a0 * a1) (b := a2) s1 t2 w2
    repeat' (first
      | refine GW_seq ?_
      | refine GWL_start ?_
      | refine GWL_step ?_
      | simp only [List.length_cons, List.length_nil, Nat.reduceAdd, Nat.reduceMul, thenG_normal, thenG_ret, thenG_exit, thenG_goto, thenG_panic, blockG_normal, blockG_ret, blockG_goto, blockG_panic, jumpG_normal, jumpG_ret, jumpG_exit, jumpG_panic]
      | (refine GW_region' [] (by kernel_rfl) ?_; intro Q hQ hP; simp [hC, hY, j1, e1, Int.one_mul, t0, t1, t2, s1, s2, o0, o1, o2]; (first | refine hQ _ _ _ _ ?_ | refine hP _ _ (fun _ => ?_)); clear hQ hP Q)
      | (refine GW_draw' [] follows (by kernel_rfl) (by kernel_rfl) ?_; intro Q hQ hP; simp [hC, hY, j1, e1, Int.one_mul, t0, t1, t2, s1, s2, o0, o1, o2]; (first | refine hQ _ _ _ _ (by kernel_rfl) ?_ | refine hP _ _ (by kernel_rfl) (fun _ => ?_)); clear hQ hP Q)
      | refine GW_block ?_
      | refine GW_ret ?_
      | refine GW_skip ?_
      | refine GW_exit ?_
      | refine GW_goto ?_
      | refine GW_label ?_
      | simp only [blockG_exit]
      | (refine GW_cond (by simp; rfl) ?_ ?_ <;> (intro hb; first | (exfalso; exact absurd hb (by decide)) | skip)))
    refine ⟨.inr rfl, by simp [Tryd.results35], fun k hk => ?_⟩
    have hk3 : k < 200 := Classical.byContradiction fun h => hk (hfree k (by omega))
    simp (disch := omega) only [upd_far]
    rfl
set_option maxHeartbeats 4000000 in
theorem wt3_over (a0 a1 a2 : Int) (hi : wr a0 ∧ wr a1 ∧ wr a2) (hw : wr (a0) ∧ wr (a0 * a1) ∧ ¬ wr (a0 * a1 * a2)) : Fun Tryd.prog G1 35 #[.slice (some ⟨100, 0, none⟩) 3 3] (hpL G1 [(100, ⟨#[.int .u64 (wi a0 0), .int .u64 (wi a0 1), .int .u64 (wi a0 2), .int .u64 (wi a0 3), .int .u64 (wi a1 0), .int .u64 (wi a1 1), .int .u64 (wi a1 2), .int .u64 (wi a1 3), .int .u64 (wi a2 0), .int .u64 (wi a2 1), .int .u64 (wi a2 2), .int .u64 (wi a2 3)], 24⟩)]) [100] (.ret (.tuple #[wd (a0 * a1 * a2), .bool false]) []) := by
  have hrst : rst (hpL G1 [(100, ⟨#[.int .u64 (wi a0 0), .int .u64 (wi a0 1), .int .u64 (wi a0 2), .int .u64 (wi a0 3), .int .u64 (wi a1 0), .int .u64 (wi a1 1), .int .u64 (wi a1 2), .int .u64 (wi a1 3), .int .u64 (wi a2 0), .int .u64 (wi a2 1), .int .u64 (wi a2 2), .int .u64 (wi a2 3)], 24⟩)]) [100] = hpL G1 [(100, ⟨#[.int .u64 (wi a0 0), .int .u64 (wi a0 1), .int .u64 (wi a0 2), .int .u64 (wi a0 3), .int .u64 (wi a1 0), .int .u64 (wi a1 1), .int .u64 (wi a1 2), .int .u64 (wi a1 3), .int .u64 (wi a2 0), .int .u64 (wi a2 1), .int .u64 (wi a2 2), .int .u64 (wi a2 3)], 24⟩)] := hpL_rst G1F (by simp)
  have hfree : ∀ k, 200 ≤ k → (hpL G1 [(100, ⟨#[.int .u64 (wi a0 0), .int .u64 (wi a0 1), .int .u64 (wi a0 2), .int .u64 (wi a0 3), .int .u64 (wi a1 0), .int .u64 (wi a1 1), .int .u64 (wi a1 2), .int .u64 (wi a1 3), .int .u64 (wi a2 0), .int .u64 (wi a2 1), .int .u64 (wi a2 2), .int .u64 (wi a2 3)], 24⟩)]) k = none := fun k hk => by simp [show ¬ k = 100 by omega, show 100 ≤ k by omega]
  refine fun_of (B := 200) G1F (fun k hk => hpL_low (by simp) hk) Tryd.func35 rfl Tryd.call35 ?_ ?_ ⟨flatV_ids (by simp), by simp [keys], by simp, by simp⟩ (by simp [Tryd.ntmps35]) (by omega) ?_ ?_
  · rw [hrst]; simp [dom]
  · rw [hrst]
    intro k c h
    rcases hpL_mem h with h | h
    · simp at h
      rcases h with ⟨_, rfl⟩
      simp
    · exact G1_closed _ _ _ h
  · rw [hrst]; exact hfree
  · intro C hC hC0 hY
    rw [hrst] at hC0 ⊢
    obtain ⟨i0, i1, i2⟩ := hi
    obtain ⟨w0, w1, w2⟩ := hw
    have t0 := wr_sz i0
    have t1 := wr_sz i1
    have t2 := wr_sz i2
    have s0 := wr_sz w0
    have s1 := wr_sz w1
    have j1 := i64_1
    have e1 : sz 1 = 1 := by decide
    have o0 := mulO_one t0 i0
    have o1 := mulO_no (a := a0) (b := a1) s0 t1 w1
    have o2 := mulO_yes (a := a0 * a1) (b := a2) s1 t2 w2
    repeat' (first
      | refine GW_seq ?_
      | refine GWL_start ?_
      | refine GWL_step ?_
      | simp only [List.length_cons, List.length_nil, Nat.reduceAdd, Nat.reduceMul, thenG_normal, thenG_ret, thenG_exit, thenG_goto, thenG_panic, blockG_normal, blockG_ret, blockG_goto, blockG_panic, jumpG_normal, jumpG_ret, jumpG_exit, jumpG_panic]
      | (refine GW_region' [] (by kernel_rfl) ?_; intro Q hQ hP; simp [hC, hY, j1, e1, Int.one_mul, t0, t1, t2, s1, o0, o1, o2]; (first | refine hQ _ _ _ _ ?_ | refine hP _ _ (fun _ => ?_)); clear hQ hP Q)
      | (refine GW_draw' [] follows (by kernel_rfl) (by kernel_rfl) ?_; intro Q hQ hP; simp [hC, hY, j1, e1, Int.one_mul, t0, t1, t2, s1, o0, o1, o2]; (first | refine hQ _ _ _ _ (by kernel_rfl) ?_ | refine hP _ _ (by kernel_rfl) (fun _ => ?_)); clear hQ hP Q)
      | refine GW_block ?_
      | refine GW_ret ?_
      | refine GW_skip ?_
      | refine GW_exit ?_
      | refine GW_goto ?_
      | refine GW_label ?_
      | simp only [blockG_exit]
      | (refine GW_cond (by simp; rfl) ?_ ?_ <;> (intro hb; first | (exfalso; exact absurd hb (by decide)) | skip)))
    refine ⟨.inr rfl, by simp [Tryd.results35], fun k hk => ?_⟩
    have hk3 : k < 200 := Classical.byContradiction fun h => hk (hfree k (by omega))
    simp (disch := omega) only [upd_far]
    rfl
set_option maxHeartbeats 4000000 in
theorem wt5 (a0 a1 a2 a3 a4 : Int) (hi : wr a0 ∧ wr a1 ∧ wr a2 ∧ wr a3 ∧ wr a4) (hw : wr (a0) ∧ wr (a0 * a1) ∧ wr (a0 * a1 * a2) ∧ wr (a0 * a1 * a2 * a3) ∧ wr (a0 * a1 * a2 * a3 * a4)) : Fun Tryd.prog G1 35 #[.slice (some ⟨100, 0, none⟩) 5 5] (hpL G1 [(100, ⟨#[.int .u64 (wi a0 0), .int .u64 (wi a0 1), .int .u64 (wi a0 2), .int .u64 (wi a0 3), .int .u64 (wi a1 0), .int .u64 (wi a1 1), .int .u64 (wi a1 2), .int .u64 (wi a1 3), .int .u64 (wi a2 0), .int .u64 (wi a2 1), .int .u64 (wi a2 2), .int .u64 (wi a2 3), .int .u64 (wi a3 0), .int .u64 (wi a3 1), .int .u64 (wi a3 2), .int .u64 (wi a3 3), .int .u64 (wi a4 0), .int .u64 (wi a4 1), .int .u64 (wi a4 2), .int .u64 (wi a4 3)], 24⟩)]) [100] (.ret (.tuple #[wd (a0 * a1 * a2 * a3 * a4), .bool true]) []) := by
  have hrst : rst (hpL G1 [(100, ⟨#[.int .u64 (wi a0 0), .int .u64 (wi a0 1), .int .u64 (wi a0 2), .int .u64 (wi a0 3), .int .u64 (wi a1 0), .int .u64 (wi a1 1), .int .u64 (wi a1 2), .int .u64 (wi a1 3), .int .u64 (wi a2 0), .int .u64 (wi a2 1), .int .u64 (wi a2 2), .int .u64 (wi a2 3), .int .u64 (wi a3 0), .int .u64 (wi a3 1), .int .u64 (wi a3 2), .int .u64 (wi a3 3), .int .u64 (wi a4 0), .int .u64 (wi a4 1), .int .u64 (wi a4 2), .int .u64 (wi a4 3)], 24⟩)]) [100] = hpL G1 [(100, ⟨#[.int .u64 (wi a0 0), .int .u64 (wi a0 1), .int .u64 (wi a0 2), .int .u64 (wi a0 3), .int .u64 (wi a1 0), .int .u64 (wi a1 1), .int .u64 (wi a1 2), .int .u64 (wi a1 3), .int .u64 (wi a2 0), .int .u64 (wi a2 1), .int .u64 (wi a2 2), .int .u64 (wi a2 3), .int .u64 (wi a3 0), .int .u64 (wi a3 1), .int .u64 (wi a3 2), .int .u64 (wi a3 3), .int .u64 (wi a4 0), .int .u64 (wi a4 1), .int .u64 (wi a4 2), .int .u64 (wi a4 3)], 24⟩)] := hpL_rst G1F (by simp)
  have hfree : ∀ k, 200 ≤ k → (hpL G1 [(100, ⟨#[.int .u64 (wi a0 0), .int .u64 (wi a0 1), .int .u64 (wi a0 2), .int .u64 (wi a0 3), .int .u64 (wi a1 0), .int .u64 (wi a1 1), .int .u64 (wi a1 2), .int .u64 (wi a1 3), .int .u64 (wi a2 0), .int .u64 (wi a2 1), .int .u64 (wi a2 2), .int .u64 (wi a2 3), .int .u64 (wi a3 0), .int .u64 (wi a3 1), .int .u64 (wi a3 2), .int .u64 (wi a3 3), .int .u64 (wi a4 0), .int .u64 (wi a4 1), .int .u64 (wi a4 2), .int .u64 (wi a4 3)], 24⟩)]) k = none := fun k hk => by simp [show ¬ k = 100 by omega, show 100 ≤ k by omega]
  refine fun_of (B := 200) G1F (fun k hk => hpL_low (by simp) hk) Tryd.func35 rfl Tryd.call35 ?_ ?_ ⟨flatV_ids (by simp), by simp [keys], by simp, by simp⟩ (by simp [Tryd.ntmps35]) (by omega) ?_ ?_
  · rw [hrst]; simp [dom]
  · rw [hrst]
    intro k c h
    rcases hpL_mem h with h | h
    · simp at h
      rcases h with ⟨_, rfl⟩
      simp
    · exact G1_closed _ _ _ h
  · rw [hrst]; exact hfree
  · intro C hC hC0 hY
    rw [hrst] at hC0 ⊢
    obtain ⟨i0, i1, i2, i3, i4⟩ := hi
    obtain ⟨w0, w1, w2, w3, w4⟩ := hw
    have t0 := wr_sz i0
    have t1 := wr_sz i1
    have t2 := wr_sz i2
    have t3 := wr_sz i3
    have t4 := wr_sz i4
    have s0 := wr_sz w0
    have s1 := wr_sz w1
    have s2 := wr_sz w2
    have s3 := wr_sz w3
    have s4 := wr_sz w4
    have j1 := i64_1
    have e1 : sz 1 = 1 := by decide
    have o0 := mulO_one t0 i0
    have o1 := mulO_no (a := a0) (b := a1) s0 t1 w1
    have o2 := mulO_no (a := a0 * a1) (b := a2) s1 t2 w2
    have o3 := mulO_no (a := a0 * a1 * a2) (b := a3) s2 t3 w3
    have o4 := mulO_no (a := a0 * a1 * a2 * a3) (b := a4) s3 t4 w4
    repeat' (first
      | refine GW_seq ?_
      | refine GWL_start ?_
      | refine GWL_step ?_
      | simp only [List.length_cons, List.length_nil, Nat.reduceAdd, Nat.reduceMul, thenG_normal, thenG_ret, thenG_exit, thenG_goto, thenG_panic, blockG_normal, blockG_ret, blockG_goto, blockG_panic, jumpG_normal, jumpG_ret, jumpG_exit, jumpG_panic]
      | (refine GW_region' [] (by kernel_rfl) ?_; intro Q hQ hP; simp [hC, hY, j1, e1, Int.one_mul, t0, t1, t2, t3, t4, s1, s2, s3, s4, o0, o1, o2, o3, o4]; (first | refine hQ _ _ _ _ ?_ | refine hP _ _ (fun _ => ?_)); clear hQ hP Q)
      | (refine GW_draw' [] follows (by kernel_rfl) (by kernel_rfl) ?_; intro Q hQ hP; simp [hC, hY, j1, e1, Int.one_mul, t0, t1, t2, t3, t4, s1, s2, s3, s4, o0, o1, o2, o3, o4]; (first | refine hQ _ _ _ _ (by kernel_rfl) ?_ | refine hP _ _ (by kernel_rfl) (fun _ => ?_)); clear hQ hP Q)
      | refine GW_block ?_
      | refine GW_ret ?_
      | refine GW_skip ?_
      | refine GW_exit ?_
      | refine GW_goto ?_
      | refine GW_label ?_
      | simp only [blockG_exit]
      | (refine GW_cond (by simp; rfl) ?_ ?_ <;> (intro hb; first | (exfalso; exact absurd hb (by decide)) | skip)))
    refine ⟨.inr rfl, by simp [Tryd.results35], fun k hk => ?_⟩
    have hk3 : k < 200 := Classical.byContradiction fun h => hk (hfree k (by omega))
    simp (disch := omega) only [upd_far]
    rfl
set_option maxHeartbeats 4000000 in
theorem wt9 (a0 a1 a2 a3 a4 a5 a6 a7 a8 : Int) (hi : wr a0 ∧ wr a1 ∧ wr a2 ∧ wr a3 ∧ wr a4 ∧ wr a5 ∧ wr a6 ∧ wr a7 ∧ wr a8) (hw : wr (a0) ∧ wr (a0 * a1) ∧ wr (a0 * a1 * a2) ∧ wr (a0 * a1 * a2 * a3) ∧ wr (a0 * a1 * a2 * a3 * a4) ∧ wr (a0 * a1 * a2 * a3 * a4 * a5) ∧ wr (a0 * a1 * a2 * a3 * a4 * a5 * a6) ∧ wr (a0 * a1 * a2 * a3 * a4 * a5 * a6 * a7) ∧ wr (a0 * a1 * a2 * a3 * a4 * a5 * a6 * a7 * a8)) : Fun Tryd.prog G1 35 #[.slice (some ⟨100, 0, none⟩) 9 9] (hpL G1 [(100, ⟨#[.int .u64 (wi a0 0), .int .u64 (wi a0 1), .int .u64 (wi a0 2), .int .u64 (wi a0 3), .int .u64 (wi a1 0), .int .u64 (wi a1 1), .int .u64 (wi a1 2), .int .u64 (wi a1 3), .int .u64 (wi a2 0), .int .u64 (wi a2 1), .int .u64 (wi a2 2), .int .u64 (wi a2 3), .int .u64 (wi a3 0), .int .u64 (wi a3 1), .int .u64 (wi a3 2), .int .u64 (wi a3 3), .int .u64 (wi a4 0), .int .u64 (wi a4 1), .int .u64 (wi a4 2), .int .u64 (wi a4 3), .int .u64 (wi a5 0), .int .u64 (wi a5 1), .int .u64 (wi a5 2), .int .u64 (wi a5 3), .int .u64 (wi a6 0), .int .u64 (wi a6 1), .int .u64 (wi a6 2), .int .u64 (wi a6 3), .int .u64 (wi a7 0), .int .u64 (wi a7 1), .int .u64 (wi a7 2), .int .u64 (wi a7 3), .int .u64 (wi a8 0), .int .u64 (wi a8 1), .int .u64 (wi a8 2), .int .u64 (wi a8 3)], 24⟩)]) [100] (.ret (.tuple #[wd (a0 * a1 * a2 * a3 * a4 * a5 * a6 * a7 * a8), .bool true]) []) := by
  have hrst : rst (hpL G1 [(100, ⟨#[.int .u64 (wi a0 0), .int .u64 (wi a0 1), .int .u64 (wi a0 2), .int .u64 (wi a0 3), .int .u64 (wi a1 0), .int .u64 (wi a1 1), .int .u64 (wi a1 2), .int .u64 (wi a1 3), .int .u64 (wi a2 0), .int .u64 (wi a2 1), .int .u64 (wi a2 2), .int .u64 (wi a2 3), .int .u64 (wi a3 0), .int .u64 (wi a3 1), .int .u64 (wi a3 2), .int .u64 (wi a3 3), .int .u64 (wi a4 0), .int .u64 (wi a4 1), .int .u64 (wi a4 2), .int .u64 (wi a4 3), .int .u64 (wi a5 0), .int .u64 (wi a5 1), .int .u64 (wi a5 2), .int .u64 (wi a5 3), .int .u64 (wi a6 0), .int .u64 (wi a6 1), .int .u64 (wi a6 2), .int .u64 (wi a6 3), .int .u64 (wi a7 0), .int .u64 (wi a7 1), .int .u64 (wi a7 2), .int .u64 (wi a7 3), .int .u64 (wi a8 0), .int .u64 (wi a8 1), .int .u64 (wi a8 2), .int .u64 (wi a8 3)], 24⟩)]) [100] = hpL G1 [(100, ⟨#[.int .u64 (wi a0 0), .int .u64 (wi a0 1), .int .u64 (wi a0 2), .int .u64 (wi a0 3), .int .u64 (wi a1 0), .int .u64 (wi a1 1), .int .u64 (wi a1 2), .int .u64 (wi a1 3), .int .u64 (wi a2 0), .int .u64 (wi a2 1), .int .u64 (wi a2 2), .int .u64 (wi a2 3), .int .u64 (wi a3 0), .int .u64 (wi a3 1), .int .u64 (wi a3 2), .int .u64 (wi a3 3), .int .u64 (wi a4 0), .int .u64 (wi a4 1), .int .u64 (wi a4 2), .int .u64 (wi a4 3), .int .u64 (wi a5 0), .int .u64 (wi a5 1), .int .u64 (wi a5 2), .int .u64 (wi a5 3), .int .u64 (wi a6 0), .int .u64 (wi a6 1), .int .u64 (wi a6 2), .int .u64 (wi a6 3), .int .u64 (wi a7 0), .int .u64 (wi a7 1), .int .u64 (wi a7 2), .int .u64 (wi a7 3), .int .u64 (wi a8 0), .int .u64 (wi a8 1), .int .u64 (wi a8 2), .int .u64 (wi a8 3)], 24⟩)] := hpL_rst G1F (by simp)
  have hfree : ∀ k, 200 ≤ k → (hpL G1 [(100, ⟨#[.int .u64 (wi a0 0), .int .u64 (wi a0 1), .int .u64 (wi a0 2), .int .u64 (wi a0 3), .int .u64 (wi a1 0), .int .u64 (wi a1 1), .int .u64 (wi a1 2), .int .u64 (wi a1 3), .int .u64 (wi a2 0), .int .u64 (wi a2 1), .int .u64 (wi a2 2), .int .u64 (wi a2 3), .int .u64 (wi a3 0), .int .u64 (wi a3 1), .int .u64 (wi a3 2), .int .u64 (wi a3 3), .int .u64 (wi a4 0), .int .u64 (wi a4 1), .int .u64 (wi a4 2), .int .u64 (wi a4 3), .int .u64 (wi a5 0), .int .u64 (wi a5 1), .int .u64 (wi a5 2), .int .u64 (wi a5 3), .int .u64 (wi a6 0), .int .u64 (wi a6 1), .int .u64 (wi a6 2), .int .u64 (wi a6 3), .int .u64 (wi a7 0), .int .u64 (wi a7 1), .int .u64 (wi a7 2), .int .u64 (wi a7 3), .int .u64 (wi a8 0), .int .u64 (wi a8 1), .int .u64 (wi a8 2), .int .u64 (wi a8 3)], 24⟩)]) k = none := fun k hk => by simp [show ¬ k = 100 by omega, show 100 ≤ k by omega]
  refine fun_of (B := 200) G1F (fun k hk => hpL_low (by simp) hk) Tryd.func35 rfl Tryd.call35 ?_ ?_ ⟨flatV_ids (by simp), by simp [keys], by simp, by simp⟩ (by simp [Tryd.ntmps35]) (by omega) ?_ ?_
  · rw [hrst]; simp [dom]
  · rw [hrst]
    intro k c h
    rcases hpL_mem h with h | h
    · simp at h
      rcases h with ⟨_, rfl⟩
      simp
    · exact G1_closed _ _ _ h
  · rw [hrst]; exact hfree
  · intro C hC hC0 hY
    rw [hrst] at hC0 ⊢
    obtain ⟨i0, i1, i2, i3, i4, i5, i6, i7, i8⟩ := hi
    obtain ⟨w0, w1, w2, w3, w4, w5, w6, w7, w8⟩ := hw
    have t0 := wr_sz i0
    have t1 := wr_sz i1
    have t2 := wr_sz i2
    have t3 := wr_sz i3
    have t4 := wr_sz i4
    have t5 := wr_sz i5
    have t6 := wr_sz i6
    have t7 := wr_sz i7
    have t8 := wr_sz i8
    have s0 := wr_sz w0
    have s1 := wr_sz w1
    have s2 := wr_sz w2
    have s3 := wr_sz w3
    have s4 := wr_sz w4
    have s5 := wr_sz w5
    have s6 := wr_sz w6
    have s7 := wr_sz w7
    have s8 := wr_sz w8
    have j1 := i64_1
    have e1 : sz 1 = 1 := by decide
    have o0 := mulO_one t0 i0
    have o1 := mulO_no (a := a0) (b := a1) s0 t1 w1
    have o2 := mulO_no (a := a0 * a1) (b := a2) s1 t2 w2
    have o3 := mulO_no (a := a0 * a1 * a2) (b := a3) s2 t3 w3
    have o4 := mulO_no (a := a0 * a1 * a2 * a3) (b := a4) s3 t4 w4
    have o5 := mulO_no (a := a0 * a1 * a2 * a3 * a4) (b := a5) s4 t5 w5
    have o6 := mulO_no (a := a0 * a1 * a2 * a3 * a4 * a5) (b := a6) s5 t6 w6
    have o7 := mulO_no (a := a0 * a1 * a2 * a3 * a4 * a5 * a6) (b := a7) s6 t7 w7
    have o8 := mulO_no (a := a0 * a1 * a2 * a3 * a4 * a5 * a6 * a7) (b := a8) s7 t8 w8
    repeat' (first
      | refine GW_seq ?_
      | refine GWL_start ?_
      | refine GWL_step ?_
      | simp only [List.length_cons, List.length_nil, Nat.reduceAdd, Nat.reduceMul, thenG_normal, thenG_ret, thenG_exit, thenG_goto, thenG_panic, blockG_normal, blockG_ret, blockG_goto, blockG_panic, jumpG_normal, jumpG_ret, jumpG_exit, jumpG_panic]
      | (refine GW_region' [] (by kernel_rfl) ?_; intro Q hQ hP; simp [hC, hY, j1, e1, Int.one_mul, t0, t1, t2, t3, t4, t5, t6, t7, t8, s1, s2, s3, s4, s5, s6, s7, s8, o0, o1, o2, o3, o4, o5, o6, o7, o8]; (first | refine hQ _ _ _ _ ?_ | refine hP _ _ (fun _ => ?_)); clear hQ hP Q)
      | (refine GW_draw' [] follows (by kernel_rfl) (by kernel_rfl) ?_; intro Q hQ hP; simp [hC, hY, j1, e1, Int.one_mul, t0, t1, t2, t3, t4, t5, t6, t7, t8, s1, s2, s3, s4, s5, s6, s7, s8, o0, o1, o2, o3, o4, o5, o6, o7, o8]; (first | refine hQ _ _ _ _ (by kernel_rfl) ?_ | refine hP _ _ (by kernel_rfl) (fun _ => ?_)); clear hQ hP Q)
      | refine GW_block ?_
      | refine GW_ret ?_
      | refine GW_skip ?_
      | refine GW_exit ?_
      | refine GW_goto ?_
      | refine GW_label ?_
      | simp only [blockG_exit]
      | (refine GW_cond (by simp; rfl) ?_ ?_ <;> (intro hb; first | (exfalso; exact absurd hb (by decide)) | skip)))
    refine ⟨.inr rfl, by simp [Tryd.results35], fun k hk => ?_⟩
    have hk3 : k < 200 := Classical.byContradiction fun h => hk (hfree k (by omega))
    simp (disch := omega) only [upd_far]
    rfl
theorem tmod3 (t : Int) : (Int.bmod (Int.tmod t 3 + 3) 18446744073709551616).tmod 3 = 0 ∨ (Int.bmod (Int.tmod t 3 + 3) 18446744073709551616).tmod 3 = 1 ∨ (Int.bmod (Int.tmod t 3 + 3) 18446744073709551616).tmod 3 = 2 := by
  have h1 := Int.tmod_lt_of_pos t (b := 3) (by decide)
  have h2 := Int.lt_tmod_of_pos t (b := 3) (by decide)
  generalize Int.tmod t 3 = u at *
  rw [bm (by omega) (by omega), Int.tmod_eq_emod_of_nonneg (by omega)]
  omega
theorem pull_cases {n d g m x r : Int} (h : PIn n d g m x r) : (pullV n d g m x r = 0 ∧ pmag n d g m x r = 0) ∨ (0 < pmag n d g m x r ∧ ((0 < n ∧ 0 < x ∧ pullV n d g m x r = pmag n d g m x r) ∨ (n < 0 ∧ x < 0 ∧ pullV n d g m x r = pmag n d g m x r) ∨ (0 < n ∧ x < 0 ∧ pullV n d g m x r = -pmag n d g m x r) ∨ (n < 0 ∧ 0 < x ∧ pullV n d g m x r = -pmag n d g m x r))) := by
  have hm := h.mag
  have h0 : n = 0 → pmag n d g m x r = 0 := fun h => by subst h; exact pmag_n0 _ _ _ _ _
  have h1 : x = 0 → pmag n d g m x r = 0 := fun h => by subst h; exact pmag_0 _ _ _ _ _
  unfold pullV
  generalize pmag n d g m x r = M at *
  (repeat' split) <;> omega
theorem mag_near {n d g m x r : Int} (h : PIn n d g m x r) : (0 < pmag n d g m x r → (2 * pmag n d g m x r - 1) * (2 * pmag n d g m x r - 1) * (d * d * r * r * r) ≤ 2 * n * g * m * x * (2 * n * g * m * x)) ∧
    2 * n * g * m * x * (2 * n * g * m * x) < (2 * pmag n d g m x r + 1) * (2 * pmag n d g m x r + 1) * (d * d * r * r * r) := by
  have hB : 0 < d * d * r * r * r := by have := h.q4.1; have := h.r0; omega
  have hA := sq_nonneg (2 * n * g * m * x)
  unfold pmag
  generalize 2 * n * g * m * x * (2 * n * g * m * x) = A at *
  generalize d * d * r * r * r = B at *
  have hQ : 0 ≤ A / B := Int.ediv_nonneg hA (by omega)
  obtain ⟨q0, q1, q2⟩ := isq_spec (A / B) hQ
  have d1 : A / B * B ≤ A := Int.ediv_mul_le A (by omega)
  have d2 : A < (A / B + 1) * B := Int.lt_ediv_add_one_mul_self A hB
  generalize A / B = Q at *
  generalize isq Q = q at *
  obtain ⟨K, hK⟩ : ∃ K, (q + 1) / 2 = K := ⟨_, rfl⟩
  rw [hK]
  refine ⟨fun hk => ?_, ?_⟩
  · have e1 : (2 * K - 1) * (2 * K - 1) ≤ q * q := Int.mul_le_mul (by omega) (by omega) (by omega) (by omega)
    have e2 : (2 * K - 1) * (2 * K - 1) * B ≤ Q * B := Int.mul_le_mul_of_nonneg_right (by omega) (by omega)
    omega
  · have e1 : (q + 1) * (q + 1) ≤ (2 * K + 1) * (2 * K + 1) := Int.mul_le_mul (by omega) (by omega) (by omega) (by omega)
    have e2 : (Q + 1) * B ≤ (2 * K + 1) * (2 * K + 1) * B := Int.mul_le_mul_of_nonneg_right (by omega) (by omega)
    omega
theorem prod9 (n g m x : Int) : 4 * n * n * g * g * m * m * x * x = 2 * n * g * m * x * (2 * n * g * m * x) := by
  have : (4 : Int) = 2 * 2 := rfl
  rw [this]
  ac_rfl
theorem wr_lit {z : Int} (h1 : -57896044618658097711785492504343953926634992332820282019728792003956564819968 ≤ z) (h2 : z < 57896044618658097711785492504343953926634992332820282019728792003956564819968) : wr z := ⟨h1, h2⟩
theorem wr_abs {z q : Int} (h1 : -q ≤ z) (h2 : z ≤ q) (h : q < 57896044618658097711785492504343953926634992332820282019728792003956564819968) : wr z := ⟨by omega, by omega⟩
/-- The products of the statement are not over. -/
theorem nine {n d g m x r : Int} (h : PIn n d g m x r) : wr 4 ∧ wr (4 * n) ∧ wr (4 * n * n) ∧ wr (4 * n * n * g) ∧ wr (4 * n * n * g * g) ∧ wr (4 * n * n * g * g * m) ∧ wr (4 * n * n * g * g * m * m) ∧ wr (4 * n * n * g * g * m * m * x) ∧ wr (4 * n * n * g * g * m * m * x * x) := by
  have a1 := absmul (a := 4) (p := 4) (b := n) (q := 2097152) (by omega) (by omega) h.n0 h.n1
  have a2 := absmul a1.1 a1.2 h.n0 h.n1
  have a3 := absmul a2.1 a2.2 (b := g) (q := 1048576) (by have := h.g0; omega) h.g1
  have a4 := absmul a3.1 a3.2 (b := g) (q := 1048576) (by have := h.g0; omega) h.g1
  have a5 := absmul a4.1 a4.2 (b := m) (q := 1024) (by have := h.m0; omega) h.m1
  have a6 := absmul a5.1 a5.2 (b := m) (q := 1024) (by have := h.m0; omega) h.m1
  have a7 := absmul a6.1 a6.2 h.x0 h.x1
  have a8 := absmul a7.1 a7.2 h.x0 h.x1
  exact ⟨wr_lit (by decide) (by decide), wr_abs a1.1 a1.2 (by decide), wr_abs a2.1 a2.2 (by decide), wr_abs a3.1 a3.2 (by decide), wr_abs a4.1 a4.2 (by decide), wr_abs a5.1 a5.2 (by decide), wr_abs a6.1 a6.2 (by decide), wr_abs a7.1 a7.2 (by decide), wr_abs a8.1 a8.2 (by decide)⟩
theorem cmp_not_gt {a b : Int} (h : a ≤ b) : ¬ 0 < cmpI a b := by unfold cmpI; (repeat' split) <;> omega
theorem cmp_lt {a b : Int} (h : a < b) : cmpI a b < 0 := by unfold cmpI; rw [if_pos h]; omega
set_option maxHeartbeats 16000000 in
set_option maxRecDepth 100000 in
theorem PullNearest_ret (n d g m x0 x1 x2 t : Int) (hn : i64 n) (hd : i64 d) (hg : i64 g) (hm : i64 m) (hx0 : i64 x0) (hx1 : i64 x1) (hx2 : i64 x2) (ht : i64 t) : Ret Tryd.prog G1 7 #[.int .i64 n, .int .i64 d, .int .i64 g, .int .i64 m, vv x0 x1 x2, .int .i64 t] (.bool true) := by
  refine ret_of G1F Tryd.func7 rfl Tryd.call7 rfl (by simp [vv]) (by simp [Tryd.ntmps7]) ?_
  intro C hC hC0 hY
  by_cases h : MayP n d g m x0 x1 x2
  rotate_left
  · skip
    repeat' (first
      | refine GW_seq ?_
      | simp only [List.length_cons, List.length_nil, Nat.reduceAdd, Nat.reduceMul, thenG_normal, thenG_ret, thenG_exit, thenG_goto, thenG_panic, blockG_normal, blockG_ret, blockG_goto, blockG_panic, jumpG_normal, jumpG_ret, jumpG_exit, jumpG_panic]
      | (refine GW_region' [] (by kernel_rfl) ?_; intro Q hQ hP; simp [hC, hY, vv, h]; (first | refine hQ _ _ _ _ ?_ | refine hP _ _ (fun _ => ?_)); clear hQ hP Q)
      | (refine GW_draw' [] follows (by kernel_rfl) (by kernel_rfl) ?_; intro Q hQ hP; simp [hC, hY, vv, h]; (first | refine hQ _ _ _ _ (by kernel_rfl) ?_ | refine hP _ _ (by kernel_rfl) (fun _ => ?_)); clear hQ hP Q)
      | refine GW_block ?_
      | refine GW_ret ?_
      | refine GW_skip ?_
      | refine GW_exit ?_
      | refine GW_goto ?_
      | refine GW_label ?_
      | simp only [blockG_exit]
      | (refine GW_cond (by simp; rfl) ?_ ?_ <;> (intro hb; first | (exfalso; exact absurd hb (by decide)) | skip)))
    refine ⟨.inr trivial, ?_⟩
    simp [Tryd.results7]
  have hp := h.pin
  have s0 := inB_sq h.i0
  have s1 := inB_sq h.i1
  have s2 := inB_sq h.i2
  have wS := psq x0 x1 x2 h.i0 h.i1 h.i2
  have b0 : Int.bmod (x0 * x0) 18446744073709551616 = x0 * x0 := bm (by omega) (by omega)
  have b1 : Int.bmod (x1 * x1) 18446744073709551616 = x1 * x1 := bm (by omega) (by omega)
  have b2 : Int.bmod (x2 * x2) 18446744073709551616 = x2 * x2 := bm (by omega) (by omega)
  have b3 : Int.bmod (x0 * x0 + x1 * x1) 18446744073709551616 = x0 * x0 + x1 * x1 := bm (by omega) (by omega)
  have b4 : Int.bmod (x0 * x0 + x1 * x1 + x2 * x2) 18446744073709551616 = x0 * x0 + x1 * x1 + x2 * x2 := bm (by omega) (by omega)
  obtain ⟨r, hr⟩ : ∃ r, x0 * x0 + x1 * x1 + x2 * x2 = r := ⟨_, rfl⟩
  rw [hr] at hp wS b4
  obtain ⟨p0, e0⟩ : ∃ p, pullV n d g m x0 r = p := ⟨_, rfl⟩
  obtain ⟨p1, e1⟩ : ∃ p, pullV n d g m x1 r = p := ⟨_, rfl⟩
  obtain ⟨p2, e2⟩ : ∃ p, pullV n d g m x2 r = p := ⟨_, rfl⟩
  have w1 := h.at hr e0 e1 e2
  have hi4 : i64 4 := by decide
  have hwn := i64_wr hn
  have hwg := i64_wr hg
  have hwm := i64_wr hm
  have hwd := i64_wr hd
  have r0 := hp.1.r0
  have r1 := hp.1.r1
  have hir : i64 r := ⟨by omega, by omega⟩
  have hwr := i64_wr hir
  have q1 := hp.1.q1
  have q2 := hp.1.q2
  have q3 := hp.1.q3
  have q4 := hp.1.q4
  have wB : wr (d * d * r * r * r) := ⟨by omega, by omega⟩
  have T5 := wt5 d d r r r ⟨hwd, hwd, hwr, hwr, hwr⟩ ⟨hwd, ⟨by omega, by omega⟩, ⟨by omega, by omega⟩, ⟨by omega, by omega⟩, wB⟩
  rcases tmod3 t with ei | ei | ei
  · have hP := hp.1
    have nr := mag_near hP
    have hmg := hP.mag
    have n9 := nine hP
    have T9 := wt9 4 n n g g m m x0 x0 ⟨n9.1, hwn, hwn, hwg, hwg, hwm, hwm, i64_wr hx0, i64_wr hx0⟩ n9
    have wA := n9.2.2.2.2.2.2.2.2
    rw [prod9] at T9 wA
    obtain ⟨A, hA⟩ : ∃ a, 2 * n * g * m * x0 * (2 * n * g * m * x0) = a := ⟨_, rfl⟩
    obtain ⟨B, hB⟩ : ∃ b, d * d * r * r * r = b := ⟨_, rfl⟩
    rw [hA] at T9 wA nr
    rw [hB] at T5 wB nr q4
    have sA := wr_sz wA
    have sB := wr_sz wB
    have pc := pull_cases hP
    obtain ⟨K, hK⟩ : ∃ K, pmag n d g m x0 r = K := ⟨_, rfl⟩
    rw [hK] at nr hmg pc
    rw [e0] at pc
    have hAu := hP.a_le
    rw [hA] at hAu
    repeat' (first
      | refine GW_seq ?_
      | simp only [List.length_cons, List.length_nil, Nat.reduceAdd, Nat.reduceMul, thenG_normal, thenG_ret, thenG_exit, thenG_goto, thenG_panic, blockG_normal, blockG_ret, blockG_goto, blockG_panic, jumpG_normal, jumpG_ret, jumpG_exit, jumpG_panic]
      | (refine GW_region' [] (by kernel_rfl) ?_; intro Q hQ hP; simp [hC, hY, vv, h, wS, w1, b0, b1, b2, b3, b4, hr, ei]; (first | refine hQ _ _ _ _ ?_ | refine hP _ _ (fun _ => ?_)); clear hQ hP Q)
      | (refine GW_draw' [] follows (by kernel_rfl) (by kernel_rfl) ?_; intro Q hQ hP; simp [hC, hY, vv, h, wS, w1, b0, b1, b2, b3, b4, hr, ei]; (first | refine hQ _ _ _ _ (by kernel_rfl) ?_ | refine hP _ _ (by kernel_rfl) (fun _ => ?_)); clear hQ hP Q)
      | refine GW_block ?_
      | refine GW_ret ?_
      | refine GW_skip ?_
      | refine GW_exit ?_
      | refine GW_goto ?_
      | refine GW_label ?_
      | simp only [blockG_exit]
      | (refine GW_cond (by simp; rfl) ?_ ?_ <;> (intro hb; first | (exfalso; exact absurd hb (by decide)) | skip)))
    rcases pc with ⟨hp0, hK0⟩ | ⟨hKp, pc⟩
    · subst hp0 hK0
      have TL := wt3 (-1) (-1) B ⟨wr_lit (by decide) (by decide), wr_lit (by decide) (by decide), wB⟩ ⟨wr_lit (by decide) (by decide), wr_lit (by decide) (by decide), by rw [show (-1 : Int) * -1 * B = B by omega]; exact wB⟩
      have TH := wt3 1 1 B ⟨wr_lit (by decide) (by decide), wr_lit (by decide) (by decide), wB⟩ ⟨wr_lit (by decide) (by decide), wr_lit (by decide) (by decide), by rw [show (1 : Int) * 1 * B = B by omega]; exact wB⟩
      rw [show (-1 : Int) * -1 * B = B by omega] at TL
      rw [show (1 : Int) * 1 * B = B by omega] at TH
      have cm : cmpI A B < 0 := cmp_lt (by have := nr.2; omega)
      have im1 : i64 (-1) := by decide
      have i1 := i64_1
      cases yn : (n == 0)
      · cases yx : (x0 == 0)
        all_goals
          repeat' (first
            | refine GW_seq ?_
            | simp only [List.length_cons, List.length_nil, Nat.reduceAdd, Nat.reduceMul, thenG_normal, thenG_ret, thenG_exit, thenG_goto, thenG_panic, blockG_normal, blockG_ret, blockG_goto, blockG_panic, jumpG_normal, jumpG_ret, jumpG_exit, jumpG_panic]
            | (refine GW_region' [35] (by kernel_rfl) ?_; intro Q hQ hP; simp [hC, hY, vv, h, wS, w1, b0, b1, b2, b3, b4, hr, ei, hn, hd, hg, hm, hir, hi4, sA, sB, hx0, cm, im1, i1, yn, yx]; (repeat (first | ((refine heapK_sl T9 (by simp) (by simp) (by omega) ?_ ?_; focus (simp; done)); try simp [hC, hY, vv, h, wS, w1, b0, b1, b2, b3, b4, hr, ei, hn, hd, hg, hm, hir, hi4, sA, sB, hx0, cm, im1, i1, yn, yx]) | ((refine heapK_sl T5 (by simp) (by simp) (by omega) ?_ ?_; focus (simp; done)); try simp [hC, hY, vv, h, wS, w1, b0, b1, b2, b3, b4, hr, ei, hn, hd, hg, hm, hir, hi4, sA, sB, hx0, cm, im1, i1, yn, yx]) | ((refine heapK_sl TL (by simp) (by simp) (by omega) ?_ ?_; focus (simp; done)); try simp [hC, hY, vv, h, wS, w1, b0, b1, b2, b3, b4, hr, ei, hn, hd, hg, hm, hir, hi4, sA, sB, hx0, cm, im1, i1, yn, yx]) | ((refine heapK_sl TH (by simp) (by simp) (by omega) ?_ ?_; focus (simp; done)); try simp [hC, hY, vv, h, wS, w1, b0, b1, b2, b3, b4, hr, ei, hn, hd, hg, hm, hir, hi4, sA, sB, hx0, cm, im1, i1, yn, yx]))); (first | refine hQ _ _ _ _ ?_ | refine hP _ _ (fun _ => ?_)); clear hQ hP Q)
            | (refine GW_draw' [35] follows (by kernel_rfl) (by kernel_rfl) ?_; intro Q hQ hP; simp [hC, hY, vv, h, wS, w1, b0, b1, b2, b3, b4, hr, ei, hn, hd, hg, hm, hir, hi4, sA, sB, hx0, cm, im1, i1, yn, yx]; (repeat (first | ((refine heapK_sl T9 (by simp) (by simp) (by omega) ?_ ?_; focus (simp; done)); try simp [hC, hY, vv, h, wS, w1, b0, b1, b2, b3, b4, hr, ei, hn, hd, hg, hm, hir, hi4, sA, sB, hx0, cm, im1, i1, yn, yx]) | ((refine heapK_sl T5 (by simp) (by simp) (by omega) ?_ ?_; focus (simp; done)); try simp [hC, hY, vv, h, wS, w1, b0, b1, b2, b3, b4, hr, ei, hn, hd, hg, hm, hir, hi4, sA, sB, hx0, cm, im1, i1, yn, yx]) | ((refine heapK_sl TL (by simp) (by simp) (by omega) ?_ ?_; focus (simp; done)); try simp [hC, hY, vv, h, wS, w1, b0, b1, b2, b3, b4, hr, ei, hn, hd, hg, hm, hir, hi4, sA, sB, hx0, cm, im1, i1, yn, yx]) | ((refine heapK_sl TH (by simp) (by simp) (by omega) ?_ ?_; focus (simp; done)); try simp [hC, hY, vv, h, wS, w1, b0, b1, b2, b3, b4, hr, ei, hn, hd, hg, hm, hir, hi4, sA, sB, hx0, cm, im1, i1, yn, yx]))); (first | refine hQ _ _ _ _ (by kernel_rfl) ?_ | refine hP _ _ (by kernel_rfl) (fun _ => ?_)); clear hQ hP Q)
            | refine GW_block ?_
            | refine GW_ret ?_
            | refine GW_skip ?_
            | refine GW_exit ?_
            | refine GW_goto ?_
            | refine GW_label ?_
            | simp only [blockG_exit]
            | (refine GW_cond (by simp; rfl) ?_ ?_ <;> (intro hb; first | (exfalso; exact absurd hb (by decide)) | skip)))
        all_goals
          refine ⟨.inr trivial, ?_⟩
          simp [Tryd.results7]
      · skip
        repeat' (first
          | refine GW_seq ?_
          | simp only [List.length_cons, List.length_nil, Nat.reduceAdd, Nat.reduceMul, thenG_normal, thenG_ret, thenG_exit, thenG_goto, thenG_panic, blockG_normal, blockG_ret, blockG_goto, blockG_panic, jumpG_normal, jumpG_ret, jumpG_exit, jumpG_panic]
          | (refine GW_region' [35] (by kernel_rfl) ?_; intro Q hQ hP; simp [hC, hY, vv, h, wS, w1, b0, b1, b2, b3, b4, hr, ei, hn, hd, hg, hm, hir, hi4, sA, sB, hx0, cm, im1, i1, yn]; (repeat (first | ((refine heapK_sl T9 (by simp) (by simp) (by omega) ?_ ?_; focus (simp; done)); try simp [hC, hY, vv, h, wS, w1, b0, b1, b2, b3, b4, hr, ei, hn, hd, hg, hm, hir, hi4, sA, sB, hx0, cm, im1, i1, yn]) | ((refine heapK_sl T5 (by simp) (by simp) (by omega) ?_ ?_; focus (simp; done)); try simp [hC, hY, vv, h, wS, w1, b0, b1, b2, b3, b4, hr, ei, hn, hd, hg, hm, hir, hi4, sA, sB, hx0, cm, im1, i1, yn]) | ((refine heapK_sl TL (by simp) (by simp) (by omega) ?_ ?_; focus (simp; done)); try simp [hC, hY, vv, h, wS, w1, b0, b1, b2, b3, b4, hr, ei, hn, hd, hg, hm, hir, hi4, sA, sB, hx0, cm, im1, i1, yn]) | ((refine heapK_sl TH (by simp) (by simp) (by omega) ?_ ?_; focus (simp; done)); try simp [hC, hY, vv, h, wS, w1, b0, b1, b2, b3, b4, hr, ei, hn, hd, hg, hm, hir, hi4, sA, sB, hx0, cm, im1, i1, yn]))); (first | refine hQ _ _ _ _ ?_ | refine hP _ _ (fun _ => ?_)); clear hQ hP Q)
          | (refine GW_draw' [35] follows (by kernel_rfl) (by kernel_rfl) ?_; intro Q hQ hP; simp [hC, hY, vv, h, wS, w1, b0, b1, b2, b3, b4, hr, ei, hn, hd, hg, hm, hir, hi4, sA, sB, hx0, cm, im1, i1, yn]; (repeat (first | ((refine heapK_sl T9 (by simp) (by simp) (by omega) ?_ ?_; focus (simp; done)); try simp [hC, hY, vv, h, wS, w1, b0, b1, b2, b3, b4, hr, ei, hn, hd, hg, hm, hir, hi4, sA, sB, hx0, cm, im1, i1, yn]) | ((refine heapK_sl T5 (by simp) (by simp) (by omega) ?_ ?_; focus (simp; done)); try simp [hC, hY, vv, h, wS, w1, b0, b1, b2, b3, b4, hr, ei, hn, hd, hg, hm, hir, hi4, sA, sB, hx0, cm, im1, i1, yn]) | ((refine heapK_sl TL (by simp) (by simp) (by omega) ?_ ?_; focus (simp; done)); try simp [hC, hY, vv, h, wS, w1, b0, b1, b2, b3, b4, hr, ei, hn, hd, hg, hm, hir, hi4, sA, sB, hx0, cm, im1, i1, yn]) | ((refine heapK_sl TH (by simp) (by simp) (by omega) ?_ ?_; focus (simp; done)); try simp [hC, hY, vv, h, wS, w1, b0, b1, b2, b3, b4, hr, ei, hn, hd, hg, hm, hir, hi4, sA, sB, hx0, cm, im1, i1, yn]))); (first | refine hQ _ _ _ _ (by kernel_rfl) ?_ | refine hP _ _ (by kernel_rfl) (fun _ => ?_)); clear hQ hP Q)
          | refine GW_block ?_
          | refine GW_ret ?_
          | refine GW_skip ?_
          | refine GW_exit ?_
          | refine GW_goto ?_
          | refine GW_label ?_
          | simp only [blockG_exit]
          | (refine GW_cond (by simp; rfl) ?_ ?_ <;> (intro hb; first | (exfalso; exact absurd hb (by decide)) | skip)))
        refine ⟨.inr trivial, ?_⟩
        simp [Tryd.results7]
    · have hKu := hmg.2
      have c1 : Int.bmod (2 * K) 18446744073709551616 = 2 * K := bm (by omega) (by omega)
      have c2 : Int.bmod (2 * K - 1) 18446744073709551616 = 2 * K - 1 := bm (by omega) (by omega)
      have c3 : Int.bmod (2 * K + 1) 18446744073709551616 = 2 * K + 1 := bm (by omega) (by omega)
      have c4 : Int.bmod (-K) 18446744073709551616 = -K := bm (by omega) (by omega)
      have c5 : Int.bmod K 18446744073709551616 = K := bm (by omega) (by omega)
      have i1 : i64 (2 * K - 1) := ⟨by omega, by omega⟩
      have i2 : i64 (2 * K + 1) := ⟨by omega, by omega⟩
      have a1 := absmul (a := 2 * K - 1) (b := 2 * K - 1) (p := 9007199254740993) (q := 9007199254740993) (by omega) (by omega) (by omega) (by omega)
      have a2 := absmul (a := 2 * K + 1) (b := 2 * K + 1) (p := 9007199254740993) (q := 9007199254740993) (by omega) (by omega) (by omega) (by omega)
      have lo := nr.1 hKp
      have L0 : 0 ≤ (2 * K - 1) * (2 * K - 1) * B := Int.mul_nonneg (sq_nonneg _) (by omega)
      have wL : wr ((2 * K - 1) * (2 * K - 1) * B) := ⟨by omega, by have := wA.2; omega⟩
      have TL := wt3 (2 * K - 1) (2 * K - 1) B ⟨i64_wr i1, i64_wr i1, wB⟩ ⟨i64_wr i1, ⟨by omega, by omega⟩, wL⟩
      have hi := nr.2
      obtain ⟨L, hL⟩ : ∃ l, (2 * K - 1) * (2 * K - 1) * B = l := ⟨_, rfl⟩
      rw [hL] at TL wL lo
      have sL := wr_sz wL
      have cl := cmp_not_gt lo
      have m1 : ¬ K < -K := by omega
      have m2 : -K < K := by omega
      have k1 : ¬ 1152921504606846976 < K := by omega
      have k2 : ¬ K < -1152921504606846976 := by omega
      have k3 : ¬ 1152921504606846976 < -K := by omega
      have k4 : ¬ -K < -1152921504606846976 := by omega
      have k5 : (K != 0) = true := by simp; omega
      have k6 : (-K != 0) = true := by simp; omega
      have k7 : ¬ 0 < -K := by omega
      have k8 : ¬ K < 0 := by omega
      rcases pc with ⟨g1, g2, g3⟩ | ⟨g1, g2, g3⟩ | ⟨g1, g2, g3⟩ | ⟨g1, g2, g3⟩
      all_goals
        replace g3 := g3.symm
        subst g3
        have yn : (n == 0) = false := by simp; omega
        have yx : (x0 == 0) = false := by simp; omega
      · replace g1 : (0 < n) = True := eq_true g1
        replace g2 : (0 < x0) = True := eq_true g2
        repeat' (first
          | refine GW_seq ?_
          | simp only [List.length_cons, List.length_nil, Nat.reduceAdd, Nat.reduceMul, thenG_normal, thenG_ret, thenG_exit, thenG_goto, thenG_panic, blockG_normal, blockG_ret, blockG_goto, blockG_panic, jumpG_normal, jumpG_ret, jumpG_exit, jumpG_panic]
          | (refine GW_region' [35] (by kernel_rfl) ?_; intro Q hQ hP; simp [hC, hY, vv, h, wS, w1, b0, b1, b2, b3, b4, hr, ei, hn, hd, hg, hm, hir, hi4, sA, sB, hx0, g1, g2, yn, yx, c1, c2, c3, c4, c5, i1, i2, sL, cl, m1, m2, k1, k2, k3, k4, k5, k6, k7, k8, hKp]; (repeat (first | ((refine heapK_sl T9 (by simp) (by simp) (by omega) ?_ ?_; focus (simp; done)); try simp [hC, hY, vv, h, wS, w1, b0, b1, b2, b3, b4, hr, ei, hn, hd, hg, hm, hir, hi4, sA, sB, hx0, g1, g2, yn, yx, c1, c2, c3, c4, c5, i1, i2, sL, cl, m1, m2, k1, k2, k3, k4, k5, k6, k7, k8, hKp]) | ((refine heapK_sl T5 (by simp) (by simp) (by omega) ?_ ?_; focus (simp; done)); try simp [hC, hY, vv, h, wS, w1, b0, b1, b2, b3, b4, hr, ei, hn, hd, hg, hm, hir, hi4, sA, sB, hx0, g1, g2, yn, yx, c1, c2, c3, c4, c5, i1, i2, sL, cl, m1, m2, k1, k2, k3, k4, k5, k6, k7, k8, hKp]) | ((refine heapK_sl TL (by simp) (by simp) (by omega) ?_ ?_; focus (simp; done)); try simp [hC, hY, vv, h, wS, w1, b0, b1, b2, b3, b4, hr, ei, hn, hd, hg, hm, hir, hi4, sA, sB, hx0, g1, g2, yn, yx, c1, c2, c3, c4, c5, i1, i2, sL, cl, m1, m2, k1, k2, k3, k4, k5, k6, k7, k8, hKp]))); (first | refine hQ _ _ _ _ ?_ | refine hP _ _ (fun _ => ?_)); clear hQ hP Q)
          | (refine GW_draw' [35] follows (by kernel_rfl) (by kernel_rfl) ?_; intro Q hQ hP; simp [hC, hY, vv, h, wS, w1, b0, b1, b2, b3, b4, hr, ei, hn, hd, hg, hm, hir, hi4, sA, sB, hx0, g1, g2, yn, yx, c1, c2, c3, c4, c5, i1, i2, sL, cl, m1, m2, k1, k2, k3, k4, k5, k6, k7, k8, hKp]; (repeat (first | ((refine heapK_sl T9 (by simp) (by simp) (by omega) ?_ ?_; focus (simp; done)); try simp [hC, hY, vv, h, wS, w1, b0, b1, b2, b3, b4, hr, ei, hn, hd, hg, hm, hir, hi4, sA, sB, hx0, g1, g2, yn, yx, c1, c2, c3, c4, c5, i1, i2, sL, cl, m1, m2, k1, k2, k3, k4, k5, k6, k7, k8, hKp]) | ((refine heapK_sl T5 (by simp) (by simp) (by omega) ?_ ?_; focus (simp; done)); try simp [hC, hY, vv, h, wS, w1, b0, b1, b2, b3, b4, hr, ei, hn, hd, hg, hm, hir, hi4, sA, sB, hx0, g1, g2, yn, yx, c1, c2, c3, c4, c5, i1, i2, sL, cl, m1, m2, k1, k2, k3, k4, k5, k6, k7, k8, hKp]) | ((refine heapK_sl TL (by simp) (by simp) (by omega) ?_ ?_; focus (simp; done)); try simp [hC, hY, vv, h, wS, w1, b0, b1, b2, b3, b4, hr, ei, hn, hd, hg, hm, hir, hi4, sA, sB, hx0, g1, g2, yn, yx, c1, c2, c3, c4, c5, i1, i2, sL, cl, m1, m2, k1, k2, k3, k4, k5, k6, k7, k8, hKp]))); (first | refine hQ _ _ _ _ (by kernel_rfl) ?_ | refine hP _ _ (by kernel_rfl) (fun _ => ?_)); clear hQ hP Q)
          | refine GW_block ?_
          | refine GW_ret ?_
          | refine GW_skip ?_
          | refine GW_exit ?_
          | refine GW_goto ?_
          | refine GW_label ?_
          | simp only [blockG_exit]
          | (refine GW_cond (by simp; rfl) ?_ ?_ <;> (intro hb; first | (exfalso; exact absurd hb (by decide)) | skip)))
        by_cases ov : wr ((2 * K + 1) * (2 * K + 1) * B)
        · have TH := wt3 (2 * K + 1) (2 * K + 1) B ⟨i64_wr i2, i64_wr i2, wB⟩ ⟨i64_wr i2, ⟨by omega, by omega⟩, ov⟩
          obtain ⟨H, hH⟩ : ∃ l, (2 * K + 1) * (2 * K + 1) * B = l := ⟨_, rfl⟩
          rw [hH] at TH ov hi
          have sH := wr_sz ov
          have cm := cmp_lt hi
          repeat' (first
            | refine GW_seq ?_
            | simp only [List.length_cons, List.length_nil, Nat.reduceAdd, Nat.reduceMul, thenG_normal, thenG_ret, thenG_exit, thenG_goto, thenG_panic, blockG_normal, blockG_ret, blockG_goto, blockG_panic, jumpG_normal, jumpG_ret, jumpG_exit, jumpG_panic]
            | (refine GW_region' [35] (by kernel_rfl) ?_; intro Q hQ hP; simp [hC, hY, vv, h, wS, w1, b0, b1, b2, b3, b4, hr, ei, hn, hd, hg, hm, hir, hi4, sA, sB, hx0, g1, g2, yn, yx, c1, c2, c3, c4, c5, i1, i2, sL, cl, m1, m2, k1, k2, k3, k4, k5, k6, k7, k8, hKp, sH, cm]; (repeat (first | ((refine heapK_sl TH (by simp) (by simp) (by omega) ?_ ?_; focus (simp; done)); try simp [hC, hY, vv, h, wS, w1, b0, b1, b2, b3, b4, hr, ei, hn, hd, hg, hm, hir, hi4, sA, sB, hx0, g1, g2, yn, yx, c1, c2, c3, c4, c5, i1, i2, sL, cl, m1, m2, k1, k2, k3, k4, k5, k6, k7, k8, hKp, sH, cm]))); (first | refine hQ _ _ _ _ ?_ | refine hP _ _ (fun _ => ?_)); clear hQ hP Q)
            | (refine GW_draw' [35] follows (by kernel_rfl) (by kernel_rfl) ?_; intro Q hQ hP; simp [hC, hY, vv, h, wS, w1, b0, b1, b2, b3, b4, hr, ei, hn, hd, hg, hm, hir, hi4, sA, sB, hx0, g1, g2, yn, yx, c1, c2, c3, c4, c5, i1, i2, sL, cl, m1, m2, k1, k2, k3, k4, k5, k6, k7, k8, hKp, sH, cm]; (repeat (first | ((refine heapK_sl TH (by simp) (by simp) (by omega) ?_ ?_; focus (simp; done)); try simp [hC, hY, vv, h, wS, w1, b0, b1, b2, b3, b4, hr, ei, hn, hd, hg, hm, hir, hi4, sA, sB, hx0, g1, g2, yn, yx, c1, c2, c3, c4, c5, i1, i2, sL, cl, m1, m2, k1, k2, k3, k4, k5, k6, k7, k8, hKp, sH, cm]))); (first | refine hQ _ _ _ _ (by kernel_rfl) ?_ | refine hP _ _ (by kernel_rfl) (fun _ => ?_)); clear hQ hP Q)
            | refine GW_block ?_
            | refine GW_ret ?_
            | refine GW_skip ?_
            | refine GW_exit ?_
            | refine GW_goto ?_
            | refine GW_label ?_
            | simp only [blockG_exit]
            | (refine GW_cond (by simp; rfl) ?_ ?_ <;> (intro hb; first | (exfalso; exact absurd hb (by decide)) | skip)))
          refine ⟨.inr trivial, ?_⟩
          simp [Tryd.results7]
        · have TH := wt3_over (2 * K + 1) (2 * K + 1) B ⟨i64_wr i2, i64_wr i2, wB⟩ ⟨i64_wr i2, ⟨by omega, by omega⟩, ov⟩
          obtain ⟨H, hH⟩ : ∃ l, (2 * K + 1) * (2 * K + 1) * B = l := ⟨_, rfl⟩
          rw [hH] at TH
          repeat' (first
            | refine GW_seq ?_
            | simp only [List.length_cons, List.length_nil, Nat.reduceAdd, Nat.reduceMul, thenG_normal, thenG_ret, thenG_exit, thenG_goto, thenG_panic, blockG_normal, blockG_ret, blockG_goto, blockG_panic, jumpG_normal, jumpG_ret, jumpG_exit, jumpG_panic]
            | (refine GW_region' [35] (by kernel_rfl) ?_; intro Q hQ hP; simp [hC, hY, vv, h, wS, w1, b0, b1, b2, b3, b4, hr, ei, hn, hd, hg, hm, hir, hi4, sA, sB, hx0, g1, g2, yn, yx, c1, c2, c3, c4, c5, i1, i2, sL, cl, m1, m2, k1, k2, k3, k4, k5, k6, k7, k8, hKp]; (repeat (first | ((refine heapK_sl TH (by simp) (by simp) (by omega) ?_ ?_; focus (simp; done)); try simp [hC, hY, vv, h, wS, w1, b0, b1, b2, b3, b4, hr, ei, hn, hd, hg, hm, hir, hi4, sA, sB, hx0, g1, g2, yn, yx, c1, c2, c3, c4, c5, i1, i2, sL, cl, m1, m2, k1, k2, k3, k4, k5, k6, k7, k8, hKp]))); (first | refine hQ _ _ _ _ ?_ | refine hP _ _ (fun _ => ?_)); clear hQ hP Q)
            | (refine GW_draw' [35] follows (by kernel_rfl) (by kernel_rfl) ?_; intro Q hQ hP; simp [hC, hY, vv, h, wS, w1, b0, b1, b2, b3, b4, hr, ei, hn, hd, hg, hm, hir, hi4, sA, sB, hx0, g1, g2, yn, yx, c1, c2, c3, c4, c5, i1, i2, sL, cl, m1, m2, k1, k2, k3, k4, k5, k6, k7, k8, hKp]; (repeat (first | ((refine heapK_sl TH (by simp) (by simp) (by omega) ?_ ?_; focus (simp; done)); try simp [hC, hY, vv, h, wS, w1, b0, b1, b2, b3, b4, hr, ei, hn, hd, hg, hm, hir, hi4, sA, sB, hx0, g1, g2, yn, yx, c1, c2, c3, c4, c5, i1, i2, sL, cl, m1, m2, k1, k2, k3, k4, k5, k6, k7, k8, hKp]))); (first | refine hQ _ _ _ _ (by kernel_rfl) ?_ | refine hP _ _ (by kernel_rfl) (fun _ => ?_)); clear hQ hP Q)
            | refine GW_block ?_
            | refine GW_ret ?_
            | refine GW_skip ?_
            | refine GW_exit ?_
            | refine GW_goto ?_
            | refine GW_label ?_
            | simp only [blockG_exit]
            | (refine GW_cond (by simp; rfl) ?_ ?_ <;> (intro hb; first | (exfalso; exact absurd hb (by decide)) | skip)))
          refine ⟨.inr trivial, ?_⟩
          simp [Tryd.results7]
      · replace g1 : (0 < n) = False := eq_false (by omega)
        replace g2 : (0 < x0) = False := eq_false (by omega)
        repeat' (first
          | refine GW_seq ?_
          | simp only [List.length_cons, List.length_nil, Nat.reduceAdd, Nat.reduceMul, thenG_normal, thenG_ret, thenG_exit, thenG_goto, thenG_panic, blockG_normal, blockG_ret, blockG_goto, blockG_panic, jumpG_normal, jumpG_ret, jumpG_exit, jumpG_panic]
          | (refine GW_region' [35] (by kernel_rfl) ?_; intro Q hQ hP; simp [hC, hY, vv, h, wS, w1, b0, b1, b2, b3, b4, hr, ei, hn, hd, hg, hm, hir, hi4, sA, sB, hx0, g1, g2, yn, yx, c1, c2, c3, c4, c5, i1, i2, sL, cl, m1, m2, k1, k2, k3, k4, k5, k6, k7, k8, hKp]; (repeat (first | ((refine heapK_sl T9 (by simp) (by simp) (by omega) ?_ ?_; focus (simp; done)); try simp [hC, hY, vv, h, wS, w1, b0, b1, b2, b3, b4, hr, ei, hn, hd, hg, hm, hir, hi4, sA, sB, hx0, g1, g2, yn, yx, c1, c2, c3, c4, c5, i1, i2, sL, cl, m1, m2, k1, k2, k3, k4, k5, k6, k7, k8, hKp]) | ((refine heapK_sl T5 (by simp) (by simp) (by omega) ?_ ?_; focus (simp; done)); try simp [hC, hY, vv, h, wS, w1, b0, b1, b2, b3, b4, hr, ei, hn, hd, hg, hm, hir, hi4, sA, sB, hx0, g1, g2, yn, yx, c1, c2, c3, c4, c5, i1, i2, sL, cl, m1, m2, k1, k2, k3, k4, k5, k6, k7, k8, hKp]) | ((refine heapK_sl TL (by simp) (by simp) (by omega) ?_ ?_; focus (simp; done)); try simp [hC, hY, vv, h, wS, w1, b0, b1, b2, b3, b4, hr, ei, hn, hd, hg, hm, hir, hi4, sA, sB, hx0, g1, g2, yn, yx, c1, c2, c3, c4, c5, i1, i2, sL, cl, m1, m2, k1, k2, k3, k4, k5, k6, k7, k8, hKp]))); (first | refine hQ _ _ _ _ ?_ | refine hP _ _ (fun _ => ?_)); clear hQ hP Q)
          | (refine GW_draw' [35] follows (by kernel_rfl) (by kernel_rfl) ?_; intro Q hQ hP; simp [hC, hY, vv, h, wS, w1, b0, b1, b2, b3, b4, hr, ei, hn, hd, hg, hm, hir, hi4, sA, sB, hx0, g1, g2, yn, yx, c1, c2, c3, c4, c5, i1, i2, sL, cl, m1, m2, k1, k2, k3, k4, k5, k6, k7, k8, hKp]; (repeat (first | ((refine heapK_sl T9 (by simp) (by simp) (by omega) ?_ ?_; focus (simp; done)); try simp [hC, hY, vv, h, wS, w1, b0, b1, b2, b3, b4, hr, ei, hn, hd, hg, hm, hir, hi4, sA, sB, hx0, g1, g2, yn, yx, c1, c2, c3, c4, c5, i1, i2, sL, cl, m1, m2, k1, k2, k3, k4, k5, k6, k7, k8, hKp]) | ((refine heapK_sl T5 (by simp) (by simp) (by omega) ?_ ?_; focus (simp; done)); try simp [hC, hY, vv, h, wS, w1, b0, b1, b2, b3, b4, hr, ei, hn, hd, hg, hm, hir, hi4, sA, sB, hx0, g1, g2, yn, yx, c1, c2, c3, c4, c5, i1, i2, sL, cl, m1, m2, k1, k2, k3, k4, k5, k6, k7, k8, hKp]) | ((refine heapK_sl TL (by simp) (by simp) (by omega) ?_ ?_; focus (simp; done)); try simp [hC, hY, vv, h, wS, w1, b0, b1, b2, b3, b4, hr, ei, hn, hd, hg, hm, hir, hi4, sA, sB, hx0, g1, g2, yn, yx, c1, c2, c3, c4, c5, i1, i2, sL, cl, m1, m2, k1, k2, k3, k4, k5, k6, k7, k8, hKp]))); (first | refine hQ _ _ _ _ (by kernel_rfl) ?_ | refine hP _ _ (by kernel_rfl) (fun _ => ?_)); clear hQ hP Q)
          | refine GW_block ?_
          | refine GW_ret ?_
          | refine GW_skip ?_
          | refine GW_exit ?_
          | refine GW_goto ?_
          | refine GW_label ?_
          | simp only [blockG_exit]
          | (refine GW_cond (by simp; rfl) ?_ ?_ <;> (intro hb; first | (exfalso; exact absurd hb (by decide)) | skip)))
        by_cases ov : wr ((2 * K + 1) * (2 * K + 1) * B)
        · have TH := wt3 (2 * K + 1) (2 * K + 1) B ⟨i64_wr i2, i64_wr i2, wB⟩ ⟨i64_wr i2, ⟨by omega, by omega⟩, ov⟩
          obtain ⟨H, hH⟩ : ∃ l, (2 * K + 1) * (2 * K + 1) * B = l := ⟨_, rfl⟩
          rw [hH] at TH ov hi
          have sH := wr_sz ov
          have cm := cmp_lt hi
          repeat' (first
            | refine GW_seq ?_
            | simp only [List.length_cons, List.length_nil, Nat.reduceAdd, Nat.reduceMul, thenG_normal, thenG_ret, thenG_exit, thenG_goto, thenG_panic, blockG_normal, blockG_ret, blockG_goto, blockG_panic, jumpG_normal, jumpG_ret, jumpG_exit, jumpG_panic]
            | (refine GW_region' [35] (by kernel_rfl) ?_; intro Q hQ hP; simp [hC, hY, vv, h, wS, w1, b0, b1, b2, b3, b4, hr, ei, hn, hd, hg, hm, hir, hi4, sA, sB, hx0, g1, g2, yn, yx, c1, c2, c3, c4, c5, i1, i2, sL, cl, m1, m2, k1, k2, k3, k4, k5, k6, k7, k8, hKp, sH, cm]; (repeat (first | ((refine heapK_sl TH (by simp) (by simp) (by omega) ?_ ?_; focus (simp; done)); try simp [hC, hY, vv, h, wS, w1, b0, b1, b2, b3, b4, hr, ei, hn, hd, hg, hm, hir, hi4, sA, sB, hx0, g1, g2, yn, yx, c1, c2, c3, c4, c5, i1, i2, sL, cl, m1, m2, k1, k2, k3, k4, k5, k6, k7, k8, hKp, sH, cm]))); (first | refine hQ _ _ _ _ ?_ | refine hP _ _ (fun _ => ?_)); clear hQ hP Q)
            | (refine GW_draw' [35] follows (by kernel_rfl) (by kernel_rfl) ?_; intro Q hQ hP; simp [hC, hY, vv, h, wS, w1, b0, b1, b2, b3, b4, hr, ei, hn, hd, hg, hm, hir, hi4, sA, sB, hx0, g1, g2, yn, yx, c1, c2, c3, c4, c5, i1, i2, sL, cl, m1, m2, k1, k2, k3, k4, k5, k6, k7, k8, hKp, sH, cm]; (repeat (first | ((refine heapK_sl TH (by simp) (by simp) (by omega) ?_ ?_; focus (simp; done)); try simp [hC, hY, vv, h, wS, w1, b0, b1, b2, b3, b4, hr, ei, hn, hd, hg, hm, hir, hi4, sA, sB, hx0, g1, g2, yn, yx, c1, c2, c3, c4, c5, i1, i2, sL, cl, m1, m2, k1, k2, k3, k4, k5, k6, k7, k8, hKp, sH, cm]))); (first | refine hQ _ _ _ _ (by kernel_rfl) ?_ | refine hP _ _ (by kernel_rfl) (fun _ => ?_)); clear hQ hP Q)
            | refine GW_block ?_
            | refine GW_ret ?_
            | refine GW_skip ?_
            | refine GW_exit ?_
            | refine GW_goto ?_
            | refine GW_label ?_
            | simp only [blockG_exit]
            | (refine GW_cond (by simp; rfl) ?_ ?_ <;> (intro hb; first | (exfalso; exact absurd hb (by decide)) | skip)))
          refine ⟨.inr trivial, ?_⟩
          simp [Tryd.results7]
        · have TH := wt3_over (2 * K + 1) (2 * K + 1) B ⟨i64_wr i2, i64_wr i2, wB⟩ ⟨i64_wr i2, ⟨by omega, by omega⟩, ov⟩
          obtain ⟨H, hH⟩ : ∃ l, (2 * K + 1) * (2 * K + 1) * B = l := ⟨_, rfl⟩
          rw [hH] at TH
          repeat' (first
            | refine GW_seq ?_
            | simp only [List.length_cons, List.length_nil, Nat.reduceAdd, Nat.reduceMul, thenG_normal, thenG_ret, thenG_exit, thenG_goto, thenG_panic, blockG_normal, blockG_ret, blockG_goto, blockG_panic, jumpG_normal, jumpG_ret, jumpG_exit, jumpG_panic]
            | (refine GW_region' [35] (by kernel_rfl) ?_; intro Q hQ hP; simp [hC, hY, vv, h, wS, w1, b0, b1, b2, b3, b4, hr, ei, hn, hd, hg, hm, hir, hi4, sA, sB, hx0, g1, g2, yn, yx, c1, c2, c3, c4, c5, i1, i2, sL, cl, m1, m2, k1, k2, k3, k4, k5, k6, k7, k8, hKp]; (repeat (first | ((refine heapK_sl TH (by simp) (by simp) (by omega) ?_ ?_; focus (simp; done)); try simp [hC, hY, vv, h, wS, w1, b0, b1, b2, b3, b4, hr, ei, hn, hd, hg, hm, hir, hi4, sA, sB, hx0, g1, g2, yn, yx, c1, c2, c3, c4, c5, i1, i2, sL, cl, m1, m2, k1, k2, k3, k4, k5, k6, k7, k8, hKp]))); (first | refine hQ _ _ _ _ ?_ | refine hP _ _ (fun _ => ?_)); clear hQ hP Q)
            | (refine GW_draw' [35] follows (by kernel_rfl) (by kernel_rfl) ?_; intro Q hQ hP; simp [hC, hY, vv, h, wS, w1, b0, b1, b2, b3, b4, hr, ei, hn, hd, hg, hm, hir, hi4, sA, sB, hx0, g1, g2, yn, yx, c1, c2, c3, c4, c5, i1, i2, sL, cl, m1, m2, k1, k2, k3, k4, k5, k6, k7, k8, hKp]; (repeat (first | ((refine heapK_sl TH (by simp) (by simp) (by omega) ?_ ?_; focus (simp; done)); try simp [hC, hY, vv, h, wS, w1, b0, b1, b2, b3, b4, hr, ei, hn, hd, hg, hm, hir, hi4, sA, sB, hx0, g1, g2, yn, yx, c1, c2, c3, c4, c5, i1, i2, sL, cl, m1, m2, k1, k2, k3, k4, k5, k6, k7, k8, hKp]))); (first | refine hQ _ _ _ _ (by kernel_rfl) ?_ | refine hP _ _ (by kernel_rfl) (fun _ => ?_)); clear hQ hP Q)
            | refine GW_block ?_
            | refine GW_ret ?_
            | refine GW_skip ?_
            | refine GW_exit ?_
            | refine GW_goto ?_
            | refine GW_label ?_
            | simp only [blockG_exit]
            | (refine GW_cond (by simp; rfl) ?_ ?_ <;> (intro hb; first | (exfalso; exact absurd hb (by decide)) | skip)))
          refine ⟨.inr trivial, ?_⟩
          simp [Tryd.results7]
      · replace g1 : (0 < n) = True := eq_true g1
        replace g2 : (0 < x0) = False := eq_false (by omega)
        repeat' (first
          | refine GW_seq ?_
          | simp only [List.length_cons, List.length_nil, Nat.reduceAdd, Nat.reduceMul, thenG_normal, thenG_ret, thenG_exit, thenG_goto, thenG_panic, blockG_normal, blockG_ret, blockG_goto, blockG_panic, jumpG_normal, jumpG_ret, jumpG_exit, jumpG_panic]
          | (refine GW_region' [35] (by kernel_rfl) ?_; intro Q hQ hP; simp [hC, hY, vv, h, wS, w1, b0, b1, b2, b3, b4, hr, ei, hn, hd, hg, hm, hir, hi4, sA, sB, hx0, g1, g2, yn, yx, c1, c2, c3, c4, c5, i1, i2, sL, cl, m1, m2, k1, k2, k3, k4, k5, k6, k7, k8, hKp]; (repeat (first | ((refine heapK_sl T9 (by simp) (by simp) (by omega) ?_ ?_; focus (simp; done)); try simp [hC, hY, vv, h, wS, w1, b0, b1, b2, b3, b4, hr, ei, hn, hd, hg, hm, hir, hi4, sA, sB, hx0, g1, g2, yn, yx, c1, c2, c3, c4, c5, i1, i2, sL, cl, m1, m2, k1, k2, k3, k4, k5, k6, k7, k8, hKp]) | ((refine heapK_sl T5 (by simp) (by simp) (by omega) ?_ ?_; focus (simp; done)); try simp [hC, hY, vv, h, wS, w1, b0, b1, b2, b3, b4, hr, ei, hn, hd, hg, hm, hir, hi4, sA, sB, hx0, g1, g2, yn, yx, c1, c2, c3, c4, c5, i1, i2, sL, cl, m1, m2, k1, k2, k3, k4, k5, k6, k7, k8, hKp]) | ((refine heapK_sl TL (by simp) (by simp) (by omega) ?_ ?_; focus (simp; done)); try simp [hC, hY, vv, h, wS, w1, b0, b1, b2, b3, b4, hr, ei, hn, hd, hg, hm, hir, hi4, sA, sB, hx0, g1, g2, yn, yx, c1, c2, c3, c4, c5, i1, i2, sL, cl, m1, m2, k1, k2, k3, k4, k5, k6, k7, k8, hKp]))); (first | refine hQ _ _ _ _ ?_ | refine hP _ _ (fun _ => ?_)); clear hQ hP Q)
          | (refine GW_draw' [35] follows (by kernel_rfl) (by kernel_rfl) ?_; intro Q hQ hP; simp [hC, hY, vv, h, wS, w1, b0, b1, b2, b3, b4, hr, ei, hn, hd, hg, hm, hir, hi4, sA, sB, hx0, g1, g2, yn, yx, c1, c2, c3, c4, c5, i1, i2, sL, cl, m1, m2, k1, k2, k3, k4, k5, k6, k7, k8, hKp]; (repeat (first | ((refine heapK_sl T9 (by simp) (by simp) (by omega) ?_ ?_; focus (simp; done)); try simp [hC, hY, vv, h, wS, w1, b0, b1, b2, b3, b4, hr, ei, hn, hd, hg, hm, hir, hi4, sA, sB, hx0, g1, g2, yn, yx, c1, c2, c3, c4, c5, i1, i2, sL, cl, m1, m2, k1, k2, k3, k4, k5, k6, k7, k8, hKp]) | ((refine heapK_sl T5 (by simp) (by simp) (by omega) ?_ ?_; focus (simp; done)); try simp [hC, hY, vv, h, wS, w1, b0, b1, b2, b3, b4, hr, ei, hn, hd, hg, hm, hir, hi4, sA, sB, hx0, g1, g2, yn, yx, c1, c2, c3, c4, c5, i1, i2, sL, cl, m1, m2, k1, k2, k3, k4, k5, k6, k7, k8, hKp]) | ((refine heapK_sl TL (by simp) (by simp) (by omega) ?_ ?_; focus (simp; done)); try simp [hC, hY, vv, h, wS, w1, b0, b1, b2, b3, b4, hr, ei, hn, hd, hg, hm, hir, hi4, sA, sB, hx0, g1, g2, yn, yx, c1, c2, c3, c4, c5, i1, i2, sL, cl, m1, m2, k1, k2, k3, k4, k5, k6, k7, k8, hKp]))); (first | refine hQ _ _ _ _ (by kernel_rfl) ?_ | refine hP _ _ (by kernel_rfl) (fun _ => ?_)); clear hQ hP Q)
          | refine GW_block ?_
          | refine GW_ret ?_
          | refine GW_skip ?_
          | refine GW_exit ?_
          | refine GW_goto ?_
          | refine GW_label ?_
          | simp only [blockG_exit]
          | (refine GW_cond (by simp; rfl) ?_ ?_ <;> (intro hb; first | (exfalso; exact absurd hb (by decide)) | skip)))
        by_cases ov : wr ((2 * K + 1) * (2 * K + 1) * B)
        · have TH := wt3 (2 * K + 1) (2 * K + 1) B ⟨i64_wr i2, i64_wr i2, wB⟩ ⟨i64_wr i2, ⟨by omega, by omega⟩, ov⟩
          obtain ⟨H, hH⟩ : ∃ l, (2 * K + 1) * (2 * K + 1) * B = l := ⟨_, rfl⟩
          rw [hH] at TH ov hi
          have sH := wr_sz ov
          have cm := cmp_lt hi
          repeat' (first
            | refine GW_seq ?_
            | simp only [List.length_cons, List.length_nil, Nat.reduceAdd, Nat.reduceMul, thenG_normal, thenG_ret, thenG_exit, thenG_goto, thenG_panic, blockG_normal, blockG_ret, blockG_goto, blockG_panic, jumpG_normal, jumpG_ret, jumpG_exit, jumpG_panic]
            | (refine GW_region' [35] (by kernel_rfl) ?_; intro Q hQ hP; simp [hC, hY, vv, h, wS, w1, b0, b1, b2, b3, b4, hr, ei, hn, hd, hg, hm, hir, hi4, sA, sB, hx0, g1, g2, yn, yx, c1, c2, c3, c4, c5, i1, i2, sL, cl, m1, m2, k1, k2, k3, k4, k5, k6, k7, k8, hKp, sH, cm]; (repeat (first | ((refine heapK_sl TH (by simp) (by simp) (by omega) ?_ ?_; focus (simp; done)); try simp [hC, hY, vv, h, wS, w1, b0, b1, b2, b3, b4, hr, ei, hn, hd, hg, hm, hir, hi4, sA, sB, hx0, g1, g2, yn, yx, c1, c2, c3, c4, c5, i1, i2, sL, cl, m1, m2, k1, k2, k3, k4, k5, k6, k7, k8, hKp, sH, cm]))); (first | refine hQ _ _ _ _ ?_ | refine hP _ _ (fun _ => ?_)); clear hQ hP Q)
            | (refine GW_draw' [35] follows (by kernel_rfl) (by kernel_rfl) ?_; intro Q hQ hP; simp [hC, hY, vv, h, wS, w1, b0, b1, b2, b3, b4, hr, ei, hn, hd, hg, hm, hir, hi4, sA, sB, hx0, g1, g2, yn, yx, c1, c2, c3, c4, c5, i1, i2, sL, cl, m1, m2, k1, k2, k3, k4, k5, k6, k7, k8, hKp, sH, cm]; (repeat (first | ((refine heapK_sl TH (by simp) (by simp) (by omega) ?_ ?_; focus (simp; done)); try simp [hC, hY, vv, h, wS, w1, b0, b1, b2, b3, b4, hr, ei, hn, hd, hg, hm, hir, hi4, sA, sB, hx0, g1, g2, yn, yx, c1, c2, c3, c4, c5, i1, i2, sL, cl, m1, m2, k1, k2, k3, k4, k5, k6, k7, k8, hKp, sH, cm]))); (first | refine hQ _ _ _ _ (by kernel_rfl) ?_ | refine hP _ _ (by kernel_rfl) (fun _ => ?_)); clear hQ hP Q)
            | refine GW_block ?_
            | refine GW_ret ?_
            | refine GW_skip ?_
            | refine GW_exit ?_
            | refine GW_goto ?_
            | refine GW_label ?_
            | simp only [blockG_exit]
            | (refine GW_cond (by simp; rfl) ?_ ?_ <;> (intro hb; first | (exfalso; exact absurd hb (by decide)) | skip)))
          refine ⟨.inr trivial, ?_⟩
          simp [Tryd.results7]
        · have TH := wt3_over (2 * K + 1) (2 * K + 1) B ⟨i64_wr i2, i64_wr i2, wB⟩ ⟨i64_wr i2, ⟨by omega, by omega⟩, ov⟩
          obtain ⟨H, hH⟩ : ∃ l, (2 * K + 1) * (2 * K + 1) * B = l := ⟨_, rfl⟩
          rw [hH] at TH
          repeat' (first
            | refine GW_seq ?_
            | simp only [List.length_cons, List.length_nil, Nat.reduceAdd, Nat.reduceMul, thenG_normal, thenG_ret, thenG_exit, thenG_goto, thenG_panic, blockG_normal, blockG_ret, blockG_goto, blockG_panic, jumpG_normal, jumpG_ret, jumpG_exit, jumpG_panic]
            | (refine GW_region' [35] (by kernel_rfl) ?_; intro Q hQ hP; simp [hC, hY, vv, h, wS, w1, b0, b1, b2, b3, b4, hr, ei, hn, hd, hg, hm, hir, hi4, sA, sB, hx0, g1, g2, yn, yx, c1, c2, c3, c4, c5, i1, i2, sL, cl, m1, m2, k1, k2, k3, k4, k5, k6, k7, k8, hKp]; (repeat (first | ((refine heapK_sl TH (by simp) (by simp) (by omega) ?_ ?_; focus (simp; done)); try simp [hC, hY, vv, h, wS, w1, b0, b1, b2, b3, b4, hr, ei, hn, hd, hg, hm, hir, hi4, sA, sB, hx0, g1, g2, yn, yx, c1, c2, c3, c4, c5, i1, i2, sL, cl, m1, m2, k1, k2, k3, k4, k5, k6, k7, k8, hKp]))); (first | refine hQ _ _ _ _ ?_ | refine hP _ _ (fun _ => ?_)); clear hQ hP Q)
            | (refine GW_draw' [35] follows (by kernel_rfl) (by kernel_rfl) ?_; intro Q hQ hP; simp [hC, hY, vv, h, wS, w1, b0, b1, b2, b3, b4, hr, ei, hn, hd, hg, hm, hir, hi4, sA, sB, hx0, g1, g2, yn, yx, c1, c2, c3, c4, c5, i1, i2, sL, cl, m1, m2, k1, k2, k3, k4, k5, k6, k7, k8, hKp]; (repeat (first | ((refine heapK_sl TH (by simp) (by simp) (by omega) ?_ ?_; focus (simp; done)); try simp [hC, hY, vv, h, wS, w1, b0, b1, b2, b3, b4, hr, ei, hn, hd, hg, hm, hir, hi4, sA, sB, hx0, g1, g2, yn, yx, c1, c2, c3, c4, c5, i1, i2, sL, cl, m1, m2, k1, k2, k3, k4, k5, k6, k7, k8, hKp]))); (first | refine hQ _ _ _ _ (by kernel_rfl) ?_ | refine hP _ _ (by kernel_rfl) (fun _ => ?_)); clear hQ hP Q)
            | refine GW_block ?_
            | refine GW_ret ?_
            | refine GW_skip ?_
            | refine GW_exit ?_
            | refine GW_goto ?_
            | refine GW_label ?_
            | simp only [blockG_exit]
            | (refine GW_cond (by simp; rfl) ?_ ?_ <;> (intro hb; first | (exfalso; exact absurd hb (by decide)) | skip)))
          refine ⟨.inr trivial, ?_⟩
          simp [Tryd.results7]
      · replace g1 : (0 < n) = False := eq_false (by omega)
        replace g2 : (0 < x0) = True := eq_true g2
        repeat' (first
          | refine GW_seq ?_
          | simp only [List.length_cons, List.length_nil, Nat.reduceAdd, Nat.reduceMul, thenG_normal, thenG_ret, thenG_exit, thenG_goto, thenG_panic, blockG_normal, blockG_ret, blockG_goto, blockG_panic, jumpG_normal, jumpG_ret, jumpG_exit, jumpG_panic]
          | (refine GW_region' [35] (by kernel_rfl) ?_; intro Q hQ hP; simp [hC, hY, vv, h, wS, w1, b0, b1, b2, b3, b4, hr, ei, hn, hd, hg, hm, hir, hi4, sA, sB, hx0, g1, g2, yn, yx, c1, c2, c3, c4, c5, i1, i2, sL, cl, m1, m2, k1, k2, k3, k4, k5, k6, k7, k8, hKp]; (repeat (first | ((refine heapK_sl T9 (by simp) (by simp) (by omega) ?_ ?_; focus (simp; done)); try simp [hC, hY, vv, h, wS, w1, b0, b1, b2, b3, b4, hr, ei, hn, hd, hg, hm, hir, hi4, sA, sB, hx0, g1, g2, yn, yx, c1, c2, c3, c4, c5, i1, i2, sL, cl, m1, m2, k1, k2, k3, k4, k5, k6, k7, k8, hKp]) | ((refine heapK_sl T5 (by simp) (by simp) (by omega) ?_ ?_; focus (simp; done)); try simp [hC, hY, vv, h, wS, w1, b0, b1, b2, b3, b4, hr, ei, hn, hd, hg, hm, hir, hi4, sA, sB, hx0, g1, g2, yn, yx, c1, c2, c3, c4, c5, i1, i2, sL, cl, m1, m2, k1, k2, k3, k4, k5, k6, k7, k8, hKp]) | ((refine heapK_sl TL (by simp) (by simp) (by omega) ?_ ?_; focus (simp; done)); try simp [hC, hY, vv, h, wS, w1, b0, b1, b2, b3, b4, hr, ei, hn, hd, hg, hm, hir, hi4, sA, sB, hx0, g1, g2, yn, yx, c1, c2, c3, c4, c5, i1, i2, sL, cl, m1, m2, k1, k2, k3, k4, k5, k6, k7, k8, hKp]))); (first | refine hQ _ _ _ _ ?_ | refine hP _ _ (fun _ => ?_)); clear hQ hP Q)
          | (refine GW_draw' [35] follows (by kernel_rfl) (by kernel_rfl) ?_; intro Q hQ hP; simp [hC, hY, vv, h, wS, w1, b0, b1, b2, b3, b4, hr, ei, hn, hd, hg, hm, hir, hi4, sA, sB, hx0, g1, g2, yn, yx, c1, c2, c3, c4, c5, i1, i2, sL, cl, m1, m2, k1, k2, k3, k4, k5, k6, k7, k8, hKp]; (repeat (first | ((refine heapK_sl T9 (by simp) (by simp) (by omega) ?_ ?_; focus (simp; done)); try simp [hC, hY, vv, h, wS, w1, b0, b1, b2, b3, b4, hr, ei, hn, hd, hg, hm, hir, hi4, sA, sB, hx0, g1, g2, yn, yx, c1, c2, c3, c4, c5, i1, i2, sL, cl, m1, m2, k1, k2, k3, k4, k5, k6, k7, k8, hKp]) | ((refine heapK_sl T5 (by simp) (by simp) (by omega) ?_ ?_; focus (simp; done)); try simp [hC, hY, vv, h, wS, w1, b0, b1, b2, b3, b4, hr, ei, hn, hd, hg, hm, hir, hi4, sA, sB, hx0, g1, g2, yn, yx, c1, c2, c3, c4, c5, i1, i2, sL, cl, m1, m2, k1, k2, k3, k4, k5, k6, k7, k8, hKp]) | ((refine heapK_sl TL (by simp) (by simp) (by omega) ?_ ?_; focus (simp; done)); try simp [hC, hY, vv, h, wS, w1, b0, b1, b2, b3, b4, hr, ei, hn, hd, hg, hm, hir, hi4, sA, sB, hx0, g1, g2, yn, yx, c1, c2, c3, c4, c5, i1, i2, sL, cl, m1, m2, k1, k2, k3, k4, k5, k6, k7, k8, hKp]))); (first | refine hQ _ _ _ _ (by kernel_rfl) ?_ | refine hP _ _ (by kernel_rfl) (fun _ => ?_)); clear hQ hP Q)
          | refine GW_block ?_
          | refine GW_ret ?_
          | refine GW_skip ?_
          | refine GW_exit ?_
          | refine GW_goto ?_
          | refine GW_label ?_
          | simp only [blockG_exit]
          | (refine GW_cond (by simp; rfl) ?_ ?_ <;> (intro hb; first | (exfalso; exact absurd hb (by decide)) | skip)))
        by_cases ov : wr ((2 * K + 1) * (2 * K + 1) * B)
        · have TH := wt3 (2 * K + 1) (2 * K + 1) B ⟨i64_wr i2, i64_wr i2, wB⟩ ⟨i64_wr i2, ⟨by omega, by omega⟩, ov⟩
          obtain ⟨H, hH⟩ : ∃ l, (2 * K + 1) * (2 * K + 1) * B = l := ⟨_, rfl⟩
          rw [hH] at TH ov hi
          have sH := wr_sz ov
          have cm := cmp_lt hi
          repeat' (first
            | refine GW_seq ?_
            | simp only [List.length_cons, List.length_nil, Nat.reduceAdd, Nat.reduceMul, thenG_normal, thenG_ret, thenG_exit, thenG_goto, thenG_panic, blockG_normal, blockG_ret, blockG_goto, blockG_panic, jumpG_normal, jumpG_ret, jumpG_exit, jumpG_panic]
            | (refine GW_region' [35] (by kernel_rfl) ?_; intro Q hQ hP; simp [hC, hY, vv, h, wS, w1, b0, b1, b2, b3, b4, hr, ei, hn, hd, hg, hm, hir, hi4, sA, sB, hx0, g1, g2, yn, yx, c1, c2, c3, c4, c5, i1, i2, sL, cl, m1, m2, k1, k2, k3, k4, k5, k6, k7, k8, hKp, sH, cm]; (repeat (first | ((refine heapK_sl TH (by simp) (by simp) (by omega) ?_ ?_; focus (simp; done)); try simp [hC, hY, vv, h, wS, w1, b0, b1, b2, b3, b4, hr, ei, hn, hd, hg, hm, hir, hi4, sA, sB, hx0, g1, g2, yn, yx, c1, c2, c3, c4, c5, i1, i2, sL, cl, m1, m2, k1, k2, k3, k4, k5, k6, k7, k8, hKp, sH, cm]))); (first | refine hQ _ _ _ _ ?_ | refine hP _ _ (fun _ => ?_)); clear hQ hP Q)
            | (refine GW_draw' [35] follows (by kernel_rfl) (by kernel_rfl) ?_; intro Q hQ hP; simp [hC, hY, vv, h, wS, w1, b0, b1, b2, b3, b4, hr, ei, hn, hd, hg, hm, hir, hi4, sA, sB, hx0, g1, g2, yn, yx, c1, c2, c3, c4, c5, i1, i2, sL, cl, m1, m2, k1, k2, k3, k4, k5, k6, k7, k8, hKp, sH, cm]; (repeat (first | ((refine heapK_sl TH (by simp) (by simp) (by omega) ?_ ?_; focus (simp; done)); try simp [hC, hY, vv, h, wS, w1, b0, b1, b2, b3, b4, hr, ei, hn, hd, hg, hm, hir, hi4, sA, sB, hx0, g1, g2, yn, yx, c1, c2, c3, c4, c5, i1, i2, sL, cl, m1, m2, k1, k2, k3, k4, k5, k6, k7, k8, hKp, sH, cm]))); (first | refine hQ _ _ _ _ (by kernel_rfl) ?_ | refine hP _ _ (by kernel_rfl) (fun _ => ?_)); clear hQ hP Q)
            | refine GW_block ?_
            | refine GW_ret ?_
            | refine GW_skip ?_
            | refine GW_exit ?_
            | refine GW_goto ?_
            | refine GW_label ?_
            | simp only [blockG_exit]
            | (refine GW_cond (by simp; rfl) ?_ ?_ <;> (intro hb; first | (exfalso; exact absurd hb (by decide)) | skip)))
          refine ⟨.inr trivial, ?_⟩
          simp [Tryd.results7]
        · have TH := wt3_over (2 * K + 1) (2 * K + 1) B ⟨i64_wr i2, i64_wr i2, wB⟩ ⟨i64_wr i2, ⟨by omega, by omega⟩, ov⟩
          obtain ⟨H, hH⟩ : ∃ l, (2 * K + 1) * (2 * K + 1) * B = l := ⟨_, rfl⟩
          rw [hH] at TH
          repeat' (first
            | refine GW_seq ?_
            | simp only [List.length_cons, List.length_nil, Nat.reduceAdd, Nat.reduceMul, thenG_normal, thenG_ret, thenG_exit, thenG_goto, thenG_panic, blockG_normal, blockG_ret, blockG_goto, blockG_panic, jumpG_normal, jumpG_ret, jumpG_exit, jumpG_panic]
            | (refine GW_region' [35] (by kernel_rfl) ?_; intro Q hQ hP; simp [hC, hY, vv, h, wS, w1, b0, b1, b2, b3, b4, hr, ei, hn, hd, hg, hm, hir, hi4, sA, sB, hx0, g1, g2, yn, yx, c1, c2, c3, c4, c5, i1, i2, sL, cl, m1, m2, k1, k2, k3, k4, k5, k6, k7, k8, hKp]; (repeat (first | ((refine heapK_sl TH (by simp) (by simp) (by omega) ?_ ?_; focus (simp; done)); try simp [hC, hY, vv, h, wS, w1, b0, b1, b2, b3, b4, hr, ei, hn, hd, hg, hm, hir, hi4, sA, sB, hx0, g1, g2, yn, yx, c1, c2, c3, c4, c5, i1, i2, sL, cl, m1, m2, k1, k2, k3, k4, k5, k6, k7, k8, hKp]))); (first | refine hQ _ _ _ _ ?_ | refine hP _ _ (fun _ => ?_)); clear hQ hP Q)
            | (refine GW_draw' [35] follows (by kernel_rfl) (by kernel_rfl) ?_; intro Q hQ hP; simp [hC, hY, vv, h, wS, w1, b0, b1, b2, b3, b4, hr, ei, hn, hd, hg, hm, hir, hi4, sA, sB, hx0, g1, g2, yn, yx, c1, c2, c3, c4, c5, i1, i2, sL, cl, m1, m2, k1, k2, k3, k4, k5, k6, k7, k8, hKp]; (repeat (first | ((refine heapK_sl TH (by simp) (by simp) (by omega) ?_ ?_; focus (simp; done)); try simp [hC, hY, vv, h, wS, w1, b0, b1, b2, b3, b4, hr, ei, hn, hd, hg, hm, hir, hi4, sA, sB, hx0, g1, g2, yn, yx, c1, c2, c3, c4, c5, i1, i2, sL, cl, m1, m2, k1, k2, k3, k4, k5, k6, k7, k8, hKp]))); (first | refine hQ _ _ _ _ (by kernel_rfl) ?_ | refine hP _ _ (by kernel_rfl) (fun _ => ?_)); clear hQ hP Q)
            | refine GW_block ?_
            | refine GW_ret ?_
            | refine GW_skip ?_
            | refine GW_exit ?_
            | refine GW_goto ?_
            | refine GW_label ?_
            | simp only [blockG_exit]
            | (refine GW_cond (by simp; rfl) ?_ ?_ <;> (intro hb; first | (exfalso; exact absurd hb (by decide)) | skip)))
          refine ⟨.inr trivial, ?_⟩
          simp [Tryd.results7]
  · have hP := hp.2.1
    have nr := mag_near hP
    have hmg := hP.mag
    have n9 := nine hP
    have T9 := wt9 4 n n g g m m x1 x1 ⟨n9.1, hwn, hwn, hwg, hwg, hwm, hwm, i64_wr hx1, i64_wr hx1⟩ n9
    have wA := n9.2.2.2.2.2.2.2.2
    rw [prod9] at T9 wA
    obtain ⟨A, hA⟩ : ∃ a, 2 * n * g * m * x1 * (2 * n * g * m * x1) = a := ⟨_, rfl⟩
    obtain ⟨B, hB⟩ : ∃ b, d * d * r * r * r = b := ⟨_, rfl⟩
    rw [hA] at T9 wA nr
    rw [hB] at T5 wB nr q4
    have sA := wr_sz wA
    have sB := wr_sz wB
    have pc := pull_cases hP
    obtain ⟨K, hK⟩ : ∃ K, pmag n d g m x1 r = K := ⟨_, rfl⟩
    rw [hK] at nr hmg pc
    rw [e1] at pc
    have hAu := hP.a_le
    rw [hA] at hAu
    repeat' (first
      | refine GW_seq ?_
      | simp only [List.length_cons, List.length_nil, Nat.reduceAdd, Nat.reduceMul, thenG_normal, thenG_ret, thenG_exit, thenG_goto, thenG_panic, blockG_normal, blockG_ret, blockG_goto, blockG_panic, jumpG_normal, jumpG_ret, jumpG_exit, jumpG_panic]
      | (refine GW_region' [] (by kernel_rfl) ?_; intro Q hQ hP; simp [hC, hY, vv, h, wS, w1, b0, b1, b2, b3, b4, hr, ei]; (first | refine hQ _ _ _ _ ?_ | refine hP _ _ (fun _ => ?_)); clear hQ hP Q)
      | (refine GW_draw' [] follows (by kernel_rfl) (by kernel_rfl) ?_; intro Q hQ hP; simp [hC, hY, vv, h, wS, w1, b0, b1, b2, b3, b4, hr, ei]; (first | refine hQ _ _ _ _ (by kernel_rfl) ?_ | refine hP _ _ (by kernel_rfl) (fun _ => ?_)); clear hQ hP Q)
      | refine GW_block ?_
      | refine GW_ret ?_
      | refine GW_skip ?_
      | refine GW_exit ?_
      | refine GW_goto ?_
      | refine GW_label ?_
      | simp only [blockG_exit]
      | (refine GW_cond (by simp; rfl) ?_ ?_ <;> (intro hb; first | (exfalso; exact absurd hb (by decide)) | skip)))
    rcases pc with ⟨hp0, hK0⟩ | ⟨hKp, pc⟩
    · subst hp0 hK0
      have TL := wt3 (-1) (-1) B ⟨wr_lit (by decide) (by decide), wr_lit (by decide) (by decide), wB⟩ ⟨wr_lit (by decide) (by decide), wr_lit (by decide) (by decide), by rw [show (-1 : Int) * -1 * B = B by omega]; exact wB⟩
      have TH := wt3 1 1 B ⟨wr_lit (by decide) (by decide), wr_lit (by decide) (by decide), wB⟩ ⟨wr_lit (by decide) (by decide), wr_lit (by decide) (by decide), by rw [show (1 : Int) * 1 * B = B by omega]; exact wB⟩
      rw [show (-1 : Int) * -1 * B = B by omega] at TL
      rw [show (1 : Int) * 1 * B = B by omega] at TH
      have cm : cmpI A B < 0 := cmp_lt (by have := nr.2; omega)
      have im1 : i64 (-1) := by decide
      have i1 := i64_1
      cases yn : (n == 0)
      · cases yx : (x1 == 0)
        all_goals
          repeat' (first
            | refine GW_seq ?_
            | simp only [List.length_cons, List.length_nil, Nat.reduceAdd, Nat.reduceMul, thenG_normal, thenG_ret, thenG_exit, thenG_goto, thenG_panic, blockG_normal, blockG_ret, blockG_goto, blockG_panic, jumpG_normal, jumpG_ret, jumpG_exit, jumpG_panic]
            | (refine GW_region' [35] (by kernel_rfl) ?_; intro Q hQ hP; simp [hC, hY, vv, h, wS, w1, b0, b1, b2, b3, b4, hr, ei, hn, hd, hg, hm, hir, hi4, sA, sB, hx1, cm, im1, i1, yn, yx]; (repeat (first | ((refine heapK_sl T9 (by simp) (by simp) (by omega) ?_ ?_; focus (simp; done)); try simp [hC, hY, vv, h, wS, w1, b0, b1, b2, b3, b4, hr, ei, hn, hd, hg, hm, hir, hi4, sA, sB, hx1, cm, im1, i1, yn, yx]) | ((refine heapK_sl T5 (by simp) (by simp) (by omega) ?_ ?_; focus (simp; done)); try simp [hC, hY, vv, h, wS, w1, b0, b1, b2, b3, b4, hr, ei, hn, hd, hg, hm, hir, hi4, sA, sB, hx1, cm, im1, i1, yn, yx]) | ((refine heapK_sl TL (by simp) (by simp) (by omega) ?_ ?_; focus (simp; done)); try simp [hC, hY, vv, h, wS, w1, b0, b1, b2, b3, b4, hr, ei, hn, hd, hg, hm, hir, hi4, sA, sB, hx1, cm, im1, i1, yn, yx]) | ((refine heapK_sl TH (by simp) (by simp) (by omega) ?_ ?_; focus (simp; done)); try simp [hC, hY, vv, h, wS, w1, b0, b1, b2, b3, b4, hr, ei, hn, hd, hg, hm, hir, hi4, sA, sB, hx1, cm, im1, i1, yn, yx]))); (first | refine hQ _ _ _ _ ?_ | refine hP _ _ (fun _ => ?_)); clear hQ hP Q)
            | (refine GW_draw' [35] follows (by kernel_rfl) (by kernel_rfl) ?_; intro Q hQ hP; simp [hC, hY, vv, h, wS, w1, b0, b1, b2, b3, b4, hr, ei, hn, hd, hg, hm, hir, hi4, sA, sB, hx1, cm, im1, i1, yn, yx]; (repeat (first | ((refine heapK_sl T9 (by simp) (by simp) (by omega) ?_ ?_; focus (simp; done)); try simp [hC, hY, vv, h, wS, w1, b0, b1, b2, b3, b4, hr, ei, hn, hd, hg, hm, hir, hi4, sA, sB, hx1, cm, im1, i1, yn, yx]) | ((refine heapK_sl T5 (by simp) (by simp) (by omega) ?_ ?_; focus (simp; done)); try simp [hC, hY, vv, h, wS, w1, b0, b1, b2, b3, b4, hr, ei, hn, hd, hg, hm, hir, hi4, sA, sB, hx1, cm, im1, i1, yn, yx]) | ((refine heapK_sl TL (by simp) (by simp) (by omega) ?_ ?_; focus (simp; done)); try simp [hC, hY, vv, h, wS, w1, b0, b1, b2, b3, b4, hr, ei, hn, hd, hg, hm, hir, hi4, sA, sB, hx1, cm, im1, i1, yn, yx]) | ((refine heapK_sl TH (by simp) (by simp) (by omega) ?_ ?_; focus (simp; done)); try simp [hC, hY, vv, h, wS, w1, b0, b1, b2, b3, b4, hr, ei, hn, hd, hg, hm, hir, hi4, sA, sB, hx1, cm, im1, i1, yn, yx]))); (first | refine hQ _ _ _ _ (by kernel_rfl) ?_ | refine hP _ _ (by kernel_rfl) (fun _ => ?_)); clear hQ hP Q)
            | refine GW_block ?_
            | refine GW_ret ?_
            | refine GW_skip ?_
            | refine GW_exit ?_
            | refine GW_goto ?_
            | refine GW_label ?_
            | simp only [blockG_exit]
            | (refine GW_cond (by simp; rfl) ?_ ?_ <;> (intro hb; first | (exfalso; exact absurd hb (by decide)) | skip)))
        all_goals
          refine ⟨.inr trivial, ?_⟩
          simp [Tryd.results7]
      · skip
        repeat' (first
          | refine GW_seq ?_
          | simp only [List.length_cons, List.length_nil, Nat.reduceAdd, Nat.reduceMul, thenG_normal, thenG_ret, thenG_exit, thenG_goto, thenG_panic, blockG_normal, blockG_ret, blockG_goto, blockG_panic, jumpG_normal, jumpG_ret, jumpG_exit, jumpG_panic]
          | (refine GW_region' [35] (by kernel_rfl) ?_; intro Q hQ hP; simp [hC, hY, vv, h, wS, w1, b0, b1, b2, b3, b4, hr, ei, hn, hd, hg, hm, hir, hi4, sA, sB, hx1, cm, im1, i1, yn]; (repeat (first | ((refine heapK_sl T9 (by simp) (by simp) (by omega) ?_ ?_; focus (simp; done)); try simp [hC, hY, vv, h, wS, w1, b0, b1, b2, b3, b4, hr, ei, hn, hd, hg, hm, hir, hi4, sA, sB, hx1, cm, im1, i1, yn]) | ((refine heapK_sl T5 (by simp) (by simp) (by omega) ?_ ?_; focus (simp; done)); try simp [hC, hY, vv, h, wS, w1, b0, b1, b2, b3, b4, hr, ei, hn, hd, hg, hm, hir, hi4, sA, sB, hx1, cm, im1, i1, yn]) | ((refine heapK_sl TL (by simp) (by simp) (by omega) ?_ ?_; focus (simp; done)); try simp [hC, hY, vv, h, wS, w1, b0, b1, b2, b3, b4, hr, ei, hn, hd, hg, hm, hir, hi4, sA, sB, hx1, cm, im1, i1, yn]) | ((refine heapK_sl TH (by simp) (by simp) (by omega) ?_ ?_; focus (simp; done)); try simp [hC, hY, vv, h, wS, w1, b0, b1, b2, b3, b4, hr, ei, hn, hd, hg, hm, hir, hi4, sA, sB, hx1, cm, im1, i1, yn]))); (first | refine hQ _ _ _ _ ?_ | refine hP _ _ (fun _ => ?_)); clear hQ hP Q)
          | (refine GW_draw' [35] follows (by kernel_rfl) (by kernel_rfl) ?_; intro Q hQ hP; simp [hC, hY, vv, h, wS, w1, b0, b1, b2, b3, b4, hr, ei, hn, hd, hg, hm, hir, hi4, sA, sB, hx1, cm, im1, i1, yn]; (repeat (first | ((refine heapK_sl T9 (by simp) (by simp) (by omega) ?_ ?_; focus (simp; done)); try simp [hC, hY, vv, h, wS, w1, b0, b1, b2, b3, b4, hr, ei, hn, hd, hg, hm, hir, hi4, sA, sB, hx1, cm, im1, i1, yn]) | ((refine heapK_sl T5 (by simp) (by simp) (by omega) ?_ ?_; focus (simp; done)); try simp [hC, hY, vv, h, wS, w1, b0, b1, b2, b3, b4, hr, ei, hn, hd, hg, hm, hir, hi4, sA, sB, hx1, cm, im1, i1, yn]) | ((refine heapK_sl TL (by simp) (by simp) (by omega) ?_ ?_; focus (simp; done)); try simp [hC, hY, vv, h, wS, w1, b0, b1, b2, b3, b4, hr, ei, hn, hd, hg, hm, hir, hi4, sA, sB, hx1, cm, im1, i1, yn]) | ((refine heapK_sl TH (by simp) (by simp) (by omega) ?_ ?_; focus (simp; done)); try simp [hC, hY, vv, h, wS, w1, b0, b1, b2, b3, b4, hr, ei, hn, hd, hg, hm, hir, hi4, sA, sB, hx1, cm, im1, i1, yn]))); (first | refine hQ _ _ _ _ (by kernel_rfl) ?_ | refine hP _ _ (by kernel_rfl) (fun _ => ?_)); clear hQ hP Q)
          | refine GW_block ?_
          | refine GW_ret ?_
          | refine GW_skip ?_
          | refine GW_exit ?_
          | refine GW_goto ?_
          | refine GW_label ?_
          | simp only [blockG_exit]
          | (refine GW_cond (by simp; rfl) ?_ ?_ <;> (intro hb; first | (exfalso; exact absurd hb (by decide)) | skip)))
        refine ⟨.inr trivial, ?_⟩
        simp [Tryd.results7]
    · have hKu := hmg.2
      have c1 : Int.bmod (2 * K) 18446744073709551616 = 2 * K := bm (by omega) (by omega)
      have c2 : Int.bmod (2 * K - 1) 18446744073709551616 = 2 * K - 1 := bm (by omega) (by omega)
      have c3 : Int.bmod (2 * K + 1) 18446744073709551616 = 2 * K + 1 := bm (by omega) (by omega)
      have c4 : Int.bmod (-K) 18446744073709551616 = -K := bm (by omega) (by omega)
      have c5 : Int.bmod K 18446744073709551616 = K := bm (by omega) (by omega)
      have i1 : i64 (2 * K - 1) := ⟨by omega, by omega⟩
      have i2 : i64 (2 * K + 1) := ⟨by omega, by omega⟩
      have a1 := absmul (a := 2 * K - 1) (b := 2 * K - 1) (p := 9007199254740993) (q := 9007199254740993) (by omega) (by omega) (by omega) (by omega)
      have a2 := absmul (a := 2 * K + 1) (b := 2 * K + 1) (p := 9007199254740993) (q := 9007199254740993) (by omega) (by omega) (by omega) (by omega)
      have lo := nr.1 hKp
      have L0 : 0 ≤ (2 * K - 1) * (2 * K - 1) * B := Int.mul_nonneg (sq_nonneg _) (by omega)
      have wL : wr ((2 * K - 1) * (2 * K - 1) * B) := ⟨by omega, by have := wA.2; omega⟩
      have TL := wt3 (2 * K - 1) (2 * K - 1) B ⟨i64_wr i1, i64_wr i1, wB⟩ ⟨i64_wr i1, ⟨by omega, by omega⟩, wL⟩
      have hi := nr.2
      obtain ⟨L, hL⟩ : ∃ l, (2 * K - 1) * (2 * K - 1) * B = l := ⟨_, rfl⟩
      rw [hL] at TL wL lo
      have sL := wr_sz wL
      have cl := cmp_not_gt lo
      have m1 : ¬ K < -K := by omega
      have m2 : -K < K := by omega
      have k1 : ¬ 1152921504606846976 < K := by omega
      have k2 : ¬ K < -1152921504606846976 := by omega
      have k3 : ¬ 1152921504606846976 < -K := by omega
      have k4 : ¬ -K < -1152921504606846976 := by omega
      have k5 : (K != 0) = true := by simp; omega
      have k6 : (-K != 0) = true := by simp; omega
      have k7 : ¬ 0 < -K := by omega
      have k8 : ¬ K < 0 := by omega
      rcases pc with ⟨g1, g2, g3⟩ | ⟨g1, g2, g3⟩ | ⟨g1, g2, g3⟩ | ⟨g1, g2, g3⟩
      all_goals
        replace g3 := g3.symm
        subst g3
        have yn : (n == 0) = false := by simp; omega
        have yx : (x1 == 0) = false := by simp; omega
      · replace g1 : (0 < n) = True := eq_true g1
        replace g2 : (0 < x1) = True := eq_true g2
        repeat' (first
          | refine GW_seq ?_
          | simp only [List.length_cons, List.length_nil, Nat.reduceAdd, Nat.reduceMul, thenG_normal, thenG_ret, thenG_exit, thenG_goto, thenG_panic, blockG_normal, blockG_ret, blockG_goto, blockG_panic, jumpG_normal, jumpG_ret, jumpG_exit, jumpG_panic]
          | (refine GW_region' [35] (by kernel_rfl) ?_; intro Q hQ hP; simp [hC, hY, vv, h, wS, w1, b0, b1, b2, b3, b4, hr, ei, hn, hd, hg, hm, hir, hi4, sA, sB, hx1, g1, g2, yn, yx, c1, c2, c3, c4, c5, i1, i2, sL, cl, m1, m2, k1, k2, k3, k4, k5, k6, k7, k8, hKp]; (repeat (first | ((refine heapK_sl T9 (by simp) (by simp) (by omega) ?_ ?_; focus (simp; done)); try simp [hC, hY, vv, h, wS, w1, b0, b1, b2, b3, b4, hr, ei, hn, hd, hg, hm, hir, hi4, sA, sB, hx1, g1, g2, yn, yx, c1, c2, c3, c4, c5, i1, i2, sL, cl, m1, m2, k1, k2, k3, k4, k5, k6, k7, k8, hKp]) | ((refine heapK_sl T5 (by simp) (by simp) (by omega) ?_ ?_; focus (simp; done)); try simp [hC, hY, vv, h, wS, w1, b0, b1, b2, b3, b4, hr, ei, hn, hd, hg, hm, hir, hi4, sA, sB, hx1, g1, g2, yn, yx, c1, c2, c3, c4, c5, i1, i2, sL, cl, m1, m2, k1, k2, k3, k4, k5, k6, k7, k8, hKp]) | ((refine heapK_sl TL (by simp) (by simp) (by omega) ?_ ?_; focus (simp; done)); try simp [hC, hY, vv, h, wS, w1, b0, b1, b2, b3, b4, hr, ei, hn, hd, hg, hm, hir, hi4, sA, sB, hx1, g1, g2, yn, yx, c1, c2, c3, c4, c5, i1, i2, sL, cl, m1, m2, k1, k2, k3, k4, k5, k6, k7, k8, hKp]))); (first | refine hQ _ _ _ _ ?_ | refine hP _ _ (fun _ => ?_)); clear hQ hP Q)
          | (refine GW_draw' [35] follows (by kernel_rfl) (by kernel_rfl) ?_; intro Q hQ hP; simp [hC, hY, vv, h, wS, w1, b0, b1, b2, b3, b4, hr, ei, hn, hd, hg, hm, hir, hi4, sA, sB, hx1, g1, g2, yn, yx, c1, c2, c3, c4, c5, i1, i2, sL, cl, m1, m2, k1, k2, k3, k4, k5, k6, k7, k8, hKp]; (repeat (first | ((refine heapK_sl T9 (by simp) (by simp) (by omega) ?_ ?_; focus (simp; done)); try simp [hC, hY, vv, h, wS, w1, b0, b1, b2, b3, b4, hr, ei, hn, hd, hg, hm, hir, hi4, sA, sB, hx1, g1, g2, yn, yx, c1, c2, c3, c4, c5, i1, i2, sL, cl, m1, m2, k1, k2, k3, k4, k5, k6, k7, k8, hKp]) | ((refine heapK_sl T5 (by simp) (by simp) (by omega) ?_ ?_; focus (simp; done)); try simp [hC, hY, vv, h, wS, w1, b0, b1, b2, b3, b4, hr, ei, hn, hd, hg, hm, hir, hi4, sA, sB, hx1, g1, g2, yn, yx, c1, c2, c3, c4, c5, i1, i2, sL, cl, m1, m2, k1, k2, k3, k4, k5, k6, k7, k8, hKp]) | ((refine heapK_sl TL (by simp) (by simp) (by omega) ?_ ?_; focus (simp; done)); try simp [hC, hY, vv, h, wS, w1, b0, b1, b2, b3, b4, hr, ei, hn, hd, hg, hm, hir, hi4, sA, sB, hx1, g1, g2, yn, yx, c1, c2, c3, c4, c5, i1, i2, sL, cl, m1, m2, k1, k2, k3, k4, k5, k6, k7, k8, hKp]))); (first | refine hQ _ _ _ _ (by kernel_rfl) ?_ | refine hP _ _ (by kernel_rfl) (fun _ => ?_)); clear hQ hP Q)
          | refine GW_block ?_
          | refine GW_ret ?_
          | refine GW_skip ?_
          | refine GW_exit ?_
          | refine GW_goto ?_
          | refine GW_label ?_
          | simp only [blockG_exit]
          | (refine GW_cond (by simp; rfl) ?_ ?_ <;> (intro hb; first | (exfalso; exact absurd hb (by decide)) | skip)))
        by_cases ov : wr ((2 * K + 1) * (2 * K + 1) * B)
        · have TH := wt3 (2 * K + 1) (2 * K + 1) B ⟨i64_wr i2, i64_wr i2, wB⟩ ⟨i64_wr i2, ⟨by omega, by omega⟩, ov⟩
          obtain ⟨H, hH⟩ : ∃ l, (2 * K + 1) * (2 * K + 1) * B = l := ⟨_, rfl⟩
          rw [hH] at TH ov hi
          have sH := wr_sz ov
          have cm := cmp_lt hi
          repeat' (first
            | refine GW_seq ?_
            | simp only [List.length_cons, List.length_nil, Nat.reduceAdd, Nat.reduceMul, thenG_normal, thenG_ret, thenG_exit, thenG_goto, thenG_panic, blockG_normal, blockG_ret, blockG_goto, blockG_panic, jumpG_normal, jumpG_ret, jumpG_exit, jumpG_panic]
            | (refine GW_region' [35] (by kernel_rfl) ?_; intro Q hQ hP; simp [hC, hY, vv, h, wS, w1, b0, b1, b2, b3, b4, hr, ei, hn, hd, hg, hm, hir, hi4, sA, sB, hx1, g1, g2, yn, yx, c1, c2, c3, c4, c5, i1, i2, sL, cl, m1, m2, k1, k2, k3, k4, k5, k6, k7, k8, hKp, sH, cm]; (repeat (first | ((refine heapK_sl TH (by simp) (by simp) (by omega) ?_ ?_; focus (simp; done)); try simp [hC, hY, vv, h, wS, w1, b0, b1, b2, b3, b4, hr, ei, hn, hd, hg, hm, hir, hi4, sA, sB, hx1, g1, g2, yn, yx, c1, c2, c3, c4, c5, i1, i2, sL, cl, m1, m2, k1, k2, k3, k4, k5, k6, k7, k8, hKp, sH, cm]))); (first | refine hQ _ _ _ _ ?_ | refine hP _ _ (fun _ => ?_)); clear hQ hP Q)
            | (refine GW_draw' [35] follows (by kernel_rfl) (by kernel_rfl) ?_; intro Q hQ hP; simp [hC, hY, vv, h, wS, w1, b0, b1, b2, b3, b4, hr, ei, hn, hd, hg, hm, hir, hi4, sA, sB, hx1, g1, g2, yn, yx, c1, c2, c3, c4, c5, i1, i2, sL, cl, m1, m2, k1, k2, k3, k4, k5, k6, k7, k8, hKp, sH, cm]; (repeat (first | ((refine heapK_sl TH (by simp) (by simp) (by omega) ?_ ?_; focus (simp; done)); try simp [hC, hY, vv, h, wS, w1, b0, b1, b2, b3, b4, hr, ei, hn, hd, hg, hm, hir, hi4, sA, sB, hx1, g1, g2, yn, yx, c1, c2, c3, c4, c5, i1, i2, sL, cl, m1, m2, k1, k2, k3, k4, k5, k6, k7, k8, hKp, sH, cm]))); (first | refine hQ _ _ _ _ (by kernel_rfl) ?_ | refine hP _ _ (by kernel_rfl) (fun _ => ?_)); clear hQ hP Q)
            | refine GW_block ?_
            | refine GW_ret ?_
            | refine GW_skip ?_
            | refine GW_exit ?_
            | refine GW_goto ?_
            | refine GW_label ?_
            | simp only [blockG_exit]
            | (refine GW_cond (by simp; rfl) ?_ ?_ <;> (intro hb; first | (exfalso; exact absurd hb (by decide)) | skip)))
          refine ⟨.inr trivial, ?_⟩
          simp [Tryd.results7]
        · have TH := wt3_over (2 * K + 1) (2 * K + 1) B ⟨i64_wr i2, i64_wr i2, wB⟩ ⟨i64_wr i2, ⟨by omega, by omega⟩, ov⟩
          obtain ⟨H, hH⟩ : ∃ l, (2 * K + 1) * (2 * K + 1) * B = l := ⟨_, rfl⟩
          rw [hH] at TH
          repeat' (first
            | refine GW_seq ?_
            | simp only [List.length_cons, List.length_nil, Nat.reduceAdd, Nat.reduceMul, thenG_normal, thenG_ret, thenG_exit, thenG_goto, thenG_panic, blockG_normal, blockG_ret, blockG_goto, blockG_panic, jumpG_normal, jumpG_ret, jumpG_exit, jumpG_panic]
            | (refine GW_region' [35] (by kernel_rfl) ?_; intro Q hQ hP; simp [hC, hY, vv, h, wS, w1, b0, b1, b2, b3, b4, hr, ei, hn, hd, hg, hm, hir, hi4, sA, sB, hx1, g1, g2, yn, yx, c1, c2, c3, c4, c5, i1, i2, sL, cl, m1, m2, k1, k2, k3, k4, k5, k6, k7, k8, hKp]; (repeat (first | ((refine heapK_sl TH (by simp) (by simp) (by omega) ?_ ?_; focus (simp; done)); try simp [hC, hY, vv, h, wS, w1, b0, b1, b2, b3, b4, hr, ei, hn, hd, hg, hm, hir, hi4, sA, sB, hx1, g1, g2, yn, yx, c1, c2, c3, c4, c5, i1, i2, sL, cl, m1, m2, k1, k2, k3, k4, k5, k6, k7, k8, hKp]))); (first | refine hQ _ _ _ _ ?_ | refine hP _ _ (fun _ => ?_)); clear hQ hP Q)
            | (refine GW_draw' [35] follows (by kernel_rfl) (by kernel_rfl) ?_; intro Q hQ hP; simp [hC, hY, vv, h, wS, w1, b0, b1, b2, b3, b4, hr, ei, hn, hd, hg, hm, hir, hi4, sA, sB, hx1, g1, g2, yn, yx, c1, c2, c3, c4, c5, i1, i2, sL, cl, m1, m2, k1, k2, k3, k4, k5, k6, k7, k8, hKp]; (repeat (first | ((refine heapK_sl TH (by simp) (by simp) (by omega) ?_ ?_; focus (simp; done)); try simp [hC, hY, vv, h, wS, w1, b0, b1, b2, b3, b4, hr, ei, hn, hd, hg, hm, hir, hi4, sA, sB, hx1, g1, g2, yn, yx, c1, c2, c3, c4, c5, i1, i2, sL, cl, m1, m2, k1, k2, k3, k4, k5, k6, k7, k8, hKp]))); (first | refine hQ _ _ _ _ (by kernel_rfl) ?_ | refine hP _ _ (by kernel_rfl) (fun _ => ?_)); clear hQ hP Q)
            | refine GW_block ?_
            | refine GW_ret ?_
            | refine GW_skip ?_
            | refine GW_exit ?_
            | refine GW_goto ?_
            | refine GW_label ?_
            | simp only [blockG_exit]
            | (refine GW_cond (by simp; rfl) ?_ ?_ <;> (intro hb; first | (exfalso; exact absurd hb (by decide)) | skip)))
          refine ⟨.inr trivial, ?_⟩
          simp [Tryd.results7]
      · replace g1 : (0 < n) = False := eq_false (by omega)
        replace g2 : (0 < x1) = False := eq_false (by omega)
        repeat' (first
          | refine GW_seq ?_
          | simp only [List.length_cons, List.length_nil, Nat.reduceAdd, Nat.reduceMul, thenG_normal, thenG_ret, thenG_exit, thenG_goto, thenG_panic, blockG_normal, blockG_ret, blockG_goto, blockG_panic, jumpG_normal, jumpG_ret, jumpG_exit, jumpG_panic]
          | (refine GW_region' [35] (by kernel_rfl) ?_; intro Q hQ hP; simp [hC, hY, vv, h, wS, w1, b0, b1, b2, b3, b4, hr, ei, hn, hd, hg, hm, hir, hi4, sA, sB, hx1, g1, g2, yn, yx, c1, c2, c3, c4, c5, i1, i2, sL, cl, m1, m2, k1, k2, k3, k4, k5, k6, k7, k8, hKp]; (repeat (first | ((refine heapK_sl T9 (by simp) (by simp) (by omega) ?_ ?_; focus (simp; done)); try simp [hC, hY, vv, h, wS, w1, b0, b1, b2, b3, b4, hr, ei, hn, hd, hg, hm, hir, hi4, sA, sB, hx1, g1, g2, yn, yx, c1, c2, c3, c4, c5, i1, i2, sL, cl, m1, m2, k1, k2, k3, k4, k5, k6, k7, k8, hKp]) | ((refine heapK_sl T5 (by simp) (by simp) (by omega) ?_ ?_; focus (simp; done)); try simp [hC, hY, vv, h, wS, w1, b0, b1, b2, b3, b4, hr, ei, hn, hd, hg, hm, hir, hi4, sA, sB, hx1, g1, g2, yn, yx, c1, c2, c3, c4, c5, i1, i2, sL, cl, m1, m2, k1, k2, k3, k4, k5, k6, k7, k8, hKp]) | ((refine heapK_sl TL (by simp) (by simp) (by omega) ?_ ?_; focus (simp; done)); try simp [hC, hY, vv, h, wS, w1, b0, b1, b2, b3, b4, hr, ei, hn, hd, hg, hm, hir, hi4, sA, sB, hx1, g1, g2, yn, yx, c1, c2, c3, c4, c5, i1, i2, sL, cl, m1, m2, k1, k2, k3, k4, k5, k6, k7, k8, hKp]))); (first | refine hQ _ _ _ _ ?_ | refine hP _ _ (fun _ => ?_)); clear hQ hP Q)
          | (refine GW_draw' [35] follows (by kernel_rfl) (by kernel_rfl) ?_; intro Q hQ hP; simp [hC, hY, vv, h, wS, w1, b0, b1, b2, b3, b4, hr, ei, hn, hd, hg, hm, hir, hi4, sA, sB, hx1, g1, g2, yn, yx, c1, c2, c3, c4, c5, i1, i2, sL, cl, m1, m2, k1, k2, k3, k4, k5, k6, k7, k8, hKp]; (repeat (first | ((refine heapK_sl T9 (by simp) (by simp) (by omega) ?_ ?_; focus (simp; done)); try simp [hC, hY, vv, h, wS, w1, b0, b1, b2, b3, b4, hr, ei, hn, hd, hg, hm, hir, hi4, sA, sB, hx1, g1, g2, yn, yx, c1, c2, c3, c4, c5, i1, i2, sL, cl, m1, m2, k1, k2, k3, k4, k5, k6, k7, k8, hKp]) | ((refine heapK_sl T5 (by simp) (by simp) (by omega) ?_ ?_; focus (simp; done)); try simp [hC, hY, vv, h, wS, w1, b0, b1, b2, b3, b4, hr, ei, hn, hd, hg, hm, hir, hi4, sA, sB, hx1, g1, g2, yn, yx, c1, c2, c3, c4, c5, i1, i2, sL, cl, m1, m2, k1, k2, k3, k4, k5, k6, k7, k8, hKp]) | ((refine heapK_sl TL (by simp) (by simp) (by omega) ?_ ?_; focus (simp; done)); try simp [hC, hY, vv, h, wS, w1, b0, b1, b2, b3, b4, hr, ei, hn, hd, hg, hm, hir, hi4, sA, sB, hx1, g1, g2, yn, yx, c1, c2, c3, c4, c5, i1, i2, sL, cl, m1, m2, k1, k2, k3, k4, k5, k6, k7, k8, hKp]))); (first | refine hQ _ _ _ _ (by kernel_rfl) ?_ | refine hP _ _ (by kernel_rfl) (fun _ => ?_)); clear hQ hP Q)
          | refine GW_block ?_
          | refine GW_ret ?_
          | refine GW_skip ?_
          | refine GW_exit ?_
          | refine GW_goto ?_
          | refine GW_label ?_
          | simp only [blockG_exit]
          | (refine GW_cond (by simp; rfl) ?_ ?_ <;> (intro hb; first | (exfalso; exact absurd hb (by decide)) | skip)))
        by_cases ov : wr ((2 * K + 1) * (2 * K + 1) * B)
        · have TH := wt3 (2 * K + 1) (2 * K + 1) B ⟨i64_wr i2, i64_wr i2, wB⟩ ⟨i64_wr i2, ⟨by omega, by omega⟩, ov⟩
          obtain ⟨H, hH⟩ : ∃ l, (2 * K + 1) * (2 * K + 1) * B = l := ⟨_, rfl⟩
          rw [hH] at TH ov hi
          have sH := wr_sz ov
          have cm := cmp_lt hi
          repeat' (first
            | refine GW_seq ?_
            | simp only [List.length_cons, List.length_nil, Nat.reduceAdd, Nat.reduceMul, thenG_normal, thenG_ret, thenG_exit, thenG_goto, thenG_panic, blockG_normal, blockG_ret, blockG_goto, blockG_panic, jumpG_normal, jumpG_ret, jumpG_exit, jumpG_panic]
            | (refine GW_region' [35] (by kernel_rfl) ?_; intro Q hQ hP; simp [hC, hY, vv, h, wS, w1, b0, b1, b2, b3, b4, hr, ei, hn, hd, hg, hm, hir, hi4, sA, sB, hx1, g1, g2, yn, yx, c1, c2, c3, c4, c5, i1, i2, sL, cl, m1, m2, k1, k2, k3, k4, k5, k6, k7, k8, hKp, sH, cm]; (repeat (first | ((refine heapK_sl TH (by simp) (by simp) (by omega) ?_ ?_; focus (simp; done)); try simp [hC, hY, vv, h, wS, w1, b0, b1, b2, b3, b4, hr, ei, hn, hd, hg, hm, hir, hi4, sA, sB, hx1, g1, g2, yn, yx, c1, c2, c3, c4, c5, i1, i2, sL, cl, m1, m2, k1, k2, k3, k4, k5, k6, k7, k8, hKp, sH, cm]))); (first | refine hQ _ _ _ _ ?_ | refine hP _ _ (fun _ => ?_)); clear hQ hP Q)
            | (refine GW_draw' [35] follows (by kernel_rfl) (by kernel_rfl) ?_; intro Q hQ hP; simp [hC, hY, vv, h, wS, w1, b0, b1, b2, b3, b4, hr, ei, hn, hd, hg, hm, hir, hi4, sA, sB, hx1, g1, g2, yn, yx, c1, c2, c3, c4, c5, i1, i2, sL, cl, m1, m2, k1, k2, k3, k4, k5, k6, k7, k8, hKp, sH, cm]; (repeat (first | ((refine heapK_sl TH (by simp) (by simp) (by omega) ?_ ?_; focus (simp; done)); try simp [hC, hY, vv, h, wS, w1, b0, b1, b2, b3, b4, hr, ei, hn, hd, hg, hm, hir, hi4, sA, sB, hx1, g1, g2, yn, yx, c1, c2, c3, c4, c5, i1, i2, sL, cl, m1, m2, k1, k2, k3, k4, k5, k6, k7, k8, hKp, sH, cm]))); (first | refine hQ _ _ _ _ (by kernel_rfl) ?_ | refine hP _ _ (by kernel_rfl) (fun _ => ?_)); clear hQ hP Q)
            | refine GW_block ?_
            | refine GW_ret ?_
            | refine GW_skip ?_
            | refine GW_exit ?_
            | refine GW_goto ?_
            | refine GW_label ?_
            | simp only [blockG_exit]
            | (refine GW_cond (by simp; rfl) ?_ ?_ <;> (intro hb; first | (exfalso; exact absurd hb (by decide)) | skip)))
          refine ⟨.inr trivial, ?_⟩
          simp [Tryd.results7]
        · have TH := wt3_over (2 * K + 1) (2 * K + 1) B ⟨i64_wr i2, i64_wr i2, wB⟩ ⟨i64_wr i2, ⟨by omega, by omega⟩, ov⟩
          obtain ⟨H, hH⟩ : ∃ l, (2 * K + 1) * (2 * K + 1) * B = l := ⟨_, rfl⟩
          rw [hH] at TH
          repeat' (first
            | refine GW_seq ?_
            | simp only [List.length_cons, List.length_nil, Nat.reduceAdd, Nat.reduceMul, thenG_normal, thenG_ret, thenG_exit, thenG_goto, thenG_panic, blockG_normal, blockG_ret, blockG_goto, blockG_panic, jumpG_normal, jumpG_ret, jumpG_exit, jumpG_panic]
            | (refine GW_region' [35] (by kernel_rfl) ?_; intro Q hQ hP; simp [hC, hY, vv, h, wS, w1, b0, b1, b2, b3, b4, hr, ei, hn, hd, hg, hm, hir, hi4, sA, sB, hx1, g1, g2, yn, yx, c1, c2, c3, c4, c5, i1, i2, sL, cl, m1, m2, k1, k2, k3, k4, k5, k6, k7, k8, hKp]; (repeat (first | ((refine heapK_sl TH (by simp) (by simp) (by omega) ?_ ?_; focus (simp; done)); try simp [hC, hY, vv, h, wS, w1, b0, b1, b2, b3, b4, hr, ei, hn, hd, hg, hm, hir, hi4, sA, sB, hx1, g1, g2, yn, yx, c1, c2, c3, c4, c5, i1, i2, sL, cl, m1, m2, k1, k2, k3, k4, k5, k6, k7, k8, hKp]))); (first | refine hQ _ _ _ _ ?_ | refine hP _ _ (fun _ => ?_)); clear hQ hP Q)
            | (refine GW_draw' [35] follows (by kernel_rfl) (by kernel_rfl) ?_; intro Q hQ hP; simp [hC, hY, vv, h, wS, w1, b0, b1, b2, b3, b4, hr, ei, hn, hd, hg, hm, hir, hi4, sA, sB, hx1, g1, g2, yn, yx, c1, c2, c3, c4, c5, i1, i2, sL, cl, m1, m2, k1, k2, k3, k4, k5, k6, k7, k8, hKp]; (repeat (first | ((refine heapK_sl TH (by simp) (by simp) (by omega) ?_ ?_; focus (simp; done)); try simp [hC, hY, vv, h, wS, w1, b0, b1, b2, b3, b4, hr, ei, hn, hd, hg, hm, hir, hi4, sA, sB, hx1, g1, g2, yn, yx, c1, c2, c3, c4, c5, i1, i2, sL, cl, m1, m2, k1, k2, k3, k4, k5, k6, k7, k8, hKp]))); (first | refine hQ _ _ _ _ (by kernel_rfl) ?_ | refine hP _ _ (by kernel_rfl) (fun _ => ?_)); clear hQ hP Q)
            | refine GW_block ?_
            | refine GW_ret ?_
            | refine GW_skip ?_
            | refine GW_exit ?_
            | refine GW_goto ?_
            | refine GW_label ?_
            | simp only [blockG_exit]
            | (refine GW_cond (by simp; rfl) ?_ ?_ <;> (intro hb; first | (exfalso; exact absurd hb (by decide)) | skip)))
          refine ⟨.inr trivial, ?_⟩
          simp [Tryd.results7]
      · replace g1 : (0 < n) = True := eq_true g1
        replace g2 : (0 < x1) = False := eq_false (by omega)
        repeat' (first
          | refine GW_seq ?_
          | simp only [List.length_cons, List.length_nil, Nat.reduceAdd, Nat.reduceMul, thenG_normal, thenG_ret, thenG_exit, thenG_goto, thenG_panic, blockG_normal, blockG_ret, blockG_goto, blockG_panic, jumpG_normal, jumpG_ret, jumpG_exit, jumpG_panic]
          | (refine GW_region' [35] (by kernel_rfl) ?_; intro Q hQ hP; simp [hC, hY, vv, h, wS, w1, b0, b1, b2, b3, b4, hr, ei, hn, hd, hg, hm, hir, hi4, sA, sB, hx1, g1, g2, yn, yx, c1, c2, c3, c4, c5, i1, i2, sL, cl, m1, m2, k1, k2, k3, k4, k5, k6, k7, k8, hKp]; (repeat (first | ((refine heapK_sl T9 (by simp) (by simp) (by omega) ?_ ?_; focus (simp; done)); try simp [hC, hY, vv, h, wS, w1, b0, b1, b2, b3, b4, hr, ei, hn, hd, hg, hm, hir, hi4, sA, sB, hx1, g1, g2, yn, yx, c1, c2, c3, c4, c5, i1, i2, sL, cl, m1, m2, k1, k2, k3, k4, k5, k6, k7, k8, hKp]) | ((refine heapK_sl T5 (by simp) (by simp) (by omega) ?_ ?_; focus (simp; done)); try simp [hC, hY, vv, h, wS, w1, b0, b1, b2, b3, b4, hr, ei, hn, hd, hg, hm, hir, hi4, sA, sB, hx1, g1, g2, yn, yx, c1, c2, c3, c4, c5, i1, i2, sL, cl, m1, m2, k1, k2, k3, k4, k5, k6, k7, k8, hKp]) | ((refine heapK_sl TL (by simp) (by simp) (by omega) ?_ ?_; focus (simp; done)); try simp [hC, hY, vv, h, wS, w1, b0, b1, b2, b3, b4, hr, ei, hn, hd, hg, hm, hir, hi4, sA, sB, hx1, g1, g2, yn, yx, c1, c2, c3, c4, c5, i1, i2, sL, cl, m1, m2, k1, k2, k3, k4, k5, k6, k7, k8, hKp]))); (first | refine hQ _ _ _ _ ?_ | refine hP _ _ (fun _ => ?_)); clear hQ hP Q)
          | (refine GW_draw' [35] follows (by kernel_rfl) (by kernel_rfl) ?_; intro Q hQ hP; simp [hC, hY, vv, h, wS, w1, b0, b1, b2, b3, b4, hr, ei, hn, hd, hg, hm, hir, hi4, sA, sB, hx1, g1, g2, yn, yx, c1, c2, c3, c4, c5, i1, i2, sL, cl, m1, m2, k1, k2, k3, k4, k5, k6, k7, k8, hKp]; (repeat (first | ((refine heapK_sl T9 (by simp) (by simp) (by omega) ?_ ?_; focus (simp; done)); try simp [hC, hY, vv, h, wS, w1, b0, b1, b2, b3, b4, hr, ei, hn, hd, hg, hm, hir, hi4, sA, sB, hx1, g1, g2, yn, yx, c1, c2, c3, c4, c5, i1, i2, sL, cl, m1, m2, k1, k2, k3, k4, k5, k6, k7, k8, hKp]) | ((refine heapK_sl T5 (by simp) (by simp) (by omega) ?_ ?_; focus (simp; done)); try simp [hC, hY, vv, h, wS, w1, b0, b1, b2, b3, b4, hr, ei, hn, hd, hg, hm, hir, hi4, sA, sB, hx1, g1, g2, yn, yx, c1, c2, c3, c4, c5, i1, i2, sL, cl, m1, m2, k1, k2, k3, k4, k5, k6, k7, k8, hKp]) | ((refine heapK_sl TL (by simp) (by simp) (by omega) ?_ ?_; focus (simp; done)); try simp [hC, hY, vv, h, wS, w1, b0, b1, b2, b3, b4, hr, ei, hn, hd, hg, hm, hir, hi4, sA, sB, hx1, g1, g2, yn, yx, c1, c2, c3, c4, c5, i1, i2, sL, cl, m1, m2, k1, k2, k3, k4, k5, k6, k7, k8, hKp]))); (first | refine hQ _ _ _ _ (by kernel_rfl) ?_ | refine hP _ _ (by kernel_rfl) (fun _ => ?_)); clear hQ hP Q)
          | refine GW_block ?_
          | refine GW_ret ?_
          | refine GW_skip ?_
          | refine GW_exit ?_
          | refine GW_goto ?_
          | refine GW_label ?_
          | simp only [blockG_exit]
          | (refine GW_cond (by simp; rfl) ?_ ?_ <;> (intro hb; first | (exfalso; exact absurd hb (by decide)) | skip)))
        by_cases ov : wr ((2 * K + 1) * (2 * K + 1) * B)
        · have TH := wt3 (2 * K + 1) (2 * K + 1) B ⟨i64_wr i2, i64_wr i2, wB⟩ ⟨i64_wr i2, ⟨by omega, by omega⟩, ov⟩
          obtain ⟨H, hH⟩ : ∃ l, (2 * K + 1) * (2 * K + 1) * B = l := ⟨_, rfl⟩
          rw [hH] at TH ov hi
          have sH := wr_sz ov
          have cm := cmp_lt hi
          repeat' (first
            | refine GW_seq ?_
            | simp only [List.length_cons, List.length_nil, Nat.reduceAdd, Nat.reduceMul, thenG_normal, thenG_ret, thenG_exit, thenG_goto, thenG_panic, blockG_normal, blockG_ret, blockG_goto, blockG_panic, jumpG_normal, jumpG_ret, jumpG_exit, jumpG_panic]
            | (refine GW_region' [35] (by kernel_rfl) ?_; intro Q hQ hP; simp [hC, hY, vv, h, wS, w1, b0, b1, b2, b3, b4, hr, ei, hn, hd, hg, hm, hir, hi4, sA, sB, hx1, g1, g2, yn, yx, c1, c2, c3, c4, c5, i1, i2, sL, cl, m1, m2, k1, k2, k3, k4, k5, k6, k7, k8, hKp, sH, cm]; (repeat (first | ((refine heapK_sl TH (by simp) (by simp) (by omega) ?_ ?_; focus (simp; done)); try simp [hC, hY, vv, h, wS, w1, b0, b1, b2, b3, b4, hr, ei, hn, hd, hg, hm, hir, hi4, sA, sB, hx1, g1, g2, yn, yx, c1, c2, c3, c4, c5, i1, i2, sL, cl, m1, m2, k1, k2, k3, k4, k5, k6, k7, k8, hKp, sH, cm]))); (first | refine hQ _ _ _ _ ?_ | refine hP _ _ (fun _ => ?_)); clear hQ hP Q)
            | (refine GW_draw' [35] follows (by kernel_rfl) (by kernel_rfl) ?_; intro Q hQ hP; simp [hC, hY, vv, h, wS, w1, b0, b1, b2, b3, b4, hr, ei, hn, hd, hg, hm, hir, hi4, sA, sB, hx1, g1, g2, yn, yx, c1, c2, c3, c4, c5, i1, i2, sL, cl, m1, m2, k1, k2, k3, k4, k5, k6, k7, k8, hKp, sH, cm]; (repeat (first | ((refine heapK_sl TH (by simp) (by simp) (by omega) ?_ ?_; focus (simp; done)); try simp [hC, hY, vv, h, wS, w1, b0, b1, b2, b3, b4, hr, ei, hn, hd, hg, hm, hir, hi4, sA, sB, hx1, g1, g2, yn, yx, c1, c2, c3, c4, c5, i1, i2, sL, cl, m1, m2, k1, k2, k3, k4, k5, k6, k7, k8, hKp, sH, cm]))); (first | refine hQ _ _ _ _ (by kernel_rfl) ?_ | refine hP _ _ (by kernel_rfl) (fun _ => ?_)); clear hQ hP Q)
            | refine GW_block ?_
            | refine GW_ret ?_
            | refine GW_skip ?_
            | refine GW_exit ?_
            | refine GW_goto ?_
            | refine GW_label ?_
            | simp only [blockG_exit]
            | (refine GW_cond (by simp; rfl) ?_ ?_ <;> (intro hb; first | (exfalso; exact absurd hb (by decide)) | skip)))
          refine ⟨.inr trivial, ?_⟩
          simp [Tryd.results7]
        · have TH := wt3_over (2 * K + 1) (2 * K + 1) B ⟨i64_wr i2, i64_wr i2, wB⟩ ⟨i64_wr i2, ⟨by omega, by omega⟩, ov⟩
          obtain ⟨H, hH⟩ : ∃ l, (2 * K + 1) * (2 * K + 1) * B = l := ⟨_, rfl⟩
          rw [hH] at TH
          repeat' (first
            | refine GW_seq ?_
            | simp only [List.length_cons, List.length_nil, Nat.reduceAdd, Nat.reduceMul, thenG_normal, thenG_ret, thenG_exit, thenG_goto, thenG_panic, blockG_normal, blockG_ret, blockG_goto, blockG_panic, jumpG_normal, jumpG_ret, jumpG_exit, jumpG_panic]
            | (refine GW_region' [35] (by kernel_rfl) ?_; intro Q hQ hP; simp [hC, hY, vv, h, wS, w1, b0, b1, b2, b3, b4, hr, ei, hn, hd, hg, hm, hir, hi4, sA, sB, hx1, g1, g2, yn, yx, c1, c2, c3, c4, c5, i1, i2, sL, cl, m1, m2, k1, k2, k3, k4, k5, k6, k7, k8, hKp]; (repeat (first | ((refine heapK_sl TH (by simp) (by simp) (by omega) ?_ ?_; focus (simp; done)); try simp [hC, hY, vv, h, wS, w1, b0, b1, b2, b3, b4, hr, ei, hn, hd, hg, hm, hir, hi4, sA, sB, hx1, g1, g2, yn, yx, c1, c2, c3, c4, c5, i1, i2, sL, cl, m1, m2, k1, k2, k3, k4, k5, k6, k7, k8, hKp]))); (first | refine hQ _ _ _ _ ?_ | refine hP _ _ (fun _ => ?_)); clear hQ hP Q)
            | (refine GW_draw' [35] follows (by kernel_rfl) (by kernel_rfl) ?_; intro Q hQ hP; simp [hC, hY, vv, h, wS, w1, b0, b1, b2, b3, b4, hr, ei, hn, hd, hg, hm, hir, hi4, sA, sB, hx1, g1, g2, yn, yx, c1, c2, c3, c4, c5, i1, i2, sL, cl, m1, m2, k1, k2, k3, k4, k5, k6, k7, k8, hKp]; (repeat (first | ((refine heapK_sl TH (by simp) (by simp) (by omega) ?_ ?_; focus (simp; done)); try simp [hC, hY, vv, h, wS, w1, b0, b1, b2, b3, b4, hr, ei, hn, hd, hg, hm, hir, hi4, sA, sB, hx1, g1, g2, yn, yx, c1, c2, c3, c4, c5, i1, i2, sL, cl, m1, m2, k1, k2, k3, k4, k5, k6, k7, k8, hKp]))); (first | refine hQ _ _ _ _ (by kernel_rfl) ?_ | refine hP _ _ (by kernel_rfl) (fun _ => ?_)); clear hQ hP Q)
            | refine GW_block ?_
            | refine GW_ret ?_
            | refine GW_skip ?_
            | refine GW_exit ?_
            | refine GW_goto ?_
            | refine GW_label ?_
            | simp only [blockG_exit]
            | (refine GW_cond (by simp; rfl) ?_ ?_ <;> (intro hb; first | (exfalso; exact absurd hb (by decide)) | skip)))
          refine ⟨.inr trivial, ?_⟩
          simp [Tryd.results7]
      · replace g1 : (0 < n) = False := eq_false (by omega)
        replace g2 : (0 < x1) = True := eq_true g2
        repeat' (first
          | refine GW_seq ?_
          | simp only [List.length_cons, List.length_nil, Nat.reduceAdd, Nat.reduceMul, thenG_normal, thenG_ret, thenG_exit, thenG_goto, thenG_panic, blockG_normal, blockG_ret, blockG_goto, blockG_panic, jumpG_normal, jumpG_ret, jumpG_exit, jumpG_panic]
          | (refine GW_region' [35] (by kernel_rfl) ?_; intro Q hQ hP; simp [hC, hY, vv, h, wS, w1, b0, b1, b2, b3, b4, hr, ei, hn, hd, hg, hm, hir, hi4, sA, sB, hx1, g1, g2, yn, yx, c1, c2, c3, c4, c5, i1, i2, sL, cl, m1, m2, k1, k2, k3, k4, k5, k6, k7, k8, hKp]; (repeat (first | ((refine heapK_sl T9 (by simp) (by simp) (by omega) ?_ ?_; focus (simp; done)); try simp [hC, hY, vv, h, wS, w1, b0, b1, b2, b3, b4, hr, ei, hn, hd, hg, hm, hir, hi4, sA, sB, hx1, g1, g2, yn, yx, c1, c2, c3, c4, c5, i1, i2, sL, cl, m1, m2, k1, k2, k3, k4, k5, k6, k7, k8, hKp]) | ((refine heapK_sl T5 (by simp) (by simp) (by omega) ?_ ?_; focus (simp; done)); try simp [hC, hY, vv, h, wS, w1, b0, b1, b2, b3, b4, hr, ei, hn, hd, hg, hm, hir, hi4, sA, sB, hx1, g1, g2, yn, yx, c1, c2, c3, c4, c5, i1, i2, sL, cl, m1, m2, k1, k2, k3, k4, k5, k6, k7, k8, hKp]) | ((refine heapK_sl TL (by simp) (by simp) (by omega) ?_ ?_; focus (simp; done)); try simp [hC, hY, vv, h, wS, w1, b0, b1, b2, b3, b4, hr, ei, hn, hd, hg, hm, hir, hi4, sA, sB, hx1, g1, g2, yn, yx, c1, c2, c3, c4, c5, i1, i2, sL, cl, m1, m2, k1, k2, k3, k4, k5, k6, k7, k8, hKp]))); (first | refine hQ _ _ _ _ ?_ | refine hP _ _ (fun _ => ?_)); clear hQ hP Q)
          | (refine GW_draw' [35] follows (by kernel_rfl) (by kernel_rfl) ?_; intro Q hQ hP; simp [hC, hY, vv, h, wS, w1, b0, b1, b2, b3, b4, hr, ei, hn, hd, hg, hm, hir, hi4, sA, sB, hx1, g1, g2, yn, yx, c1, c2, c3, c4, c5, i1, i2, sL, cl, m1, m2, k1, k2, k3, k4, k5, k6, k7, k8, hKp]; (repeat (first | ((refine heapK_sl T9 (by simp) (by simp) (by omega) ?_ ?_; focus (simp; done)); try simp [hC, hY, vv, h, wS, w1, b0, b1, b2, b3, b4, hr, ei, hn, hd, hg, hm, hir, hi4, sA, sB, hx1, g1, g2, yn, yx, c1, c2, c3, c4, c5, i1, i2, sL, cl, m1, m2, k1, k2, k3, k4, k5, k6, k7, k8, hKp]) | ((refine heapK_sl T5 (by simp) (by simp) (by omega) ?_ ?_; focus (simp; done)); try simp [hC, hY, vv, h, wS, w1, b0, b1, b2, b3, b4, hr, ei, hn, hd, hg, hm, hir, hi4, sA, sB, hx1, g1, g2, yn, yx, c1, c2, c3, c4, c5, i1, i2, sL, cl, m1, m2, k1, k2, k3, k4, k5, k6, k7, k8, hKp]) | ((refine heapK_sl TL (by simp) (by simp) (by omega) ?_ ?_; focus (simp; done)); try simp [hC, hY, vv, h, wS, w1, b0, b1, b2, b3, b4, hr, ei, hn, hd, hg, hm, hir, hi4, sA, sB, hx1, g1, g2, yn, yx, c1, c2, c3, c4, c5, i1, i2, sL, cl, m1, m2, k1, k2, k3, k4, k5, k6, k7, k8, hKp]))); (first | refine hQ _ _ _ _ (by kernel_rfl) ?_ | refine hP _ _ (by kernel_rfl) (fun _ => ?_)); clear hQ hP Q)
          | refine GW_block ?_
          | refine GW_ret ?_
          | refine GW_skip ?_
          | refine GW_exit ?_
          | refine GW_goto ?_
          | refine GW_label ?_
          | simp only [blockG_exit]
          | (refine GW_cond (by simp; rfl) ?_ ?_ <;> (intro hb; first | (exfalso; exact absurd hb (by decide)) | skip)))
        by_cases ov : wr ((2 * K + 1) * (2 * K + 1) * B)
        · have TH := wt3 (2 * K + 1) (2 * K + 1) B ⟨i64_wr i2, i64_wr i2, wB⟩ ⟨i64_wr i2, ⟨by omega, by omega⟩, ov⟩
          obtain ⟨H, hH⟩ : ∃ l, (2 * K + 1) * (2 * K + 1) * B = l := ⟨_, rfl⟩
          rw [hH] at TH ov hi
          have sH := wr_sz ov
          have cm := cmp_lt hi
          repeat' (first
            | refine GW_seq ?_
            | simp only [List.length_cons, List.length_nil, Nat.reduceAdd, Nat.reduceMul, thenG_normal, thenG_ret, thenG_exit, thenG_goto, thenG_panic, blockG_normal, blockG_ret, blockG_goto, blockG_panic, jumpG_normal, jumpG_ret, jumpG_exit, jumpG_panic]
            | (refine GW_region' [35] (by kernel_rfl) ?_; intro Q hQ hP; simp [hC, hY, vv, h, wS, w1, b0, b1, b2, b3, b4, hr, ei, hn, hd, hg, hm, hir, hi4, sA, sB, hx1, g1, g2, yn, yx, c1, c2, c3, c4, c5, i1, i2, sL, cl, m1, m2, k1, k2, k3, k4, k5, k6, k7, k8, hKp, sH, cm]; (repeat (first | ((refine heapK_sl TH (by simp) (by simp) (by omega) ?_ ?_; focus (simp; done)); try simp [hC, hY, vv, h, wS, w1, b0, b1, b2, b3, b4, hr, ei, hn, hd, hg, hm, hir, hi4, sA, sB, hx1, g1, g2, yn, yx, c1, c2, c3, c4, c5, i1, i2, sL, cl, m1, m2, k1, k2, k3, k4, k5, k6, k7, k8, hKp, sH, cm]))); (first | refine hQ _ _ _ _ ?_ | refine hP _ _ (fun _ => ?_)); clear hQ hP Q)
            | (refine GW_draw' [35] follows (by kernel_rfl) (by kernel_rfl) ?_; intro Q hQ hP; simp [hC, hY, vv, h, wS, w1, b0, b1, b2, b3, b4, hr, ei, hn, hd, hg, hm, hir, hi4, sA, sB, hx1, g1, g2, yn, yx, c1, c2, c3, c4, c5, i1, i2, sL, cl, m1, m2, k1, k2, k3, k4, k5, k6, k7, k8, hKp, sH, cm]; (repeat (first | ((refine heapK_sl TH (by simp) (by simp) (by omega) ?_ ?_; focus (simp; done)); try simp [hC, hY, vv, h, wS, w1, b0, b1, b2, b3, b4, hr, ei, hn, hd, hg, hm, hir, hi4, sA, sB, hx1, g1, g2, yn, yx, c1, c2, c3, c4, c5, i1, i2, sL, cl, m1, m2, k1, k2, k3, k4, k5, k6, k7, k8, hKp, sH, cm]))); (first | refine hQ _ _ _ _ (by kernel_rfl) ?_ | refine hP _ _ (by kernel_rfl) (fun _ => ?_)); clear hQ hP Q)
            | refine GW_block ?_
            | refine GW_ret ?_
            | refine GW_skip ?_
            | refine GW_exit ?_
            | refine GW_goto ?_
            | refine GW_label ?_
            | simp only [blockG_exit]
            | (refine GW_cond (by simp; rfl) ?_ ?_ <;> (intro hb; first | (exfalso; exact absurd hb (by decide)) | skip)))
          refine ⟨.inr trivial, ?_⟩
          simp [Tryd.results7]
        · have TH := wt3_over (2 * K + 1) (2 * K + 1) B ⟨i64_wr i2, i64_wr i2, wB⟩ ⟨i64_wr i2, ⟨by omega, by omega⟩, ov⟩
          obtain ⟨H, hH⟩ : ∃ l, (2 * K + 1) * (2 * K + 1) * B = l := ⟨_, rfl⟩
          rw [hH] at TH
          repeat' (first
            | refine GW_seq ?_
            | simp only [List.length_cons, List.length_nil, Nat.reduceAdd, Nat.reduceMul, thenG_normal, thenG_ret, thenG_exit, thenG_goto, thenG_panic, blockG_normal, blockG_ret, blockG_goto, blockG_panic, jumpG_normal, jumpG_ret, jumpG_exit, jumpG_panic]
            | (refine GW_region' [35] (by kernel_rfl) ?_; intro Q hQ hP; simp [hC, hY, vv, h, wS, w1, b0, b1, b2, b3, b4, hr, ei, hn, hd, hg, hm, hir, hi4, sA, sB, hx1, g1, g2, yn, yx, c1, c2, c3, c4, c5, i1, i2, sL, cl, m1, m2, k1, k2, k3, k4, k5, k6, k7, k8, hKp]; (repeat (first | ((refine heapK_sl TH (by simp) (by simp) (by omega) ?_ ?_; focus (simp; done)); try simp [hC, hY, vv, h, wS, w1, b0, b1, b2, b3, b4, hr, ei, hn, hd, hg, hm, hir, hi4, sA, sB, hx1, g1, g2, yn, yx, c1, c2, c3, c4, c5, i1, i2, sL, cl, m1, m2, k1, k2, k3, k4, k5, k6, k7, k8, hKp]))); (first | refine hQ _ _ _ _ ?_ | refine hP _ _ (fun _ => ?_)); clear hQ hP Q)
            | (refine GW_draw' [35] follows (by kernel_rfl) (by kernel_rfl) ?_; intro Q hQ hP; simp [hC, hY, vv, h, wS, w1, b0, b1, b2, b3, b4, hr, ei, hn, hd, hg, hm, hir, hi4, sA, sB, hx1, g1, g2, yn, yx, c1, c2, c3, c4, c5, i1, i2, sL, cl, m1, m2, k1, k2, k3, k4, k5, k6, k7, k8, hKp]; (repeat (first | ((refine heapK_sl TH (by simp) (by simp) (by omega) ?_ ?_; focus (simp; done)); try simp [hC, hY, vv, h, wS, w1, b0, b1, b2, b3, b4, hr, ei, hn, hd, hg, hm, hir, hi4, sA, sB, hx1, g1, g2, yn, yx, c1, c2, c3, c4, c5, i1, i2, sL, cl, m1, m2, k1, k2, k3, k4, k5, k6, k7, k8, hKp]))); (first | refine hQ _ _ _ _ (by kernel_rfl) ?_ | refine hP _ _ (by kernel_rfl) (fun _ => ?_)); clear hQ hP Q)
            | refine GW_block ?_
            | refine GW_ret ?_
            | refine GW_skip ?_
            | refine GW_exit ?_
            | refine GW_goto ?_
            | refine GW_label ?_
            | simp only [blockG_exit]
            | (refine GW_cond (by simp; rfl) ?_ ?_ <;> (intro hb; first | (exfalso; exact absurd hb (by decide)) | skip)))
          refine ⟨.inr trivial, ?_⟩
          simp [Tryd.results7]
  · have hP := hp.2.2
    have nr := mag_near hP
    have hmg := hP.mag
    have n9 := nine hP
    have T9 := wt9 4 n n g g m m x2 x2 ⟨n9.1, hwn, hwn, hwg, hwg, hwm, hwm, i64_wr hx2, i64_wr hx2⟩ n9
    have wA := n9.2.2.2.2.2.2.2.2
    rw [prod9] at T9 wA
    obtain ⟨A, hA⟩ : ∃ a, 2 * n * g * m * x2 * (2 * n * g * m * x2) = a := ⟨_, rfl⟩
    obtain ⟨B, hB⟩ : ∃ b, d * d * r * r * r = b := ⟨_, rfl⟩
    rw [hA] at T9 wA nr
    rw [hB] at T5 wB nr q4
    have sA := wr_sz wA
    have sB := wr_sz wB
    have pc := pull_cases hP
    obtain ⟨K, hK⟩ : ∃ K, pmag n d g m x2 r = K := ⟨_, rfl⟩
    rw [hK] at nr hmg pc
    rw [e2] at pc
    have hAu := hP.a_le
    rw [hA] at hAu
    repeat' (first
      | refine GW_seq ?_
      | simp only [List.length_cons, List.length_nil, Nat.reduceAdd, Nat.reduceMul, thenG_normal, thenG_ret, thenG_exit, thenG_goto, thenG_panic, blockG_normal, blockG_ret, blockG_goto, blockG_panic, jumpG_normal, jumpG_ret, jumpG_exit, jumpG_panic]
      | (refine GW_region' [] (by kernel_rfl) ?_; intro Q hQ hP; simp [hC, hY, vv, h, wS, w1, b0, b1, b2, b3, b4, hr, ei]; (first | refine hQ _ _ _ _ ?_ | refine hP _ _ (fun _ => ?_)); clear hQ hP Q)
      | (refine GW_draw' [] follows (by kernel_rfl) (by kernel_rfl) ?_; intro Q hQ hP; simp [hC, hY, vv, h, wS, w1, b0, b1, b2, b3, b4, hr, ei]; (first | refine hQ _ _ _ _ (by kernel_rfl) ?_ | refine hP _ _ (by kernel_rfl) (fun _ => ?_)); clear hQ hP Q)
      | refine GW_block ?_
      | refine GW_ret ?_
      | refine GW_skip ?_
      | refine GW_exit ?_
      | refine GW_goto ?_
      | refine GW_label ?_
      | simp only [blockG_exit]
      | (refine GW_cond (by simp; rfl) ?_ ?_ <;> (intro hb; first | (exfalso; exact absurd hb (by decide)) | skip)))
    rcases pc with ⟨hp0, hK0⟩ | ⟨hKp, pc⟩
    · subst hp0 hK0
      have TL := wt3 (-1) (-1) B ⟨wr_lit (by decide) (by decide), wr_lit (by decide) (by decide), wB⟩ ⟨wr_lit (by decide) (by decide), wr_lit (by decide) (by decide), by rw [show (-1 : Int) * -1 * B = B by omega]; exact wB⟩
      have TH := wt3 1 1 B ⟨wr_lit (by decide) (by decide), wr_lit (by decide) (by decide), wB⟩ ⟨wr_lit (by decide) (by decide), wr_lit (by decide) (by decide), by rw [show (1 : Int) * 1 * B = B by omega]; exact wB⟩
      rw [show (-1 : Int) * -1 * B = B by omega] at TL
      rw [show (1 : Int) * 1 * B = B by omega] at TH
      have cm : cmpI A B < 0 := cmp_lt (by have := nr.2; omega)
      have im1 : i64 (-1) := by decide
      have i1 := i64_1
      cases yn : (n == 0)
      · cases yx : (x2 == 0)
        all_goals
          repeat' (first
            | refine GW_seq ?_
            | simp only [List.length_cons, List.length_nil, Nat.reduceAdd, Nat.reduceMul, thenG_normal, thenG_ret, thenG_exit, thenG_goto, thenG_panic, blockG_normal, blockG_ret, blockG_goto, blockG_panic, jumpG_normal, jumpG_ret, jumpG_exit, jumpG_panic]
            | (refine GW_region' [35] (by kernel_rfl) ?_; intro Q hQ hP; simp [hC, hY, vv, h, wS, w1, b0, b1, b2, b3, b4, hr, ei, hn, hd, hg, hm, hir, hi4, sA, sB, hx2, cm, im1, i1, yn, yx]; (repeat (first | ((refine heapK_sl T9 (by simp) (by simp) (by omega) ?_ ?_; focus (simp; done)); try simp [hC, hY, vv, h, wS, w1, b0, b1, b2, b3, b4, hr, ei, hn, hd, hg, hm, hir, hi4, sA, sB, hx2, cm, im1, i1, yn, yx]) | ((refine heapK_sl T5 (by simp) (by simp) (by omega) ?_ ?_; focus (simp; done)); try simp [hC, hY, vv, h, wS, w1, b0, b1, b2, b3, b4, hr, ei, hn, hd, hg, hm, hir, hi4, sA, sB, hx2, cm, im1, i1, yn, yx]) | ((refine heapK_sl TL (by simp) (by simp) (by omega) ?_ ?_; focus (simp; done)); try simp [hC, hY, vv, h, wS, w1, b0, b1, b2, b3, b4, hr, ei, hn, hd, hg, hm, hir, hi4, sA, sB, hx2, cm, im1, i1, yn, yx]) | ((refine heapK_sl TH (by simp) (by simp) (by omega) ?_ ?_; focus (simp; done)); try simp [hC, hY, vv, h, wS, w1, b0, b1, b2, b3, b4, hr, ei, hn, hd, hg, hm, hir, hi4, sA, sB, hx2, cm, im1, i1, yn, yx]))); (first | refine hQ _ _ _ _ ?_ | refine hP _ _ (fun _ => ?_)); clear hQ hP Q)
            | (refine GW_draw' [35] follows (by kernel_rfl) (by kernel_rfl) ?_; intro Q hQ hP; simp [hC, hY, vv, h, wS, w1, b0, b1, b2, b3, b4, hr, ei, hn, hd, hg, hm, hir, hi4, sA, sB, hx2, cm, im1, i1, yn, yx]; (repeat (first | ((refine heapK_sl T9 (by simp) (by simp) (by omega) ?_ ?_; focus (simp; done)); try simp [hC, hY, vv, h, wS, w1, b0, b1, b2, b3, b4, hr, ei, hn, hd, hg, hm, hir, hi4, sA, sB, hx2, cm, im1, i1, yn, yx]) | ((refine heapK_sl T5 (by simp) (by simp) (by omega) ?_ ?_; focus (simp; done)); try simp [hC, hY, vv, h, wS, w1, b0, b1, b2, b3, b4, hr, ei, hn, hd, hg, hm, hir, hi4, sA, sB, hx2, cm, im1, i1, yn, yx]) | ((refine heapK_sl TL (by simp) (by simp) (by omega) ?_ ?_; focus (simp; done)); try simp [hC, hY, vv, h, wS, w1, b0, b1, b2, b3, b4, hr, ei, hn, hd, hg, hm, hir, hi4, sA, sB, hx2, cm, im1, i1, yn, yx]) | ((refine heapK_sl TH (by simp) (by simp) (by omega) ?_ ?_; focus (simp; done)); try simp [hC, hY, vv, h, wS, w1, b0, b1, b2, b3, b4, hr, ei, hn, hd, hg, hm, hir, hi4, sA, sB, hx2, cm, im1, i1, yn, yx]))); (first | refine hQ _ _ _ _ (by kernel_rfl) ?_ | refine hP _ _ (by kernel_rfl) (fun _ => ?_)); clear hQ hP Q)
            | refine GW_block ?_
            | refine GW_ret ?_
            | refine GW_skip ?_
            | refine GW_exit ?_
            | refine GW_goto ?_
            | refine GW_label ?_
            | simp only [blockG_exit]
            | (refine GW_cond (by simp; rfl) ?_ ?_ <;> (intro hb; first | (exfalso; exact absurd hb (by decide)) | skip)))
        all_goals
          refine ⟨.inr trivial, ?_⟩
          simp [Tryd.results7]
      · skip
        repeat' (first
          | refine GW_seq ?_
          | simp only [List.length_cons, List.length_nil, Nat.reduceAdd, Nat.reduceMul, thenG_normal, thenG_ret, thenG_exit, thenG_goto, thenG_panic, blockG_normal, blockG_ret, blockG_goto, blockG_panic, jumpG_normal, jumpG_ret, jumpG_exit, jumpG_panic]
          | (refine GW_region' [35] (by kernel_rfl) ?_; intro Q hQ hP; simp [hC, hY, vv, h, wS, w1, b0, b1, b2, b3, b4, hr, ei, hn, hd, hg, hm, hir, hi4, sA, sB, hx2, cm, im1, i1, yn]; (repeat (first | ((refine heapK_sl T9 (by simp) (by simp) (by omega) ?_ ?_; focus (simp; done)); try simp [hC, hY, vv, h, wS, w1, b0, b1, b2, b3, b4, hr, ei, hn, hd, hg, hm, hir, hi4, sA, sB, hx2, cm, im1, i1, yn]) | ((refine heapK_sl T5 (by simp) (by simp) (by omega) ?_ ?_; focus (simp; done)); try simp [hC, hY, vv, h, wS, w1, b0, b1, b2, b3, b4, hr, ei, hn, hd, hg, hm, hir, hi4, sA, sB, hx2, cm, im1, i1, yn]) | ((refine heapK_sl TL (by simp) (by simp) (by omega) ?_ ?_; focus (simp; done)); try simp [hC, hY, vv, h, wS, w1, b0, b1, b2, b3, b4, hr, ei, hn, hd, hg, hm, hir, hi4, sA, sB, hx2, cm, im1, i1, yn]) | ((refine heapK_sl TH (by simp) (by simp) (by omega) ?_ ?_; focus (simp; done)); try simp [hC, hY, vv, h, wS, w1, b0, b1, b2, b3, b4, hr, ei, hn, hd, hg, hm, hir, hi4, sA, sB, hx2, cm, im1, i1, yn]))); (first | refine hQ _ _ _ _ ?_ | refine hP _ _ (fun _ => ?_)); clear hQ hP Q)
          | (refine GW_draw' [35] follows (by kernel_rfl) (by kernel_rfl) ?_; intro Q hQ hP; simp [hC, hY, vv, h, wS, w1, b0, b1, b2, b3, b4, hr, ei, hn, hd, hg, hm, hir, hi4, sA, sB, hx2, cm, im1, i1, yn]; (repeat (first | ((refine heapK_sl T9 (by simp) (by simp) (by omega) ?_ ?_; focus (simp; done)); try simp [hC, hY, vv, h, wS, w1, b0, b1, b2, b3, b4, hr, ei, hn, hd, hg, hm, hir, hi4, sA, sB, hx2, cm, im1, i1, yn]) | ((refine heapK_sl T5 (by simp) (by simp) (by omega) ?_ ?_; focus (simp; done)); try simp [hC, hY, vv, h, wS, w1, b0, b1, b2, b3, b4, hr, ei, hn, hd, hg, hm, hir, hi4, sA, sB, hx2, cm, im1, i1, yn]) | ((refine heapK_sl TL (by simp) (by simp) (by omega) ?_ ?_; focus (simp; done)); try simp [hC, hY, vv, h, wS, w1, b0, b1, b2, b3, b4, hr, ei, hn, hd, hg, hm, hir, hi4, sA, sB, hx2, cm, im1, i1, yn]) | ((refine heapK_sl TH (by simp) (by simp) (by omega) ?_ ?_; focus (simp; done)); try simp [hC, hY, vv, h, wS, w1, b0, b1, b2, b3, b4, hr, ei, hn, hd, hg, hm, hir, hi4, sA, sB, hx2, cm, im1, i1, yn]))); (first | refine hQ _ _ _ _ (by kernel_rfl) ?_ | refine hP _ _ (by kernel_rfl) (fun _ => ?_)); clear hQ hP Q)
          | refine GW_block ?_
          | refine GW_ret ?_
          | refine GW_skip ?_
          | refine GW_exit ?_
          | refine GW_goto ?_
          | refine GW_label ?_
          | simp only [blockG_exit]
          | (refine GW_cond (by simp; rfl) ?_ ?_ <;> (intro hb; first | (exfalso; exact absurd hb (by decide)) | skip)))
        refine ⟨.inr trivial, ?_⟩
        simp [Tryd.results7]
    · have hKu := hmg.2
      have c1 : Int.bmod (2 * K) 18446744073709551616 = 2 * K := bm (by omega) (by omega)
      have c2 : Int.bmod (2 * K - 1) 18446744073709551616 = 2 * K - 1 := bm (by omega) (by omega)
      have c3 : Int.bmod (2 * K + 1) 18446744073709551616 = 2 * K + 1 := bm (by omega) (by omega)
      have c4 : Int.bmod (-K) 18446744073709551616 = -K := bm (by omega) (by omega)
      have c5 : Int.bmod K 18446744073709551616 = K := bm (by omega) (by omega)
      have i1 : i64 (2 * K - 1) := ⟨by omega, by omega⟩
      have i2 : i64 (2 * K + 1) := ⟨by omega, by omega⟩
      have a1 := absmul (a := 2 * K - 1) (b := 2 * K - 1) (p := 9007199254740993) (q := 9007199254740993) (by omega) (by omega) (by omega) (by omega)
      have a2 := absmul (a := 2 * K + 1) (b := 2 * K + 1) (p := 9007199254740993) (q := 9007199254740993) (by omega) (by omega) (by omega) (by omega)
      have lo := nr.1 hKp
      have L0 : 0 ≤ (2 * K - 1) * (2 * K - 1) * B := Int.mul_nonneg (sq_nonneg _) (by omega)
      have wL : wr ((2 * K - 1) * (2 * K - 1) * B) := ⟨by omega, by have := wA.2; omega⟩
      have TL := wt3 (2 * K - 1) (2 * K - 1) B ⟨i64_wr i1, i64_wr i1, wB⟩ ⟨i64_wr i1, ⟨by omega, by omega⟩, wL⟩
      have hi := nr.2
      obtain ⟨L, hL⟩ : ∃ l, (2 * K - 1) * (2 * K - 1) * B = l := ⟨_, rfl⟩
      rw [hL] at TL wL lo
      have sL := wr_sz wL
      have cl := cmp_not_gt lo
      have m1 : ¬ K < -K := by omega
      have m2 : -K < K := by omega
      have k1 : ¬ 1152921504606846976 < K := by omega
      have k2 : ¬ K < -1152921504606846976 := by omega
      have k3 : ¬ 1152921504606846976 < -K := by omega
      have k4 : ¬ -K < -1152921504606846976 := by omega
      have k5 : (K != 0) = true := by simp; omega
      have k6 : (-K != 0) = true := by simp; omega
      have k7 : ¬ 0 < -K := by omega
      have k8 : ¬ K < 0 := by omega
      rcases pc with ⟨g1, g2, g3⟩ | ⟨g1, g2, g3⟩ | ⟨g1, g2, g3⟩ | ⟨g1, g2, g3⟩
      all_goals
        replace g3 := g3.symm
        subst g3
        have yn : (n == 0) = false := by simp; omega
        have yx : (x2 == 0) = false := by simp; omega
      · replace g1 : (0 < n) = True := eq_true g1
        replace g2 : (0 < x2) = True := eq_true g2
        repeat' (first
          | refine GW_seq ?_
          | simp only [List.length_cons, List.length_nil, Nat.reduceAdd, Nat.reduceMul, thenG_normal, thenG_ret, thenG_exit, thenG_goto, thenG_panic, blockG_normal, blockG_ret, blockG_goto, blockG_panic, jumpG_normal, jumpG_ret, jumpG_exit, jumpG_panic]
          | (refine GW_region' [35] (by kernel_rfl) ?_; intro Q hQ hP; simp [hC, hY, vv, h, wS, w1, b0, b1, b2, b3, b4, hr, ei, hn, hd, hg, hm, hir, hi4, sA, sB, hx2, g1, g2, yn, yx, c1, c2, c3, c4, c5, i1, i2, sL, cl, m1, m2, k1, k2, k3, k4, k5, k6, k7, k8, hKp]; (repeat (first | ((refine heapK_sl T9 (by simp) (by simp) (by omega) ?_ ?_; focus (simp; done)); try simp [hC, hY, vv, h, wS, w1, b0, b1, b2, b3, b4, hr, ei, hn, hd, hg, hm, hir, hi4, sA, sB, hx2, g1, g2, yn, yx, c1, c2, c3, c4, c5, i1, i2, sL, cl, m1, m2, k1, k2, k3, k4, k5, k6, k7, k8, hKp]) | ((refine heapK_sl T5 (by simp) (by simp) (by omega) ?_ ?_; focus (simp; done)); try simp [hC, hY, vv, h, wS, w1, b0, b1, b2, b3, b4, hr, ei, hn, hd, hg, hm, hir, hi4, sA, sB, hx2, g1, g2, yn, yx, c1, c2, c3, c4, c5, i1, i2, sL, cl, m1, m2, k1, k2, k3, k4, k5, k6, k7, k8, hKp]) | ((refine heapK_sl TL (by simp) (by simp) (by omega) ?_ ?_; focus (simp; done)); try simp [hC, hY, vv, h, wS, w1, b0, b1, b2, b3, b4, hr, ei, hn, hd, hg, hm, hir, hi4, sA, sB, hx2, g1, g2, yn, yx, c1, c2, c3, c4, c5, i1, i2, sL, cl, m1, m2, k1, k2, k3, k4, k5, k6, k7, k8, hKp]))); (first | refine hQ _ _ _ _ ?_ | refine hP _ _ (fun _ => ?_)); clear hQ hP Q)
          | (refine GW_draw' [35] follows (by kernel_rfl) (by kernel_rfl) ?_; intro Q hQ hP; simp [hC, hY, vv, h, wS, w1, b0, b1, b2, b3, b4, hr, ei, hn, hd, hg, hm, hir, hi4, sA, sB, hx2, g1, g2, yn, yx, c1, c2, c3, c4, c5, i1, i2, sL, cl, m1, m2, k1, k2, k3, k4, k5, k6, k7, k8, hKp]; (repeat (first | ((refine heapK_sl T9 (by simp) (by simp) (by omega) ?_ ?_; focus (simp; done)); try simp [hC, hY, vv, h, wS, w1, b0, b1, b2, b3, b4, hr, ei, hn, hd, hg, hm, hir, hi4, sA, sB, hx2, g1, g2, yn, yx, c1, c2, c3, c4, c5, i1, i2, sL, cl, m1, m2, k1, k2, k3, k4, k5, k6, k7, k8, hKp]) | ((refine heapK_sl T5 (by simp) (by simp) (by omega) ?_ ?_; focus (simp; done)); try simp [hC, hY, vv, h, wS, w1, b0, b1, b2, b3, b4, hr, ei, hn, hd, hg, hm, hir, hi4, sA, sB, hx2, g1, g2, yn, yx, c1, c2, c3, c4, c5, i1, i2, sL, cl, m1, m2, k1, k2, k3, k4, k5, k6, k7, k8, hKp]) | ((refine heapK_sl TL (by simp) (by simp) (by omega) ?_ ?_; focus (simp; done)); try simp [hC, hY, vv, h, wS, w1, b0, b1, b2, b3, b4, hr, ei, hn, hd, hg, hm, hir, hi4, sA, sB, hx2, g1, g2, yn, yx, c1, c2, c3, c4, c5, i1, i2, sL, cl, m1, m2, k1, k2, k3, k4, k5, k6, k7, k8, hKp]))); (first | refine hQ _ _ _ _ (by kernel_rfl) ?_ | refine hP _ _ (by kernel_rfl) (fun _ => ?_)); clear hQ hP Q)
          | refine GW_block ?_
          | refine GW_ret ?_
          | refine GW_skip ?_
          | refine GW_exit ?_
          | refine GW_goto ?_
          | refine GW_label ?_
          | simp only [blockG_exit]
          | (refine GW_cond (by simp; rfl) ?_ ?_ <;> (intro hb; first | (exfalso; exact absurd hb (by decide)) | skip)))
        by_cases ov : wr ((2 * K + 1) * (2 * K + 1) * B)
        · have TH := wt3 (2 * K + 1) (2 * K + 1) B ⟨i64_wr i2, i64_wr i2, wB⟩ ⟨i64_wr i2, ⟨by omega, by omega⟩, ov⟩
          obtain ⟨H, hH⟩ : ∃ l, (2 * K + 1) * (2 * K + 1) * B = l := ⟨_, rfl⟩
          rw [hH] at TH ov hi
          have sH := wr_sz ov
          have cm := cmp_lt hi
          repeat' (first
            | refine GW_seq ?_
            | simp only [List.length_cons, List.length_nil, Nat.reduceAdd, Nat.reduceMul, thenG_normal, thenG_ret, thenG_exit, thenG_goto, thenG_panic, blockG_normal, blockG_ret, blockG_goto, blockG_panic, jumpG_normal, jumpG_ret, jumpG_exit, jumpG_panic]
            | (refine GW_region' [35] (by kernel_rfl) ?_; intro Q hQ hP; simp [hC, hY, vv, h, wS, w1, b0, b1, b2, b3, b4, hr, ei, hn, hd, hg, hm, hir, hi4, sA, sB, hx2, g1, g2, yn, yx, c1, c2, c3, c4, c5, i1, i2, sL, cl, m1, m2, k1, k2, k3, k4, k5, k6, k7, k8, hKp, sH, cm]; (repeat (first | ((refine heapK_sl TH (by simp) (by simp) (by omega) ?_ ?_; focus (simp; done)); try simp [hC, hY, vv, h, wS, w1, b0, b1, b2, b3, b4, hr, ei, hn, hd, hg, hm, hir, hi4, sA, sB, hx2, g1, g2, yn, yx, c1, c2, c3, c4, c5, i1, i2, sL, cl, m1, m2, k1, k2, k3, k4, k5, k6, k7, k8, hKp, sH, cm]))); (first | refine hQ _ _ _ _ ?_ | refine hP _ _ (fun _ => ?_)); clear hQ hP Q)
            | (refine GW_draw' [35] follows (by kernel_rfl) (by kernel_rfl) ?_; intro Q hQ hP; simp [hC, hY, vv, h, wS, w1, b0, b1, b2, b3, b4, hr, ei, hn, hd, hg, hm, hir, hi4, sA, sB, hx2, g1, g2, yn, yx, c1, c2, c3, c4, c5, i1, i2, sL, cl, m1, m2, k1, k2, k3, k4, k5, k6, k7, k8, hKp, sH, cm]; (repeat (first | ((refine heapK_sl TH (by simp) (by simp) (by omega) ?_ ?_; focus (simp; done)); try simp [hC, hY, vv, h, wS, w1, b0, b1, b2, b3, b4, hr, ei, hn, hd, hg, hm, hir, hi4, sA, sB, hx2, g1, g2, yn, yx, c1, c2, c3, c4, c5, i1, i2, sL, cl, m1, m2, k1, k2, k3, k4, k5, k6, k7, k8, hKp, sH, cm]))); (first | refine hQ _ _ _ _ (by kernel_rfl) ?_ | refine hP _ _ (by kernel_rfl) (fun _ => ?_)); clear hQ hP Q)
            | refine GW_block ?_
            | refine GW_ret ?_
            | refine GW_skip ?_
            | refine GW_exit ?_
            | refine GW_goto ?_
            | refine GW_label ?_
            | simp only [blockG_exit]
            | (refine GW_cond (by simp; rfl) ?_ ?_ <;> (intro hb; first | (exfalso; exact absurd hb (by decide)) | skip)))
          refine ⟨.inr trivial, ?_⟩
          simp [Tryd.results7]
        · have TH := wt3_over (2 * K + 1) (2 * K + 1) B ⟨i64_wr i2, i64_wr i2, wB⟩ ⟨i64_wr i2, ⟨by omega, by omega⟩, ov⟩
          obtain ⟨H, hH⟩ : ∃ l, (2 * K + 1) * (2 * K + 1) * B = l := ⟨_, rfl⟩
          rw [hH] at TH
          repeat' (first
            | refine GW_seq ?_
            | simp only [List.length_cons, List.length_nil, Nat.reduceAdd, Nat.reduceMul, thenG_normal, thenG_ret, thenG_exit, thenG_goto, thenG_panic, blockG_normal, blockG_ret, blockG_goto, blockG_panic, jumpG_normal, jumpG_ret, jumpG_exit, jumpG_panic]
            | (refine GW_region' [35] (by kernel_rfl) ?_; intro Q hQ hP; simp [hC, hY, vv, h, wS, w1, b0, b1, b2, b3, b4, hr, ei, hn, hd, hg, hm, hir, hi4, sA, sB, hx2, g1, g2, yn, yx, c1, c2, c3, c4, c5, i1, i2, sL, cl, m1, m2, k1, k2, k3, k4, k5, k6, k7, k8, hKp]; (repeat (first | ((refine heapK_sl TH (by simp) (by simp) (by omega) ?_ ?_; focus (simp; done)); try simp [hC, hY, vv, h, wS, w1, b0, b1, b2, b3, b4, hr, ei, hn, hd, hg, hm, hir, hi4, sA, sB, hx2, g1, g2, yn, yx, c1, c2, c3, c4, c5, i1, i2, sL, cl, m1, m2, k1, k2, k3, k4, k5, k6, k7, k8, hKp]))); (first | refine hQ _ _ _ _ ?_ | refine hP _ _ (fun _ => ?_)); clear hQ hP Q)
            | (refine GW_draw' [35] follows (by kernel_rfl) (by kernel_rfl) ?_; intro Q hQ hP; simp [hC, hY, vv, h, wS, w1, b0, b1, b2, b3, b4, hr, ei, hn, hd, hg, hm, hir, hi4, sA, sB, hx2, g1, g2, yn, yx, c1, c2, c3, c4, c5, i1, i2, sL, cl, m1, m2, k1, k2, k3, k4, k5, k6, k7, k8, hKp]; (repeat (first | ((refine heapK_sl TH (by simp) (by simp) (by omega) ?_ ?_; focus (simp; done)); try simp [hC, hY, vv, h, wS, w1, b0, b1, b2, b3, b4, hr, ei, hn, hd, hg, hm, hir, hi4, sA, sB, hx2, g1, g2, yn, yx, c1, c2, c3, c4, c5, i1, i2, sL, cl, m1, m2, k1, k2, k3, k4, k5, k6, k7, k8, hKp]))); (first | refine hQ _ _ _ _ (by kernel_rfl) ?_ | refine hP _ _ (by kernel_rfl) (fun _ => ?_)); clear hQ hP Q)
            | refine GW_block ?_
            | refine GW_ret ?_
            | refine GW_skip ?_
            | refine GW_exit ?_
            | refine GW_goto ?_
            | refine GW_label ?_
            | simp only [blockG_exit]
            | (refine GW_cond (by simp; rfl) ?_ ?_ <;> (intro hb; first | (exfalso; exact absurd hb (by decide)) | skip)))
          refine ⟨.inr trivial, ?_⟩
          simp [Tryd.results7]
      · replace g1 : (0 < n) = False := eq_false (by omega)
        replace g2 : (0 < x2) = False := eq_false (by omega)
        repeat' (first
          | refine GW_seq ?_
          | simp only [List.length_cons, List.length_nil, Nat.reduceAdd, Nat.reduceMul, thenG_normal, thenG_ret, thenG_exit, thenG_goto, thenG_panic, blockG_normal, blockG_ret, blockG_goto, blockG_panic, jumpG_normal, jumpG_ret, jumpG_exit, jumpG_panic]
          | (refine GW_region' [35] (by kernel_rfl) ?_; intro Q hQ hP; simp [hC, hY, vv, h, wS, w1, b0, b1, b2, b3, b4, hr, ei, hn, hd, hg, hm, hir, hi4, sA, sB, hx2, g1, g2, yn, yx, c1, c2, c3, c4, c5, i1, i2, sL, cl, m1, m2, k1, k2, k3, k4, k5, k6, k7, k8, hKp]; (repeat (first | ((refine heapK_sl T9 (by simp) (by simp) (by omega) ?_ ?_; focus (simp; done)); try simp [hC, hY, vv, h, wS, w1, b0, b1, b2, b3, b4, hr, ei, hn, hd, hg, hm, hir, hi4, sA, sB, hx2, g1, g2, yn, yx, c1, c2, c3, c4, c5, i1, i2, sL, cl, m1, m2, k1, k2, k3, k4, k5, k6, k7, k8, hKp]) | ((refine heapK_sl T5 (by simp) (by simp) (by omega) ?_ ?_; focus (simp; done)); try simp [hC, hY, vv, h, wS, w1, b0, b1, b2, b3, b4, hr, ei, hn, hd, hg, hm, hir, hi4, sA, sB, hx2, g1, g2, yn, yx, c1, c2, c3, c4, c5, i1, i2, sL, cl, m1, m2, k1, k2, k3, k4, k5, k6, k7, k8, hKp]) | ((refine heapK_sl TL (by simp) (by simp) (by omega) ?_ ?_; focus (simp; done)); try simp [hC, hY, vv, h, wS, w1, b0, b1, b2, b3, b4, hr, ei, hn, hd, hg, hm, hir, hi4, sA, sB, hx2, g1, g2, yn, yx, c1, c2, c3, c4, c5, i1, i2, sL, cl, m1, m2, k1, k2, k3, k4, k5, k6, k7, k8, hKp]))); (first | refine hQ _ _ _ _ ?_ | refine hP _ _ (fun _ => ?_)); clear hQ hP Q)
          | (refine GW_draw' [35] follows (by kernel_rfl) (by kernel_rfl) ?_; intro Q hQ hP; simp [hC, hY, vv, h, wS, w1, b0, b1, b2, b3, b4, hr, ei, hn, hd, hg, hm, hir, hi4, sA, sB, hx2, g1, g2, yn, yx, c1, c2, c3, c4, c5, i1, i2, sL, cl, m1, m2, k1, k2, k3, k4, k5, k6, k7, k8, hKp]; (repeat (first | ((refine heapK_sl T9 (by simp) (by simp) (by omega) ?_ ?_; focus (simp; done)); try simp [hC, hY, vv, h, wS, w1, b0, b1, b2, b3, b4, hr, ei, hn, hd, hg, hm, hir, hi4, sA, sB, hx2, g1, g2, yn, yx, c1, c2, c3, c4, c5, i1, i2, sL, cl, m1, m2, k1, k2, k3, k4, k5, k6, k7, k8, hKp]) | ((refine heapK_sl T5 (by simp) (by simp) (by omega) ?_ ?_; focus (simp; done)); try simp [hC, hY, vv, h, wS, w1, b0, b1, b2, b3, b4, hr, ei, hn, hd, hg, hm, hir, hi4, sA, sB, hx2, g1, g2, yn, yx, c1, c2, c3, c4, c5, i1, i2, sL, cl, m1, m2, k1, k2, k3, k4, k5, k6, k7, k8, hKp]) | ((refine heapK_sl TL (by simp) (by simp) (by omega) ?_ ?_; focus (simp; done)); try simp [hC, hY, vv, h, wS, w1, b0, b1, b2, b3, b4, hr, ei, hn, hd, hg, hm, hir, hi4, sA, sB, hx2, g1, g2, yn, yx, c1, c2, c3, c4, c5, i1, i2, sL, cl, m1, m2, k1, k2, k3, k4, k5, k6, k7, k8, hKp]))); (first | refine hQ _ _ _ _ (by kernel_rfl) ?_ | refine hP _ _ (by kernel_rfl) (fun _ => ?_)); clear hQ hP Q)
          | refine GW_block ?_
          | refine GW_ret ?_
          | refine GW_skip ?_
          | refine GW_exit ?_
          | refine GW_goto ?_
          | refine GW_label ?_
          | simp only [blockG_exit]
          | (refine GW_cond (by simp; rfl) ?_ ?_ <;> (intro hb; first | (exfalso; exact absurd hb (by decide)) | skip)))
        by_cases ov : wr ((2 * K + 1) * (2 * K + 1) * B)
        · have TH := wt3 (2 * K + 1) (2 * K + 1) B ⟨i64_wr i2, i64_wr i2, wB⟩ ⟨i64_wr i2, ⟨by omega, by omega⟩, ov⟩
          obtain ⟨H, hH⟩ : ∃ l, (2 * K + 1) * (2 * K + 1) * B = l := ⟨_, rfl⟩
          rw [hH] at TH ov hi
          have sH := wr_sz ov
          have cm := cmp_lt hi
          repeat' (first
            | refine GW_seq ?_
            | simp only [List.length_cons, List.length_nil, Nat.reduceAdd, Nat.reduceMul, thenG_normal, thenG_ret, thenG_exit, thenG_goto, thenG_panic, blockG_normal, blockG_ret, blockG_goto, blockG_panic, jumpG_normal, jumpG_ret, jumpG_exit, jumpG_panic]
            | (refine GW_region' [35] (by kernel_rfl) ?_; intro Q hQ hP; simp [hC, hY, vv, h, wS, w1, b0, b1, b2, b3, b4, hr, ei, hn, hd, hg, hm, hir, hi4, sA, sB, hx2, g1, g2, yn, yx, c1, c2, c3, c4, c5, i1, i2, sL, cl, m1, m2, k1, k2, k3, k4, k5, k6, k7, k8, hKp, sH, cm]; (repeat (first | ((refine heapK_sl TH (by simp) (by simp) (by omega) ?_ ?_; focus (simp; done)); try simp [hC, hY, vv, h, wS, w1, b0, b1, b2, b3, b4, hr, ei, hn, hd, hg, hm, hir, hi4, sA, sB, hx2, g1, g2, yn, yx, c1, c2, c3, c4, c5, i1, i2, sL, cl, m1, m2, k1, k2, k3, k4, k5, k6, k7, k8, hKp, sH, cm]))); (first | refine hQ _ _ _ _ ?_ | refine hP _ _ (fun _ => ?_)); clear hQ hP Q)
            | (refine GW_draw' [35] follows (by kernel_rfl) (by kernel_rfl) ?_; intro Q hQ hP; simp [hC, hY, vv, h, wS, w1, b0, b1, b2, b3, b4, hr, ei, hn, hd, hg, hm, hir, hi4, sA, sB, hx2, g1, g2, yn, yx, c1, c2, c3, c4, c5, i1, i2, sL, cl, m1, m2, k1, k2, k3, k4, k5, k6, k7, k8, hKp, sH, cm]; (repeat (first | ((refine heapK_sl TH (by simp) (by simp) (by omega) ?_ ?_; focus (simp; done)); try simp [hC, hY, vv, h, wS, w1, b0, b1, b2, b3, b4, hr, ei, hn, hd, hg, hm, hir, hi4, sA, sB, hx2, g1, g2, yn, yx, c1, c2, c3, c4, c5, i1, i2, sL, cl, m1, m2, k1, k2, k3, k4, k5, k6, k7, k8, hKp, sH, cm]))); (first | refine hQ _ _ _ _ (by kernel_rfl) ?_ | refine hP _ _ (by kernel_rfl) (fun _ => ?_)); clear hQ hP Q)
            | refine GW_block ?_
            | refine GW_ret ?_
            | refine GW_skip ?_
            | refine GW_exit ?_
            | refine GW_goto ?_
            | refine GW_label ?_
            | simp only [blockG_exit]
            | (refine GW_cond (by simp; rfl) ?_ ?_ <;> (intro hb; first | (exfalso; exact absurd hb (by decide)) | skip)))
          refine ⟨.inr trivial, ?_⟩
          simp [Tryd.results7]
        · have TH := wt3_over (2 * K + 1) (2 * K + 1) B ⟨i64_wr i2, i64_wr i2, wB⟩ ⟨i64_wr i2, ⟨by omega, by omega⟩, ov⟩
          obtain ⟨H, hH⟩ : ∃ l, (2 * K + 1) * (2 * K + 1) * B = l := ⟨_, rfl⟩
          rw [hH] at TH
          repeat' (first
            | refine GW_seq ?_
            | simp only [List.length_cons, List.length_nil, Nat.reduceAdd, Nat.reduceMul, thenG_normal, thenG_ret, thenG_exit, thenG_goto, thenG_panic, blockG_normal, blockG_ret, blockG_goto, blockG_panic, jumpG_normal, jumpG_ret, jumpG_exit, jumpG_panic]
            | (refine GW_region' [35] (by kernel_rfl) ?_; intro Q hQ hP; simp [hC, hY, vv, h, wS, w1, b0, b1, b2, b3, b4, hr, ei, hn, hd, hg, hm, hir, hi4, sA, sB, hx2, g1, g2, yn, yx, c1, c2, c3, c4, c5, i1, i2, sL, cl, m1, m2, k1, k2, k3, k4, k5, k6, k7, k8, hKp]; (repeat (first | ((refine heapK_sl TH (by simp) (by simp) (by omega) ?_ ?_; focus (simp; done)); try simp [hC, hY, vv, h, wS, w1, b0, b1, b2, b3, b4, hr, ei, hn, hd, hg, hm, hir, hi4, sA, sB, hx2, g1, g2, yn, yx, c1, c2, c3, c4, c5, i1, i2, sL, cl, m1, m2, k1, k2, k3, k4, k5, k6, k7, k8, hKp]))); (first | refine hQ _ _ _ _ ?_ | refine hP _ _ (fun _ => ?_)); clear hQ hP Q)
            | (refine GW_draw' [35] follows (by kernel_rfl) (by kernel_rfl) ?_; intro Q hQ hP; simp [hC, hY, vv, h, wS, w1, b0, b1, b2, b3, b4, hr, ei, hn, hd, hg, hm, hir, hi4, sA, sB, hx2, g1, g2, yn, yx, c1, c2, c3, c4, c5, i1, i2, sL, cl, m1, m2, k1, k2, k3, k4, k5, k6, k7, k8, hKp]; (repeat (first | ((refine heapK_sl TH (by simp) (by simp) (by omega) ?_ ?_; focus (simp; done)); try simp [hC, hY, vv, h, wS, w1, b0, b1, b2, b3, b4, hr, ei, hn, hd, hg, hm, hir, hi4, sA, sB, hx2, g1, g2, yn, yx, c1, c2, c3, c4, c5, i1, i2, sL, cl, m1, m2, k1, k2, k3, k4, k5, k6, k7, k8, hKp]))); (first | refine hQ _ _ _ _ (by kernel_rfl) ?_ | refine hP _ _ (by kernel_rfl) (fun _ => ?_)); clear hQ hP Q)
            | refine GW_block ?_
            | refine GW_ret ?_
            | refine GW_skip ?_
            | refine GW_exit ?_
            | refine GW_goto ?_
            | refine GW_label ?_
            | simp only [blockG_exit]
            | (refine GW_cond (by simp; rfl) ?_ ?_ <;> (intro hb; first | (exfalso; exact absurd hb (by decide)) | skip)))
          refine ⟨.inr trivial, ?_⟩
          simp [Tryd.results7]
      · replace g1 : (0 < n) = True := eq_true g1
        replace g2 : (0 < x2) = False := eq_false (by omega)
        repeat' (first
          | refine GW_seq ?_
          | simp only [List.length_cons, List.length_nil, Nat.reduceAdd, Nat.reduceMul, thenG_normal, thenG_ret, thenG_exit, thenG_goto, thenG_panic, blockG_normal, blockG_ret, blockG_goto, blockG_panic, jumpG_normal, jumpG_ret, jumpG_exit, jumpG_panic]
          | (refine GW_region' [35] (by kernel_rfl) ?_; intro Q hQ hP; simp [hC, hY, vv, h, wS, w1, b0, b1, b2, b3, b4, hr, ei, hn, hd, hg, hm, hir, hi4, sA, sB, hx2, g1, g2, yn, yx, c1, c2, c3, c4, c5, i1, i2, sL, cl, m1, m2, k1, k2, k3, k4, k5, k6, k7, k8, hKp]; (repeat (first | ((refine heapK_sl T9 (by simp) (by simp) (by omega) ?_ ?_; focus (simp; done)); try simp [hC, hY, vv, h, wS, w1, b0, b1, b2, b3, b4, hr, ei, hn, hd, hg, hm, hir, hi4, sA, sB, hx2, g1, g2, yn, yx, c1, c2, c3, c4, c5, i1, i2, sL, cl, m1, m2, k1, k2, k3, k4, k5, k6, k7, k8, hKp]) | ((refine heapK_sl T5 (by simp) (by simp) (by omega) ?_ ?_; focus (simp; done)); try simp [hC, hY, vv, h, wS, w1, b0, b1, b2, b3, b4, hr, ei, hn, hd, hg, hm, hir, hi4, sA, sB, hx2, g1, g2, yn, yx, c1, c2, c3, c4, c5, i1, i2, sL, cl, m1, m2, k1, k2, k3, k4, k5, k6, k7, k8, hKp]) | ((refine heapK_sl TL (by simp) (by simp) (by omega) ?_ ?_; focus (simp; done)); try simp [hC, hY, vv, h, wS, w1, b0, b1, b2, b3, b4, hr, ei, hn, hd, hg, hm, hir, hi4, sA, sB, hx2, g1, g2, yn, yx, c1, c2, c3, c4, c5, i1, i2, sL, cl, m1, m2, k1, k2, k3, k4, k5, k6, k7, k8, hKp]))); (first | refine hQ _ _ _ _ ?_ | refine hP _ _ (fun _ => ?_)); clear hQ hP Q)
          | (refine GW_draw' [35] follows (by kernel_rfl) (by kernel_rfl) ?_; intro Q hQ hP; simp [hC, hY, vv, h, wS, w1, b0, b1, b2, b3, b4, hr, ei, hn, hd, hg, hm, hir, hi4, sA, sB, hx2, g1, g2, yn, yx, c1, c2, c3, c4, c5, i1, i2, sL, cl, m1, m2, k1, k2, k3, k4, k5, k6, k7, k8, hKp]; (repeat (first | ((refine heapK_sl T9 (by simp) (by simp) (by omega) ?_ ?_; focus (simp; done)); try simp [hC, hY, vv, h, wS, w1, b0, b1, b2, b3, b4, hr, ei, hn, hd, hg, hm, hir, hi4, sA, sB, hx2, g1, g2, yn, yx, c1, c2, c3, c4, c5, i1, i2, sL, cl, m1, m2, k1, k2, k3, k4, k5, k6, k7, k8, hKp]) | ((refine heapK_sl T5 (by simp) (by simp) (by omega) ?_ ?_; focus (simp; done)); try simp [hC, hY, vv, h, wS, w1, b0, b1, b2, b3, b4, hr, ei, hn, hd, hg, hm, hir, hi4, sA, sB, hx2, g1, g2, yn, yx, c1, c2, c3, c4, c5, i1, i2, sL, cl, m1, m2, k1, k2, k3, k4, k5, k6, k7, k8, hKp]) | ((refine heapK_sl TL (by simp) (by simp) (by omega) ?_ ?_; focus (simp; done)); try simp [hC, hY, vv, h, wS, w1, b0, b1, b2, b3, b4, hr, ei, hn, hd, hg, hm, hir, hi4, sA, sB, hx2, g1, g2, yn, yx, c1, c2, c3, c4, c5, i1, i2, sL, cl, m1, m2, k1, k2, k3, k4, k5, k6, k7, k8, hKp]))); (first | refine hQ _ _ _ _ (by kernel_rfl) ?_ | refine hP _ _ (by kernel_rfl) (fun _ => ?_)); clear hQ hP Q)
          | refine GW_block ?_
          | refine GW_ret ?_
          | refine GW_skip ?_
          | refine GW_exit ?_
          | refine GW_goto ?_
          | refine GW_label ?_
          | simp only [blockG_exit]
          | (refine GW_cond (by simp; rfl) ?_ ?_ <;> (intro hb; first | (exfalso; exact absurd hb (by decide)) | skip)))
        by_cases ov : wr ((2 * K + 1) * (2 * K + 1) * B)
        · have TH := wt3 (2 * K + 1) (2 * K + 1) B ⟨i64_wr i2, i64_wr i2, wB⟩ ⟨i64_wr i2, ⟨by omega, by omega⟩, ov⟩
          obtain ⟨H, hH⟩ : ∃ l, (2 * K + 1) * (2 * K + 1) * B = l := ⟨_, rfl⟩
          rw [hH] at TH ov hi
          have sH := wr_sz ov
          have cm := cmp_lt hi
          repeat' (first
            | refine GW_seq ?_
            | simp only [List.length_cons, List.length_nil, Nat.reduceAdd, Nat.reduceMul, thenG_normal, thenG_ret, thenG_exit, thenG_goto, thenG_panic, blockG_normal, blockG_ret, blockG_goto, blockG_panic, jumpG_normal, jumpG_ret, jumpG_exit, jumpG_panic]
            | (refine GW_region' [35] (by kernel_rfl) ?_; intro Q hQ hP; simp [hC, hY, vv, h, wS, w1, b0, b1, b2, b3, b4, hr, ei, hn, hd, hg, hm, hir, hi4, sA, sB, hx2, g1, g2, yn, yx, c1, c2, c3, c4, c5, i1, i2, sL, cl, m1, m2, k1, k2, k3, k4, k5, k6, k7, k8, hKp, sH, cm]; (repeat (first | ((refine heapK_sl TH (by simp) (by simp) (by omega) ?_ ?_; focus (simp; done)); try simp [hC, hY, vv, h, wS, w1, b0, b1, b2, b3, b4, hr, ei, hn, hd, hg, hm, hir, hi4, sA, sB, hx2, g1, g2, yn, yx, c1, c2, c3, c4, c5, i1, i2, sL, cl, m1, m2, k1, k2, k3, k4, k5, k6, k7, k8, hKp, sH, cm]))); (first | refine hQ _ _ _ _ ?_ | refine hP _ _ (fun _ => ?_)); clear hQ hP Q)
            | (refine GW_draw' [35] follows (by kernel_rfl) (by kernel_rfl) ?_; intro Q hQ hP; simp [hC, hY, vv, h, wS, w1, b0, b1, b2, b3, b4, hr, ei, hn, hd, hg, hm, hir, hi4, sA, sB, hx2, g1, g2, yn, yx, c1, c2, c3, c4, c5, i1, i2, sL, cl, m1, m2, k1, k2, k3, k4, k5, k6, k7, k8, hKp, sH, cm]; (repeat (first | ((refine heapK_sl TH (by simp) (by simp) (by omega) ?_ ?_; focus (simp; done)); try simp [hC, hY, vv, h, wS, w1, b0, b1, b2, b3, b4, hr, ei, hn, hd, hg, hm, hir, hi4, sA, sB, hx2, g1, g2, yn, yx, c1, c2, c3, c4, c5, i1, i2, sL, cl, m1, m2, k1, k2, k3, k4, k5, k6, k7, k8, hKp, sH, cm]))); (first | refine hQ _ _ _ _ (by kernel_rfl) ?_ | refine hP _ _ (by kernel_rfl) (fun _ => ?_)); clear hQ hP Q)
            | refine GW_block ?_
            | refine GW_ret ?_
            | refine GW_skip ?_
            | refine GW_exit ?_
            | refine GW_goto ?_
            | refine GW_label ?_
            | simp only [blockG_exit]
            | (refine GW_cond (by simp; rfl) ?_ ?_ <;> (intro hb; first | (exfalso; exact absurd hb (by decide)) | skip)))
          refine ⟨.inr trivial, ?_⟩
          simp [Tryd.results7]
        · have TH := wt3_over (2 * K + 1) (2 * K + 1) B ⟨i64_wr i2, i64_wr i2, wB⟩ ⟨i64_wr i2, ⟨by omega, by omega⟩, ov⟩
          obtain ⟨H, hH⟩ : ∃ l, (2 * K + 1) * (2 * K + 1) * B = l := ⟨_, rfl⟩
          rw [hH] at TH
          repeat' (first
            | refine GW_seq ?_
            | simp only [List.length_cons, List.length_nil, Nat.reduceAdd, Nat.reduceMul, thenG_normal, thenG_ret, thenG_exit, thenG_goto, thenG_panic, blockG_normal, blockG_ret, blockG_goto, blockG_panic, jumpG_normal, jumpG_ret, jumpG_exit, jumpG_panic]
            | (refine GW_region' [35] (by kernel_rfl) ?_; intro Q hQ hP; simp [hC, hY, vv, h, wS, w1, b0, b1, b2, b3, b4, hr, ei, hn, hd, hg, hm, hir, hi4, sA, sB, hx2, g1, g2, yn, yx, c1, c2, c3, c4, c5, i1, i2, sL, cl, m1, m2, k1, k2, k3, k4, k5, k6, k7, k8, hKp]; (repeat (first | ((refine heapK_sl TH (by simp) (by simp) (by omega) ?_ ?_; focus (simp; done)); try simp [hC, hY, vv, h, wS, w1, b0, b1, b2, b3, b4, hr, ei, hn, hd, hg, hm, hir, hi4, sA, sB, hx2, g1, g2, yn, yx, c1, c2, c3, c4, c5, i1, i2, sL, cl, m1, m2, k1, k2, k3, k4, k5, k6, k7, k8, hKp]))); (first | refine hQ _ _ _ _ ?_ | refine hP _ _ (fun _ => ?_)); clear hQ hP Q)
            | (refine GW_draw' [35] follows (by kernel_rfl) (by kernel_rfl) ?_; intro Q hQ hP; simp [hC, hY, vv, h, wS, w1, b0, b1, b2, b3, b4, hr, ei, hn, hd, hg, hm, hir, hi4, sA, sB, hx2, g1, g2, yn, yx, c1, c2, c3, c4, c5, i1, i2, sL, cl, m1, m2, k1, k2, k3, k4, k5, k6, k7, k8, hKp]; (repeat (first | ((refine heapK_sl TH (by simp) (by simp) (by omega) ?_ ?_; focus (simp; done)); try simp [hC, hY, vv, h, wS, w1, b0, b1, b2, b3, b4, hr, ei, hn, hd, hg, hm, hir, hi4, sA, sB, hx2, g1, g2, yn, yx, c1, c2, c3, c4, c5, i1, i2, sL, cl, m1, m2, k1, k2, k3, k4, k5, k6, k7, k8, hKp]))); (first | refine hQ _ _ _ _ (by kernel_rfl) ?_ | refine hP _ _ (by kernel_rfl) (fun _ => ?_)); clear hQ hP Q)
            | refine GW_block ?_
            | refine GW_ret ?_
            | refine GW_skip ?_
            | refine GW_exit ?_
            | refine GW_goto ?_
            | refine GW_label ?_
            | simp only [blockG_exit]
            | (refine GW_cond (by simp; rfl) ?_ ?_ <;> (intro hb; first | (exfalso; exact absurd hb (by decide)) | skip)))
          refine ⟨.inr trivial, ?_⟩
          simp [Tryd.results7]
      · replace g1 : (0 < n) = False := eq_false (by omega)
        replace g2 : (0 < x2) = True := eq_true g2
        repeat' (first
          | refine GW_seq ?_
          | simp only [List.length_cons, List.length_nil, Nat.reduceAdd, Nat.reduceMul, thenG_normal, thenG_ret, thenG_exit, thenG_goto, thenG_panic, blockG_normal, blockG_ret, blockG_goto, blockG_panic, jumpG_normal, jumpG_ret, jumpG_exit, jumpG_panic]
          | (refine GW_region' [35] (by kernel_rfl) ?_; intro Q hQ hP; simp [hC, hY, vv, h, wS, w1, b0, b1, b2, b3, b4, hr, ei, hn, hd, hg, hm, hir, hi4, sA, sB, hx2, g1, g2, yn, yx, c1, c2, c3, c4, c5, i1, i2, sL, cl, m1, m2, k1, k2, k3, k4, k5, k6, k7, k8, hKp]; (repeat (first | ((refine heapK_sl T9 (by simp) (by simp) (by omega) ?_ ?_; focus (simp; done)); try simp [hC, hY, vv, h, wS, w1, b0, b1, b2, b3, b4, hr, ei, hn, hd, hg, hm, hir, hi4, sA, sB, hx2, g1, g2, yn, yx, c1, c2, c3, c4, c5, i1, i2, sL, cl, m1, m2, k1, k2, k3, k4, k5, k6, k7, k8, hKp]) | ((refine heapK_sl T5 (by simp) (by simp) (by omega) ?_ ?_; focus (simp; done)); try simp [hC, hY, vv, h, wS, w1, b0, b1, b2, b3, b4, hr, ei, hn, hd, hg, hm, hir, hi4, sA, sB, hx2, g1, g2, yn, yx, c1, c2, c3, c4, c5, i1, i2, sL, cl, m1, m2, k1, k2, k3, k4, k5, k6, k7, k8, hKp]) | ((refine heapK_sl TL (by simp) (by simp) (by omega) ?_ ?_; focus (simp; done)); try simp [hC, hY, vv, h, wS, w1, b0, b1, b2, b3, b4, hr, ei, hn, hd, hg, hm, hir, hi4, sA, sB, hx2, g1, g2, yn, yx, c1, c2, c3, c4, c5, i1, i2, sL, cl, m1, m2, k1, k2, k3, k4, k5, k6, k7, k8, hKp]))); (first | refine hQ _ _ _ _ ?_ | refine hP _ _ (fun _ => ?_)); clear hQ hP Q)
          | (refine GW_draw' [35] follows (by kernel_rfl) (by kernel_rfl) ?_; intro Q hQ hP; simp [hC, hY, vv, h, wS, w1, b0, b1, b2, b3, b4, hr, ei, hn, hd, hg, hm, hir, hi4, sA, sB, hx2, g1, g2, yn, yx, c1, c2, c3, c4, c5, i1, i2, sL, cl, m1, m2, k1, k2, k3, k4, k5, k6, k7, k8, hKp]; (repeat (first | ((refine heapK_sl T9 (by simp) (by simp) (by omega) ?_ ?_; focus (simp; done)); try simp [hC, hY, vv, h, wS, w1, b0, b1, b2, b3, b4, hr, ei, hn, hd, hg, hm, hir, hi4, sA, sB, hx2, g1, g2, yn, yx, c1, c2, c3, c4, c5, i1, i2, sL, cl, m1, m2, k1, k2, k3, k4, k5, k6, k7, k8, hKp]) | ((refine heapK_sl T5 (by simp) (by simp) (by omega) ?_ ?_; focus (simp; done)); try simp [hC, hY, vv, h, wS, w1, b0, b1, b2, b3, b4, hr, ei, hn, hd, hg, hm, hir, hi4, sA, sB, hx2, g1, g2, yn, yx, c1, c2, c3, c4, c5, i1, i2, sL, cl, m1, m2, k1, k2, k3, k4, k5, k6, k7, k8, hKp]) | ((refine heapK_sl TL (by simp) (by simp) (by omega) ?_ ?_; focus (simp; done)); try simp [hC, hY, vv, h, wS, w1, b0, b1, b2, b3, b4, hr, ei, hn, hd, hg, hm, hir, hi4, sA, sB, hx2, g1, g2, yn, yx, c1, c2, c3, c4, c5, i1, i2, sL, cl, m1, m2, k1, k2, k3, k4, k5, k6, k7, k8, hKp]))); (first | refine hQ _ _ _ _ (by kernel_rfl) ?_ | refine hP _ _ (by kernel_rfl) (fun _ => ?_)); clear hQ hP Q)
          | refine GW_block ?_
          | refine GW_ret ?_
          | refine GW_skip ?_
          | refine GW_exit ?_
          | refine GW_goto ?_
          | refine GW_label ?_
          | simp only [blockG_exit]
          | (refine GW_cond (by simp; rfl) ?_ ?_ <;> (intro hb; first | (exfalso; exact absurd hb (by decide)) | skip)))
        by_cases ov : wr ((2 * K + 1) * (2 * K + 1) * B)
        · have TH := wt3 (2 * K + 1) (2 * K + 1) B ⟨i64_wr i2, i64_wr i2, wB⟩ ⟨i64_wr i2, ⟨by omega, by omega⟩, ov⟩
          obtain ⟨H, hH⟩ : ∃ l, (2 * K + 1) * (2 * K + 1) * B = l := ⟨_, rfl⟩
          rw [hH] at TH ov hi
          have sH := wr_sz ov
          have cm := cmp_lt hi
          repeat' (first
            | refine GW_seq ?_
            | simp only [List.length_cons, List.length_nil, Nat.reduceAdd, Nat.reduceMul, thenG_normal, thenG_ret, thenG_exit, thenG_goto, thenG_panic, blockG_normal, blockG_ret, blockG_goto, blockG_panic, jumpG_normal, jumpG_ret, jumpG_exit, jumpG_panic]
            | (refine GW_region' [35] (by kernel_rfl) ?_; intro Q hQ hP; simp [hC, hY, vv, h, wS, w1, b0, b1, b2, b3, b4, hr, ei, hn, hd, hg, hm, hir, hi4, sA, sB, hx2, g1, g2, yn, yx, c1, c2, c3, c4, c5, i1, i2, sL, cl, m1, m2, k1, k2, k3, k4, k5, k6, k7, k8, hKp, sH, cm]; (repeat (first | ((refine heapK_sl TH (by simp) (by simp) (by omega) ?_ ?_; focus (simp; done)); try simp [hC, hY, vv, h, wS, w1, b0, b1, b2, b3, b4, hr, ei, hn, hd, hg, hm, hir, hi4, sA, sB, hx2, g1, g2, yn, yx, c1, c2, c3, c4, c5, i1, i2, sL, cl, m1, m2, k1, k2, k3, k4, k5, k6, k7, k8, hKp, sH, cm]))); (first | refine hQ _ _ _ _ ?_ | refine hP _ _ (fun _ => ?_)); clear hQ hP Q)
            | (refine GW_draw' [35] follows (by kernel_rfl) (by kernel_rfl) ?_; intro Q hQ hP; simp [hC, hY, vv, h, wS, w1, b0, b1, b2, b3, b4, hr, ei, hn, hd, hg, hm, hir, hi4, sA, sB, hx2, g1, g2, yn, yx, c1, c2, c3, c4, c5, i1, i2, sL, cl, m1, m2, k1, k2, k3, k4, k5, k6, k7, k8, hKp, sH, cm]; (repeat (first | ((refine heapK_sl TH (by simp) (by simp) (by omega) ?_ ?_; focus (simp; done)); try simp [hC, hY, vv, h, wS, w1, b0, b1, b2, b3, b4, hr, ei, hn, hd, hg, hm, hir, hi4, sA, sB, hx2, g1, g2, yn, yx, c1, c2, c3, c4, c5, i1, i2, sL, cl, m1, m2, k1, k2, k3, k4, k5, k6, k7, k8, hKp, sH, cm]))); (first | refine hQ _ _ _ _ (by kernel_rfl) ?_ | refine hP _ _ (by kernel_rfl) (fun _ => ?_)); clear hQ hP Q)
            | refine GW_block ?_
            | refine GW_ret ?_
            | refine GW_skip ?_
            | refine GW_exit ?_
            | refine GW_goto ?_
            | refine GW_label ?_
            | simp only [blockG_exit]
            | (refine GW_cond (by simp; rfl) ?_ ?_ <;> (intro hb; first | (exfalso; exact absurd hb (by decide)) | skip)))
          refine ⟨.inr trivial, ?_⟩
          simp [Tryd.results7]
        · have TH := wt3_over (2 * K + 1) (2 * K + 1) B ⟨i64_wr i2, i64_wr i2, wB⟩ ⟨i64_wr i2, ⟨by omega, by omega⟩, ov⟩
          obtain ⟨H, hH⟩ : ∃ l, (2 * K + 1) * (2 * K + 1) * B = l := ⟨_, rfl⟩
          rw [hH] at TH
          repeat' (first
            | refine GW_seq ?_
            | simp only [List.length_cons, List.length_nil, Nat.reduceAdd, Nat.reduceMul, thenG_normal, thenG_ret, thenG_exit, thenG_goto, thenG_panic, blockG_normal, blockG_ret, blockG_goto, blockG_panic, jumpG_normal, jumpG_ret, jumpG_exit, jumpG_panic]
            | (refine GW_region' [35] (by kernel_rfl) ?_; intro Q hQ hP; simp [hC, hY, vv, h, wS, w1, b0, b1, b2, b3, b4, hr, ei, hn, hd, hg, hm, hir, hi4, sA, sB, hx2, g1, g2, yn, yx, c1, c2, c3, c4, c5, i1, i2, sL, cl, m1, m2, k1, k2, k3, k4, k5, k6, k7, k8, hKp]; (repeat (first | ((refine heapK_sl TH (by simp) (by simp) (by omega) ?_ ?_; focus (simp; done)); try simp [hC, hY, vv, h, wS, w1, b0, b1, b2, b3, b4, hr, ei, hn, hd, hg, hm, hir, hi4, sA, sB, hx2, g1, g2, yn, yx, c1, c2, c3, c4, c5, i1, i2, sL, cl, m1, m2, k1, k2, k3, k4, k5, k6, k7, k8, hKp]))); (first | refine hQ _ _ _ _ ?_ | refine hP _ _ (fun _ => ?_)); clear hQ hP Q)
            | (refine GW_draw' [35] follows (by kernel_rfl) (by kernel_rfl) ?_; intro Q hQ hP; simp [hC, hY, vv, h, wS, w1, b0, b1, b2, b3, b4, hr, ei, hn, hd, hg, hm, hir, hi4, sA, sB, hx2, g1, g2, yn, yx, c1, c2, c3, c4, c5, i1, i2, sL, cl, m1, m2, k1, k2, k3, k4, k5, k6, k7, k8, hKp]; (repeat (first | ((refine heapK_sl TH (by simp) (by simp) (by omega) ?_ ?_; focus (simp; done)); try simp [hC, hY, vv, h, wS, w1, b0, b1, b2, b3, b4, hr, ei, hn, hd, hg, hm, hir, hi4, sA, sB, hx2, g1, g2, yn, yx, c1, c2, c3, c4, c5, i1, i2, sL, cl, m1, m2, k1, k2, k3, k4, k5, k6, k7, k8, hKp]))); (first | refine hQ _ _ _ _ (by kernel_rfl) ?_ | refine hP _ _ (by kernel_rfl) (fun _ => ?_)); clear hQ hP Q)
            | refine GW_block ?_
            | refine GW_ret ?_
            | refine GW_skip ?_
            | refine GW_exit ?_
            | refine GW_goto ?_
            | refine GW_label ?_
            | simp only [blockG_exit]
            | (refine GW_cond (by simp; rfl) ?_ ?_ <;> (intro hb; first | (exfalso; exact absurd hb (by decide)) | skip)))
          refine ⟨.inr trivial, ?_⟩
          simp [Tryd.results7]
end Go.Gy
