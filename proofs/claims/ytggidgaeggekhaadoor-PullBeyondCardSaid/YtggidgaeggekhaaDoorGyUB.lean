/-
  Laws of layer 12 (pull): PullBeyond.
  Conditions: none.
-/
import Derived.Test.YtggidgaeggekhaaDoorGyUA
namespace Go.Gy
set_option linter.unusedSimpArgs false
set_option linter.unusedVariables false
open Go Go.RowKit Go.Proofs
set_option maxHeartbeats 4000000 in
set_option maxRecDepth 100000 in
theorem PullBeyond_ret (n d g m x0 x1 x2 f : Int) (hn : i64 n) (hd : i64 d) (hg : i64 g) (hm : i64 m) (hx0 : i64 x0) (hx1 : i64 x1) (hx2 : i64 x2) (hf : i64 f) : Ret Tryd.prog G1 10 #[.int .i64 n, .int .i64 d, .int .i64 g, .int .i64 m, vv x0 x1 x2, .int .i64 f] (.bool true) := by
  refine ret_of G1F Tryd.func10 rfl Tryd.call10 rfl (by simp [vv]) (by simp [Tryd.ntmps10]) ?_
  intro C hC hC0 hY
  by_cases h : MayP n d g m x0 x1 x2
  rotate_left
  · skip
    repeat' (first
      | refine GW_seq ?_
      | simp only [List.length_cons, List.length_nil, Nat.reduceAdd, Nat.reduceMul, thenG_normal, thenG_ret, thenG_exit, thenG_goto, thenG_panic, blockG_normal, blockG_ret, blockG_goto, blockG_panic, jumpG_normal, jumpG_ret, jumpG_exit, jumpG_panic]
      | (refine GW_region' [] (by kernel_rfl) ?_; intro Q hQ hP; simp [hC, hY, vv, h]; (first | refine hQ _ _ _ _ ?_ | refine hP _ _ (fun _ => ?_)); clear hQ hP Q)
      | (refine GW_draw' [] follows (by kernel_rfl) (by kernel_rfl) ?_; intro Q hQ hP; simp [hC, hY, vv, h]; (first | refine hQ _ _ _ _ (by kernel_rfl) ?_ | refine hP _ _ (by kernel_rfl) (fun _ => ?_)); clear hQ hP Q)
      | refine GW_block ?_
      | refine GW_ret ?_
      | refine GW_skip ?_
      | refine GW_exit ?_
      | refine GW_goto ?_
      | refine GW_label ?_
      | simp only [blockG_exit]
      | (refine GW_cond (by simp; rfl) ?_ ?_ <;> (intro hb; first | (exfalso; exact absurd hb (by decide)) | skip)))
    refine ⟨.inr trivial, ?_⟩
    simp [Tryd.results10]
  by_cases f0 : f < 1
  · skip
    repeat' (first
      | refine GW_seq ?_
      | simp only [List.length_cons, List.length_nil, Nat.reduceAdd, Nat.reduceMul, thenG_normal, thenG_ret, thenG_exit, thenG_goto, thenG_panic, blockG_normal, blockG_ret, blockG_goto, blockG_panic, jumpG_normal, jumpG_ret, jumpG_exit, jumpG_panic]
      | (refine GW_region' [] (by kernel_rfl) ?_; intro Q hQ hP; simp [hC, hY, vv, h, f0]; (first | refine hQ _ _ _ _ ?_ | refine hP _ _ (fun _ => ?_)); clear hQ hP Q)
      | (refine GW_draw' [] follows (by kernel_rfl) (by kernel_rfl) ?_; intro Q hQ hP; simp [hC, hY, vv, h, f0]; (first | refine hQ _ _ _ _ (by kernel_rfl) ?_ | refine hP _ _ (by kernel_rfl) (fun _ => ?_)); clear hQ hP Q)
      | refine GW_block ?_
      | refine GW_ret ?_
      | refine GW_skip ?_
      | refine GW_exit ?_
      | refine GW_goto ?_
      | refine GW_label ?_
      | simp only [blockG_exit]
      | (refine GW_cond (by simp; rfl) ?_ ?_ <;> (intro hb; first | (exfalso; exact absurd hb (by decide)) | skip)))
    refine ⟨.inr trivial, ?_⟩
    simp [Tryd.results10]
  by_cases f1 : 2097152 < f
  · skip
    repeat' (first
      | refine GW_seq ?_
      | simp only [List.length_cons, List.length_nil, Nat.reduceAdd, Nat.reduceMul, thenG_normal, thenG_ret, thenG_exit, thenG_goto, thenG_panic, blockG_normal, blockG_ret, blockG_goto, blockG_panic, jumpG_normal, jumpG_ret, jumpG_exit, jumpG_panic]
      | (refine GW_region' [] (by kernel_rfl) ?_; intro Q hQ hP; simp [hC, hY, vv, h, f0, f1]; (first | refine hQ _ _ _ _ ?_ | refine hP _ _ (fun _ => ?_)); clear hQ hP Q)
      | (refine GW_draw' [] follows (by kernel_rfl) (by kernel_rfl) ?_; intro Q hQ hP; simp [hC, hY, vv, h, f0, f1]; (first | refine hQ _ _ _ _ (by kernel_rfl) ?_ | refine hP _ _ (by kernel_rfl) (fun _ => ?_)); clear hQ hP Q)
      | refine GW_block ?_
      | refine GW_ret ?_
      | refine GW_skip ?_
      | refine GW_exit ?_
      | refine GW_goto ?_
      | refine GW_label ?_
      | simp only [blockG_exit]
      | (refine GW_cond (by simp; rfl) ?_ ?_ <;> (intro hb; first | (exfalso; exact absurd hb (by decide)) | skip)))
    refine ⟨.inr trivial, ?_⟩
    simp [Tryd.results10]
  have hp := h.pin
  have s0 := inB_sq h.i0
  have s1 := inB_sq h.i1
  have s2 := inB_sq h.i2
  have wS := psq x0 x1 x2 h.i0 h.i1 h.i2
  obtain ⟨r, hr⟩ : ∃ r, x0 * x0 + x1 * x1 + x2 * x2 = r := ⟨_, rfl⟩
  rw [hr] at hp wS
  have hbp : PIn n d g m 0 r := ⟨h.n0, h.n1, h.d0, h.d1, h.g0, h.g1, h.m0, h.m1, by omega, by omega, hp.1.r0, hp.1.r1, by have := hp.1.r0; omega⟩
  have hfb : inB f := ⟨by omega, by omega⟩
  have sf := inB_sq hfb
  have hff := sq_pos (x := f) (by omega)
  have hM : MayP n d g m 0 f 0 := ⟨by decide, hfb, by decide, by omega, h.n0, h.n1, h.d0, h.d1, h.g0, h.g1, h.m0, h.m1⟩
  have hfp := hM.pin.2.1
  rw [show (0 : Int) * 0 + f * f + 0 * 0 = f * f by omega] at hfp
  have hbf : PIn n d g m 0 (f * f) := ⟨h.n0, h.n1, h.d0, h.d1, h.g0, h.g1, h.m0, h.m1, by omega, by omega, hfp.r0, hfp.r1, by omega⟩
  obtain ⟨q, eq⟩ : ∃ p, pullV n d g m f (f * f) = p := ⟨_, rfl⟩
  have hal := hfp.alone (by omega)
  rw [eq] at hal
  have w2 := hM.at (r := f * f) (by omega) (pullV_0 _ _ _ _ _) eq (pullV_0 _ _ _ _ _)
  have cf : Int.bmod (f * f) 18446744073709551616 = f * f := bm (by omega) (by omega)
  have w4 := by_at (b := q == 0) hbf (by rw [Bool.eq_iff_iff]; simp; exact hal.symm)
  by_cases hb : 2 * n * g * m * (2 * n * g * m) < d * r * (d * r)
  · have w1 := h.at hr (hp.1.beyond hb) (hp.2.1.beyond hb) (hp.2.2.beyond hb)
    have w3 := by_at (b := true) hbp (by simpa using hb)
    repeat' (first
      | refine GW_seq ?_
      | simp only [List.length_cons, List.length_nil, Nat.reduceAdd, Nat.reduceMul, thenG_normal, thenG_ret, thenG_exit, thenG_goto, thenG_panic, blockG_normal, blockG_ret, blockG_goto, blockG_panic, jumpG_normal, jumpG_ret, jumpG_exit, jumpG_panic]
      | (refine GW_region' [] (by kernel_rfl) ?_; intro Q hQ hP; simp [hC, hY, vv, h, f0, f1, wS, w1, w2, w3, w4, cf]; (first | refine hQ _ _ _ _ ?_ | refine hP _ _ (fun _ => ?_)); clear hQ hP Q)
      | (refine GW_draw' [] follows (by kernel_rfl) (by kernel_rfl) ?_; intro Q hQ hP; simp [hC, hY, vv, h, f0, f1, wS, w1, w2, w3, w4, cf]; (first | refine hQ _ _ _ _ (by kernel_rfl) ?_ | refine hP _ _ (by kernel_rfl) (fun _ => ?_)); clear hQ hP Q)
      | refine GW_block ?_
      | refine GW_ret ?_
      | refine GW_skip ?_
      | refine GW_exit ?_
      | refine GW_goto ?_
      | refine GW_label ?_
      | simp only [blockG_exit]
      | (refine GW_cond (by simp; rfl) ?_ ?_ <;> (intro hb; first | (exfalso; exact absurd hb (by decide)) | skip)))
    refine ⟨.inr trivial, ?_⟩
    simp [Tryd.results10]
  · obtain ⟨p0, e0⟩ : ∃ p, pullV n d g m x0 r = p := ⟨_, rfl⟩
    obtain ⟨p1, e1⟩ : ∃ p, pullV n d g m x1 r = p := ⟨_, rfl⟩
    obtain ⟨p2, e2⟩ : ∃ p, pullV n d g m x2 r = p := ⟨_, rfl⟩
    have w1 := h.at hr e0 e1 e2
    have w3 := by_at (b := false) hbp (by simpa using hb)
    repeat' (first
      | refine GW_seq ?_
      | simp only [List.length_cons, List.length_nil, Nat.reduceAdd, Nat.reduceMul, thenG_normal, thenG_ret, thenG_exit, thenG_goto, thenG_panic, blockG_normal, blockG_ret, blockG_goto, blockG_panic, jumpG_normal, jumpG_ret, jumpG_exit, jumpG_panic]
      | (refine GW_region' [] (by kernel_rfl) ?_; intro Q hQ hP; simp [hC, hY, vv, h, f0, f1, wS, w1, w2, w3, w4, cf]; (first | refine hQ _ _ _ _ ?_ | refine hP _ _ (fun _ => ?_)); clear hQ hP Q)
      | (refine GW_draw' [] follows (by kernel_rfl) (by kernel_rfl) ?_; intro Q hQ hP; simp [hC, hY, vv, h, f0, f1, wS, w1, w2, w3, w4, cf]; (first | refine hQ _ _ _ _ (by kernel_rfl) ?_ | refine hP _ _ (by kernel_rfl) (fun _ => ?_)); clear hQ hP Q)
      | refine GW_block ?_
      | refine GW_ret ?_
      | refine GW_skip ?_
      | refine GW_exit ?_
      | refine GW_goto ?_
      | refine GW_label ?_
      | simp only [blockG_exit]
      | (refine GW_cond (by simp; rfl) ?_ ?_ <;> (intro hb; first | (exfalso; exact absurd hb (by decide)) | skip)))
    refine ⟨.inr trivial, ?_⟩
    simp [Tryd.results10]
end Go.Gy
