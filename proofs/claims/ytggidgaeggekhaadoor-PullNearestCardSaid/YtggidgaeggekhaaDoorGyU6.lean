/-
  Contracts: pull.one.
  Conditions: none.
-/
import Derived.Test.YtggidgaeggekhaaDoorGyU5
namespace Go.Gy
set_option linter.unusedSimpArgs false
set_option linter.unusedVariables false
open Go Go.RowKit Go.Proofs
set_option maxHeartbeats 1000000 in
theorem one_ok (n d g m x r : Int) (h : PIn n d g m x r) : RetP Tryd.prog G1 71 #[.int .i64 n, .int .i64 d, .int .i64 g, .int .i64 m, .int .i64 x, .int .i64 r] (.ret (.int .i64 (pullV n d g m x r))) := by
  refine retp_of G1F Tryd.func71 rfl Tryd.call71 (fun v h => by cases h; simp) (by simp) (by simp [Tryd.ntmps71]) ?_
  intro C hC hC0 hY
  have hck := check_ok n d g m x r (chk_in.2 h)
  have p1 := h.p1
  have p2 := h.p2
  have p3 := h.p3
  have p4 := h.p4
  have q1 := h.q1
  have q2 := h.q2
  have q3 := h.q3
  have q4 := h.q4
  have r0 := h.r0
  have t1 := times5_fun 2 n g m x ⟨by decide, ⟨by have := h.n0; omega, by have := h.n1; omega⟩, ⟨by have := h.g0; omega, by have := h.g1; omega⟩, ⟨by have := h.m0; omega, by have := h.m1; omega⟩, ⟨by have := h.x0; omega, by have := h.x1; omega⟩⟩
    ⟨⟨by decide, by decide⟩, ⟨by omega, by omega⟩, ⟨by omega, by omega⟩, ⟨by omega, by omega⟩, ⟨by omega, by omega⟩⟩
  have t2 := times5_fun d d r r r ⟨⟨by have := h.d0; omega, by have := h.d1; omega⟩, ⟨by have := h.d0; omega, by have := h.d1; omega⟩, ⟨by omega, by have := h.r1; omega⟩, ⟨by omega, by have := h.r1; omega⟩, ⟨by omega, by have := h.r1; omega⟩⟩
    ⟨⟨by have := h.d0; omega, by have := h.d1; omega⟩, ⟨by omega, by omega⟩, ⟨by omega, by omega⟩, ⟨by omega, by omega⟩, ⟨by omega, by omega⟩⟩
  have wA : wr (2 * n * g * m * x) := ⟨by omega, by omega⟩
  have sA := wr_sz wA
  have hAle := h.a_le
  have hA0 := sq_nonneg (2 * n * g * m * x)
  have wA2 : wr (2 * n * g * m * x * (2 * n * g * m * x)) := ⟨by omega, by omega⟩
  have wB : wr (d * d * r * r * r) := ⟨by omega, by omega⟩
  have hB0 : 0 < d * d * r * r * r := by omega
  have hm := h.mag
  have hmw : wr (pmag n d g m x r) := ⟨by omega, by omega⟩
  have sM := wr_sz hmw
  have iM : i64 (pmag n d g m x r) := ⟨by omega, by omega⟩
  have hmb : Int.bmod (-pmag n d g m x r) 18446744073709551616 = -pmag n d g m x r := bm (by omega) (by omega)
  have hpm : (isq (2 * n * g * m * x * (2 * n * g * m * x) / (d * d * r * r * r)) + 1) / 2 = pmag n d g m x r := rfl
  unfold pullV
  by_cases hn : n < 0 <;> by_cases hx : x < 0
  all_goals simp only [hn, hx, if_true, if_false]
  all_goals
    repeat' (first
      | refine GW_seq ?_
      | simp only [List.length_cons, List.length_nil, Nat.reduceAdd, Nat.reduceMul, thenG_normal, thenG_ret, thenG_exit, thenG_goto, thenG_panic, blockG_normal, blockG_ret, blockG_goto, blockG_panic, jumpG_normal, jumpG_ret, jumpG_exit, jumpG_panic]
      | (refine GW_region' [74,77] (by kernel_rfl) ?_; intro Q hQ hP; simp [hC, hY, sA, wA2, wB, hA0, hB0, hpm, sM, iM, hmb, hn, hx]; (repeat (first | ((refine heapK_sl hck (by simp) (by simp) (by omega) ?_ ?_; focus (simp; done)); try simp [hC, hY, sA, wA2, wB, hA0, hB0, hpm, sM, iM, hmb, hn, hx]) | ((refine heapK_sl t1 (by simp) (by simp) (by omega) ?_ ?_; focus (simp; done)); try simp [hC, hY, sA, wA2, wB, hA0, hB0, hpm, sM, iM, hmb, hn, hx]) | ((refine heapK_sl t2 (by simp) (by simp) (by omega) ?_ ?_; focus (simp; done)); try simp [hC, hY, sA, wA2, wB, hA0, hB0, hpm, sM, iM, hmb, hn, hx]))); (first | refine hQ _ _ _ _ ?_ | refine hP _ _ (fun _ => ?_)); clear hQ hP Q)
      | (refine GW_draw' [74,77] follows (by kernel_rfl) (by kernel_rfl) ?_; intro Q hQ hP; simp [hC, hY, sA, wA2, wB, hA0, hB0, hpm, sM, iM, hmb, hn, hx]; (repeat (first | ((refine heapK_sl hck (by simp) (by simp) (by omega) ?_ ?_; focus (simp; done)); try simp [hC, hY, sA, wA2, wB, hA0, hB0, hpm, sM, iM, hmb, hn, hx]) | ((refine heapK_sl t1 (by simp) (by simp) (by omega) ?_ ?_; focus (simp; done)); try simp [hC, hY, sA, wA2, wB, hA0, hB0, hpm, sM, iM, hmb, hn, hx]) | ((refine heapK_sl t2 (by simp) (by simp) (by omega) ?_ ?_; focus (simp; done)); try simp [hC, hY, sA, wA2, wB, hA0, hB0, hpm, sM, iM, hmb, hn, hx]))); (first | refine hQ _ _ _ _ (by kernel_rfl) ?_ | refine hP _ _ (by kernel_rfl) (fun _ => ?_)); clear hQ hP Q)
      | refine GW_block ?_
      | refine GW_ret ?_
      | refine GW_skip ?_
      | refine GW_exit ?_
      | refine GW_goto ?_
      | refine GW_label ?_
      | simp only [blockG_exit]
      | (refine GW_cond (by simp; rfl) ?_ ?_ <;> (intro hb; first | (exfalso; exact absurd hb (by decide)) | skip)))
  all_goals
    refine ⟨.inr trivial, ?_⟩
    simp [Tryd.results71]
theorem one_bad (n d g m x r : Int) (h : chkE n d g m x r ≠ 0) : RetP Tryd.prog G1 71 #[.int .i64 n, .int .i64 d, .int .i64 g, .int .i64 m, .int .i64 x, .int .i64 r] (.pan (erV (chkE n d g m x r))) := by
  refine retp_of G1F Tryd.func71 rfl Tryd.call71 (fun v h => by cases h) (by simp) (by simp [Tryd.ntmps71]) ?_
  intro C hC hC0 hY
  have hck := check_bad n d g m x r h
  repeat' (first
    | refine GW_seq ?_
    | simp only [List.length_cons, List.length_nil, Nat.reduceAdd, Nat.reduceMul, thenG_normal, thenG_ret, thenG_exit, thenG_goto, thenG_panic, blockG_normal, blockG_ret, blockG_goto, blockG_panic, jumpG_normal, jumpG_ret, jumpG_exit, jumpG_panic]
    | (refine GW_region' [74] (by kernel_rfl) ?_; intro Q hQ hP; simp [hC, hY]; (repeat (first | ((refine heapK_slp hck (by simp) (by omega) (by simp) ?_); try simp [hC, hY]))); (first | refine hQ _ _ _ _ ?_ | refine hP _ _ (fun _ => ?_)); clear hQ hP Q)
    | (refine GW_draw' [74] follows (by kernel_rfl) (by kernel_rfl) ?_; intro Q hQ hP; simp [hC, hY]; (repeat (first | ((refine heapK_slp hck (by simp) (by omega) (by simp) ?_); try simp [hC, hY]))); (first | refine hQ _ _ _ _ (by kernel_rfl) ?_ | refine hP _ _ (by kernel_rfl) (fun _ => ?_)); clear hQ hP Q)
    | refine GW_block ?_
    | refine GW_ret ?_
    | refine GW_skip ?_
    | refine GW_exit ?_
    | refine GW_goto ?_
    | refine GW_label ?_
    | simp only [blockG_exit]
    | (refine GW_cond (by simp; rfl) ?_ ?_ <;> (intro hb; first | (exfalso; exact absurd hb (by decide)) | skip)))
  rfl
end Go.Gy
