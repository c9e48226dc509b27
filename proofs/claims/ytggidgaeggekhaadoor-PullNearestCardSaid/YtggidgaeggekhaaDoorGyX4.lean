/-
  Contracts of wide: Neg.
  Conditions: none.
-/
import Derived.Test.YtggidgaeggekhaaDoorGyX3
namespace Go.Gy
set_option linter.unusedSimpArgs false
set_option linter.unusedVariables false
open Go Go.RowKit Go.Proofs

theorem ng_zero : ng 0 = false := by decide
@[simp] theorem wSubz (a : Int) (K : Value → Prop) : callK Tryd.prog G0 111 #[.agg #[.int .u64 0, .int .u64 0, .int .u64 0, .int .u64 0], Value.agg #[.int .u64 (wi (a) 0), .int .u64 (wi (a) 1), .int .u64 (wi (a) 2), .int .u64 (wi (a) 3)]] K ↔ K (.tuple #[wd (-a), .bool (ng a && ng (-a))]) := by
  have := wSub 0 a K
  have e : ((false != ng a) && ng (0 - a) != false) = (ng a && ng (-a)) := by
    rw [Int.zero_sub]; cases ng a <;> cases ng (-a) <;> rfl
  rw [ng_zero, e, Int.zero_sub] at this
  simpa using this
theorem wneg_ret (a : Int) : Ret Tryd.prog G0 101 #[wd a] (.tuple #[wd (-a), .bool (ng a && ng (-a))]) := by
  refine ret_of G0F Tryd.func101 rfl Tryd.call101 (by simp) (by simp) (by simp [Tryd.ntmps101]) ?_
  intro C hC hC0 hY
  repeat' (first
    | refine GW_seq ?_
    | simp only [List.length_cons, List.length_nil, Nat.reduceAdd, Nat.reduceMul, thenG_normal, thenG_ret, thenG_exit, thenG_goto, thenG_panic, blockG_normal, blockG_ret, blockG_goto, blockG_panic, jumpG_normal, jumpG_ret, jumpG_exit, jumpG_panic]
    | (refine GW_region' [] (by kernel_rfl) ?_; intro Q hQ hP; simp [hC, hY]; (first | refine hQ _ _ _ _ ?_ | refine hP _ _ (fun _ => ?_)); clear hQ hP Q)
    | (refine GW_draw' [] follows (by kernel_rfl) (by kernel_rfl) ?_; intro Q hQ hP; simp [hC, hY]; (first | refine hQ _ _ _ _ (by kernel_rfl) ?_ | refine hP _ _ (by kernel_rfl) (fun _ => ?_)); clear hQ hP Q)
    | refine GW_block ?_
    | refine GW_ret ?_
    | refine GW_skip ?_
    | refine GW_exit ?_
    | refine GW_goto ?_
    | refine GW_label ?_
    | simp only [blockG_exit]
    | (refine GW_cond (by simp; rfl) ?_ ?_ <;> (intro hb; first | (exfalso; exact absurd hb (by decide)) | skip)))
  refine ⟨.inr trivial, ?_⟩
  simp [Tryd.results101]
@[simp] theorem wNeg (a : Int) (K : Value → Prop) : callK Tryd.prog G0 101 #[Value.agg #[.int .u64 (wi (a) 0), .int .u64 (wi (a) 1), .int .u64 (wi (a) 2), .int .u64 (wi (a) 3)]] K ↔ K (.tuple #[wd (-a), .bool (ng a && ng (-a))]) := callK_iff G0W (by kernel_rfl) (wneg_ret a)
end Go.Gy
