/-
  Contracts of the document's wide numbers (gyreref02), the second part.
  Conditions: none.
-/
import Derived.Test.YtggidgaeggekhaaDoorGyO
namespace Go.Gy
set_option linter.unusedSimpArgs false
set_option linter.unusedVariables false
open Go Go.RowKit Go.Proofs
theorem add2_ret (a b : Int) : Ret Tryd.prog G0 29 #[wd a, wd b] (.tuple #[wd (a + b), .bool (ng a == ng b && ng (a + b) != ng a)]) := by
  refine ret_of G0F Tryd.func29 rfl Tryd.call29 (by simp) (by simp) (by simp [Tryd.ntmps29]) ?_
  intro C hC hC0 hY
  cases hb : (ng a == ng b)
  all_goals
    repeat' (first
      | refine GW_seq ?_
      | simp only [List.length_cons, List.length_nil, Nat.reduceAdd, Nat.reduceMul, thenG_normal, thenG_ret, thenG_exit, thenG_goto, thenG_panic, blockG_normal, blockG_ret, blockG_goto, blockG_panic, jumpG_normal, jumpG_ret, jumpG_exit, jumpG_panic]
      | (refine GW_region' [] (by kernel_rfl) ?_; intro Q hQ hP; simp [hC, hY, hb]; (first | refine hQ _ _ _ _ ?_ | refine hP _ _ (fun _ => ?_)); clear hQ hP Q)
      | (refine GW_draw' [] follows (by kernel_rfl) (by kernel_rfl) ?_; intro Q hQ hP; simp [hC, hY, hb]; (first | refine hQ _ _ _ _ (by kernel_rfl) ?_ | refine hP _ _ (by kernel_rfl) (fun _ => ?_)); clear hQ hP Q)
      | refine GW_block ?_
      | refine GW_ret ?_
      | refine GW_skip ?_
      | refine GW_exit ?_
      | refine GW_goto ?_
      | refine GW_label ?_
      | simp only [blockG_exit]
      | (refine GW_cond (by simp; rfl) ?_ ?_ <;> (intro hb; first | (exfalso; exact absurd hb (by decide)) | skip)))
    refine ⟨.inr trivial, ?_⟩
    simp [Tryd.results29, hb]
@[simp] theorem add2 (a b : Int) (K : Value → Prop) : callK Tryd.prog G0 29 #[Value.agg #[.int .u64 (wi (a) 0), .int .u64 (wi (a) 1), .int .u64 (wi (a) 2), .int .u64 (wi (a) 3)], Value.agg #[.int .u64 (wi (b) 0), .int .u64 (wi (b) 1), .int .u64 (wi (b) 2), .int .u64 (wi (b) 3)]] K ↔ K (.tuple #[wd (a + b), .bool (ng a == ng b && ng (a + b) != ng a)]) := callK_iff G0W (by kernel_rfl) (add2_ret a b)
theorem sub2_ret (a b : Int) : Ret Tryd.prog G0 30 #[wd a, wd b] (.tuple #[wd (a - b), .bool (ng a != ng b && ng (a - b) != ng a)]) := by
  refine ret_of G0F Tryd.func30 rfl Tryd.call30 (by simp) (by simp) (by simp [Tryd.ntmps30]) ?_
  intro C hC hC0 hY
  have e : a + (-b - 1) + 1 = a - b := by omega
  cases hb : (ng a != ng b)
  all_goals
    repeat' (first
      | refine GW_seq ?_
      | simp only [List.length_cons, List.length_nil, Nat.reduceAdd, Nat.reduceMul, thenG_normal, thenG_ret, thenG_exit, thenG_goto, thenG_panic, blockG_normal, blockG_ret, blockG_goto, blockG_panic, jumpG_normal, jumpG_ret, jumpG_exit, jumpG_panic]
      | (refine GW_region' [] (by kernel_rfl) ?_; intro Q hQ hP; simp [hC, hY, hb, e]; (first | refine hQ _ _ _ _ ?_ | refine hP _ _ (fun _ => ?_)); clear hQ hP Q)
      | (refine GW_draw' [] follows (by kernel_rfl) (by kernel_rfl) ?_; intro Q hQ hP; simp [hC, hY, hb, e]; (first | refine hQ _ _ _ _ (by kernel_rfl) ?_ | refine hP _ _ (by kernel_rfl) (fun _ => ?_)); clear hQ hP Q)
      | refine GW_block ?_
      | refine GW_ret ?_
      | refine GW_skip ?_
      | refine GW_exit ?_
      | refine GW_goto ?_
      | refine GW_label ?_
      | simp only [blockG_exit]
      | (refine GW_cond (by simp; rfl) ?_ ?_ <;> (intro hb; first | (exfalso; exact absurd hb (by decide)) | skip)))
    refine ⟨.inr trivial, ?_⟩
    simp [Tryd.results30, hb, e]
@[simp] theorem sub2 (a b : Int) (K : Value → Prop) : callK Tryd.prog G0 30 #[Value.agg #[.int .u64 (wi (a) 0), .int .u64 (wi (a) 1), .int .u64 (wi (a) 2), .int .u64 (wi (a) 3)], Value.agg #[.int .u64 (wi (b) 0), .int .u64 (wi (b) 1), .int .u64 (wi (b) 2), .int .u64 (wi (b) 3)]] K ↔ K (.tuple #[wd (a - b), .bool (ng a != ng b && ng (a - b) != ng a)]) := callK_iff G0W (by kernel_rfl) (sub2_ret a b)
@[simp] theorem plus2z (z c : Int) (h0 : 0 ≤ c) (h1 : c ≤ 1) (K : Value → Prop) : callK Tryd.prog G0 64 #[Value.agg #[.int .u64 (di (z) 0), .int .u64 (di (z) 1), .int .u64 (di (z) 2), .int .u64 (di (z) 3), .int .u64 (di (z) 4), .int .u64 (di (z) 5), .int .u64 (di (z) 6), .int .u64 (di (z) 7)], .agg #[.int .u64 0, .int .u64 0, .int .u64 0, .int .u64 0, .int .u64 0, .int .u64 0, .int .u64 0, .int .u64 0], .int .u64 c] K ↔ K (dg (z + c)) := by
  have := plus2 z 0 c h0 h1 K
  simpa using this
theorem neg2_ret (a : Int) : Ret Tryd.prog G0 63 #[wd a] (.tuple #[wd (-a), .bool (ng a && ng (-a))]) := by
  refine ret_of G0F Tryd.func63 rfl Tryd.call63 (by simp) (by simp) (by simp [Tryd.ntmps63]) ?_
  intro C hC hC0 hY
  have e : -a - 1 + 1 = -a := by omega
  cases hb : ng a
  all_goals
    repeat' (first
      | refine GW_seq ?_
      | simp only [List.length_cons, List.length_nil, Nat.reduceAdd, Nat.reduceMul, thenG_normal, thenG_ret, thenG_exit, thenG_goto, thenG_panic, blockG_normal, blockG_ret, blockG_goto, blockG_panic, jumpG_normal, jumpG_ret, jumpG_exit, jumpG_panic]
      | (refine GW_region' [] (by kernel_rfl) ?_; intro Q hQ hP; simp [hC, hY, hb, e]; (first | refine hQ _ _ _ _ ?_ | refine hP _ _ (fun _ => ?_)); clear hQ hP Q)
      | (refine GW_draw' [] follows (by kernel_rfl) (by kernel_rfl) ?_; intro Q hQ hP; simp [hC, hY, hb, e]; (first | refine hQ _ _ _ _ (by kernel_rfl) ?_ | refine hP _ _ (by kernel_rfl) (fun _ => ?_)); clear hQ hP Q)
      | refine GW_block ?_
      | refine GW_ret ?_
      | refine GW_skip ?_
      | refine GW_exit ?_
      | refine GW_goto ?_
      | refine GW_label ?_
      | simp only [blockG_exit]
      | (refine GW_cond (by simp; rfl) ?_ ?_ <;> (intro hb; first | (exfalso; exact absurd hb (by decide)) | skip)))
    refine ⟨.inr trivial, ?_⟩
    simp [Tryd.results63, hb, e]
@[simp] theorem neg2 (a : Int) (K : Value → Prop) : callK Tryd.prog G0 63 #[Value.agg #[.int .u64 (wi (a) 0), .int .u64 (wi (a) 1), .int .u64 (wi (a) 2), .int .u64 (wi (a) 3)]] K ↔ K (.tuple #[wd (-a), .bool (ng a && ng (-a))]) := callK_iff G0W (by kernel_rfl) (neg2_ret a)
end Go.Gy
