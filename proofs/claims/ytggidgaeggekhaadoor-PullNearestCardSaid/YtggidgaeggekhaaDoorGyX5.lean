/-
  Contracts of cmp.Compare, whole.
  Conditions: none.
-/
import Derived.Test.YtggidgaeggekhaaDoorGyX4
namespace Go.Gy
set_option linter.unusedSimpArgs false
set_option linter.unusedVariables false
open Go Go.RowKit Go.Proofs

theorem nani_ret (x : Int) : Ret Tryd.prog G0 112 #[.int .i64 x] (.bool false) := by
  refine ret_of G0F Tryd.func112 rfl Tryd.call112 rfl (by simp) (by simp [Tryd.ntmps112]) ?_
  intro C hC hC0 hY
  repeat' (first
    | refine GW_seq ?_
    | simp only [List.length_cons, List.length_nil, Nat.reduceAdd, Nat.reduceMul, thenG_normal, thenG_ret, thenG_exit, thenG_goto, thenG_panic, blockG_normal, blockG_ret, blockG_goto, blockG_panic, jumpG_normal, jumpG_ret, jumpG_exit, jumpG_panic]
    | (refine GW_region' [] (by kernel_rfl) ?_; intro Q hQ hP; simp [hC, hY]; (first | refine hQ _ _ _ _ ?_ | refine hP _ _ (fun _ => ?_)); clear hQ hP Q)
    | (refine GW_draw' [] follows (by kernel_rfl) (by kernel_rfl) ?_; intro Q hQ hP; simp [hC, hY]; (first | refine hQ _ _ _ _ (by kernel_rfl) ?_ | refine hP _ _ (by kernel_rfl) (fun _ => ?_)); clear hQ hP Q)
    | refine GW_block ?_
    | refine GW_ret ?_
    | refine GW_skip ?_
    | refine GW_exit ?_
    | refine GW_goto ?_
    | refine GW_label ?_
    | simp only [blockG_exit]
    | (refine GW_cond (by simp; rfl) ?_ ?_ <;> (intro hb; first | (exfalso; exact absurd hb (by decide)) | skip)))
  refine ⟨.inr trivial, ?_⟩
  simp [Tryd.results112]
@[simp] theorem nani (x : Int) (K : Value → Prop) : callK Tryd.prog G0 112 #[.int .i64 x] K ↔ K (.bool false) := callK_iff G0W (by kernel_rfl) (nani_ret x)
theorem nanu_ret (x : Int) : Ret Tryd.prog G0 113 #[.int .u64 x] (.bool false) := by
  refine ret_of G0F Tryd.func113 rfl Tryd.call113 rfl (by simp) (by simp [Tryd.ntmps113]) ?_
  intro C hC hC0 hY
  repeat' (first
    | refine GW_seq ?_
    | simp only [List.length_cons, List.length_nil, Nat.reduceAdd, Nat.reduceMul, thenG_normal, thenG_ret, thenG_exit, thenG_goto, thenG_panic, blockG_normal, blockG_ret, blockG_goto, blockG_panic, jumpG_normal, jumpG_ret, jumpG_exit, jumpG_panic]
    | (refine GW_region' [] (by kernel_rfl) ?_; intro Q hQ hP; simp [hC, hY]; (first | refine hQ _ _ _ _ ?_ | refine hP _ _ (fun _ => ?_)); clear hQ hP Q)
    | (refine GW_draw' [] follows (by kernel_rfl) (by kernel_rfl) ?_; intro Q hQ hP; simp [hC, hY]; (first | refine hQ _ _ _ _ (by kernel_rfl) ?_ | refine hP _ _ (by kernel_rfl) (fun _ => ?_)); clear hQ hP Q)
    | refine GW_block ?_
    | refine GW_ret ?_
    | refine GW_skip ?_
    | refine GW_exit ?_
    | refine GW_goto ?_
    | refine GW_label ?_
    | simp only [blockG_exit]
    | (refine GW_cond (by simp; rfl) ?_ ?_ <;> (intro hb; first | (exfalso; exact absurd hb (by decide)) | skip)))
  refine ⟨.inr trivial, ?_⟩
  simp [Tryd.results113]
@[simp] theorem nanu (x : Int) (K : Value → Prop) : callK Tryd.prog G0 113 #[.int .u64 x] K ↔ K (.bool false) := callK_iff G0W (by kernel_rfl) (nanu_ret x)
theorem cmpi_ret (x y : Int) : Ret Tryd.prog G0 95 #[.int .i64 x, .int .i64 y] (.int .i64 (cmpI x y)) := by
  refine ret_of G0F Tryd.func95 rfl Tryd.call95 rfl (by simp) (by simp [Tryd.ntmps95]) ?_
  intro C hC hC0 hY
  by_cases h1 : x < y
  · (repeat' (first | refine GW_seq ?_ | simp only [List.length_cons, List.length_nil, Nat.reduceAdd, Nat.reduceMul, thenG_normal, thenG_ret, thenG_exit, thenG_goto, thenG_panic, blockG_normal, blockG_ret, blockG_goto, blockG_panic, jumpG_normal, jumpG_ret, jumpG_exit, jumpG_panic] | (refine GW_region' [] (by kernel_rfl) ?_; intro Q hQ hP; simp [hC, hY, h1]; (first | refine hQ _ _ _ _ ?_ | refine hP _ _ (fun _ => ?_)); clear hQ hP Q) | (refine GW_draw' [] follows (by kernel_rfl) (by kernel_rfl) ?_; intro Q hQ hP; simp [hC, hY, h1]; (first | refine hQ _ _ _ _ (by kernel_rfl) ?_ | refine hP _ _ (by kernel_rfl) (fun _ => ?_)); clear hQ hP Q) | refine GW_block ?_ | refine GW_ret ?_ | refine GW_skip ?_ | refine GW_exit ?_ | refine GW_goto ?_ | refine GW_label ?_ | simp only [blockG_exit] | (refine GW_cond (by simp; rfl) ?_ ?_ <;> (intro hb; first | (exfalso; exact absurd hb (by decide)) | skip))))
    all_goals
      refine ⟨.inr trivial, ?_⟩
      simp [Tryd.results95, cmpI, h1]
  · by_cases h2 : y < x
    · have h3 : ¬ x = y := by omega
      (repeat' (first | refine GW_seq ?_ | simp only [List.length_cons, List.length_nil, Nat.reduceAdd, Nat.reduceMul, thenG_normal, thenG_ret, thenG_exit, thenG_goto, thenG_panic, blockG_normal, blockG_ret, blockG_goto, blockG_panic, jumpG_normal, jumpG_ret, jumpG_exit, jumpG_panic] | (refine GW_region' [] (by kernel_rfl) ?_; intro Q hQ hP; simp [hC, hY, h1, h2]; (first | refine hQ _ _ _ _ ?_ | refine hP _ _ (fun _ => ?_)); clear hQ hP Q) | (refine GW_draw' [] follows (by kernel_rfl) (by kernel_rfl) ?_; intro Q hQ hP; simp [hC, hY, h1, h2]; (first | refine hQ _ _ _ _ (by kernel_rfl) ?_ | refine hP _ _ (by kernel_rfl) (fun _ => ?_)); clear hQ hP Q) | refine GW_block ?_ | refine GW_ret ?_ | refine GW_skip ?_ | refine GW_exit ?_ | refine GW_goto ?_ | refine GW_label ?_ | simp only [blockG_exit] | (refine GW_cond (by simp; rfl) ?_ ?_ <;> (intro hb; first | (exfalso; exact absurd hb (by decide)) | skip))))
      all_goals
        refine ⟨.inr trivial, ?_⟩
        simp [Tryd.results95, cmpI, h1, h3]
    · have h3 : x = y := by omega
      subst h3
      (repeat' (first | refine GW_seq ?_ | simp only [List.length_cons, List.length_nil, Nat.reduceAdd, Nat.reduceMul, thenG_normal, thenG_ret, thenG_exit, thenG_goto, thenG_panic, blockG_normal, blockG_ret, blockG_goto, blockG_panic, jumpG_normal, jumpG_ret, jumpG_exit, jumpG_panic] | (refine GW_region' [] (by kernel_rfl) ?_; intro Q hQ hP; simp [hC, hY, h1]; (first | refine hQ _ _ _ _ ?_ | refine hP _ _ (fun _ => ?_)); clear hQ hP Q) | (refine GW_draw' [] follows (by kernel_rfl) (by kernel_rfl) ?_; intro Q hQ hP; simp [hC, hY, h1]; (first | refine hQ _ _ _ _ (by kernel_rfl) ?_ | refine hP _ _ (by kernel_rfl) (fun _ => ?_)); clear hQ hP Q) | refine GW_block ?_ | refine GW_ret ?_ | refine GW_skip ?_ | refine GW_exit ?_ | refine GW_goto ?_ | refine GW_label ?_ | simp only [blockG_exit] | (refine GW_cond (by simp; rfl) ?_ ?_ <;> (intro hb; first | (exfalso; exact absurd hb (by decide)) | skip))))
      all_goals
        refine ⟨.inr trivial, ?_⟩
        simp [Tryd.results95, cmpI]
@[simp] theorem cmpi (x y : Int) (K : Value → Prop) : callK Tryd.prog G0 95 #[.int .i64 x, .int .i64 y] K ↔ K (.int .i64 (cmpI x y)) := callK_iff G0W (by kernel_rfl) (cmpi_ret x y)
theorem cmpu_ret (x y : Int) : Ret Tryd.prog G0 96 #[.int .u64 x, .int .u64 y] (.int .i64 (cmpI x y)) := by
  refine ret_of G0F Tryd.func96 rfl Tryd.call96 rfl (by simp) (by simp [Tryd.ntmps96]) ?_
  intro C hC hC0 hY
  by_cases h1 : x < y
  · (repeat' (first | refine GW_seq ?_ | simp only [List.length_cons, List.length_nil, Nat.reduceAdd, Nat.reduceMul, thenG_normal, thenG_ret, thenG_exit, thenG_goto, thenG_panic, blockG_normal, blockG_ret, blockG_goto, blockG_panic, jumpG_normal, jumpG_ret, jumpG_exit, jumpG_panic] | (refine GW_region' [] (by kernel_rfl) ?_; intro Q hQ hP; simp [hC, hY, h1]; (first | refine hQ _ _ _ _ ?_ | refine hP _ _ (fun _ => ?_)); clear hQ hP Q) | (refine GW_draw' [] follows (by kernel_rfl) (by kernel_rfl) ?_; intro Q hQ hP; simp [hC, hY, h1]; (first | refine hQ _ _ _ _ (by kernel_rfl) ?_ | refine hP _ _ (by kernel_rfl) (fun _ => ?_)); clear hQ hP Q) | refine GW_block ?_ | refine GW_ret ?_ | refine GW_skip ?_ | refine GW_exit ?_ | refine GW_goto ?_ | refine GW_label ?_ | simp only [blockG_exit] | (refine GW_cond (by simp; rfl) ?_ ?_ <;> (intro hb; first | (exfalso; exact absurd hb (by decide)) | skip))))
    all_goals
      refine ⟨.inr trivial, ?_⟩
      simp [Tryd.results96, cmpI, h1]
  · by_cases h2 : y < x
    · have h3 : ¬ x = y := by omega
      (repeat' (first | refine GW_seq ?_ | simp only [List.length_cons, List.length_nil, Nat.reduceAdd, Nat.reduceMul, thenG_normal, thenG_ret, thenG_exit, thenG_goto, thenG_panic, blockG_normal, blockG_ret, blockG_goto, blockG_panic, jumpG_normal, jumpG_ret, jumpG_exit, jumpG_panic] | (refine GW_region' [] (by kernel_rfl) ?_; intro Q hQ hP; simp [hC, hY, h1, h2]; (first | refine hQ _ _ _ _ ?_ | refine hP _ _ (fun _ => ?_)); clear hQ hP Q) | (refine GW_draw' [] follows (by kernel_rfl) (by kernel_rfl) ?_; intro Q hQ hP; simp [hC, hY, h1, h2]; (first | refine hQ _ _ _ _ (by kernel_rfl) ?_ | refine hP _ _ (by kernel_rfl) (fun _ => ?_)); clear hQ hP Q) | refine GW_block ?_ | refine GW_ret ?_ | refine GW_skip ?_ | refine GW_exit ?_ | refine GW_goto ?_ | refine GW_label ?_ | simp only [blockG_exit] | (refine GW_cond (by simp; rfl) ?_ ?_ <;> (intro hb; first | (exfalso; exact absurd hb (by decide)) | skip))))
      all_goals
        refine ⟨.inr trivial, ?_⟩
        simp [Tryd.results96, cmpI, h1, h3]
    · have h3 : x = y := by omega
      subst h3
      (repeat' (first | refine GW_seq ?_ | simp only [List.length_cons, List.length_nil, Nat.reduceAdd, Nat.reduceMul, thenG_normal, thenG_ret, thenG_exit, thenG_goto, thenG_panic, blockG_normal, blockG_ret, blockG_goto, blockG_panic, jumpG_normal, jumpG_ret, jumpG_exit, jumpG_panic] | (refine GW_region' [] (by kernel_rfl) ?_; intro Q hQ hP; simp [hC, hY, h1]; (first | refine hQ _ _ _ _ ?_ | refine hP _ _ (fun _ => ?_)); clear hQ hP Q) | (refine GW_draw' [] follows (by kernel_rfl) (by kernel_rfl) ?_; intro Q hQ hP; simp [hC, hY, h1]; (first | refine hQ _ _ _ _ (by kernel_rfl) ?_ | refine hP _ _ (by kernel_rfl) (fun _ => ?_)); clear hQ hP Q) | refine GW_block ?_ | refine GW_ret ?_ | refine GW_skip ?_ | refine GW_exit ?_ | refine GW_goto ?_ | refine GW_label ?_ | simp only [blockG_exit] | (refine GW_cond (by simp; rfl) ?_ ?_ <;> (intro hb; first | (exfalso; exact absurd hb (by decide)) | skip))))
      all_goals
        refine ⟨.inr trivial, ?_⟩
        simp [Tryd.results96, cmpI]
@[simp] theorem cmpu (x y : Int) (K : Value → Prop) : callK Tryd.prog G0 96 #[.int .u64 x, .int .u64 y] K ↔ K (.int .i64 (cmpI x y)) := callK_iff G0W (by kernel_rfl) (cmpu_ret x y)
end Go.Gy
