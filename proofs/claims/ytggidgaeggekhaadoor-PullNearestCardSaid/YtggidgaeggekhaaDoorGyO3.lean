/-
  Contracts of the document's wide numbers (gyreref02), the third part: Of, Int, Cmp, Sign.
  Conditions: none.
-/
import Derived.Test.YtggidgaeggekhaaDoorGyO2
namespace Go.Gy
set_option linter.unusedSimpArgs false
set_option linter.unusedVariables false
open Go Go.RowKit Go.Proofs

theorem wi_neg {n : Int} (h : i64 n) (hn : n < 0) : wi n 1 = 18446744073709551615 ∧ wi n 2 = 18446744073709551615 ∧ wi n 3 = 18446744073709551615 := by
  unfold i64 at h; simp only [wi]; omega
theorem wi_pos {n : Int} (h : i64 n) (hn : ¬ n < 0) : wi n 1 = 0 ∧ wi n 2 = 0 ∧ wi n 3 = 0 := by
  unfold i64 at h; simp only [wi]; omega
theorem wi_n0 (n : Int) : n % 18446744073709551616 = wi n 0 := by simp [wi]
@[simp] theorem wi_zero (k : Nat) : wi 0 k = 0 := by simp [wi]

def ofSt (n : Int) (i : Nat) : GS :=
  ⟨tsL [(0, .int .i64 n), (2, .pointer (some ⟨200, 0, none⟩)), (3, .pointer (some ⟨232, 0, none⟩)), (4, .int .i64 (i + 1 : Nat))],
   hpL G0 [(200, ⟨#[.int .u64 0, .int .u64 0, .int .u64 0, .int .u64 0], 24⟩),
     (232, ⟨#[.int .u64 (wi n 0), .int .u64 (if 0 < i then 18446744073709551615 else 0), .int .u64 (if 1 < i then 18446744073709551615 else 0), .int .u64 (if 2 < i then 18446744073709551615 else 0)], 24⟩)], 300, 0⟩
theorem of2_ret (n : Int) (h : i64 n) : Ret Tryd.prog G0 27 #[.int .i64 n] (wd n) := by
  refine ret_of G0F Tryd.func27 rfl Tryd.call27 (by simp) (by simp) (by simp [Tryd.ntmps27]) ?_
  intro C hC hC0 hY
  repeat' (first
    | refine GW_seq ?_
    | simp only [List.length_cons, List.length_nil, Nat.reduceAdd, Nat.reduceMul, thenG_normal, thenG_ret, thenG_exit, thenG_goto, thenG_panic, blockG_normal, blockG_ret, blockG_goto, blockG_panic, jumpG_normal, jumpG_ret, jumpG_exit, jumpG_panic]
    | (refine GW_region' [] (by kernel_rfl) ?_; intro Q hQ hP; simp [hC, hY, wi_n0]; (first | refine hQ _ _ _ _ ?_ | refine hP _ _ (fun _ => ?_)); clear hQ hP Q)
    | (refine GW_draw' [] follows (by kernel_rfl) (by kernel_rfl) ?_; intro Q hQ hP; simp [hC, hY, wi_n0]; (first | refine hQ _ _ _ _ (by kernel_rfl) ?_ | refine hP _ _ (by kernel_rfl) (fun _ => ?_)); clear hQ hP Q)
    | refine GW_block ?_
    | refine GW_ret ?_
    | refine GW_skip ?_
    | refine GW_exit ?_
    | refine GW_goto ?_
    | refine GW_label ?_
    | simp only [blockG_exit]
    | (refine GW_cond (by simp; rfl) ?_ ?_ <;> (intro hb; first | (exfalso; exact absurd hb (by decide)) | skip)))
  refine GW_for (if n < 0 then 3 else 0) (ofSt n) ?_ ?_ ?_
  · refine weakL _ 300 hC G0F (m0 := []) hC0 (by omega) ?_ ?_ ?_
    · simp [idsV, idsA, idsF, ids0, dom]
    · simp [Blk.ids, idsF, ids0]
    · simp
  · intro i hi
    by_cases hn : n < 0
    · rw [if_pos hn] at hi
      have : i = 0 ∨ i = 1 ∨ i = 2 := by omega
      rcases this with rfl | rfl | rfl <;> unfold ofSt
      all_goals
        repeat' (first
          | refine GW_seq ?_
          | simp only [List.length_cons, List.length_nil, Nat.reduceAdd, Nat.reduceMul, thenG_normal, thenG_ret, thenG_exit, thenG_goto, thenG_panic, blockG_normal, blockG_ret, blockG_goto, blockG_panic, jumpG_normal, jumpG_ret, jumpG_exit, jumpG_panic]
          | (refine GW_region' [] (by kernel_rfl) ?_; intro Q hQ hP; simp [hC, hY, hn]; (first | refine hQ _ _ _ _ ?_ | refine hP _ _ (fun _ => ?_)); clear hQ hP Q)
          | (refine GW_draw' [] follows (by kernel_rfl) (by kernel_rfl) ?_; intro Q hQ hP; simp [hC, hY, hn]; (first | refine hQ _ _ _ _ (by kernel_rfl) ?_ | refine hP _ _ (by kernel_rfl) (fun _ => ?_)); clear hQ hP Q)
          | refine GW_block ?_
          | refine GW_ret ?_
          | refine GW_skip ?_
          | refine GW_exit ?_
          | refine GW_goto ?_
          | refine GW_label ?_
          | simp only [blockG_exit]
          | (refine GW_cond (by simp; rfl) ?_ ?_ <;> (intro hb; first | (exfalso; exact absurd hb (by decide)) | skip)))
      all_goals
        refine weakL _ 300 hC G0F (m0 := []) hC0 (by omega) ?_ ?_ ?_
        · simp [idsV, idsA, idsF, ids0, dom]
        · simp [Blk.ids, idsF, ids0]
        · simp
    · rw [if_neg hn] at hi; omega
  · by_cases hn : n < 0
    · rw [if_pos hn]
      have e := wi_neg h hn
      unfold ofSt
      repeat' (first
        | refine GW_seq ?_
        | simp only [List.length_cons, List.length_nil, Nat.reduceAdd, Nat.reduceMul, thenG_normal, thenG_ret, thenG_exit, thenG_goto, thenG_panic, blockG_normal, blockG_ret, blockG_goto, blockG_panic, jumpG_normal, jumpG_ret, jumpG_exit, jumpG_panic]
        | (refine GW_region' [] (by kernel_rfl) ?_; intro Q hQ hP; simp [hC, hY]; (first | refine hQ _ _ _ _ ?_ | refine hP _ _ (fun _ => ?_)); clear hQ hP Q)
        | (refine GW_draw' [] follows (by kernel_rfl) (by kernel_rfl) ?_; intro Q hQ hP; simp [hC, hY]; (first | refine hQ _ _ _ _ (by kernel_rfl) ?_ | refine hP _ _ (by kernel_rfl) (fun _ => ?_)); clear hQ hP Q)
        | refine GW_block ?_
        | refine GW_ret ?_
        | refine GW_skip ?_
        | refine GW_exit ?_
        | refine GW_goto ?_
        | refine GW_label ?_
        | simp only [blockG_exit]
        | (refine GW_cond (by simp; rfl) ?_ ?_ <;> (intro hb; first | (exfalso; exact absurd hb (by decide)) | skip)))
      refine ⟨.inr trivial, ?_⟩
      simp [Tryd.results27, e]
    · rw [if_neg hn]
      have e := wi_pos h hn
      unfold ofSt
      repeat' (first
        | refine GW_seq ?_
        | simp only [List.length_cons, List.length_nil, Nat.reduceAdd, Nat.reduceMul, thenG_normal, thenG_ret, thenG_exit, thenG_goto, thenG_panic, blockG_normal, blockG_ret, blockG_goto, blockG_panic, jumpG_normal, jumpG_ret, jumpG_exit, jumpG_panic]
        | (refine GW_region' [] (by kernel_rfl) ?_; intro Q hQ hP; simp [hC, hY, hn]; (first | refine hQ _ _ _ _ ?_ | refine hP _ _ (fun _ => ?_)); clear hQ hP Q)
        | (refine GW_draw' [] follows (by kernel_rfl) (by kernel_rfl) ?_; intro Q hQ hP; simp [hC, hY, hn]; (first | refine hQ _ _ _ _ (by kernel_rfl) ?_ | refine hP _ _ (by kernel_rfl) (fun _ => ?_)); clear hQ hP Q)
        | refine GW_block ?_
        | refine GW_ret ?_
        | refine GW_skip ?_
        | refine GW_exit ?_
        | refine GW_goto ?_
        | refine GW_label ?_
        | simp only [blockG_exit]
        | (refine GW_cond (by simp; rfl) ?_ ?_ <;> (intro hb; first | (exfalso; exact absurd hb (by decide)) | skip)))
      refine ⟨.inr trivial, ?_⟩
      simp [Tryd.results27, e]
@[simp] theorem of2 (n : Int) (h : i64 n) (K : Value → Prop) : callK Tryd.prog G0 27 #[.int .i64 n] K ↔ K (wd n) := callK_iff G0W (by kernel_rfl) (of2_ret n h)

theorem int2_ret (z : Int) : Ret Tryd.prog G0 57 #[wd z] (.tuple #[.int .i64 (if i64 (sz z) then sz z else 0), .bool (decide (i64 (sz z)))]) := by
  refine ret_of G0F Tryd.func57 rfl Tryd.call57 (by simp) (by simp) (by simp [Tryd.ntmps57]) ?_
  intro C hC hC0 hY
  have h := bmod_i64 (wi z 0)
  repeat' (first
    | refine GW_seq ?_
    | simp only [List.length_cons, List.length_nil, Nat.reduceAdd, Nat.reduceMul, thenG_normal, thenG_ret, thenG_exit, thenG_goto, thenG_panic, blockG_normal, blockG_ret, blockG_goto, blockG_panic, jumpG_normal, jumpG_ret, jumpG_exit, jumpG_panic]
    | (refine GW_region' [] (by kernel_rfl) ?_; intro Q hQ hP; simp [hC, hY, h]; (first | refine hQ _ _ _ _ ?_ | refine hP _ _ (fun _ => ?_)); clear hQ hP Q)
    | (refine GW_draw' [] follows (by kernel_rfl) (by kernel_rfl) ?_; intro Q hQ hP; simp [hC, hY, h]; (first | refine hQ _ _ _ _ (by kernel_rfl) ?_ | refine hP _ _ (by kernel_rfl) (fun _ => ?_)); clear hQ hP Q)
    | refine GW_block ?_
    | refine GW_ret ?_
    | refine GW_skip ?_
    | refine GW_exit ?_
    | refine GW_goto ?_
    | refine GW_label ?_
    | simp only [blockG_exit]
    | (refine GW_cond (by simp; rfl) ?_ ?_ <;> (intro hb; first | (exfalso; exact absurd hb (by decide)) | skip)))
  all_goals
    refine ⟨.inr trivial, ?_⟩
    rw [wne] at hb
    simp at hb
    rw [int_is] at hb
    simp [Tryd.results57, hb]
  exact int_val z hb
@[simp] theorem toint2 (z : Int) (K : Value → Prop) : callK Tryd.prog G0 57 #[Value.agg #[.int .u64 (wi (z) 0), .int .u64 (wi (z) 1), .int .u64 (wi (z) 2), .int .u64 (wi (z) 3)]] K ↔ K (.tuple #[.int .i64 (if i64 (sz z) then sz z else 0), .bool (decide (i64 (sz z)))]) := callK_iff G0W (by kernel_rfl) (int2_ret z)

theorem sz_w (z : Int) : sz z = wi z 0 + 18446744073709551616 * wi z 1 + 340282366920938463463374607431768211456 * wi z 2 + 6277101735386680763835789423207666416102355444464034512896 * wi z 3 - (if ng z then 115792089237316195423570985008687907853269984665640564039457584007913129639936 else 0) := by
  have h1 := wsum z
  have := wi_ge z 0; have := wi_lt z 0; have := wi_ge z 1; have := wi_lt z 1; have := wi_ge z 2; have := wi_lt z 2; have := wi_ge z 3; have := wi_lt z 3
  simp only [ng, decide_eq_true_eq]
  unfold sz
  rw [Int.bmod_def]
  split <;> split <;> omega
theorem ng_sz (z : Int) : ng z = decide (sz z < 0) := by
  have h1 := sz_w z
  have := wi_ge z 0; have := wi_lt z 0; have := wi_ge z 1; have := wi_lt z 1; have := wi_ge z 2; have := wi_lt z 2; have := wi_ge z 3; have := wi_lt z 3
  rw [Bool.eq_iff_iff]
  simp only [ng, decide_eq_true_eq] at h1 ⊢
  split at h1 <;> omega
/-- How many words are the same, from the highest on. -/
def eqW (a b : Int) : Nat := if wi a 3 = wi b 3 then if wi a 2 = wi b 2 then if wi a 1 = wi b 1 then if wi a 0 = wi b 0 then 4 else 3 else 2 else 1 else 0
def cmpSt (a b : Int) (i : Nat) : GS :=
  ⟨tsL [(2, .pointer (some ⟨200, 0, none⟩)), (3, .pointer (some ⟨208, 0, none⟩)), (5, .int .i64 (3 - i))],
   hpL G0 [(200, ⟨#[.int .u64 (wi a 0), .int .u64 (wi a 1), .int .u64 (wi a 2), .int .u64 (wi a 3)], 24⟩), (208, ⟨#[.int .u64 (wi b 0), .int .u64 (wi b 1), .int .u64 (wi b 2), .int .u64 (wi b 3)], 24⟩)], 300, 0⟩
theorem cmp2_ret (a b : Int) : Ret Tryd.prog G0 28 #[wd a, wd b] (.int .i64 (cmpI (sz a) (sz b))) := by
  refine ret_of G0F Tryd.func28 rfl Tryd.call28 (by simp) (by simp) (by simp [Tryd.ntmps28]) ?_
  intro C hC hC0 hY
  repeat' (first
    | refine GW_seq ?_
    | simp only [List.length_cons, List.length_nil, Nat.reduceAdd, Nat.reduceMul, thenG_normal, thenG_ret, thenG_exit, thenG_goto, thenG_panic, blockG_normal, blockG_ret, blockG_goto, blockG_panic, jumpG_normal, jumpG_ret, jumpG_exit, jumpG_panic]
    | (refine GW_region' [] (by kernel_rfl) ?_; intro Q hQ hP; simp [hC, hY]; (first | refine hQ _ _ _ _ ?_ | refine hP _ _ (fun _ => ?_)); clear hQ hP Q)
    | (refine GW_draw' [] follows (by kernel_rfl) (by kernel_rfl) ?_; intro Q hQ hP; simp [hC, hY]; (first | refine hQ _ _ _ _ (by kernel_rfl) ?_ | refine hP _ _ (by kernel_rfl) (fun _ => ?_)); clear hQ hP Q)
    | refine GW_block ?_
    | refine GW_ret ?_
    | refine GW_skip ?_
    | refine GW_exit ?_
    | refine GW_goto ?_
    | refine GW_label ?_
    | simp only [blockG_exit]
    | (refine GW_cond (by simp; rfl) ?_ ?_ <;> (intro hb; first | (exfalso; exact absurd hb (by decide)) | skip)))
  · rename_i hx
    refine ⟨.inr trivial, ?_⟩
    rw [ng_sz, ng_sz] at hx
    rw [ng_sz] at hb
    simp at hb hx
    have : sz a < sz b := by omega
    simp [Tryd.results28, cmpI, this]
  · rename_i hx
    refine ⟨.inr trivial, ?_⟩
    rw [ng_sz, ng_sz] at hx
    rw [ng_sz] at hb
    simp at hb hx
    have h1 : ¬ sz a < sz b := by omega
    have h2 : ¬ sz a = sz b := by omega
    simp [Tryd.results28, cmpI, h1, h2]
  · have hs : ng a = ng b := by simpa using hb
    have e1 := sz_w a
    have e2 := sz_w b
    rw [hs] at e1
    have := wi_ge a 0; have := wi_lt a 0; have := wi_ge a 1; have := wi_lt a 1; have := wi_ge a 2; have := wi_lt a 2; have := wi_ge a 3; have := wi_lt a 3
    have := wi_ge b 0; have := wi_lt b 0; have := wi_ge b 1; have := wi_lt b 1; have := wi_ge b 2; have := wi_lt b 2; have := wi_ge b 3; have := wi_lt b 3
    refine GW_for (eqW a b) (cmpSt a b) ?_ ?_ ?_
    · refine weakL _ 300 hC G0F (m0 := []) hC0 (by omega) ?_ ?_ ?_
      · simp [idsV, idsA, idsF, ids0, dom]
      · simp [Blk.ids, idsF, ids0]
      · simp
    · intro i hi
      have : i = 0 ∧ wi a 3 = wi b 3 ∨ i = 1 ∧ wi a 2 = wi b 2 ∨ i = 2 ∧ wi a 1 = wi b 1 ∨ i = 3 ∧ wi a 0 = wi b 0 := by unfold eqW at hi; (repeat' split at hi) <;> omega
      rcases this with ⟨rfl, h⟩ | ⟨rfl, h⟩ | ⟨rfl, h⟩ | ⟨rfl, h⟩ <;> unfold cmpSt
      all_goals
        repeat' (first
          | refine GW_seq ?_
          | simp only [List.length_cons, List.length_nil, Nat.reduceAdd, Nat.reduceMul, thenG_normal, thenG_ret, thenG_exit, thenG_goto, thenG_panic, blockG_normal, blockG_ret, blockG_goto, blockG_panic, jumpG_normal, jumpG_ret, jumpG_exit, jumpG_panic]
          | (refine GW_region' [] (by kernel_rfl) ?_; intro Q hQ hP; simp [hC, hY, h]; (first | refine hQ _ _ _ _ ?_ | refine hP _ _ (fun _ => ?_)); clear hQ hP Q)
          | (refine GW_draw' [] follows (by kernel_rfl) (by kernel_rfl) ?_; intro Q hQ hP; simp [hC, hY, h]; (first | refine hQ _ _ _ _ (by kernel_rfl) ?_ | refine hP _ _ (by kernel_rfl) (fun _ => ?_)); clear hQ hP Q)
          | refine GW_block ?_
          | refine GW_ret ?_
          | refine GW_skip ?_
          | refine GW_exit ?_
          | refine GW_goto ?_
          | refine GW_label ?_
          | simp only [blockG_exit]
          | (refine GW_cond (by simp; rfl) ?_ ?_ <;> (intro hb; first | (exfalso; exact absurd hb (by decide)) | skip)))
      all_goals
        refine weakL _ 300 hC G0F (m0 := []) hC0 (by omega) ?_ ?_ ?_
        · simp [idsV, idsA, idsF, ids0, dom, h]
        · simp [Blk.ids, idsF, ids0, h]
        · simp
    · unfold eqW
      (repeat' split) <;> unfold cmpSt
      · rename_i q3 q2 q1 q0
        repeat' (first
          | refine GW_seq ?_
          | simp only [List.length_cons, List.length_nil, Nat.reduceAdd, Nat.reduceMul, thenG_normal, thenG_ret, thenG_exit, thenG_goto, thenG_panic, blockG_normal, blockG_ret, blockG_goto, blockG_panic, jumpG_normal, jumpG_ret, jumpG_exit, jumpG_panic]
          | (refine GW_region' [] (by kernel_rfl) ?_; intro Q hQ hP; simp [hC, hY]; (first | refine hQ _ _ _ _ ?_ | refine hP _ _ (fun _ => ?_)); clear hQ hP Q)
          | (refine GW_draw' [] follows (by kernel_rfl) (by kernel_rfl) ?_; intro Q hQ hP; simp [hC, hY]; (first | refine hQ _ _ _ _ (by kernel_rfl) ?_ | refine hP _ _ (by kernel_rfl) (fun _ => ?_)); clear hQ hP Q)
          | refine GW_block ?_
          | refine GW_ret ?_
          | refine GW_skip ?_
          | refine GW_exit ?_
          | refine GW_goto ?_
          | refine GW_label ?_
          | simp only [blockG_exit]
          | (refine GW_cond (by simp; rfl) ?_ ?_ <;> (intro hb; first | (exfalso; exact absurd hb (by decide)) | skip)))
        refine ⟨.inr trivial, ?_⟩
        have : sz a = sz b := by omega
        simp [Tryd.results28, cmpI, this]
      all_goals
        rename_i h
        rcases Int.lt_or_gt_of_ne h with hlt | hlt
      all_goals
        have hnl := Int.not_lt.2 (Int.le_of_lt hlt)
        repeat' (first
          | refine GW_seq ?_
          | simp only [List.length_cons, List.length_nil, Nat.reduceAdd, Nat.reduceMul, thenG_normal, thenG_ret, thenG_exit, thenG_goto, thenG_panic, blockG_normal, blockG_ret, blockG_goto, blockG_panic, jumpG_normal, jumpG_ret, jumpG_exit, jumpG_panic]
          | (refine GW_region' [] (by kernel_rfl) ?_; intro Q hQ hP; simp [hC, hY, hlt, hnl]; (first | refine hQ _ _ _ _ ?_ | refine hP _ _ (fun _ => ?_)); clear hQ hP Q)
          | (refine GW_draw' [] follows (by kernel_rfl) (by kernel_rfl) ?_; intro Q hQ hP; simp [hC, hY, hlt, hnl]; (first | refine hQ _ _ _ _ (by kernel_rfl) ?_ | refine hP _ _ (by kernel_rfl) (fun _ => ?_)); clear hQ hP Q)
          | refine GW_block ?_
          | refine GW_ret ?_
          | refine GW_skip ?_
          | refine GW_exit ?_
          | refine GW_goto ?_
          | refine GW_label ?_
          | simp only [blockG_exit]
          | (refine GW_cond (by simp; rfl) ?_ ?_ <;> (intro hb; first | (exfalso; exact absurd hb (by decide)) | skip)))
      all_goals
        refine ⟨.inr trivial, ?_⟩
        first
          | (have hc : sz a < sz b := by omega
             simp [Tryd.results28, cmpI, hc]; done)
          | (have hc : ¬ sz a < sz b := by omega
             have hd : ¬ sz a = sz b := by omega
             simp [Tryd.results28, cmpI, hc, hd]; done)
@[simp] theorem cmp2 (a b : Int) (K : Value → Prop) : callK Tryd.prog G0 28 #[Value.agg #[.int .u64 (wi (a) 0), .int .u64 (wi (a) 1), .int .u64 (wi (a) 2), .int .u64 (wi (a) 3)], Value.agg #[.int .u64 (wi (b) 0), .int .u64 (wi (b) 1), .int .u64 (wi (b) 2), .int .u64 (wi (b) 3)]] K ↔ K (.int .i64 (cmpI (sz a) (sz b))) := callK_iff G0W (by kernel_rfl) (cmp2_ret a b)
@[simp] theorem cmp2z (a : Int) (K : Value → Prop) : callK Tryd.prog G0 28 #[Value.agg #[.int .u64 (wi (a) 0), .int .u64 (wi (a) 1), .int .u64 (wi (a) 2), .int .u64 (wi (a) 3)], .agg #[.int .u64 0, .int .u64 0, .int .u64 0, .int .u64 0]] K ↔ K (.int .i64 (cmpI (sz a) 0)) := by
  have := cmp2 a 0 K
  have e : sz 0 = 0 := by decide
  rw [e] at this
  simpa using this
theorem sign2_ret (a : Int) : Ret Tryd.prog G0 25 #[wd a] (.int .i64 (cmpI (sz a) 0)) := by
  refine ret_of G0F Tryd.func25 rfl Tryd.call25 (by simp) (by simp) (by simp [Tryd.ntmps25]) ?_
  intro C hC hC0 hY
  repeat' (first
    | refine GW_seq ?_
    | simp only [List.length_cons, List.length_nil, Nat.reduceAdd, Nat.reduceMul, thenG_normal, thenG_ret, thenG_exit, thenG_goto, thenG_panic, blockG_normal, blockG_ret, blockG_goto, blockG_panic, jumpG_normal, jumpG_ret, jumpG_exit, jumpG_panic]
    | (refine GW_region' [] (by kernel_rfl) ?_; intro Q hQ hP; simp [hC, hY]; (first | refine hQ _ _ _ _ ?_ | refine hP _ _ (fun _ => ?_)); clear hQ hP Q)
    | (refine GW_draw' [] follows (by kernel_rfl) (by kernel_rfl) ?_; intro Q hQ hP; simp [hC, hY]; (first | refine hQ _ _ _ _ (by kernel_rfl) ?_ | refine hP _ _ (by kernel_rfl) (fun _ => ?_)); clear hQ hP Q)
    | refine GW_block ?_
    | refine GW_ret ?_
    | refine GW_skip ?_
    | refine GW_exit ?_
    | refine GW_goto ?_
    | refine GW_label ?_
    | simp only [blockG_exit]
    | (refine GW_cond (by simp; rfl) ?_ ?_ <;> (intro hb; first | (exfalso; exact absurd hb (by decide)) | skip)))
  refine ⟨.inr trivial, ?_⟩
  simp [Tryd.results25]
@[simp] theorem sign2 (a : Int) (K : Value → Prop) : callK Tryd.prog G0 25 #[Value.agg #[.int .u64 (wi (a) 0), .int .u64 (wi (a) 1), .int .u64 (wi (a) 2), .int .u64 (wi (a) 3)]] K ↔ K (.int .i64 (cmpI (sz a) 0)) := callK_iff G0W (by kernel_rfl) (sign2_ret a)
end Go.Gy
