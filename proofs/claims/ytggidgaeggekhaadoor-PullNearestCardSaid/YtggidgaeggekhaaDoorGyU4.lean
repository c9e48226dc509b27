/-
  Contracts: pull.sum.
  Conditions: none.
-/
import Derived.Test.YtggidgaeggekhaaDoorGyU3
namespace Go.Gy
set_option linter.unusedSimpArgs false
set_option linter.unusedVariables false
open Go Go.RowKit Go.Proofs
def inB (x : Int) : Prop := -2097152 ≤ x ∧ x ≤ 2097152
instance (x : Int) : Decidable (inB x) := by unfold inB; infer_instance
theorem inB_sq {x : Int} (h : inB x) : 0 ≤ x * x ∧ x * x ≤ 4398046511104 := by
  obtain ⟨h1, h2⟩ := h
  by_cases h0 : 0 ≤ x
  · have h : x * x ≤ 2097152 * 2097152 := Int.mul_le_mul (by omega) (by omega) h0 (by omega)
    exact ⟨Int.mul_nonneg h0 h0, by omega⟩
  · rw [← Int.neg_mul_neg]
    have h : -x * -x ≤ 2097152 * 2097152 := Int.mul_le_mul (by omega) (by omega) (by omega) (by omega)
    exact ⟨Int.mul_nonneg (by omega) (by omega), by omega⟩
theorem IterX.cast {pn : Option Value} {P : Program} {G : Hp} {f : FuncId} {caps caps' : Array Value} {hp : Hp} {rs rs' : List Nat} {xs : List (Array Value)} (h : IterX pn P G f caps hp rs xs) (e1 : caps = caps') (e2 : rs = rs') : IterX pn P G f caps' hp rs' xs := by subst e1 e2; exact h
def smHp (x0 x1 x2 : Int) (i : Nat) : Hp := hpL G1 [(200, vb x0 x1 x2), (208, ⟨#[.int .i64 (match i with | 0 => 0 | 1 => x0 * x0 | 2 => x0 * x0 + x1 * x1 | _ => x0 * x0 + x1 * x1 + x2 * x2)], 3⟩)]
def smTs : Nat → Value := tsL [(1, .pointer (some ⟨200, 0, none⟩)), (2, .pointer (some ⟨208, 0, none⟩))]
theorem psum_ok (x0 x1 x2 : Int) (h0 : inB x0) (h1 : inB x1) (h2 : inB x2) : RetP Tryd.prog G1 69 #[vv x0 x1 x2] (.ret (.int .i64 (x0 * x0 + x1 * x1 + x2 * x2))) := by
  refine retp_of G1F Tryd.func69 rfl Tryd.call69 (fun v h => by cases h; simp) (by simp [vv]) (by simp [Tryd.ntmps69]) ?_
  have z0 := inB_sq h0
  obtain ⟨l0, u0⟩ := h0
  have q0 : Int.bmod (x0 * x0) 18446744073709551616 = x0 * x0 := bm (by omega) (by omega)
  have s0 : Int.bmod (x0 * x0) 18446744073709551616 = x0 * x0 := bm (by omega) (by omega)
  have z1 := inB_sq h1
  obtain ⟨l1, u1⟩ := h1
  have q1 : Int.bmod (x1 * x1) 18446744073709551616 = x1 * x1 := bm (by omega) (by omega)
  have s1 : Int.bmod (x0 * x0 + x1 * x1) 18446744073709551616 = x0 * x0 + x1 * x1 := bm (by omega) (by omega)
  have z2 := inB_sq h2
  obtain ⟨l2, u2⟩ := h2
  have q2 : Int.bmod (x2 * x2) 18446744073709551616 = x2 * x2 := bm (by omega) (by omega)
  have s2 : Int.bmod (x0 * x0 + x1 * x1 + x2 * x2) 18446744073709551616 = x0 * x0 + x1 * x1 + x2 * x2 := bm (by omega) (by omega)
  intro C hC hC0 hY
  repeat' (first
    | refine GW_seq ?_
    | simp only [List.length_cons, List.length_nil, Nat.reduceAdd, Nat.reduceMul, thenG_normal, thenG_ret, thenG_exit, thenG_goto, thenG_panic, blockG_normal, blockG_ret, blockG_goto, blockG_panic, jumpG_normal, jumpG_ret, jumpG_exit, jumpG_panic]
    | (refine GW_region' [] (by kernel_rfl) ?_; intro Q hQ hP; simp [hC, hY, vv]; (first | refine hQ _ _ _ _ ?_ | refine hP _ _ (fun _ => ?_)); clear hQ hP Q)
    | (refine GW_draw' [] follows (by kernel_rfl) (by kernel_rfl) ?_; intro Q hQ hP; simp [hC, hY, vv]; (first | refine hQ _ _ _ _ (by kernel_rfl) ?_ | refine hP _ _ (by kernel_rfl) (fun _ => ?_)); clear hQ hP Q)
    | refine GW_block ?_
    | refine GW_ret ?_
    | refine GW_skip ?_
    | refine GW_exit ?_
    | refine GW_goto ?_
    | refine GW_label ?_
    | simp only [blockG_exit]
    | (refine GW_cond (by simp; rfl) ?_ ?_ <;> (intro hb; first | (exfalso; exact absurd hb (by decide)) | skip)))
  refine GW_region' [70] (by kernel_rfl) ?_; intro Q hQ hP; simp [hC, hY]
  refine heapK_of (parts_new x0 x1 x2 224 (by omega)) (by simp) (fun _ _ => rfl) (by simp [Res.at]) ?_
  simp
  refine hQ _ _ _ _ ?_; clear hQ hP Q
  repeat' (first
    | refine GW_seq ?_
    | simp only [List.length_cons, List.length_nil, Nat.reduceAdd, Nat.reduceMul, thenG_normal, thenG_ret, thenG_exit, thenG_goto, thenG_panic, blockG_normal, blockG_ret, blockG_goto, blockG_panic, jumpG_normal, jumpG_ret, jumpG_exit, jumpG_panic]
    | (refine GW_region' [] (by kernel_rfl) ?_; intro Q hQ hP; simp [hC, hY]; (first | refine hQ _ _ _ _ ?_ | refine hP _ _ (fun _ => ?_)); clear hQ hP Q)
    | (refine GW_draw' [] follows (by kernel_rfl) (by kernel_rfl) ?_; intro Q hQ hP; simp [hC, hY]; (first | refine hQ _ _ _ _ (by kernel_rfl) ?_ | refine hP _ _ (by kernel_rfl) (fun _ => ?_)); clear hQ hP Q)
    | refine GW_block ?_
    | refine GW_ret ?_
    | refine GW_skip ?_
    | refine GW_exit ?_
    | refine GW_goto ?_
    | refine GW_label ?_
    | simp only [blockG_exit]
    | (refine GW_cond (by simp; rfl) ?_ ?_ <;> (intro hb; first | (exfalso; exact absurd hb (by decide)) | skip)))
  refine GW_range (f := 94) (rs := [224]) (xs := partsXs x0 x1 x2) (caps := #[.pointer (some ⟨224, 0, none⟩)]) (by simp) ?_ (by simp [partsXs]) (by simp [Tryd.ntmps69]) smTs (smHp x0 x1 x2) 300 3 (by simp [partsXs]) ?_ ?_ ?_ ?_ ?_
  · rw [hC]
    refine IterX.cast (IterX.rn (fun k => if k = 100 then 224 else k) G1F (fun k hk => hpL_low (by simp) hk) (rs := [100]) ?_ (parts_it x0 x1 x2)) (by simp [ren0]) (by simp)
    refine ⟨fun k hk => ?_, ?_, ?_, ?_⟩
    · have h1 : ¬ k = 100 := by omega
      have h3 : ¬ k = 200 := by omega
      have h4 : ¬ k = 208 := by omega
      have h8 : ¬ k = 224 := by omega
      simp [h1, h3, h4, h8, pHp]
    · simp
    · simp [pHp, vb, Blk.rn, renF, ren0]
    · simp
  · refine weakL _ 300 hC G1F (m0 := []) hC0 (by omega) ?_ ?_ ?_
    · simp [idsV, idsA, idsF, ids0, dom]
    · simp [ids_lit, idsF, ids0, vb]
    · simp
  · simp [smHp, dom]
  · intro i hi t
    refine tsL_ids ?_ t
    simp [idsV, idsA, idsF, ids0, dom, smHp]
  · intro i x hi hx C1 l hC1 hh1 hY1
    have hCC := hC
    have hC1' : C1.G = G1 := hC1.trans hC
    replace hC := hC1'
    replace hY := hY1
    have : i = 0 ∨ i = 1 ∨ i = 2 := by omega
    rcases this with rfl | rfl | rfl
    all_goals
      simp [partsXs] at hx
      subst hx
      unfold smHp
    all_goals
      repeat' (first
        | refine GW_seq ?_
        | simp only [List.length_cons, List.length_nil, Nat.reduceAdd, Nat.reduceMul, thenG_normal, thenG_ret, thenG_exit, thenG_goto, thenG_panic, blockG_normal, blockG_ret, blockG_goto, blockG_panic, jumpG_normal, jumpG_ret, jumpG_exit, jumpG_panic]
        | (refine GW_region' [] (by kernel_rfl) ?_; intro Q hQ hP; simp [hC, hY, roundTs, smTs]; (first | refine hQ _ _ _ _ ?_ | refine hP _ _ (fun _ => ?_)); clear hQ hP Q)
        | (refine GW_draw' [] follows (by kernel_rfl) (by kernel_rfl) ?_; intro Q hQ hP; simp [hC, hY, roundTs, smTs]; (first | refine hQ _ _ _ _ (by kernel_rfl) ?_ | refine hP _ _ (by kernel_rfl) (fun _ => ?_)); clear hQ hP Q)
        | refine GW_block ?_
        | refine GW_ret ?_
        | refine GW_skip ?_
        | refine GW_exit ?_
        | refine GW_goto ?_
        | refine GW_label ?_
        | simp only [blockG_exit]
        | (refine GW_cond (by simp; rfl) ?_ ?_ <;> (intro hb; first | (exfalso; exact absurd hb (by decide)) | skip)))
    all_goals
      intro C2 hC2 hh2 hY2
      replace hC : C2.G = G1 := hC2.trans hCC
      replace hY := hY2
      repeat' (first
        | refine GW_seq ?_
        | simp only [List.length_cons, List.length_nil, Nat.reduceAdd, Nat.reduceMul, thenG_normal, thenG_ret, thenG_exit, thenG_goto, thenG_panic, blockG_normal, blockG_ret, blockG_goto, blockG_panic, jumpG_normal, jumpG_ret, jumpG_exit, jumpG_panic]
        | (refine GW_region' [1000093] (by kernel_rfl) ?_; intro Q hQ hP; simp [hC, hY, roundTs, smTs, lmB, l0, u0, q0, s0, l1, u1, q1, s1, l2, u2, q2, s2]; (repeat (first | ((refine callP_of (pmust_t _) ?_); try simp [hC, hY, roundTs, smTs, lmB, l0, u0, q0, s0, l1, u1, q1, s1, l2, u2, q2, s2]) | ((refine callP_of (pmust_f _) ?_); try simp [hC, hY, roundTs, smTs, lmB, l0, u0, q0, s0, l1, u1, q1, s1, l2, u2, q2, s2]))); (first | refine hQ _ _ _ _ ?_ | refine hP _ _ (fun _ => ?_)); clear hQ hP Q)
        | (refine GW_draw' [1000093] follows (by kernel_rfl) (by kernel_rfl) ?_; intro Q hQ hP; simp [hC, hY, roundTs, smTs, lmB, l0, u0, q0, s0, l1, u1, q1, s1, l2, u2, q2, s2]; (repeat (first | ((refine callP_of (pmust_t _) ?_); try simp [hC, hY, roundTs, smTs, lmB, l0, u0, q0, s0, l1, u1, q1, s1, l2, u2, q2, s2]) | ((refine callP_of (pmust_f _) ?_); try simp [hC, hY, roundTs, smTs, lmB, l0, u0, q0, s0, l1, u1, q1, s1, l2, u2, q2, s2]))); (first | refine hQ _ _ _ _ (by kernel_rfl) ?_ | refine hP _ _ (by kernel_rfl) (fun _ => ?_)); clear hQ hP Q)
        | refine GW_block ?_
        | refine GW_ret ?_
        | refine GW_skip ?_
        | refine GW_exit ?_
        | refine GW_goto ?_
        | refine GW_label ?_
        | simp only [blockG_exit]
        | (refine GW_cond (by simp; rfl) ?_ ?_ <;> (intro hb; first | (exfalso; exact absurd hb (by decide)) | skip)))
    all_goals
      refine weakL [] 300 hC1' G1F hh1 (by omega) ?_ ?_ ?_
      · simp
      · simp [ids_lit, idsF, ids0, vb]
      · simp [vb]
  · left
    refine ⟨rfl, ?_⟩
    unfold smHp smTs
    repeat' (first
      | refine GW_seq ?_
      | simp only [List.length_cons, List.length_nil, Nat.reduceAdd, Nat.reduceMul, thenG_normal, thenG_ret, thenG_exit, thenG_goto, thenG_panic, blockG_normal, blockG_ret, blockG_goto, blockG_panic, jumpG_normal, jumpG_ret, jumpG_exit, jumpG_panic]
      | (refine GW_region' [] (by kernel_rfl) ?_; intro Q hQ hP; simp [hC, hY]; (first | refine hQ _ _ _ _ ?_ | refine hP _ _ (fun _ => ?_)); clear hQ hP Q)
      | (refine GW_draw' [] follows (by kernel_rfl) (by kernel_rfl) ?_; intro Q hQ hP; simp [hC, hY]; (first | refine hQ _ _ _ _ (by kernel_rfl) ?_ | refine hP _ _ (by kernel_rfl) (fun _ => ?_)); clear hQ hP Q)
      | refine GW_block ?_
      | refine GW_ret ?_
      | refine GW_skip ?_
      | refine GW_exit ?_
      | refine GW_goto ?_
      | refine GW_label ?_
      | simp only [blockG_exit]
      | (refine GW_cond (by simp; rfl) ?_ ?_ <;> (intro hb; first | (exfalso; exact absurd hb (by decide)) | skip)))
    refine ⟨.inr trivial, ?_⟩
    simp [Tryd.results69]
theorem psum_bad0 (x0 x1 x2 : Int)  (hn : ¬ inB x0) : RetP Tryd.prog G1 69 #[vv x0 x1 x2] (.pan (erV 2)) := by
  refine retp_of G1F Tryd.func69 rfl Tryd.call69 (fun v h => by cases h) (by simp [vv]) (by simp [Tryd.ntmps69]) ?_
  intro C hC hC0 hY
  repeat' (first
    | refine GW_seq ?_
    | simp only [List.length_cons, List.length_nil, Nat.reduceAdd, Nat.reduceMul, thenG_normal, thenG_ret, thenG_exit, thenG_goto, thenG_panic, blockG_normal, blockG_ret, blockG_goto, blockG_panic, jumpG_normal, jumpG_ret, jumpG_exit, jumpG_panic]
    | (refine GW_region' [] (by kernel_rfl) ?_; intro Q hQ hP; simp [hC, hY, vv]; (first | refine hQ _ _ _ _ ?_ | refine hP _ _ (fun _ => ?_)); clear hQ hP Q)
    | (refine GW_draw' [] follows (by kernel_rfl) (by kernel_rfl) ?_; intro Q hQ hP; simp [hC, hY, vv]; (first | refine hQ _ _ _ _ (by kernel_rfl) ?_ | refine hP _ _ (by kernel_rfl) (fun _ => ?_)); clear hQ hP Q)
    | refine GW_block ?_
    | refine GW_ret ?_
    | refine GW_skip ?_
    | refine GW_exit ?_
    | refine GW_goto ?_
    | refine GW_label ?_
    | simp only [blockG_exit]
    | (refine GW_cond (by simp; rfl) ?_ ?_ <;> (intro hb; first | (exfalso; exact absurd hb (by decide)) | skip)))
  refine GW_region' [70] (by kernel_rfl) ?_; intro Q hQ hP; simp [hC, hY]
  refine heapK_of (parts_new x0 x1 x2 224 (by omega)) (by simp) (fun _ _ => rfl) (by simp [Res.at]) ?_
  simp
  refine hQ _ _ _ _ ?_; clear hQ hP Q
  repeat' (first
    | refine GW_seq ?_
    | simp only [List.length_cons, List.length_nil, Nat.reduceAdd, Nat.reduceMul, thenG_normal, thenG_ret, thenG_exit, thenG_goto, thenG_panic, blockG_normal, blockG_ret, blockG_goto, blockG_panic, jumpG_normal, jumpG_ret, jumpG_exit, jumpG_panic]
    | (refine GW_region' [] (by kernel_rfl) ?_; intro Q hQ hP; simp [hC, hY]; (first | refine hQ _ _ _ _ ?_ | refine hP _ _ (fun _ => ?_)); clear hQ hP Q)
    | (refine GW_draw' [] follows (by kernel_rfl) (by kernel_rfl) ?_; intro Q hQ hP; simp [hC, hY]; (first | refine hQ _ _ _ _ (by kernel_rfl) ?_ | refine hP _ _ (by kernel_rfl) (fun _ => ?_)); clear hQ hP Q)
    | refine GW_block ?_
    | refine GW_ret ?_
    | refine GW_skip ?_
    | refine GW_exit ?_
    | refine GW_goto ?_
    | refine GW_label ?_
    | simp only [blockG_exit]
    | (refine GW_cond (by simp; rfl) ?_ ?_ <;> (intro hb; first | (exfalso; exact absurd hb (by decide)) | skip)))
  refine GW_rangeP (erV 2) (f := 94) (rs := [224]) (xs := partsXs x0 x1 x2) (caps := #[.pointer (some ⟨224, 0, none⟩)]) (by simp) ?_ (by simp [partsXs]) (by simp [Tryd.ntmps69]) smTs (smHp x0 x1 x2) 300 0 (by simp [partsXs]) ?_ ?_ ?_ ?_ ?_ ?_
  · rw [hC]
    intro pv
    refine IterX.cast (IterX.rn (fun k => if k = 100 then 224 else k) G1F (fun k hk => hpL_low (by simp) hk) (rs := [100]) ?_ (parts_itP x0 x1 x2 pv)) (by simp [ren0]) (by simp)
    refine ⟨fun k hk => ?_, ?_, ?_, ?_⟩
    · have h1 : ¬ k = 100 := by omega
      have h3 : ¬ k = 200 := by omega
      have h4 : ¬ k = 208 := by omega
      have h8 : ¬ k = 224 := by omega
      simp [h1, h3, h4, h8, pHp]
    · simp
    · simp [pHp, vb, Blk.rn, renF, ren0]
    · simp
  · refine weakL _ 300 hC G1F (m0 := []) hC0 (by omega) ?_ ?_ ?_
    · simp [idsV, idsA, idsF, ids0, dom]
    · simp [ids_lit, idsF, ids0, vb]
    · simp
  · simp [smHp, dom]
  · intro i hi t
    refine tsL_ids ?_ t
    simp [idsV, idsA, idsF, ids0, dom, smHp]
  · intro i x hi hx C1 l hC1 hh1 hY1
    have hCC := hC
    have hC1' : C1.G = G1 := hC1.trans hC
    replace hC := hC1'
    replace hY := hY1
    omega
  · intro c hc
    rfl
  · refine ⟨#[.int .i64 0, .int .i64 x0], by simp [partsXs], ?_⟩
    intro C1 l hC1 hh1 hY1
    have hCC := hC
    have hC1' : C1.G = G1 := hC1.trans hC
    replace hC := hC1'
    replace hY := hY1
    unfold smHp
    repeat' (first
      | refine GW_seq ?_
      | simp only [List.length_cons, List.length_nil, Nat.reduceAdd, Nat.reduceMul, thenG_normal, thenG_ret, thenG_exit, thenG_goto, thenG_panic, blockG_normal, blockG_ret, blockG_goto, blockG_panic, jumpG_normal, jumpG_ret, jumpG_exit, jumpG_panic]
      | (refine GW_region' [] (by kernel_rfl) ?_; intro Q hQ hP; simp [hC, hY, roundTs, smTs]; (first | refine hQ _ _ _ _ ?_ | refine hP _ _ (fun _ => ?_)); clear hQ hP Q)
      | (refine GW_draw' [] follows (by kernel_rfl) (by kernel_rfl) ?_; intro Q hQ hP; simp [hC, hY, roundTs, smTs]; (first | refine hQ _ _ _ _ (by kernel_rfl) ?_ | refine hP _ _ (by kernel_rfl) (fun _ => ?_)); clear hQ hP Q)
      | refine GW_block ?_
      | refine GW_ret ?_
      | refine GW_skip ?_
      | refine GW_exit ?_
      | refine GW_goto ?_
      | refine GW_label ?_
      | simp only [blockG_exit]
      | (refine GW_cond (by simp; rfl) ?_ ?_ <;> (intro hb; first | (exfalso; exact absurd hb (by decide)) | skip)))
    intro C2 hC2 hh2 hY2
    replace hC : C2.G = G1 := hC2.trans hCC
    replace hY := hY2
    by_cases lo : -2097152 ≤ x0
    · have up : ¬ x0 ≤ 2097152 := fun h => hn ⟨lo, h⟩
      repeat' (first
        | refine GW_seq ?_
        | simp only [List.length_cons, List.length_nil, Nat.reduceAdd, Nat.reduceMul, thenG_normal, thenG_ret, thenG_exit, thenG_goto, thenG_panic, blockG_normal, blockG_ret, blockG_goto, blockG_panic, jumpG_normal, jumpG_ret, jumpG_exit, jumpG_panic]
        | (refine GW_region' [1000093] (by kernel_rfl) ?_; intro Q hQ hP; simp [hC, hY, roundTs, smTs, lmB, lo, up]; (repeat (first | ((refine callP_of (pmust_t _) ?_); try simp [hC, hY, roundTs, smTs, lmB, lo, up]) | ((refine callP_of (pmust_f _) ?_); try simp [hC, hY, roundTs, smTs, lmB, lo, up]))); (first | refine hQ _ _ _ _ ?_ | refine hP _ _ (fun _ => ?_)); clear hQ hP Q)
        | (refine GW_draw' [1000093] follows (by kernel_rfl) (by kernel_rfl) ?_; intro Q hQ hP; simp [hC, hY, roundTs, smTs, lmB, lo, up]; (repeat (first | ((refine callP_of (pmust_t _) ?_); try simp [hC, hY, roundTs, smTs, lmB, lo, up]) | ((refine callP_of (pmust_f _) ?_); try simp [hC, hY, roundTs, smTs, lmB, lo, up]))); (first | refine hQ _ _ _ _ (by kernel_rfl) ?_ | refine hP _ _ (by kernel_rfl) (fun _ => ?_)); clear hQ hP Q)
        | refine GW_block ?_
        | refine GW_ret ?_
        | refine GW_skip ?_
        | refine GW_exit ?_
        | refine GW_goto ?_
        | refine GW_label ?_
        | simp only [blockG_exit]
        | (refine GW_cond (by simp; rfl) ?_ ?_ <;> (intro hb; first | (exfalso; exact absurd hb (by decide)) | skip)))
      refine ⟨rfl, fun t => ?_, rfl⟩
      refine tsL_ids ?_ t
      simp [idsV, idsA, idsF, ids0, dom]
    · skip
      repeat' (first
        | refine GW_seq ?_
        | simp only [List.length_cons, List.length_nil, Nat.reduceAdd, Nat.reduceMul, thenG_normal, thenG_ret, thenG_exit, thenG_goto, thenG_panic, blockG_normal, blockG_ret, blockG_goto, blockG_panic, jumpG_normal, jumpG_ret, jumpG_exit, jumpG_panic]
        | (refine GW_region' [1000093] (by kernel_rfl) ?_; intro Q hQ hP; simp [hC, hY, roundTs, smTs, lmB, lo]; (repeat (first | ((refine callP_of (pmust_t _) ?_); try simp [hC, hY, roundTs, smTs, lmB, lo]) | ((refine callP_of (pmust_f _) ?_); try simp [hC, hY, roundTs, smTs, lmB, lo]))); (first | refine hQ _ _ _ _ ?_ | refine hP _ _ (fun _ => ?_)); clear hQ hP Q)
        | (refine GW_draw' [1000093] follows (by kernel_rfl) (by kernel_rfl) ?_; intro Q hQ hP; simp [hC, hY, roundTs, smTs, lmB, lo]; (repeat (first | ((refine callP_of (pmust_t _) ?_); try simp [hC, hY, roundTs, smTs, lmB, lo]) | ((refine callP_of (pmust_f _) ?_); try simp [hC, hY, roundTs, smTs, lmB, lo]))); (first | refine hQ _ _ _ _ (by kernel_rfl) ?_ | refine hP _ _ (by kernel_rfl) (fun _ => ?_)); clear hQ hP Q)
        | refine GW_block ?_
        | refine GW_ret ?_
        | refine GW_skip ?_
        | refine GW_exit ?_
        | refine GW_goto ?_
        | refine GW_label ?_
        | simp only [blockG_exit]
        | (refine GW_cond (by simp; rfl) ?_ ?_ <;> (intro hb; first | (exfalso; exact absurd hb (by decide)) | skip)))
      refine ⟨rfl, fun t => ?_, rfl⟩
      refine tsL_ids ?_ t
      simp [idsV, idsA, idsF, ids0, dom]
theorem psum_bad1 (x0 x1 x2 : Int) (h0 : inB x0) (hn : ¬ inB x1) : RetP Tryd.prog G1 69 #[vv x0 x1 x2] (.pan (erV 2)) := by
  refine retp_of G1F Tryd.func69 rfl Tryd.call69 (fun v h => by cases h) (by simp [vv]) (by simp [Tryd.ntmps69]) ?_
  have z0 := inB_sq h0
  obtain ⟨l0, u0⟩ := h0
  have q0 : Int.bmod (x0 * x0) 18446744073709551616 = x0 * x0 := bm (by omega) (by omega)
  have s0 : Int.bmod (x0 * x0) 18446744073709551616 = x0 * x0 := bm (by omega) (by omega)
  intro C hC hC0 hY
  repeat' (first
    | refine GW_seq ?_
    | simp only [List.length_cons, List.length_nil, Nat.reduceAdd, Nat.reduceMul, thenG_normal, thenG_ret, thenG_exit, thenG_goto, thenG_panic, blockG_normal, blockG_ret, blockG_goto, blockG_panic, jumpG_normal, jumpG_ret, jumpG_exit, jumpG_panic]
    | (refine GW_region' [] (by kernel_rfl) ?_; intro Q hQ hP; simp [hC, hY, vv]; (first | refine hQ _ _ _ _ ?_ | refine hP _ _ (fun _ => ?_)); clear hQ hP Q)
    | (refine GW_draw' [] follows (by kernel_rfl) (by kernel_rfl) ?_; intro Q hQ hP; simp [hC, hY, vv]; (first | refine hQ _ _ _ _ (by kernel_rfl) ?_ | refine hP _ _ (by kernel_rfl) (fun _ => ?_)); clear hQ hP Q)
    | refine GW_block ?_
    | refine GW_ret ?_
    | refine GW_skip ?_
    | refine GW_exit ?_
    | refine GW_goto ?_
    | refine GW_label ?_
    | simp only [blockG_exit]
    | (refine GW_cond (by simp; rfl) ?_ ?_ <;> (intro hb; first | (exfalso; exact absurd hb (by decide)) | skip)))
  refine GW_region' [70] (by kernel_rfl) ?_; intro Q hQ hP; simp [hC, hY]
  refine heapK_of (parts_new x0 x1 x2 224 (by omega)) (by simp) (fun _ _ => rfl) (by simp [Res.at]) ?_
  simp
  refine hQ _ _ _ _ ?_; clear hQ hP Q
  repeat' (first
    | refine GW_seq ?_
    | simp only [List.length_cons, List.length_nil, Nat.reduceAdd, Nat.reduceMul, thenG_normal, thenG_ret, thenG_exit, thenG_goto, thenG_panic, blockG_normal, blockG_ret, blockG_goto, blockG_panic, jumpG_normal, jumpG_ret, jumpG_exit, jumpG_panic]
    | (refine GW_region' [] (by kernel_rfl) ?_; intro Q hQ hP; simp [hC, hY]; (first | refine hQ _ _ _ _ ?_ | refine hP _ _ (fun _ => ?_)); clear hQ hP Q)
    | (refine GW_draw' [] follows (by kernel_rfl) (by kernel_rfl) ?_; intro Q hQ hP; simp [hC, hY]; (first | refine hQ _ _ _ _ (by kernel_rfl) ?_ | refine hP _ _ (by kernel_rfl) (fun _ => ?_)); clear hQ hP Q)
    | refine GW_block ?_
    | refine GW_ret ?_
    | refine GW_skip ?_
    | refine GW_exit ?_
    | refine GW_goto ?_
    | refine GW_label ?_
    | simp only [blockG_exit]
    | (refine GW_cond (by simp; rfl) ?_ ?_ <;> (intro hb; first | (exfalso; exact absurd hb (by decide)) | skip)))
  refine GW_rangeP (erV 2) (f := 94) (rs := [224]) (xs := partsXs x0 x1 x2) (caps := #[.pointer (some ⟨224, 0, none⟩)]) (by simp) ?_ (by simp [partsXs]) (by simp [Tryd.ntmps69]) smTs (smHp x0 x1 x2) 300 1 (by simp [partsXs]) ?_ ?_ ?_ ?_ ?_ ?_
  · rw [hC]
    intro pv
    refine IterX.cast (IterX.rn (fun k => if k = 100 then 224 else k) G1F (fun k hk => hpL_low (by simp) hk) (rs := [100]) ?_ (parts_itP x0 x1 x2 pv)) (by simp [ren0]) (by simp)
    refine ⟨fun k hk => ?_, ?_, ?_, ?_⟩
    · have h1 : ¬ k = 100 := by omega
      have h3 : ¬ k = 200 := by omega
      have h4 : ¬ k = 208 := by omega
      have h8 : ¬ k = 224 := by omega
      simp [h1, h3, h4, h8, pHp]
    · simp
    · simp [pHp, vb, Blk.rn, renF, ren0]
    · simp
  · refine weakL _ 300 hC G1F (m0 := []) hC0 (by omega) ?_ ?_ ?_
    · simp [idsV, idsA, idsF, ids0, dom]
    · simp [ids_lit, idsF, ids0, vb]
    · simp
  · simp [smHp, dom]
  · intro i hi t
    refine tsL_ids ?_ t
    simp [idsV, idsA, idsF, ids0, dom, smHp]
  · intro i x hi hx C1 l hC1 hh1 hY1
    have hCC := hC
    have hC1' : C1.G = G1 := hC1.trans hC
    replace hC := hC1'
    replace hY := hY1
    have : i = 0 := by omega
    subst this
    all_goals
      simp [partsXs] at hx
      subst hx
      unfold smHp
    all_goals
      repeat' (first
        | refine GW_seq ?_
        | simp only [List.length_cons, List.length_nil, Nat.reduceAdd, Nat.reduceMul, thenG_normal, thenG_ret, thenG_exit, thenG_goto, thenG_panic, blockG_normal, blockG_ret, blockG_goto, blockG_panic, jumpG_normal, jumpG_ret, jumpG_exit, jumpG_panic]
        | (refine GW_region' [] (by kernel_rfl) ?_; intro Q hQ hP; simp [hC, hY, roundTs, smTs]; (first | refine hQ _ _ _ _ ?_ | refine hP _ _ (fun _ => ?_)); clear hQ hP Q)
        | (refine GW_draw' [] follows (by kernel_rfl) (by kernel_rfl) ?_; intro Q hQ hP; simp [hC, hY, roundTs, smTs]; (first | refine hQ _ _ _ _ (by kernel_rfl) ?_ | refine hP _ _ (by kernel_rfl) (fun _ => ?_)); clear hQ hP Q)
        | refine GW_block ?_
        | refine GW_ret ?_
        | refine GW_skip ?_
        | refine GW_exit ?_
        | refine GW_goto ?_
        | refine GW_label ?_
        | simp only [blockG_exit]
        | (refine GW_cond (by simp; rfl) ?_ ?_ <;> (intro hb; first | (exfalso; exact absurd hb (by decide)) | skip)))
    all_goals
      intro C2 hC2 hh2 hY2
      replace hC : C2.G = G1 := hC2.trans hCC
      replace hY := hY2
      repeat' (first
        | refine GW_seq ?_
        | simp only [List.length_cons, List.length_nil, Nat.reduceAdd, Nat.reduceMul, thenG_normal, thenG_ret, thenG_exit, thenG_goto, thenG_panic, blockG_normal, blockG_ret, blockG_goto, blockG_panic, jumpG_normal, jumpG_ret, jumpG_exit, jumpG_panic]
        | (refine GW_region' [1000093] (by kernel_rfl) ?_; intro Q hQ hP; simp [hC, hY, roundTs, smTs, lmB, l0, u0, q0, s0]; (repeat (first | ((refine callP_of (pmust_t _) ?_); try simp [hC, hY, roundTs, smTs, lmB, l0, u0, q0, s0]) | ((refine callP_of (pmust_f _) ?_); try simp [hC, hY, roundTs, smTs, lmB, l0, u0, q0, s0]))); (first | refine hQ _ _ _ _ ?_ | refine hP _ _ (fun _ => ?_)); clear hQ hP Q)
        | (refine GW_draw' [1000093] follows (by kernel_rfl) (by kernel_rfl) ?_; intro Q hQ hP; simp [hC, hY, roundTs, smTs, lmB, l0, u0, q0, s0]; (repeat (first | ((refine callP_of (pmust_t _) ?_); try simp [hC, hY, roundTs, smTs, lmB, l0, u0, q0, s0]) | ((refine callP_of (pmust_f _) ?_); try simp [hC, hY, roundTs, smTs, lmB, l0, u0, q0, s0]))); (first | refine hQ _ _ _ _ (by kernel_rfl) ?_ | refine hP _ _ (by kernel_rfl) (fun _ => ?_)); clear hQ hP Q)
        | refine GW_block ?_
        | refine GW_ret ?_
        | refine GW_skip ?_
        | refine GW_exit ?_
        | refine GW_goto ?_
        | refine GW_label ?_
        | simp only [blockG_exit]
        | (refine GW_cond (by simp; rfl) ?_ ?_ <;> (intro hb; first | (exfalso; exact absurd hb (by decide)) | skip)))
    all_goals
      refine weakL [] 300 hC1' G1F hh1 (by omega) ?_ ?_ ?_
      · simp
      · simp [ids_lit, idsF, ids0, vb]
      · simp [vb]
  · intro c hc
    rfl
  · refine ⟨#[.int .i64 1, .int .i64 x1], by simp [partsXs], ?_⟩
    intro C1 l hC1 hh1 hY1
    have hCC := hC
    have hC1' : C1.G = G1 := hC1.trans hC
    replace hC := hC1'
    replace hY := hY1
    unfold smHp
    repeat' (first
      | refine GW_seq ?_
      | simp only [List.length_cons, List.length_nil, Nat.reduceAdd, Nat.reduceMul, thenG_normal, thenG_ret, thenG_exit, thenG_goto, thenG_panic, blockG_normal, blockG_ret, blockG_goto, blockG_panic, jumpG_normal, jumpG_ret, jumpG_exit, jumpG_panic]
      | (refine GW_region' [] (by kernel_rfl) ?_; intro Q hQ hP; simp [hC, hY, roundTs, smTs]; (first | refine hQ _ _ _ _ ?_ | refine hP _ _ (fun _ => ?_)); clear hQ hP Q)
      | (refine GW_draw' [] follows (by kernel_rfl) (by kernel_rfl) ?_; intro Q hQ hP; simp [hC, hY, roundTs, smTs]; (first | refine hQ _ _ _ _ (by kernel_rfl) ?_ | refine hP _ _ (by kernel_rfl) (fun _ => ?_)); clear hQ hP Q)
      | refine GW_block ?_
      | refine GW_ret ?_
      | refine GW_skip ?_
      | refine GW_exit ?_
      | refine GW_goto ?_
      | refine GW_label ?_
      | simp only [blockG_exit]
      | (refine GW_cond (by simp; rfl) ?_ ?_ <;> (intro hb; first | (exfalso; exact absurd hb (by decide)) | skip)))
    intro C2 hC2 hh2 hY2
    replace hC : C2.G = G1 := hC2.trans hCC
    replace hY := hY2
    by_cases lo : -2097152 ≤ x1
    · have up : ¬ x1 ≤ 2097152 := fun h => hn ⟨lo, h⟩
      repeat' (first
        | refine GW_seq ?_
        | simp only [List.length_cons, List.length_nil, Nat.reduceAdd, Nat.reduceMul, thenG_normal, thenG_ret, thenG_exit, thenG_goto, thenG_panic, blockG_normal, blockG_ret, blockG_goto, blockG_panic, jumpG_normal, jumpG_ret, jumpG_exit, jumpG_panic]
        | (refine GW_region' [1000093] (by kernel_rfl) ?_; intro Q hQ hP; simp [hC, hY, roundTs, smTs, lmB, lo, up]; (repeat (first | ((refine callP_of (pmust_t _) ?_); try simp [hC, hY, roundTs, smTs, lmB, lo, up]) | ((refine callP_of (pmust_f _) ?_); try simp [hC, hY, roundTs, smTs, lmB, lo, up]))); (first | refine hQ _ _ _ _ ?_ | refine hP _ _ (fun _ => ?_)); clear hQ hP Q)
        | (refine GW_draw' [1000093] follows (by kernel_rfl) (by kernel_rfl) ?_; intro Q hQ hP; simp [hC, hY, roundTs, smTs, lmB, lo, up]; (repeat (first | ((refine callP_of (pmust_t _) ?_); try simp [hC, hY, roundTs, smTs, lmB, lo, up]) | ((refine callP_of (pmust_f _) ?_); try simp [hC, hY, roundTs, smTs, lmB, lo, up]))); (first | refine hQ _ _ _ _ (by kernel_rfl) ?_ | refine hP _ _ (by kernel_rfl) (fun _ => ?_)); clear hQ hP Q)
        | refine GW_block ?_
        | refine GW_ret ?_
        | refine GW_skip ?_
        | refine GW_exit ?_
        | refine GW_goto ?_
        | refine GW_label ?_
        | simp only [blockG_exit]
        | (refine GW_cond (by simp; rfl) ?_ ?_ <;> (intro hb; first | (exfalso; exact absurd hb (by decide)) | skip)))
      refine ⟨rfl, fun t => ?_, rfl⟩
      refine tsL_ids ?_ t
      simp [idsV, idsA, idsF, ids0, dom]
    · skip
      repeat' (first
        | refine GW_seq ?_
        | simp only [List.length_cons, List.length_nil, Nat.reduceAdd, Nat.reduceMul, thenG_normal, thenG_ret, thenG_exit, thenG_goto, thenG_panic, blockG_normal, blockG_ret, blockG_goto, blockG_panic, jumpG_normal, jumpG_ret, jumpG_exit, jumpG_panic]
        | (refine GW_region' [1000093] (by kernel_rfl) ?_; intro Q hQ hP; simp [hC, hY, roundTs, smTs, lmB, lo]; (repeat (first | ((refine callP_of (pmust_t _) ?_); try simp [hC, hY, roundTs, smTs, lmB, lo]) | ((refine callP_of (pmust_f _) ?_); try simp [hC, hY, roundTs, smTs, lmB, lo]))); (first | refine hQ _ _ _ _ ?_ | refine hP _ _ (fun _ => ?_)); clear hQ hP Q)
        | (refine GW_draw' [1000093] follows (by kernel_rfl) (by kernel_rfl) ?_; intro Q hQ hP; simp [hC, hY, roundTs, smTs, lmB, lo]; (repeat (first | ((refine callP_of (pmust_t _) ?_); try simp [hC, hY, roundTs, smTs, lmB, lo]) | ((refine callP_of (pmust_f _) ?_); try simp [hC, hY, roundTs, smTs, lmB, lo]))); (first | refine hQ _ _ _ _ (by kernel_rfl) ?_ | refine hP _ _ (by kernel_rfl) (fun _ => ?_)); clear hQ hP Q)
        | refine GW_block ?_
        | refine GW_ret ?_
        | refine GW_skip ?_
        | refine GW_exit ?_
        | refine GW_goto ?_
        | refine GW_label ?_
        | simp only [blockG_exit]
        | (refine GW_cond (by simp; rfl) ?_ ?_ <;> (intro hb; first | (exfalso; exact absurd hb (by decide)) | skip)))
      refine ⟨rfl, fun t => ?_, rfl⟩
      refine tsL_ids ?_ t
      simp [idsV, idsA, idsF, ids0, dom]
theorem psum_bad2 (x0 x1 x2 : Int) (h0 : inB x0) (h1 : inB x1) (hn : ¬ inB x2) : RetP Tryd.prog G1 69 #[vv x0 x1 x2] (.pan (erV 2)) := by
  refine retp_of G1F Tryd.func69 rfl Tryd.call69 (fun v h => by cases h) (by simp [vv]) (by simp [Tryd.ntmps69]) ?_
  have z0 := inB_sq h0
  obtain ⟨l0, u0⟩ := h0
  have q0 : Int.bmod (x0 * x0) 18446744073709551616 = x0 * x0 := bm (by omega) (by omega)
  have s0 : Int.bmod (x0 * x0) 18446744073709551616 = x0 * x0 := bm (by omega) (by omega)
  have z1 := inB_sq h1
  obtain ⟨l1, u1⟩ := h1
  have q1 : Int.bmod (x1 * x1) 18446744073709551616 = x1 * x1 := bm (by omega) (by omega)
  have s1 : Int.bmod (x0 * x0 + x1 * x1) 18446744073709551616 = x0 * x0 + x1 * x1 := bm (by omega) (by omega)
  intro C hC hC0 hY
  repeat' (first
    | refine GW_seq ?_
    | simp only [List.length_cons, List.length_nil, Nat.reduceAdd, Nat.reduceMul, thenG_normal, thenG_ret, thenG_exit, thenG_goto, thenG_panic, blockG_normal, blockG_ret, blockG_goto, blockG_panic, jumpG_normal, jumpG_ret, jumpG_exit, jumpG_panic]
    | (refine GW_region' [] (by kernel_rfl) ?_; intro Q hQ hP; simp [hC, hY, vv]; (first | refine hQ _ _ _ _ ?_ | refine hP _ _ (fun _ => ?_)); clear hQ hP Q)
    | (refine GW_draw' [] follows (by kernel_rfl) (by kernel_rfl) ?_; intro Q hQ hP; simp [hC, hY, vv]; (first | refine hQ _ _ _ _ (by kernel_rfl) ?_ | refine hP _ _ (by kernel_rfl) (fun _ => ?_)); clear hQ hP Q)
    | refine GW_block ?_
    | refine GW_ret ?_
    | refine GW_skip ?_
    | refine GW_exit ?_
    | refine GW_goto ?_
    | refine GW_label ?_
    | simp only [blockG_exit]
    | (refine GW_cond (by simp; rfl) ?_ ?_ <;> (intro hb; first | (exfalso; exact absurd hb (by decide)) | skip)))
  refine GW_region' [70] (by kernel_rfl) ?_; intro Q hQ hP; simp [hC, hY]
  refine heapK_of (parts_new x0 x1 x2 224 (by omega)) (by simp) (fun _ _ => rfl) (by simp [Res.at]) ?_
  simp
  refine hQ _ _ _ _ ?_; clear hQ hP Q
  repeat' (first
    | refine GW_seq ?_
    | simp only [List.length_cons, List.length_nil, Nat.reduceAdd, Nat.reduceMul, thenG_normal, thenG_ret, thenG_exit, thenG_goto, thenG_panic, blockG_normal, blockG_ret, blockG_goto, blockG_panic, jumpG_normal, jumpG_ret, jumpG_exit, jumpG_panic]
    | (refine GW_region' [] (by kernel_rfl) ?_; intro Q hQ hP; simp [hC, hY]; (first | refine hQ _ _ _ _ ?_ | refine hP _ _ (fun _ => ?_)); clear hQ hP Q)
    | (refine GW_draw' [] follows (by kernel_rfl) (by kernel_rfl) ?_; intro Q hQ hP; simp [hC, hY]; (first | refine hQ _ _ _ _ (by kernel_rfl) ?_ | refine hP _ _ (by kernel_rfl) (fun _ => ?_)); clear hQ hP Q)
    | refine GW_block ?_
    | refine GW_ret ?_
    | refine GW_skip ?_
    | refine GW_exit ?_
    | refine GW_goto ?_
    | refine GW_label ?_
    | simp only [blockG_exit]
    | (refine GW_cond (by simp; rfl) ?_ ?_ <;> (intro hb; first | (exfalso; exact absurd hb (by decide)) | skip)))
  refine GW_rangeP (erV 2) (f := 94) (rs := [224]) (xs := partsXs x0 x1 x2) (caps := #[.pointer (some ⟨224, 0, none⟩)]) (by simp) ?_ (by simp [partsXs]) (by simp [Tryd.ntmps69]) smTs (smHp x0 x1 x2) 300 2 (by simp [partsXs]) ?_ ?_ ?_ ?_ ?_ ?_
  · rw [hC]
    intro pv
    refine IterX.cast (IterX.rn (fun k => if k = 100 then 224 else k) G1F (fun k hk => hpL_low (by simp) hk) (rs := [100]) ?_ (parts_itP x0 x1 x2 pv)) (by simp [ren0]) (by simp)
    refine ⟨fun k hk => ?_, ?_, ?_, ?_⟩
    · have h1 : ¬ k = 100 := by omega
      have h3 : ¬ k = 200 := by omega
      have h4 : ¬ k = 208 := by omega
      have h8 : ¬ k = 224 := by omega
      simp [h1, h3, h4, h8, pHp]
    · simp
    · simp [pHp, vb, Blk.rn, renF, ren0]
    · simp
  · refine weakL _ 300 hC G1F (m0 := []) hC0 (by omega) ?_ ?_ ?_
    · simp [idsV, idsA, idsF, ids0, dom]
    · simp [ids_lit, idsF, ids0, vb]
    · simp
  · simp [smHp, dom]
  · intro i hi t
    refine tsL_ids ?_ t
    simp [idsV, idsA, idsF, ids0, dom, smHp]
  · intro i x hi hx C1 l hC1 hh1 hY1
    have hCC := hC
    have hC1' : C1.G = G1 := hC1.trans hC
    replace hC := hC1'
    replace hY := hY1
    have : i = 0 ∨ i = 1 := by omega
    rcases this with rfl | rfl
    all_goals
      simp [partsXs] at hx
      subst hx
      unfold smHp
    all_goals
      repeat' (first
        | refine GW_seq ?_
        | simp only [List.length_cons, List.length_nil, Nat.reduceAdd, Nat.reduceMul, thenG_normal, thenG_ret, thenG_exit, thenG_goto, thenG_panic, blockG_normal, blockG_ret, blockG_goto, blockG_panic, jumpG_normal, jumpG_ret, jumpG_exit, jumpG_panic]
        | (refine GW_region' [] (by kernel_rfl) ?_; intro Q hQ hP; simp [hC, hY, roundTs, smTs]; (first | refine hQ _ _ _ _ ?_ | refine hP _ _ (fun _ => ?_)); clear hQ hP Q)
        | (refine GW_draw' [] follows (by kernel_rfl) (by kernel_rfl) ?_; intro Q hQ hP; simp [hC, hY, roundTs, smTs]; (first | refine hQ _ _ _ _ (by kernel_rfl) ?_ | refine hP _ _ (by kernel_rfl) (fun _ => ?_)); clear hQ hP Q)
        | refine GW_block ?_
        | refine GW_ret ?_
        | refine GW_skip ?_
        | refine GW_exit ?_
        | refine GW_goto ?_
        | refine GW_label ?_
        | simp only [blockG_exit]
        | (refine GW_cond (by simp; rfl) ?_ ?_ <;> (intro hb; first | (exfalso; exact absurd hb (by decide)) | skip)))
    all_goals
      intro C2 hC2 hh2 hY2
      replace hC : C2.G = G1 := hC2.trans hCC
      replace hY := hY2
      repeat' (first
        | refine GW_seq ?_
        | simp only [List.length_cons, List.length_nil, Nat.reduceAdd, Nat.reduceMul, thenG_normal, thenG_ret, thenG_exit, thenG_goto, thenG_panic, blockG_normal, blockG_ret, blockG_goto, blockG_panic, jumpG_normal, jumpG_ret, jumpG_exit, jumpG_panic]
        | (refine GW_region' [1000093] (by kernel_rfl) ?_; intro Q hQ hP; simp [hC, hY, roundTs, smTs, lmB, l0, u0, q0, s0, l1, u1, q1, s1]; (repeat (first | ((refine callP_of (pmust_t _) ?_); try simp [hC, hY, roundTs, smTs, lmB, l0, u0, q0, s0, l1, u1, q1, s1]) | ((refine callP_of (pmust_f _) ?_); try simp [hC, hY, roundTs, smTs, lmB, l0, u0, q0, s0, l1, u1, q1, s1]))); (first | refine hQ _ _ _ _ ?_ | refine hP _ _ (fun _ => ?_)); clear hQ hP Q)
        | (refine GW_draw' [1000093] follows (by kernel_rfl) (by kernel_rfl) ?_; intro Q hQ hP; simp [hC, hY, roundTs, smTs, lmB, l0, u0, q0, s0, l1, u1, q1, s1]; (repeat (first | ((refine callP_of (pmust_t _) ?_); try simp [hC, hY, roundTs, smTs, lmB, l0, u0, q0, s0, l1, u1, q1, s1]) | ((refine callP_of (pmust_f _) ?_); try simp [hC, hY, roundTs, smTs, lmB, l0, u0, q0, s0, l1, u1, q1, s1]))); (first | refine hQ _ _ _ _ (by kernel_rfl) ?_ | refine hP _ _ (by kernel_rfl) (fun _ => ?_)); clear hQ hP Q)
        | refine GW_block ?_
        | refine GW_ret ?_
        | refine GW_skip ?_
        | refine GW_exit ?_
        | refine GW_goto ?_
        | refine GW_label ?_
        | simp only [blockG_exit]
        | (refine GW_cond (by simp; rfl) ?_ ?_ <;> (intro hb; first | (exfalso; exact absurd hb (by decide)) | skip)))
    all_goals
      refine weakL [] 300 hC1' G1F hh1 (by omega) ?_ ?_ ?_
      · simp
      · simp [ids_lit, idsF, ids0, vb]
      · simp [vb]
  · intro c hc
    rfl
  · refine ⟨#[.int .i64 2, .int .i64 x2], by simp [partsXs], ?_⟩
    intro C1 l hC1 hh1 hY1
    have hCC := hC
    have hC1' : C1.G = G1 := hC1.trans hC
    replace hC := hC1'
    replace hY := hY1
    unfold smHp
    repeat' (first
      | refine GW_seq ?_
      | simp only [List.length_cons, List.length_nil, Nat.reduceAdd, Nat.reduceMul, thenG_normal, thenG_ret, thenG_exit, thenG_goto, thenG_panic, blockG_normal, blockG_ret, blockG_goto, blockG_panic, jumpG_normal, jumpG_ret, jumpG_exit, jumpG_panic]
      | (refine GW_region' [] (by kernel_rfl) ?_; intro Q hQ hP; simp [hC, hY, roundTs, smTs]; (first | refine hQ _ _ _ _ ?_ | refine hP _ _ (fun _ => ?_)); clear hQ hP Q)
      | (refine GW_draw' [] follows (by kernel_rfl) (by kernel_rfl) ?_; intro Q hQ hP; simp [hC, hY, roundTs, smTs]; (first | refine hQ _ _ _ _ (by kernel_rfl) ?_ | refine hP _ _ (by kernel_rfl) (fun _ => ?_)); clear hQ hP Q)
      | refine GW_block ?_
      | refine GW_ret ?_
      | refine GW_skip ?_
      | refine GW_exit ?_
      | refine GW_goto ?_
      | refine GW_label ?_
      | simp only [blockG_exit]
      | (refine GW_cond (by simp; rfl) ?_ ?_ <;> (intro hb; first | (exfalso; exact absurd hb (by decide)) | skip)))
    intro C2 hC2 hh2 hY2
    replace hC : C2.G = G1 := hC2.trans hCC
    replace hY := hY2
    by_cases lo : -2097152 ≤ x2
    · have up : ¬ x2 ≤ 2097152 := fun h => hn ⟨lo, h⟩
      repeat' (first
        | refine GW_seq ?_
        | simp only [List.length_cons, List.length_nil, Nat.reduceAdd, Nat.reduceMul, thenG_normal, thenG_ret, thenG_exit, thenG_goto, thenG_panic, blockG_normal, blockG_ret, blockG_goto, blockG_panic, jumpG_normal, jumpG_ret, jumpG_exit, jumpG_panic]
        | (refine GW_region' [1000093] (by kernel_rfl) ?_; intro Q hQ hP; simp [hC, hY, roundTs, smTs, lmB, lo, up]; (repeat (first | ((refine callP_of (pmust_t _) ?_); try simp [hC, hY, roundTs, smTs, lmB, lo, up]) | ((refine callP_of (pmust_f _) ?_); try simp [hC, hY, roundTs, smTs, lmB, lo, up]))); (first | refine hQ _ _ _ _ ?_ | refine hP _ _ (fun _ => ?_)); clear hQ hP Q)
        | (refine GW_draw' [1000093] follows (by kernel_rfl) (by kernel_rfl) ?_; intro Q hQ hP; simp [hC, hY, roundTs, smTs, lmB, lo, up]; (repeat (first | ((refine callP_of (pmust_t _) ?_); try simp [hC, hY, roundTs, smTs, lmB, lo, up]) | ((refine callP_of (pmust_f _) ?_); try simp [hC, hY, roundTs, smTs, lmB, lo, up]))); (first | refine hQ _ _ _ _ (by kernel_rfl) ?_ | refine hP _ _ (by kernel_rfl) (fun _ => ?_)); clear hQ hP Q)
        | refine GW_block ?_
        | refine GW_ret ?_
        | refine GW_skip ?_
        | refine GW_exit ?_
        | refine GW_goto ?_
        | refine GW_label ?_
        | simp only [blockG_exit]
        | (refine GW_cond (by simp; rfl) ?_ ?_ <;> (intro hb; first | (exfalso; exact absurd hb (by decide)) | skip)))
      refine ⟨rfl, fun t => ?_, rfl⟩
      refine tsL_ids ?_ t
      simp [idsV, idsA, idsF, ids0, dom]
    · skip
      repeat' (first
        | refine GW_seq ?_
        | simp only [List.length_cons, List.length_nil, Nat.reduceAdd, Nat.reduceMul, thenG_normal, thenG_ret, thenG_exit, thenG_goto, thenG_panic, blockG_normal, blockG_ret, blockG_goto, blockG_panic, jumpG_normal, jumpG_ret, jumpG_exit, jumpG_panic]
        | (refine GW_region' [1000093] (by kernel_rfl) ?_; intro Q hQ hP; simp [hC, hY, roundTs, smTs, lmB, lo]; (repeat (first | ((refine callP_of (pmust_t _) ?_); try simp [hC, hY, roundTs, smTs, lmB, lo]) | ((refine callP_of (pmust_f _) ?_); try simp [hC, hY, roundTs, smTs, lmB, lo]))); (first | refine hQ _ _ _ _ ?_ | refine hP _ _ (fun _ => ?_)); clear hQ hP Q)
        | (refine GW_draw' [1000093] follows (by kernel_rfl) (by kernel_rfl) ?_; intro Q hQ hP; simp [hC, hY, roundTs, smTs, lmB, lo]; (repeat (first | ((refine callP_of (pmust_t _) ?_); try simp [hC, hY, roundTs, smTs, lmB, lo]) | ((refine callP_of (pmust_f _) ?_); try simp [hC, hY, roundTs, smTs, lmB, lo]))); (first | refine hQ _ _ _ _ (by kernel_rfl) ?_ | refine hP _ _ (by kernel_rfl) (fun _ => ?_)); clear hQ hP Q)
        | refine GW_block ?_
        | refine GW_ret ?_
        | refine GW_skip ?_
        | refine GW_exit ?_
        | refine GW_goto ?_
        | refine GW_label ?_
        | simp only [blockG_exit]
        | (refine GW_cond (by simp; rfl) ?_ ?_ <;> (intro hb; first | (exfalso; exact absurd hb (by decide)) | skip)))
      refine ⟨rfl, fun t => ?_, rfl⟩
      refine tsL_ids ?_ t
      simp [idsV, idsA, idsF, ids0, dom]
end Go.Gy
