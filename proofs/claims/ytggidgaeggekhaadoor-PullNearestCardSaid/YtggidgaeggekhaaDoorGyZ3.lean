/-
  Contracts: root.exact, next, Floor, Ceil, Is, of, Of, Half, Int.
  Conditions: none.
-/
import Derived.Test.YtggidgaeggekhaaDoorGyZ2
namespace Go.Gy
set_option linter.unusedSimpArgs false
set_option linter.unusedVariables false
open Go Go.RowKit Go.Proofs
theorem exact_ret (r a : Int) : Ret Tryd.prog G0 47 #[wd r, wd a] (.bool (decide (sz (sz r * sz r) = sz a))) := by
  refine ret_of G0F Tryd.func47 rfl Tryd.call47 rfl (by simp) (by simp [Tryd.ntmps47]) ?_
  intro C hC hC0 hY
  repeat' (first
    | refine GW_seq ?_
    | simp only [List.length_cons, List.length_nil, Nat.reduceAdd, Nat.reduceMul, thenG_normal, thenG_ret, thenG_exit, thenG_goto, thenG_panic, blockG_normal, blockG_ret, blockG_goto, blockG_panic, jumpG_normal, jumpG_ret, jumpG_exit, jumpG_panic]
    | (refine GW_region' [] (by kernel_rfl) ?_; intro Q hQ hP; simp [hC, hY]; (first | refine hQ _ _ _ _ ?_ | refine hP _ _ (fun _ => ?_)); clear hQ hP Q)
    | (refine GW_draw' [] follows (by kernel_rfl) (by kernel_rfl) ?_; intro Q hQ hP; simp [hC, hY]; (first | refine hQ _ _ _ _ (by kernel_rfl) ?_ | refine hP _ _ (by kernel_rfl) (fun _ => ?_)); clear hQ hP Q)
    | refine GW_block ?_
    | refine GW_ret ?_
    | refine GW_skip ?_
    | refine GW_exit ?_
    | refine GW_goto ?_
    | refine GW_label ?_
    | simp only [blockG_exit]
    | (refine GW_cond (by simp; rfl) ?_ ?_ <;> (intro hb; first | (exfalso; exact absurd hb (by decide)) | skip)))
  refine ⟨.inr trivial, ?_⟩
  simp [Tryd.results47]
  rw [weq]
@[simp] theorem rexact (r a : Int) (K : Value → Prop) : callK Tryd.prog G0 47 #[Value.agg #[.int .u64 (wi (r) 0), .int .u64 (wi (r) 1), .int .u64 (wi (r) 2), .int .u64 (wi (r) 3)], Value.agg #[.int .u64 (wi (a) 0), .int .u64 (wi (a) 1), .int .u64 (wi (a) 2), .int .u64 (wi (a) 3)]] K ↔ K (.bool (decide (sz (sz r * sz r) = sz a))) := callK_iff G0W (by kernel_rfl) (exact_ret r a)
theorem next_ret (a : Int) : Ret Tryd.prog G0 48 #[wd a] (wd (a + 1)) := by
  refine ret_of G0F Tryd.func48 rfl Tryd.call48 (by simp) (by simp) (by simp [Tryd.ntmps48]) ?_
  intro C hC hC0 hY
  have i1 := i64_1
  repeat' (first
    | refine GW_seq ?_
    | simp only [List.length_cons, List.length_nil, Nat.reduceAdd, Nat.reduceMul, thenG_normal, thenG_ret, thenG_exit, thenG_goto, thenG_panic, blockG_normal, blockG_ret, blockG_goto, blockG_panic, jumpG_normal, jumpG_ret, jumpG_exit, jumpG_panic]
    | (refine GW_region' [] (by kernel_rfl) ?_; intro Q hQ hP; simp [hC, hY, i1]; (first | refine hQ _ _ _ _ ?_ | refine hP _ _ (fun _ => ?_)); clear hQ hP Q)
    | (refine GW_draw' [] follows (by kernel_rfl) (by kernel_rfl) ?_; intro Q hQ hP; simp [hC, hY, i1]; (first | refine hQ _ _ _ _ (by kernel_rfl) ?_ | refine hP _ _ (by kernel_rfl) (fun _ => ?_)); clear hQ hP Q)
    | refine GW_block ?_
    | refine GW_ret ?_
    | refine GW_skip ?_
    | refine GW_exit ?_
    | refine GW_goto ?_
    | refine GW_label ?_
    | simp only [blockG_exit]
    | (refine GW_cond (by simp; rfl) ?_ ?_ <;> (intro hb; first | (exfalso; exact absurd hb (by decide)) | skip)))
  refine ⟨.inr trivial, ?_⟩
  simp [Tryd.results48]
@[simp] theorem rnext (a : Int) (K : Value → Prop) : callK Tryd.prog G0 48 #[Value.agg #[.int .u64 (wi (a) 0), .int .u64 (wi (a) 1), .int .u64 (wi (a) 2), .int .u64 (wi (a) 3)]] K ↔ K (wd (a + 1)) := callK_iff G0W (by kernel_rfl) (next_ret a)
def hp1 (a : Int) : Hp := hpL G0 [(200, wb a)]
theorem hp1_rst (a : Int) : rst (hp1 a) [200] = hp1 a := hpL_rst G0F (by simp)
theorem hp1_closed (a : Int) (D : Nat → Prop) (k : Nat) (c : Blk) (h : hp1 a k = some c) : c.ids D := by
  rcases hpL_mem h with h | h
  · simp at h
    rcases h with ⟨_, rfl⟩
    simp [wb]
  · exact G0_closed _ _ _ h
theorem hp1_free (a : Int) (x : Nat) (hx : 300 ≤ x) : hp1 a x = none := by
  simp [hp1, show ¬ x = 200 by omega, show 100 ≤ x by omega]
theorem rFloor1_p (a : Int) (ha : wr a) (h0 : 0 ≤ a) : Fun Tryd.prog G0 43 [.pointer (some ⟨200, 0, none⟩)].toArray (hp1 a) [200] (.ret (wd (isq a)) []) := by
  refine fun_of (B := 300) G0F (fun k hk => hpL_low (by simp) hk) Tryd.func43 rfl Tryd.call43 ?_ ?_ ⟨flatV_ids (by simp), by simp [keys], by simp, by simp⟩ (by simp [Tryd.ntmps43]) (by omega) ?_ ?_
  · rw [hp1_rst]; simp [hp1, dom]
  · rw [hp1_rst]; exact hp1_closed a _
  · rw [hp1_rst]; exact hp1_free a
  · intro C hC hC0 hY
    rw [hp1_rst] at hC0 ⊢
    repeat' (first
      | refine GW_seq ?_
      | simp only [List.length_cons, List.length_nil, Nat.reduceAdd, Nat.reduceMul, thenG_normal, thenG_ret, thenG_exit, thenG_goto, thenG_panic, blockG_normal, blockG_ret, blockG_goto, blockG_panic, jumpG_normal, jumpG_ret, jumpG_exit, jumpG_panic]
      | (refine GW_region' [] (by kernel_rfl) ?_; intro Q hQ hP; simp [hC, hY, hp1, wb, ha, h0]; (first | refine hQ _ _ _ _ ?_ | refine hP _ _ (fun _ => ?_)); clear hQ hP Q)
      | (refine GW_draw' [] follows (by kernel_rfl) (by kernel_rfl) ?_; intro Q hQ hP; simp [hC, hY, hp1, wb, ha, h0]; (first | refine hQ _ _ _ _ (by kernel_rfl) ?_ | refine hP _ _ (by kernel_rfl) (fun _ => ?_)); clear hQ hP Q)
      | refine GW_block ?_
      | refine GW_ret ?_
      | refine GW_skip ?_
      | refine GW_exit ?_
      | refine GW_goto ?_
      | refine GW_label ?_
      | simp only [blockG_exit]
      | (refine GW_cond (by simp; rfl) ?_ ?_ <;> (intro hb; first | (exfalso; exact absurd hb (by decide)) | skip)))
    refine ⟨.inr rfl, by simp [Tryd.results43], fun k hk => ?_⟩
    have hk3 : k < 300 := Classical.byContradiction fun h => hk (hp1_free a k (by omega))
    simp (disch := omega) only [upd_far]
    rfl
theorem rFloor1_n (a : Int) (ha : wr a) (h0 : a < 0) : Fun Tryd.prog G0 43 [.pointer (some ⟨200, 0, none⟩)].toArray (hp1 a) [200] (.pan (erV 2)) := by
  refine fun_of (B := 300) G0F (fun k hk => hpL_low (by simp) hk) Tryd.func43 rfl Tryd.call43 ?_ ?_ trivial (by simp [Tryd.ntmps43]) (by omega) ?_ ?_
  · rw [hp1_rst]; simp [hp1, dom]
  · rw [hp1_rst]; exact hp1_closed a _
  · rw [hp1_rst]; exact hp1_free a
  · intro C hC hC0 hY
    rw [hp1_rst] at hC0 ⊢
    repeat' (first
      | refine GW_seq ?_
      | simp only [List.length_cons, List.length_nil, Nat.reduceAdd, Nat.reduceMul, thenG_normal, thenG_ret, thenG_exit, thenG_goto, thenG_panic, blockG_normal, blockG_ret, blockG_goto, blockG_panic, jumpG_normal, jumpG_ret, jumpG_exit, jumpG_panic]
      | (refine GW_region' [1000044] (by kernel_rfl) ?_; intro Q hQ hP; simp [hC, hY, hp1, wb]; (repeat (first | ((refine callP_of (rfloor_neg a ha h0) ?_); try simp [hC, hY, hp1, wb]))); (first | refine hQ _ _ _ _ ?_ | refine hP _ _ (fun _ => ?_)); clear hQ hP Q)
      | (refine GW_draw' [1000044] follows (by kernel_rfl) (by kernel_rfl) ?_; intro Q hQ hP; simp [hC, hY, hp1, wb]; (repeat (first | ((refine callP_of (rfloor_neg a ha h0) ?_); try simp [hC, hY, hp1, wb]))); (first | refine hQ _ _ _ _ (by kernel_rfl) ?_ | refine hP _ _ (by kernel_rfl) (fun _ => ?_)); clear hQ hP Q)
      | refine GW_block ?_
      | refine GW_ret ?_
      | refine GW_skip ?_
      | refine GW_exit ?_
      | refine GW_goto ?_
      | refine GW_label ?_
      | simp only [blockG_exit]
      | (refine GW_cond (by simp; rfl) ?_ ?_ <;> (intro hb; first | (exfalso; exact absurd hb (by decide)) | skip)))
    refine ⟨rfl, fun k hk => ?_⟩
    have hk3 : k < 300 := Classical.byContradiction fun h => hk (hp1_free a k (by omega))
    simp (disch := omega) only [upd_far]
    rfl
theorem rFloor_p_ret (a : Int) (ha : wr a) (h0 : 0 ≤ a) : Ret Tryd.prog G0 12 #[wd a] (.tuple #[wd (isq a), .int .i64 0]) := by
  refine ret_of G0F Tryd.func12 rfl Tryd.call12 (by simp) (by simp) (by simp [Tryd.ntmps12]) ?_
  intro C hC hC0 hY
  repeat' (first
    | refine GW_seq ?_
    | simp only [List.length_cons, List.length_nil, Nat.reduceAdd, Nat.reduceMul, thenG_normal, thenG_ret, thenG_exit, thenG_goto, thenG_panic, blockG_normal, blockG_ret, blockG_goto, blockG_panic, jumpG_normal, jumpG_ret, jumpG_exit, jumpG_panic]
    | (refine GW_region' [42] (by kernel_rfl) ?_; intro Q hQ hP; simp [hC, hY]; (repeat (first | ((refine heapK_of (hp' := hp1 a) (rtold_ret (fun k hk => hpL_low (by simp) hk) (by simp) rfl (by simp) (rFloor1_p a ha h0)) (by simp [hp1, wb]) (fun k hk => hpL_low (by simp) hk) trivial ?_); try simp [hC, hY]))); (first | refine hQ _ _ _ _ ?_ | refine hP _ _ (fun _ => ?_)); clear hQ hP Q)
    | (refine GW_draw' [42] follows (by kernel_rfl) (by kernel_rfl) ?_; intro Q hQ hP; simp [hC, hY]; (repeat (first | ((refine heapK_of (hp' := hp1 a) (rtold_ret (fun k hk => hpL_low (by simp) hk) (by simp) rfl (by simp) (rFloor1_p a ha h0)) (by simp [hp1, wb]) (fun k hk => hpL_low (by simp) hk) trivial ?_); try simp [hC, hY]))); (first | refine hQ _ _ _ _ (by kernel_rfl) ?_ | refine hP _ _ (by kernel_rfl) (fun _ => ?_)); clear hQ hP Q)
    | refine GW_block ?_
    | refine GW_ret ?_
    | refine GW_skip ?_
    | refine GW_exit ?_
    | refine GW_goto ?_
    | refine GW_label ?_
    | simp only [blockG_exit]
    | (refine GW_cond (by simp; rfl) ?_ ?_ <;> (intro hb; first | (exfalso; exact absurd hb (by decide)) | skip)))
  refine ⟨.inr trivial, ?_⟩
  simp [Tryd.results12]
theorem rFloor_n_ret (a : Int) (ha : wr a) (h0 : a < 0) : Ret Tryd.prog G0 12 #[wd a] (.tuple #[wd 0, .int .i64 2]) := by
  refine ret_of G0F Tryd.func12 rfl Tryd.call12 (by simp) (by simp) (by simp [Tryd.ntmps12]) ?_
  intro C hC hC0 hY
  repeat' (first
    | refine GW_seq ?_
    | simp only [List.length_cons, List.length_nil, Nat.reduceAdd, Nat.reduceMul, thenG_normal, thenG_ret, thenG_exit, thenG_goto, thenG_panic, blockG_normal, blockG_ret, blockG_goto, blockG_panic, jumpG_normal, jumpG_ret, jumpG_exit, jumpG_panic]
    | (refine GW_region' [42] (by kernel_rfl) ?_; intro Q hQ hP; simp [hC, hY]; (repeat (first | ((refine heapK_of (hp' := hp1 a) (rtold_pan (fun k hk => hpL_low (by simp) hk) (by simp) rfl (by simp) (rFloor1_n a ha h0)) (by simp [hp1, wb]) (fun k hk => hpL_low (by simp) hk) trivial ?_); try simp [hC, hY]))); (first | refine hQ _ _ _ _ ?_ | refine hP _ _ (fun _ => ?_)); clear hQ hP Q)
    | (refine GW_draw' [42] follows (by kernel_rfl) (by kernel_rfl) ?_; intro Q hQ hP; simp [hC, hY]; (repeat (first | ((refine heapK_of (hp' := hp1 a) (rtold_pan (fun k hk => hpL_low (by simp) hk) (by simp) rfl (by simp) (rFloor1_n a ha h0)) (by simp [hp1, wb]) (fun k hk => hpL_low (by simp) hk) trivial ?_); try simp [hC, hY]))); (first | refine hQ _ _ _ _ (by kernel_rfl) ?_ | refine hP _ _ (by kernel_rfl) (fun _ => ?_)); clear hQ hP Q)
    | refine GW_block ?_
    | refine GW_ret ?_
    | refine GW_skip ?_
    | refine GW_exit ?_
    | refine GW_goto ?_
    | refine GW_label ?_
    | simp only [blockG_exit]
    | (refine GW_cond (by simp; rfl) ?_ ?_ <;> (intro hb; first | (exfalso; exact absurd hb (by decide)) | skip)))
  refine ⟨.inr trivial, ?_⟩
  simp [Tryd.results12, wi_zero]
@[simp] theorem rFloor_p (a : Int) (ha : wr a) (h0 : 0 ≤ a) (K : Value → Prop) : callK Tryd.prog G0 12 #[Value.agg #[.int .u64 (wi (a) 0), .int .u64 (wi (a) 1), .int .u64 (wi (a) 2), .int .u64 (wi (a) 3)]] K ↔ K (.tuple #[wd (isq a), .int .i64 0]) := callK_iff G0W (by kernel_rfl) (rFloor_p_ret a ha h0)
@[simp] theorem rFloor_n (a : Int) (ha : wr a) (h0 : a < 0) (K : Value → Prop) : callK Tryd.prog G0 12 #[Value.agg #[.int .u64 (wi (a) 0), .int .u64 (wi (a) 1), .int .u64 (wi (a) 2), .int .u64 (wi (a) 3)]] K ↔ K (.tuple #[wd 0, .int .i64 2]) := callK_iff G0W (by kernel_rfl) (rFloor_n_ret a ha h0)
/-- An upper root. -/
def isqU (a : Int) : Int := if isq a * isq a = a then isq a else isq a + 1
theorem isq_le (a : Int) (ha : wr a) (h0 : 0 ≤ a) : isq a < 340282366920938463463374607431768211456 ∧ wr (isq a) := by
  obtain ⟨h1, h2, h3⟩ := isq_spec a h0
  have hau := ha.2
  have h4 := sq_bd 340282366920938463463374607431768211456 h1 (by decide) (by omega)
  exact ⟨h4, Int.le_trans (by decide) h1, Int.lt_trans h4 (by decide)⟩
theorem isq_sq (a : Int) (ha : wr a) (h0 : 0 ≤ a) : decide (sz (sz (isq a) * sz (isq a)) = sz a) = decide (isq a * isq a = a) := by
  have h := isq_le a ha h0
  obtain ⟨h1, h2, h3⟩ := isq_spec a h0
  rw [wr_sz h.2, wr_sz ha, sz_pos (Int.mul_nonneg h1 h1) (Int.lt_of_le_of_lt h2 ha.2)]
theorem rCeil1_p (a : Int) (ha : wr a) (h0 : 0 ≤ a) : Fun Tryd.prog G0 46 [.pointer (some ⟨200, 0, none⟩)].toArray (hp1 a) [200] (.ret (wd (isqU a)) []) := by
  refine fun_of (B := 300) G0F (fun k hk => hpL_low (by simp) hk) Tryd.func46 rfl Tryd.call46 ?_ ?_ ⟨flatV_ids (by simp), by simp [keys], by simp, by simp⟩ (by simp [Tryd.ntmps46]) (by omega) ?_ ?_
  · rw [hp1_rst]; simp [hp1, dom]
  · rw [hp1_rst]; exact hp1_closed a _
  · rw [hp1_rst]; exact hp1_free a
  · intro C hC hC0 hY
    rw [hp1_rst] at hC0 ⊢
    have hq := isq_sq a ha h0
    by_cases hs : isq a * isq a = a
    · have hq' : sz (sz (isq a) * sz (isq a)) = sz a := by rw [decide_eq_decide] at hq; exact hq.2 hs
      have hu : isqU a = isq a := if_pos hs
      rw [hu]
      repeat' (first
        | refine GW_seq ?_
        | simp only [List.length_cons, List.length_nil, Nat.reduceAdd, Nat.reduceMul, thenG_normal, thenG_ret, thenG_exit, thenG_goto, thenG_panic, blockG_normal, blockG_ret, blockG_goto, blockG_panic, jumpG_normal, jumpG_ret, jumpG_exit, jumpG_panic]
        | (refine GW_region' [] (by kernel_rfl) ?_; intro Q hQ hP; simp [hC, hY, hp1, wb, ha, h0, hq']; (first | refine hQ _ _ _ _ ?_ | refine hP _ _ (fun _ => ?_)); clear hQ hP Q)
        | (refine GW_draw' [] follows (by kernel_rfl) (by kernel_rfl) ?_; intro Q hQ hP; simp [hC, hY, hp1, wb, ha, h0, hq']; (first | refine hQ _ _ _ _ (by kernel_rfl) ?_ | refine hP _ _ (by kernel_rfl) (fun _ => ?_)); clear hQ hP Q)
        | refine GW_block ?_
        | refine GW_ret ?_
        | refine GW_skip ?_
        | refine GW_exit ?_
        | refine GW_goto ?_
        | refine GW_label ?_
        | simp only [blockG_exit]
        | (refine GW_cond (by simp; rfl) ?_ ?_ <;> (intro hb; first | (exfalso; exact absurd hb (by decide)) | skip)))
      refine ⟨.inr rfl, by simp [Tryd.results46], fun k hk => ?_⟩
      have hk3 : k < 300 := Classical.byContradiction fun h => hk (hp1_free a k (by omega))
      simp (disch := omega) only [upd_far]
      rfl
    · have hq' : ¬ sz (sz (isq a) * sz (isq a)) = sz a := by rw [decide_eq_decide] at hq; exact fun h => hs (hq.1 h)
      have hu : isqU a = isq a + 1 := if_neg hs
      rw [hu]
      repeat' (first
        | refine GW_seq ?_
        | simp only [List.length_cons, List.length_nil, Nat.reduceAdd, Nat.reduceMul, thenG_normal, thenG_ret, thenG_exit, thenG_goto, thenG_panic, blockG_normal, blockG_ret, blockG_goto, blockG_panic, jumpG_normal, jumpG_ret, jumpG_exit, jumpG_panic]
        | (refine GW_region' [] (by kernel_rfl) ?_; intro Q hQ hP; simp [hC, hY, hp1, wb, ha, h0, hq']; (first | refine hQ _ _ _ _ ?_ | refine hP _ _ (fun _ => ?_)); clear hQ hP Q)
        | (refine GW_draw' [] follows (by kernel_rfl) (by kernel_rfl) ?_; intro Q hQ hP; simp [hC, hY, hp1, wb, ha, h0, hq']; (first | refine hQ _ _ _ _ (by kernel_rfl) ?_ | refine hP _ _ (by kernel_rfl) (fun _ => ?_)); clear hQ hP Q)
        | refine GW_block ?_
        | refine GW_ret ?_
        | refine GW_skip ?_
        | refine GW_exit ?_
        | refine GW_goto ?_
        | refine GW_label ?_
        | simp only [blockG_exit]
        | (refine GW_cond (by simp; rfl) ?_ ?_ <;> (intro hb; first | (exfalso; exact absurd hb (by decide)) | skip)))
      refine ⟨.inr rfl, by simp [Tryd.results46], fun k hk => ?_⟩
      have hk3 : k < 300 := Classical.byContradiction fun h => hk (hp1_free a k (by omega))
      simp (disch := omega) only [upd_far]
      rfl
theorem rCeil1_n (a : Int) (ha : wr a) (h0 : a < 0) : Fun Tryd.prog G0 46 [.pointer (some ⟨200, 0, none⟩)].toArray (hp1 a) [200] (.pan (erV 2)) := by
  refine fun_of (B := 300) G0F (fun k hk => hpL_low (by simp) hk) Tryd.func46 rfl Tryd.call46 ?_ ?_ trivial (by simp [Tryd.ntmps46]) (by omega) ?_ ?_
  · rw [hp1_rst]; simp [hp1, dom]
  · rw [hp1_rst]; exact hp1_closed a _
  · rw [hp1_rst]; exact hp1_free a
  · intro C hC hC0 hY
    rw [hp1_rst] at hC0 ⊢
    repeat' (first
      | refine GW_seq ?_
      | simp only [List.length_cons, List.length_nil, Nat.reduceAdd, Nat.reduceMul, thenG_normal, thenG_ret, thenG_exit, thenG_goto, thenG_panic, blockG_normal, blockG_ret, blockG_goto, blockG_panic, jumpG_normal, jumpG_ret, jumpG_exit, jumpG_panic]
      | (refine GW_region' [1000044] (by kernel_rfl) ?_; intro Q hQ hP; simp [hC, hY, hp1, wb]; (repeat (first | ((refine callP_of (rfloor_neg a ha h0) ?_); try simp [hC, hY, hp1, wb]))); (first | refine hQ _ _ _ _ ?_ | refine hP _ _ (fun _ => ?_)); clear hQ hP Q)
      | (refine GW_draw' [1000044] follows (by kernel_rfl) (by kernel_rfl) ?_; intro Q hQ hP; simp [hC, hY, hp1, wb]; (repeat (first | ((refine callP_of (rfloor_neg a ha h0) ?_); try simp [hC, hY, hp1, wb]))); (first | refine hQ _ _ _ _ (by kernel_rfl) ?_ | refine hP _ _ (by kernel_rfl) (fun _ => ?_)); clear hQ hP Q)
      | refine GW_block ?_
      | refine GW_ret ?_
      | refine GW_skip ?_
      | refine GW_exit ?_
      | refine GW_goto ?_
      | refine GW_label ?_
      | simp only [blockG_exit]
      | (refine GW_cond (by simp; rfl) ?_ ?_ <;> (intro hb; first | (exfalso; exact absurd hb (by decide)) | skip)))
    refine ⟨rfl, fun k hk => ?_⟩
    have hk3 : k < 300 := Classical.byContradiction fun h => hk (hp1_free a k (by omega))
    simp (disch := omega) only [upd_far]
    rfl
theorem rCeil_p_ret (a : Int) (ha : wr a) (h0 : 0 ≤ a) : Ret Tryd.prog G0 14 #[wd a] (.tuple #[wd (isqU a), .int .i64 0]) := by
  refine ret_of G0F Tryd.func14 rfl Tryd.call14 (by simp) (by simp) (by simp [Tryd.ntmps14]) ?_
  intro C hC hC0 hY
  repeat' (first
    | refine GW_seq ?_
    | simp only [List.length_cons, List.length_nil, Nat.reduceAdd, Nat.reduceMul, thenG_normal, thenG_ret, thenG_exit, thenG_goto, thenG_panic, blockG_normal, blockG_ret, blockG_goto, blockG_panic, jumpG_normal, jumpG_ret, jumpG_exit, jumpG_panic]
    | (refine GW_region' [42] (by kernel_rfl) ?_; intro Q hQ hP; simp [hC, hY]; (repeat (first | ((refine heapK_of (hp' := hp1 a) (rtold_ret (fun k hk => hpL_low (by simp) hk) (by simp) rfl (by simp) (rCeil1_p a ha h0)) (by simp [hp1, wb]) (fun k hk => hpL_low (by simp) hk) trivial ?_); try simp [hC, hY]))); (first | refine hQ _ _ _ _ ?_ | refine hP _ _ (fun _ => ?_)); clear hQ hP Q)
    | (refine GW_draw' [42] follows (by kernel_rfl) (by kernel_rfl) ?_; intro Q hQ hP; simp [hC, hY]; (repeat (first | ((refine heapK_of (hp' := hp1 a) (rtold_ret (fun k hk => hpL_low (by simp) hk) (by simp) rfl (by simp) (rCeil1_p a ha h0)) (by simp [hp1, wb]) (fun k hk => hpL_low (by simp) hk) trivial ?_); try simp [hC, hY]))); (first | refine hQ _ _ _ _ (by kernel_rfl) ?_ | refine hP _ _ (by kernel_rfl) (fun _ => ?_)); clear hQ hP Q)
    | refine GW_block ?_
    | refine GW_ret ?_
    | refine GW_skip ?_
    | refine GW_exit ?_
    | refine GW_goto ?_
    | refine GW_label ?_
    | simp only [blockG_exit]
    | (refine GW_cond (by simp; rfl) ?_ ?_ <;> (intro hb; first | (exfalso; exact absurd hb (by decide)) | skip)))
  refine ⟨.inr trivial, ?_⟩
  simp [Tryd.results14, wi_zero]
@[simp] theorem rCeil_p (a : Int) (ha : wr a) (h0 : 0 ≤ a) (K : Value → Prop) : callK Tryd.prog G0 14 #[Value.agg #[.int .u64 (wi (a) 0), .int .u64 (wi (a) 1), .int .u64 (wi (a) 2), .int .u64 (wi (a) 3)]] K ↔ K (.tuple #[wd (isqU a), .int .i64 0]) := callK_iff G0W (by kernel_rfl) (rCeil_p_ret a ha h0)
theorem rCeil_n_ret (a : Int) (ha : wr a) (h0 : a < 0) : Ret Tryd.prog G0 14 #[wd a] (.tuple #[wd 0, .int .i64 2]) := by
  refine ret_of G0F Tryd.func14 rfl Tryd.call14 (by simp) (by simp) (by simp [Tryd.ntmps14]) ?_
  intro C hC hC0 hY
  repeat' (first
    | refine GW_seq ?_
    | simp only [List.length_cons, List.length_nil, Nat.reduceAdd, Nat.reduceMul, thenG_normal, thenG_ret, thenG_exit, thenG_goto, thenG_panic, blockG_normal, blockG_ret, blockG_goto, blockG_panic, jumpG_normal, jumpG_ret, jumpG_exit, jumpG_panic]
    | (refine GW_region' [42] (by kernel_rfl) ?_; intro Q hQ hP; simp [hC, hY]; (repeat (first | ((refine heapK_of (hp' := hp1 a) (rtold_pan (fun k hk => hpL_low (by simp) hk) (by simp) rfl (by simp) (rCeil1_n a ha h0)) (by simp [hp1, wb]) (fun k hk => hpL_low (by simp) hk) trivial ?_); try simp [hC, hY]))); (first | refine hQ _ _ _ _ ?_ | refine hP _ _ (fun _ => ?_)); clear hQ hP Q)
    | (refine GW_draw' [42] follows (by kernel_rfl) (by kernel_rfl) ?_; intro Q hQ hP; simp [hC, hY]; (repeat (first | ((refine heapK_of (hp' := hp1 a) (rtold_pan (fun k hk => hpL_low (by simp) hk) (by simp) rfl (by simp) (rCeil1_n a ha h0)) (by simp [hp1, wb]) (fun k hk => hpL_low (by simp) hk) trivial ?_); try simp [hC, hY]))); (first | refine hQ _ _ _ _ (by kernel_rfl) ?_ | refine hP _ _ (by kernel_rfl) (fun _ => ?_)); clear hQ hP Q)
    | refine GW_block ?_
    | refine GW_ret ?_
    | refine GW_skip ?_
    | refine GW_exit ?_
    | refine GW_goto ?_
    | refine GW_label ?_
    | simp only [blockG_exit]
    | (refine GW_cond (by simp; rfl) ?_ ?_ <;> (intro hb; first | (exfalso; exact absurd hb (by decide)) | skip)))
  refine ⟨.inr trivial, ?_⟩
  simp [Tryd.results14, wi_zero]
@[simp] theorem rCeil_n (a : Int) (ha : wr a) (h0 : a < 0) (K : Value → Prop) : callK Tryd.prog G0 14 #[Value.agg #[.int .u64 (wi (a) 0), .int .u64 (wi (a) 1), .int .u64 (wi (a) 2), .int .u64 (wi (a) 3)]] K ↔ K (.tuple #[wd 0, .int .i64 2]) := callK_iff G0W (by kernel_rfl) (rCeil_n_ret a ha h0)
theorem rIs_p_ret (a : Int) (ha : wr a) (h0 : 0 ≤ a) : Ret Tryd.prog G0 22 #[wd a] (.bool (decide (isq a * isq a = a))) := by
  refine ret_of G0F Tryd.func22 rfl Tryd.call22 rfl (by simp) (by simp [Tryd.ntmps22]) ?_
  intro C hC hC0 hY
  repeat' (first
    | refine GW_seq ?_
    | simp only [List.length_cons, List.length_nil, Nat.reduceAdd, Nat.reduceMul, thenG_normal, thenG_ret, thenG_exit, thenG_goto, thenG_panic, blockG_normal, blockG_ret, blockG_goto, blockG_panic, jumpG_normal, jumpG_ret, jumpG_exit, jumpG_panic]
    | (refine GW_region' [] (by kernel_rfl) ?_; intro Q hQ hP; simp [hC, hY, ha, h0]; (first | refine hQ _ _ _ _ ?_ | refine hP _ _ (fun _ => ?_)); clear hQ hP Q)
    | (refine GW_draw' [] follows (by kernel_rfl) (by kernel_rfl) ?_; intro Q hQ hP; simp [hC, hY, ha, h0]; (first | refine hQ _ _ _ _ (by kernel_rfl) ?_ | refine hP _ _ (by kernel_rfl) (fun _ => ?_)); clear hQ hP Q)
    | refine GW_block ?_
    | refine GW_ret ?_
    | refine GW_skip ?_
    | refine GW_exit ?_
    | refine GW_goto ?_
    | refine GW_label ?_
    | simp only [blockG_exit]
    | (refine GW_cond (by simp; rfl) ?_ ?_ <;> (intro hb; first | (exfalso; exact absurd hb (by decide)) | skip)))
  refine ⟨.inr trivial, ?_⟩
  simp [Tryd.results22]
  have := isq_sq a ha h0
  rw [decide_eq_decide] at this
  exact this
theorem rIs_n_ret (a : Int) (ha : wr a) (h0 : a < 0) : Ret Tryd.prog G0 22 #[wd a] (.bool false) := by
  refine ret_of G0F Tryd.func22 rfl Tryd.call22 rfl (by simp) (by simp [Tryd.ntmps22]) ?_
  intro C hC hC0 hY
  repeat' (first
    | refine GW_seq ?_
    | simp only [List.length_cons, List.length_nil, Nat.reduceAdd, Nat.reduceMul, thenG_normal, thenG_ret, thenG_exit, thenG_goto, thenG_panic, blockG_normal, blockG_ret, blockG_goto, blockG_panic, jumpG_normal, jumpG_ret, jumpG_exit, jumpG_panic]
    | (refine GW_region' [] (by kernel_rfl) ?_; intro Q hQ hP; simp [hC, hY, ha, h0]; (first | refine hQ _ _ _ _ ?_ | refine hP _ _ (fun _ => ?_)); clear hQ hP Q)
    | (refine GW_draw' [] follows (by kernel_rfl) (by kernel_rfl) ?_; intro Q hQ hP; simp [hC, hY, ha, h0]; (first | refine hQ _ _ _ _ (by kernel_rfl) ?_ | refine hP _ _ (by kernel_rfl) (fun _ => ?_)); clear hQ hP Q)
    | refine GW_block ?_
    | refine GW_ret ?_
    | refine GW_skip ?_
    | refine GW_exit ?_
    | refine GW_goto ?_
    | refine GW_label ?_
    | simp only [blockG_exit]
    | (refine GW_cond (by simp; rfl) ?_ ?_ <;> (intro hb; first | (exfalso; exact absurd hb (by decide)) | skip)))
  refine ⟨.inr trivial, ?_⟩
  simp [Tryd.results22]
@[simp] theorem rIs_p (a : Int) (ha : wr a) (h0 : 0 ≤ a) (K : Value → Prop) : callK Tryd.prog G0 22 #[Value.agg #[.int .u64 (wi (a) 0), .int .u64 (wi (a) 1), .int .u64 (wi (a) 2), .int .u64 (wi (a) 3)]] K ↔ K (.bool (decide (isq a * isq a = a))) := callK_iff G0W (by kernel_rfl) (rIs_p_ret a ha h0)
@[simp] theorem rIs_n (a : Int) (ha : wr a) (h0 : a < 0) (K : Value → Prop) : callK Tryd.prog G0 22 #[Value.agg #[.int .u64 (wi (a) 0), .int .u64 (wi (a) 1), .int .u64 (wi (a) 2), .int .u64 (wi (a) 3)]] K ↔ K (.bool false) := callK_iff G0W (by kernel_rfl) (rIs_n_ret a ha h0)
theorem of_zero (a : Int) : RetP Tryd.prog G0 50 #[wd a, wd 0] (.pan (erV 30)) := by
  refine retp_of G0F Tryd.func50 rfl Tryd.call50 (fun v h => by cases h) (by simp) (by simp [Tryd.ntmps50]) ?_
  intro C hC hC0 hY
  repeat' (first
    | refine GW_seq ?_
    | simp only [List.length_cons, List.length_nil, Nat.reduceAdd, Nat.reduceMul, thenG_normal, thenG_ret, thenG_exit, thenG_goto, thenG_panic, blockG_normal, blockG_ret, blockG_goto, blockG_panic, jumpG_normal, jumpG_ret, jumpG_exit, jumpG_panic]
    | (refine GW_region' [1000055] (by kernel_rfl) ?_; intro Q hQ hP; simp [hC, hY, wi_zero]; (repeat (first | ((refine callP_of (rmust_f 30) ?_); try simp [hC, hY, wi_zero]))); (first | refine hQ _ _ _ _ ?_ | refine hP _ _ (fun _ => ?_)); clear hQ hP Q)
    | (refine GW_draw' [1000055] follows (by kernel_rfl) (by kernel_rfl) ?_; intro Q hQ hP; simp [hC, hY, wi_zero]; (repeat (first | ((refine callP_of (rmust_f 30) ?_); try simp [hC, hY, wi_zero]))); (first | refine hQ _ _ _ _ (by kernel_rfl) ?_ | refine hP _ _ (by kernel_rfl) (fun _ => ?_)); clear hQ hP Q)
    | refine GW_block ?_
    | refine GW_ret ?_
    | refine GW_skip ?_
    | refine GW_exit ?_
    | refine GW_goto ?_
    | refine GW_label ?_
    | simp only [blockG_exit]
    | (refine GW_cond (by simp; rfl) ?_ ?_ <;> (intro hb; first | (exfalso; exact absurd hb (by decide)) | skip)))
  rfl
theorem of_arg (a b : Int) (ha : wr a) (hb : wr b) (hb0 : b ≠ 0) (h : a < 0 ∨ b < 0) : RetP Tryd.prog G0 50 #[wd a, wd b] (.pan (erV 2)) := by
  refine retp_of G0F Tryd.func50 rfl Tryd.call50 (fun v h => by cases h) (by simp) (by simp [Tryd.ntmps50]) ?_
  intro C hC hC0 hY
  have hz := wr_ne hb hb0
  by_cases h0 : 0 ≤ a
  · have s1 : 0 ≤ cmpI (sz a) 0 := by rw [wr_sz ha]; unfold cmpI; split <;> (try split) <;> omega
    have s2 : ¬ 0 < cmpI (sz b) 0 := by rw [wr_sz hb]; unfold cmpI; split <;> (try split) <;> omega
    repeat' (first
      | refine GW_seq ?_
      | simp only [List.length_cons, List.length_nil, Nat.reduceAdd, Nat.reduceMul, thenG_normal, thenG_ret, thenG_exit, thenG_goto, thenG_panic, blockG_normal, blockG_ret, blockG_goto, blockG_panic, jumpG_normal, jumpG_ret, jumpG_exit, jumpG_panic]
      | (refine GW_region' [1000055] (by kernel_rfl) ?_; intro Q hQ hP; simp [hC, hY, hz, s1, s2]; (repeat (first | ((refine callP_of (rmust_t 30) ?_); try simp [hC, hY, hz, s1, s2]) | ((refine callP_of (rmust_f 2) ?_); try simp [hC, hY, hz, s1, s2]))); (first | refine hQ _ _ _ _ ?_ | refine hP _ _ (fun _ => ?_)); clear hQ hP Q)
      | (refine GW_draw' [1000055] follows (by kernel_rfl) (by kernel_rfl) ?_; intro Q hQ hP; simp [hC, hY, hz, s1, s2]; (repeat (first | ((refine callP_of (rmust_t 30) ?_); try simp [hC, hY, hz, s1, s2]) | ((refine callP_of (rmust_f 2) ?_); try simp [hC, hY, hz, s1, s2]))); (first | refine hQ _ _ _ _ (by kernel_rfl) ?_ | refine hP _ _ (by kernel_rfl) (fun _ => ?_)); clear hQ hP Q)
      | refine GW_block ?_
      | refine GW_ret ?_
      | refine GW_skip ?_
      | refine GW_exit ?_
      | refine GW_goto ?_
      | refine GW_label ?_
      | simp only [blockG_exit]
      | (refine GW_cond (by simp; rfl) ?_ ?_ <;> (intro hb; first | (exfalso; exact absurd hb (by decide)) | skip)))
    rfl
  · have s1 : ¬ 0 ≤ cmpI (sz a) 0 := by rw [wr_sz ha]; unfold cmpI; split <;> (try split) <;> omega
    repeat' (first
      | refine GW_seq ?_
      | simp only [List.length_cons, List.length_nil, Nat.reduceAdd, Nat.reduceMul, thenG_normal, thenG_ret, thenG_exit, thenG_goto, thenG_panic, blockG_normal, blockG_ret, blockG_goto, blockG_panic, jumpG_normal, jumpG_ret, jumpG_exit, jumpG_panic]
      | (refine GW_region' [1000055] (by kernel_rfl) ?_; intro Q hQ hP; simp [hC, hY, hz, s1]; (repeat (first | ((refine callP_of (rmust_t 30) ?_); try simp [hC, hY, hz, s1]) | ((refine callP_of (rmust_f 2) ?_); try simp [hC, hY, hz, s1]))); (first | refine hQ _ _ _ _ ?_ | refine hP _ _ (fun _ => ?_)); clear hQ hP Q)
      | (refine GW_draw' [1000055] follows (by kernel_rfl) (by kernel_rfl) ?_; intro Q hQ hP; simp [hC, hY, hz, s1]; (repeat (first | ((refine callP_of (rmust_t 30) ?_); try simp [hC, hY, hz, s1]) | ((refine callP_of (rmust_f 2) ?_); try simp [hC, hY, hz, s1]))); (first | refine hQ _ _ _ _ (by kernel_rfl) ?_ | refine hP _ _ (by kernel_rfl) (fun _ => ?_)); clear hQ hP Q)
      | refine GW_block ?_
      | refine GW_ret ?_
      | refine GW_skip ?_
      | refine GW_exit ?_
      | refine GW_goto ?_
      | refine GW_label ?_
      | simp only [blockG_exit]
      | (refine GW_cond (by simp; rfl) ?_ ?_ <;> (intro hb; first | (exfalso; exact absurd hb (by decide)) | skip)))
    rfl
theorem div_wr {a b : Int} (ha : wr a) (h0 : 0 ≤ a) (hb : 0 < b) : wr (a / b) ∧ 0 ≤ a / b := by
  have h1 : 0 ≤ a / b := Int.ediv_nonneg h0 (by omega)
  exact ⟨⟨Int.le_trans (by decide) h1, Int.lt_of_le_of_lt (Int.ediv_le_self b h0) ha.2⟩, h1⟩
theorem lst_ne {a : Int} (h0 : 0 ≤ a) : a ≠ lst := fun e => by rw [e] at h0; exact absurd h0 (by decide)
theorem of_ret (a b : Int) (ha : wr a) (hb : wr b) (h0 : 0 ≤ a) (hb0 : 0 < b) : Ret Tryd.prog G0 50 #[wd a, wd b] (wd (isq (a / b))) := by
  refine ret_of G0F Tryd.func50 rfl Tryd.call50 (by simp) (by simp) (by simp [Tryd.ntmps50]) ?_
  intro C hC hC0 hY
  have hz := wr_ne hb (by omega)
  have s1 : 0 ≤ cmpI (sz a) 0 := by rw [wr_sz ha]; unfold cmpI; split <;> (try split) <;> omega
  have s2 : 0 < cmpI (sz b) 0 := by rw [wr_sz hb]; unfold cmpI; split <;> (try split) <;> omega
  obtain ⟨d1, d2⟩ := div_wr ha h0 hb0
  have hl := lst_ne h0
  repeat' (first
    | refine GW_seq ?_
    | simp only [List.length_cons, List.length_nil, Nat.reduceAdd, Nat.reduceMul, thenG_normal, thenG_ret, thenG_exit, thenG_goto, thenG_panic, blockG_normal, blockG_ret, blockG_goto, blockG_panic, jumpG_normal, jumpG_ret, jumpG_exit, jumpG_panic]
    | (refine GW_region' [] (by kernel_rfl) ?_; intro Q hQ hP; simp [hC, hY, hz, s1, s2, ha, hb, hb0, hl, d1, d2]; (first | refine hQ _ _ _ _ ?_ | refine hP _ _ (fun _ => ?_)); clear hQ hP Q)
    | (refine GW_draw' [] follows (by kernel_rfl) (by kernel_rfl) ?_; intro Q hQ hP; simp [hC, hY, hz, s1, s2, ha, hb, hb0, hl, d1, d2]; (first | refine hQ _ _ _ _ (by kernel_rfl) ?_ | refine hP _ _ (by kernel_rfl) (fun _ => ?_)); clear hQ hP Q)
    | refine GW_block ?_
    | refine GW_ret ?_
    | refine GW_skip ?_
    | refine GW_exit ?_
    | refine GW_goto ?_
    | refine GW_label ?_
    | simp only [blockG_exit]
    | (refine GW_cond (by simp; rfl) ?_ ?_ <;> (intro hb; first | (exfalso; exact absurd hb (by decide)) | skip)))
  refine ⟨.inr trivial, ?_⟩
  simp [Tryd.results50]
@[simp] theorem rof (a b : Int) (ha : wr a) (hb : wr b) (h0 : 0 ≤ a) (hb0 : 0 < b) (K : Value → Prop) : callK Tryd.prog G0 50 #[Value.agg #[.int .u64 (wi (a) 0), .int .u64 (wi (a) 1), .int .u64 (wi (a) 2), .int .u64 (wi (a) 3)], Value.agg #[.int .u64 (wi (b) 0), .int .u64 (wi (b) 1), .int .u64 (wi (b) 2), .int .u64 (wi (b) 3)]] K ↔ K (wd (isq (a / b))) := callK_iff G0W (by kernel_rfl) (of_ret a b ha hb h0 hb0)
theorem rOf1_p (a b : Int) (ha : wr a) (hb : wr b) (h0 : 0 ≤ a) (hb0 : 0 < b) : Fun Tryd.prog G0 49 [.pointer (some ⟨200, 0, none⟩), .pointer (some ⟨208, 0, none⟩)].toArray (hp2 a b) [200, 208] (.ret (wd (isq (a / b))) []) := by
  refine fun_of (B := 300) G0F (fun k hk => hpL_low (by simp) hk) Tryd.func49 rfl Tryd.call49 ?_ ?_ ⟨flatV_ids (by simp), by simp [keys], by simp, by simp⟩ (by simp [Tryd.ntmps49]) (by omega) ?_ ?_
  · rw [hp2_rst]; simp [hp2, dom]
  · rw [hp2_rst]; exact hp2_closed a b _
  · rw [hp2_rst]; exact hp2_free a b
  · intro C hC hC0 hY
    rw [hp2_rst] at hC0 ⊢
    repeat' (first
      | refine GW_seq ?_
      | simp only [List.length_cons, List.length_nil, Nat.reduceAdd, Nat.reduceMul, thenG_normal, thenG_ret, thenG_exit, thenG_goto, thenG_panic, blockG_normal, blockG_ret, blockG_goto, blockG_panic, jumpG_normal, jumpG_ret, jumpG_exit, jumpG_panic]
      | (refine GW_region' [] (by kernel_rfl) ?_; intro Q hQ hP; simp [hC, hY, hp2, wb, ha, hb, h0, hb0]; (first | refine hQ _ _ _ _ ?_ | refine hP _ _ (fun _ => ?_)); clear hQ hP Q)
      | (refine GW_draw' [] follows (by kernel_rfl) (by kernel_rfl) ?_; intro Q hQ hP; simp [hC, hY, hp2, wb, ha, hb, h0, hb0]; (first | refine hQ _ _ _ _ (by kernel_rfl) ?_ | refine hP _ _ (by kernel_rfl) (fun _ => ?_)); clear hQ hP Q)
      | refine GW_block ?_
      | refine GW_ret ?_
      | refine GW_skip ?_
      | refine GW_exit ?_
      | refine GW_goto ?_
      | refine GW_label ?_
      | simp only [blockG_exit]
      | (refine GW_cond (by simp; rfl) ?_ ?_ <;> (intro hb; first | (exfalso; exact absurd hb (by decide)) | skip)))
    refine ⟨.inr rfl, by simp [Tryd.results49], fun k hk => ?_⟩
    have hk3 : k < 300 := Classical.byContradiction fun h => hk (hp2_free a _ k (by omega))
    simp (disch := omega) only [upd_far]
    rfl
theorem rOf1_a (a b : Int) (ha : wr a) (hb : wr b) (hb0 : b ≠ 0) (h : a < 0 ∨ b < 0) : Fun Tryd.prog G0 49 [.pointer (some ⟨200, 0, none⟩), .pointer (some ⟨208, 0, none⟩)].toArray (hp2 a b) [200, 208] (.pan (erV 2)) := by
  refine fun_of (B := 300) G0F (fun k hk => hpL_low (by simp) hk) Tryd.func49 rfl Tryd.call49 ?_ ?_ trivial (by simp [Tryd.ntmps49]) (by omega) ?_ ?_
  · rw [hp2_rst]; simp [hp2, dom]
  · rw [hp2_rst]; exact hp2_closed a b _
  · rw [hp2_rst]; exact hp2_free a b
  · intro C hC hC0 hY
    rw [hp2_rst] at hC0 ⊢
    repeat' (first
      | refine GW_seq ?_
      | simp only [List.length_cons, List.length_nil, Nat.reduceAdd, Nat.reduceMul, thenG_normal, thenG_ret, thenG_exit, thenG_goto, thenG_panic, blockG_normal, blockG_ret, blockG_goto, blockG_panic, jumpG_normal, jumpG_ret, jumpG_exit, jumpG_panic]
      | (refine GW_region' [1000050] (by kernel_rfl) ?_; intro Q hQ hP; simp [hC, hY, hp2, wb]; (repeat (first | ((refine callP_of (of_arg a b ha hb hb0 h) ?_); try simp [hC, hY, hp2, wb]))); (first | refine hQ _ _ _ _ ?_ | refine hP _ _ (fun _ => ?_)); clear hQ hP Q)
      | (refine GW_draw' [1000050] follows (by kernel_rfl) (by kernel_rfl) ?_; intro Q hQ hP; simp [hC, hY, hp2, wb]; (repeat (first | ((refine callP_of (of_arg a b ha hb hb0 h) ?_); try simp [hC, hY, hp2, wb]))); (first | refine hQ _ _ _ _ (by kernel_rfl) ?_ | refine hP _ _ (by kernel_rfl) (fun _ => ?_)); clear hQ hP Q)
      | refine GW_block ?_
      | refine GW_ret ?_
      | refine GW_skip ?_
      | refine GW_exit ?_
      | refine GW_goto ?_
      | refine GW_label ?_
      | simp only [blockG_exit]
      | (refine GW_cond (by simp; rfl) ?_ ?_ <;> (intro hb; first | (exfalso; exact absurd hb (by decide)) | skip)))
    refine ⟨rfl, fun k hk => ?_⟩
    have hk3 : k < 300 := Classical.byContradiction fun h => hk (hp2_free a _ k (by omega))
    simp (disch := omega) only [upd_far]
    rfl
theorem rOf1_z (a b : Int) (hz : b = 0) : Fun Tryd.prog G0 49 [.pointer (some ⟨200, 0, none⟩), .pointer (some ⟨208, 0, none⟩)].toArray (hp2 a b) [200, 208] (.pan (erV 30)) := by
  refine fun_of (B := 300) G0F (fun k hk => hpL_low (by simp) hk) Tryd.func49 rfl Tryd.call49 ?_ ?_ trivial (by simp [Tryd.ntmps49]) (by omega) ?_ ?_
  · rw [hp2_rst]; simp [hp2, dom]
  · rw [hp2_rst]; exact hp2_closed a b _
  · rw [hp2_rst]; exact hp2_free a b
  · intro C hC hC0 hY
    rw [hp2_rst] at hC0 ⊢
    subst hz
    repeat' (first
      | refine GW_seq ?_
      | simp only [List.length_cons, List.length_nil, Nat.reduceAdd, Nat.reduceMul, thenG_normal, thenG_ret, thenG_exit, thenG_goto, thenG_panic, blockG_normal, blockG_ret, blockG_goto, blockG_panic, jumpG_normal, jumpG_ret, jumpG_exit, jumpG_panic]
      | (refine GW_region' [1000050] (by kernel_rfl) ?_; intro Q hQ hP; simp [hC, hY, hp2, wb]; (repeat (first | ((refine callP_of (of_zero a) ?_); try simp [hC, hY, hp2, wb]))); (first | refine hQ _ _ _ _ ?_ | refine hP _ _ (fun _ => ?_)); clear hQ hP Q)
      | (refine GW_draw' [1000050] follows (by kernel_rfl) (by kernel_rfl) ?_; intro Q hQ hP; simp [hC, hY, hp2, wb]; (repeat (first | ((refine callP_of (of_zero a) ?_); try simp [hC, hY, hp2, wb]))); (first | refine hQ _ _ _ _ (by kernel_rfl) ?_ | refine hP _ _ (by kernel_rfl) (fun _ => ?_)); clear hQ hP Q)
      | refine GW_block ?_
      | refine GW_ret ?_
      | refine GW_skip ?_
      | refine GW_exit ?_
      | refine GW_goto ?_
      | refine GW_label ?_
      | simp only [blockG_exit]
      | (refine GW_cond (by simp; rfl) ?_ ?_ <;> (intro hb; first | (exfalso; exact absurd hb (by decide)) | skip)))
    refine ⟨rfl, fun k hk => ?_⟩
    have hk3 : k < 300 := Classical.byContradiction fun h => hk (hp2_free a _ k (by omega))
    simp (disch := omega) only [upd_far]
    rfl
theorem rOf_p_ret (a b : Int) (ha : wr a) (hb : wr b) (h0 : 0 ≤ a) (hb0 : 0 < b) : Ret Tryd.prog G0 16 #[wd a, wd b] (.tuple #[wd (isq (a / b)), .int .i64 0]) := by
  refine ret_of G0F Tryd.func16 rfl Tryd.call16 (by simp) (by simp) (by simp [Tryd.ntmps16]) ?_
  intro C hC hC0 hY
  repeat' (first
    | refine GW_seq ?_
    | simp only [List.length_cons, List.length_nil, Nat.reduceAdd, Nat.reduceMul, thenG_normal, thenG_ret, thenG_exit, thenG_goto, thenG_panic, blockG_normal, blockG_ret, blockG_goto, blockG_panic, jumpG_normal, jumpG_ret, jumpG_exit, jumpG_panic]
    | (refine GW_region' [42] (by kernel_rfl) ?_; intro Q hQ hP; simp [hC, hY]; (repeat (first | ((refine heapK_of (hp' := hp2 a b) (rtold_ret (fun k hk => hpL_low (by simp) hk) (by simp) rfl (by simp) (rOf1_p a b ha hb h0 hb0)) (by simp [hp2, wb]) (fun k hk => hpL_low (by simp) hk) trivial ?_); try simp [hC, hY]))); (first | refine hQ _ _ _ _ ?_ | refine hP _ _ (fun _ => ?_)); clear hQ hP Q)
    | (refine GW_draw' [42] follows (by kernel_rfl) (by kernel_rfl) ?_; intro Q hQ hP; simp [hC, hY]; (repeat (first | ((refine heapK_of (hp' := hp2 a b) (rtold_ret (fun k hk => hpL_low (by simp) hk) (by simp) rfl (by simp) (rOf1_p a b ha hb h0 hb0)) (by simp [hp2, wb]) (fun k hk => hpL_low (by simp) hk) trivial ?_); try simp [hC, hY]))); (first | refine hQ _ _ _ _ (by kernel_rfl) ?_ | refine hP _ _ (by kernel_rfl) (fun _ => ?_)); clear hQ hP Q)
    | refine GW_block ?_
    | refine GW_ret ?_
    | refine GW_skip ?_
    | refine GW_exit ?_
    | refine GW_goto ?_
    | refine GW_label ?_
    | simp only [blockG_exit]
    | (refine GW_cond (by simp; rfl) ?_ ?_ <;> (intro hb; first | (exfalso; exact absurd hb (by decide)) | skip)))
  refine ⟨.inr trivial, ?_⟩
  simp [Tryd.results16, wi_zero]
@[simp] theorem rOf_p (a b : Int) (ha : wr a) (hb : wr b) (h0 : 0 ≤ a) (hb0 : 0 < b) (K : Value → Prop) : callK Tryd.prog G0 16 #[Value.agg #[.int .u64 (wi (a) 0), .int .u64 (wi (a) 1), .int .u64 (wi (a) 2), .int .u64 (wi (a) 3)], Value.agg #[.int .u64 (wi (b) 0), .int .u64 (wi (b) 1), .int .u64 (wi (b) 2), .int .u64 (wi (b) 3)]] K ↔ K (.tuple #[wd (isq (a / b)), .int .i64 0]) := callK_iff G0W (by kernel_rfl) (rOf_p_ret a b ha hb h0 hb0)
theorem rOf_a_ret (a b : Int) (ha : wr a) (hb : wr b) (hb0 : b ≠ 0) (h : a < 0 ∨ b < 0) : Ret Tryd.prog G0 16 #[wd a, wd b] (.tuple #[wd 0, .int .i64 2]) := by
  refine ret_of G0F Tryd.func16 rfl Tryd.call16 (by simp) (by simp) (by simp [Tryd.ntmps16]) ?_
  intro C hC hC0 hY
  repeat' (first
    | refine GW_seq ?_
    | simp only [List.length_cons, List.length_nil, Nat.reduceAdd, Nat.reduceMul, thenG_normal, thenG_ret, thenG_exit, thenG_goto, thenG_panic, blockG_normal, blockG_ret, blockG_goto, blockG_panic, jumpG_normal, jumpG_ret, jumpG_exit, jumpG_panic]
    | (refine GW_region' [42] (by kernel_rfl) ?_; intro Q hQ hP; simp [hC, hY]; (repeat (first | ((refine heapK_of (hp' := hp2 a b) (rtold_pan (fun k hk => hpL_low (by simp) hk) (by simp) rfl (by simp) (rOf1_a a b ha hb hb0 h)) (by simp [hp2, wb]) (fun k hk => hpL_low (by simp) hk) trivial ?_); try simp [hC, hY]))); (first | refine hQ _ _ _ _ ?_ | refine hP _ _ (fun _ => ?_)); clear hQ hP Q)
    | (refine GW_draw' [42] follows (by kernel_rfl) (by kernel_rfl) ?_; intro Q hQ hP; simp [hC, hY]; (repeat (first | ((refine heapK_of (hp' := hp2 a b) (rtold_pan (fun k hk => hpL_low (by simp) hk) (by simp) rfl (by simp) (rOf1_a a b ha hb hb0 h)) (by simp [hp2, wb]) (fun k hk => hpL_low (by simp) hk) trivial ?_); try simp [hC, hY]))); (first | refine hQ _ _ _ _ (by kernel_rfl) ?_ | refine hP _ _ (by kernel_rfl) (fun _ => ?_)); clear hQ hP Q)
    | refine GW_block ?_
    | refine GW_ret ?_
    | refine GW_skip ?_
    | refine GW_exit ?_
    | refine GW_goto ?_
    | refine GW_label ?_
    | simp only [blockG_exit]
    | (refine GW_cond (by simp; rfl) ?_ ?_ <;> (intro hb; first | (exfalso; exact absurd hb (by decide)) | skip)))
  refine ⟨.inr trivial, ?_⟩
  simp [Tryd.results16, wi_zero]
@[simp] theorem rOf_a (a b : Int) (ha : wr a) (hb : wr b) (hb0 : b ≠ 0) (h : a < 0 ∨ b < 0) (K : Value → Prop) : callK Tryd.prog G0 16 #[Value.agg #[.int .u64 (wi (a) 0), .int .u64 (wi (a) 1), .int .u64 (wi (a) 2), .int .u64 (wi (a) 3)], Value.agg #[.int .u64 (wi (b) 0), .int .u64 (wi (b) 1), .int .u64 (wi (b) 2), .int .u64 (wi (b) 3)]] K ↔ K (.tuple #[wd 0, .int .i64 2]) := callK_iff G0W (by kernel_rfl) (rOf_a_ret a b ha hb hb0 h)
theorem rOf_z_ret (a b : Int) (hz : b = 0) : Ret Tryd.prog G0 16 #[wd a, wd b] (.tuple #[wd 0, .int .i64 30]) := by
  refine ret_of G0F Tryd.func16 rfl Tryd.call16 (by simp) (by simp) (by simp [Tryd.ntmps16]) ?_
  intro C hC hC0 hY
  repeat' (first
    | refine GW_seq ?_
    | simp only [List.length_cons, List.length_nil, Nat.reduceAdd, Nat.reduceMul, thenG_normal, thenG_ret, thenG_exit, thenG_goto, thenG_panic, blockG_normal, blockG_ret, blockG_goto, blockG_panic, jumpG_normal, jumpG_ret, jumpG_exit, jumpG_panic]
    | (refine GW_region' [42] (by kernel_rfl) ?_; intro Q hQ hP; simp [hC, hY]; (repeat (first | ((refine heapK_of (hp' := hp2 a b) (rtold_pan (fun k hk => hpL_low (by simp) hk) (by simp) rfl (by simp) (rOf1_z a b hz)) (by simp [hp2, wb]) (fun k hk => hpL_low (by simp) hk) trivial ?_); try simp [hC, hY]))); (first | refine hQ _ _ _ _ ?_ | refine hP _ _ (fun _ => ?_)); clear hQ hP Q)
    | (refine GW_draw' [42] follows (by kernel_rfl) (by kernel_rfl) ?_; intro Q hQ hP; simp [hC, hY]; (repeat (first | ((refine heapK_of (hp' := hp2 a b) (rtold_pan (fun k hk => hpL_low (by simp) hk) (by simp) rfl (by simp) (rOf1_z a b hz)) (by simp [hp2, wb]) (fun k hk => hpL_low (by simp) hk) trivial ?_); try simp [hC, hY]))); (first | refine hQ _ _ _ _ (by kernel_rfl) ?_ | refine hP _ _ (by kernel_rfl) (fun _ => ?_)); clear hQ hP Q)
    | refine GW_block ?_
    | refine GW_ret ?_
    | refine GW_skip ?_
    | refine GW_exit ?_
    | refine GW_goto ?_
    | refine GW_label ?_
    | simp only [blockG_exit]
    | (refine GW_cond (by simp; rfl) ?_ ?_ <;> (intro hb; first | (exfalso; exact absurd hb (by decide)) | skip)))
  refine ⟨.inr trivial, ?_⟩
  simp [Tryd.results16, wi_zero]
@[simp] theorem rOf_z (a b : Int) (hz : b = 0) (K : Value → Prop) : callK Tryd.prog G0 16 #[Value.agg #[.int .u64 (wi (a) 0), .int .u64 (wi (a) 1), .int .u64 (wi (a) 2), .int .u64 (wi (a) 3)], Value.agg #[.int .u64 (wi (b) 0), .int .u64 (wi (b) 1), .int .u64 (wi (b) 2), .int .u64 (wi (b) 3)]] K ↔ K (.tuple #[wd 0, .int .i64 30]) := callK_iff G0W (by kernel_rfl) (rOf_z_ret a b hz)
theorem rHalf1_p (a b : Int) (ha : wr a) (hb : wr b) (h0 : 0 ≤ a) (hb0 : 0 < b) : Fun Tryd.prog G0 52 [.pointer (some ⟨200, 0, none⟩), .pointer (some ⟨208, 0, none⟩)].toArray (hp2 a b) [200, 208] (.ret (wd ((isq (a / b) + 1) / 2)) []) := by
  refine fun_of (B := 300) G0F (fun k hk => hpL_low (by simp) hk) Tryd.func52 rfl Tryd.call52 ?_ ?_ ⟨flatV_ids (by simp), by simp [keys], by simp, by simp⟩ (by simp [Tryd.ntmps52]) (by omega) ?_ ?_
  · rw [hp2_rst]; simp [hp2, dom]
  · rw [hp2_rst]; exact hp2_closed a b _
  · rw [hp2_rst]; exact hp2_free a b
  · intro C hC hC0 hY
    rw [hp2_rst] at hC0 ⊢
    obtain ⟨d1, d2⟩ := div_wr ha h0 hb0
    obtain ⟨q0, q1⟩ := isq_le _ d1 d2
    have q2 := (isq_spec _ d2).1
    have w2 : wr 2 := by unfold wr; omega
    have w1 : wr (isq (a / b) + 1) := ⟨Int.le_trans (by decide) (by omega : 0 ≤ isq (a / b) + 1), by omega⟩
    have wl : isq (a / b) + 1 ≠ lst := lst_ne (by omega)
    have i2 : i64 2 := by decide
    repeat' (first
      | refine GW_seq ?_
      | simp only [List.length_cons, List.length_nil, Nat.reduceAdd, Nat.reduceMul, thenG_normal, thenG_ret, thenG_exit, thenG_goto, thenG_panic, blockG_normal, blockG_ret, blockG_goto, blockG_panic, jumpG_normal, jumpG_ret, jumpG_exit, jumpG_panic]
      | (refine GW_region' [] (by kernel_rfl) ?_; intro Q hQ hP; simp [hC, hY, hp2, wb, ha, hb, h0, hb0, w1, wl, w2, i2]; (first | refine hQ _ _ _ _ ?_ | refine hP _ _ (fun _ => ?_)); clear hQ hP Q)
      | (refine GW_draw' [] follows (by kernel_rfl) (by kernel_rfl) ?_; intro Q hQ hP; simp [hC, hY, hp2, wb, ha, hb, h0, hb0, w1, wl, w2, i2]; (first | refine hQ _ _ _ _ (by kernel_rfl) ?_ | refine hP _ _ (by kernel_rfl) (fun _ => ?_)); clear hQ hP Q)
      | refine GW_block ?_
      | refine GW_ret ?_
      | refine GW_skip ?_
      | refine GW_exit ?_
      | refine GW_goto ?_
      | refine GW_label ?_
      | simp only [blockG_exit]
      | (refine GW_cond (by simp; rfl) ?_ ?_ <;> (intro hb; first | (exfalso; exact absurd hb (by decide)) | skip)))
    refine ⟨.inr rfl, by simp [Tryd.results52], fun k hk => ?_⟩
    have hk3 : k < 300 := Classical.byContradiction fun h => hk (hp2_free a _ k (by omega))
    simp (disch := omega) only [upd_far]
    rfl
theorem rHalf1_a (a b : Int) (ha : wr a) (hb : wr b) (hb0 : b ≠ 0) (h : a < 0 ∨ b < 0) : Fun Tryd.prog G0 52 [.pointer (some ⟨200, 0, none⟩), .pointer (some ⟨208, 0, none⟩)].toArray (hp2 a b) [200, 208] (.pan (erV 2)) := by
  refine fun_of (B := 300) G0F (fun k hk => hpL_low (by simp) hk) Tryd.func52 rfl Tryd.call52 ?_ ?_ trivial (by simp [Tryd.ntmps52]) (by omega) ?_ ?_
  · rw [hp2_rst]; simp [hp2, dom]
  · rw [hp2_rst]; exact hp2_closed a b _
  · rw [hp2_rst]; exact hp2_free a b
  · intro C hC hC0 hY
    rw [hp2_rst] at hC0 ⊢
    repeat' (first
      | refine GW_seq ?_
      | simp only [List.length_cons, List.length_nil, Nat.reduceAdd, Nat.reduceMul, thenG_normal, thenG_ret, thenG_exit, thenG_goto, thenG_panic, blockG_normal, blockG_ret, blockG_goto, blockG_panic, jumpG_normal, jumpG_ret, jumpG_exit, jumpG_panic]
      | (refine GW_region' [1000050] (by kernel_rfl) ?_; intro Q hQ hP; simp [hC, hY, hp2, wb]; (repeat (first | ((refine callP_of (of_arg a b ha hb hb0 h) ?_); try simp [hC, hY, hp2, wb]))); (first | refine hQ _ _ _ _ ?_ | refine hP _ _ (fun _ => ?_)); clear hQ hP Q)
      | (refine GW_draw' [1000050] follows (by kernel_rfl) (by kernel_rfl) ?_; intro Q hQ hP; simp [hC, hY, hp2, wb]; (repeat (first | ((refine callP_of (of_arg a b ha hb hb0 h) ?_); try simp [hC, hY, hp2, wb]))); (first | refine hQ _ _ _ _ (by kernel_rfl) ?_ | refine hP _ _ (by kernel_rfl) (fun _ => ?_)); clear hQ hP Q)
      | refine GW_block ?_
      | refine GW_ret ?_
      | refine GW_skip ?_
      | refine GW_exit ?_
      | refine GW_goto ?_
      | refine GW_label ?_
      | simp only [blockG_exit]
      | (refine GW_cond (by simp; rfl) ?_ ?_ <;> (intro hb; first | (exfalso; exact absurd hb (by decide)) | skip)))
    refine ⟨rfl, fun k hk => ?_⟩
    have hk3 : k < 300 := Classical.byContradiction fun h => hk (hp2_free a _ k (by omega))
    simp (disch := omega) only [upd_far]
    rfl
theorem rHalf1_z (a b : Int) (hz : b = 0) : Fun Tryd.prog G0 52 [.pointer (some ⟨200, 0, none⟩), .pointer (some ⟨208, 0, none⟩)].toArray (hp2 a b) [200, 208] (.pan (erV 30)) := by
  refine fun_of (B := 300) G0F (fun k hk => hpL_low (by simp) hk) Tryd.func52 rfl Tryd.call52 ?_ ?_ trivial (by simp [Tryd.ntmps52]) (by omega) ?_ ?_
  · rw [hp2_rst]; simp [hp2, dom]
  · rw [hp2_rst]; exact hp2_closed a b _
  · rw [hp2_rst]; exact hp2_free a b
  · intro C hC hC0 hY
    rw [hp2_rst] at hC0 ⊢
    subst hz
    repeat' (first
      | refine GW_seq ?_
      | simp only [List.length_cons, List.length_nil, Nat.reduceAdd, Nat.reduceMul, thenG_normal, thenG_ret, thenG_exit, thenG_goto, thenG_panic, blockG_normal, blockG_ret, blockG_goto, blockG_panic, jumpG_normal, jumpG_ret, jumpG_exit, jumpG_panic]
      | (refine GW_region' [1000050] (by kernel_rfl) ?_; intro Q hQ hP; simp [hC, hY, hp2, wb]; (repeat (first | ((refine callP_of (of_zero a) ?_); try simp [hC, hY, hp2, wb]))); (first | refine hQ _ _ _ _ ?_ | refine hP _ _ (fun _ => ?_)); clear hQ hP Q)
      | (refine GW_draw' [1000050] follows (by kernel_rfl) (by kernel_rfl) ?_; intro Q hQ hP; simp [hC, hY, hp2, wb]; (repeat (first | ((refine callP_of (of_zero a) ?_); try simp [hC, hY, hp2, wb]))); (first | refine hQ _ _ _ _ (by kernel_rfl) ?_ | refine hP _ _ (by kernel_rfl) (fun _ => ?_)); clear hQ hP Q)
      | refine GW_block ?_
      | refine GW_ret ?_
      | refine GW_skip ?_
      | refine GW_exit ?_
      | refine GW_goto ?_
      | refine GW_label ?_
      | simp only [blockG_exit]
      | (refine GW_cond (by simp; rfl) ?_ ?_ <;> (intro hb; first | (exfalso; exact absurd hb (by decide)) | skip)))
    refine ⟨rfl, fun k hk => ?_⟩
    have hk3 : k < 300 := Classical.byContradiction fun h => hk (hp2_free a _ k (by omega))
    simp (disch := omega) only [upd_far]
    rfl
theorem rHalf_p_ret (a b : Int) (ha : wr a) (hb : wr b) (h0 : 0 ≤ a) (hb0 : 0 < b) : Ret Tryd.prog G0 18 #[wd a, wd b] (.tuple #[wd ((isq (a / b) + 1) / 2), .int .i64 0]) := by
  refine ret_of G0F Tryd.func18 rfl Tryd.call18 (by simp) (by simp) (by simp [Tryd.ntmps18]) ?_
  intro C hC hC0 hY
  repeat' (first
    | refine GW_seq ?_
    | simp only [List.length_cons, List.length_nil, Nat.reduceAdd, Nat.reduceMul, thenG_normal, thenG_ret, thenG_exit, thenG_goto, thenG_panic, blockG_normal, blockG_ret, blockG_goto, blockG_panic, jumpG_normal, jumpG_ret, jumpG_exit, jumpG_panic]
    | (refine GW_region' [42] (by kernel_rfl) ?_; intro Q hQ hP; simp [hC, hY]; (repeat (first | ((refine heapK_of (hp' := hp2 a b) (rtold_ret (fun k hk => hpL_low (by simp) hk) (by simp) rfl (by simp) (rHalf1_p a b ha hb h0 hb0)) (by simp [hp2, wb]) (fun k hk => hpL_low (by simp) hk) trivial ?_); try simp [hC, hY]))); (first | refine hQ _ _ _ _ ?_ | refine hP _ _ (fun _ => ?_)); clear hQ hP Q)
    | (refine GW_draw' [42] follows (by kernel_rfl) (by kernel_rfl) ?_; intro Q hQ hP; simp [hC, hY]; (repeat (first | ((refine heapK_of (hp' := hp2 a b) (rtold_ret (fun k hk => hpL_low (by simp) hk) (by simp) rfl (by simp) (rHalf1_p a b ha hb h0 hb0)) (by simp [hp2, wb]) (fun k hk => hpL_low (by simp) hk) trivial ?_); try simp [hC, hY]))); (first | refine hQ _ _ _ _ (by kernel_rfl) ?_ | refine hP _ _ (by kernel_rfl) (fun _ => ?_)); clear hQ hP Q)
    | refine GW_block ?_
    | refine GW_ret ?_
    | refine GW_skip ?_
    | refine GW_exit ?_
    | refine GW_goto ?_
    | refine GW_label ?_
    | simp only [blockG_exit]
    | (refine GW_cond (by simp; rfl) ?_ ?_ <;> (intro hb; first | (exfalso; exact absurd hb (by decide)) | skip)))
  refine ⟨.inr trivial, ?_⟩
  simp [Tryd.results18, wi_zero]
@[simp] theorem rHalf_p (a b : Int) (ha : wr a) (hb : wr b) (h0 : 0 ≤ a) (hb0 : 0 < b) (K : Value → Prop) : callK Tryd.prog G0 18 #[Value.agg #[.int .u64 (wi (a) 0), .int .u64 (wi (a) 1), .int .u64 (wi (a) 2), .int .u64 (wi (a) 3)], Value.agg #[.int .u64 (wi (b) 0), .int .u64 (wi (b) 1), .int .u64 (wi (b) 2), .int .u64 (wi (b) 3)]] K ↔ K (.tuple #[wd ((isq (a / b) + 1) / 2), .int .i64 0]) := callK_iff G0W (by kernel_rfl) (rHalf_p_ret a b ha hb h0 hb0)
theorem rHalf_a_ret (a b : Int) (ha : wr a) (hb : wr b) (hb0 : b ≠ 0) (h : a < 0 ∨ b < 0) : Ret Tryd.prog G0 18 #[wd a, wd b] (.tuple #[wd 0, .int .i64 2]) := by
  refine ret_of G0F Tryd.func18 rfl Tryd.call18 (by simp) (by simp) (by simp [Tryd.ntmps18]) ?_
  intro C hC hC0 hY
  repeat' (first
    | refine GW_seq ?_
    | simp only [List.length_cons, List.length_nil, Nat.reduceAdd, Nat.reduceMul, thenG_normal, thenG_ret, thenG_exit, thenG_goto, thenG_panic, blockG_normal, blockG_ret, blockG_goto, blockG_panic, jumpG_normal, jumpG_ret, jumpG_exit, jumpG_panic]
    | (refine GW_region' [42] (by kernel_rfl) ?_; intro Q hQ hP; simp [hC, hY]; (repeat (first | ((refine heapK_of (hp' := hp2 a b) (rtold_pan (fun k hk => hpL_low (by simp) hk) (by simp) rfl (by simp) (rHalf1_a a b ha hb hb0 h)) (by simp [hp2, wb]) (fun k hk => hpL_low (by simp) hk) trivial ?_); try simp [hC, hY]))); (first | refine hQ _ _ _ _ ?_ | refine hP _ _ (fun _ => ?_)); clear hQ hP Q)
    | (refine GW_draw' [42] follows (by kernel_rfl) (by kernel_rfl) ?_; intro Q hQ hP; simp [hC, hY]; (repeat (first | ((refine heapK_of (hp' := hp2 a b) (rtold_pan (fun k hk => hpL_low (by simp) hk) (by simp) rfl (by simp) (rHalf1_a a b ha hb hb0 h)) (by simp [hp2, wb]) (fun k hk => hpL_low (by simp) hk) trivial ?_); try simp [hC, hY]))); (first | refine hQ _ _ _ _ (by kernel_rfl) ?_ | refine hP _ _ (by kernel_rfl) (fun _ => ?_)); clear hQ hP Q)
    | refine GW_block ?_
    | refine GW_ret ?_
    | refine GW_skip ?_
    | refine GW_exit ?_
    | refine GW_goto ?_
    | refine GW_label ?_
    | simp only [blockG_exit]
    | (refine GW_cond (by simp; rfl) ?_ ?_ <;> (intro hb; first | (exfalso; exact absurd hb (by decide)) | skip)))
  refine ⟨.inr trivial, ?_⟩
  simp [Tryd.results18, wi_zero]
@[simp] theorem rHalf_a (a b : Int) (ha : wr a) (hb : wr b) (hb0 : b ≠ 0) (h : a < 0 ∨ b < 0) (K : Value → Prop) : callK Tryd.prog G0 18 #[Value.agg #[.int .u64 (wi (a) 0), .int .u64 (wi (a) 1), .int .u64 (wi (a) 2), .int .u64 (wi (a) 3)], Value.agg #[.int .u64 (wi (b) 0), .int .u64 (wi (b) 1), .int .u64 (wi (b) 2), .int .u64 (wi (b) 3)]] K ↔ K (.tuple #[wd 0, .int .i64 2]) := callK_iff G0W (by kernel_rfl) (rHalf_a_ret a b ha hb hb0 h)
theorem rHalf_z_ret (a b : Int) (hz : b = 0) : Ret Tryd.prog G0 18 #[wd a, wd b] (.tuple #[wd 0, .int .i64 30]) := by
  refine ret_of G0F Tryd.func18 rfl Tryd.call18 (by simp) (by simp) (by simp [Tryd.ntmps18]) ?_
  intro C hC hC0 hY
  repeat' (first
    | refine GW_seq ?_
    | simp only [List.length_cons, List.length_nil, Nat.reduceAdd, Nat.reduceMul, thenG_normal, thenG_ret, thenG_exit, thenG_goto, thenG_panic, blockG_normal, blockG_ret, blockG_goto, blockG_panic, jumpG_normal, jumpG_ret, jumpG_exit, jumpG_panic]
    | (refine GW_region' [42] (by kernel_rfl) ?_; intro Q hQ hP; simp [hC, hY]; (repeat (first | ((refine heapK_of (hp' := hp2 a b) (rtold_pan (fun k hk => hpL_low (by simp) hk) (by simp) rfl (by simp) (rHalf1_z a b hz)) (by simp [hp2, wb]) (fun k hk => hpL_low (by simp) hk) trivial ?_); try simp [hC, hY]))); (first | refine hQ _ _ _ _ ?_ | refine hP _ _ (fun _ => ?_)); clear hQ hP Q)
    | (refine GW_draw' [42] follows (by kernel_rfl) (by kernel_rfl) ?_; intro Q hQ hP; simp [hC, hY]; (repeat (first | ((refine heapK_of (hp' := hp2 a b) (rtold_pan (fun k hk => hpL_low (by simp) hk) (by simp) rfl (by simp) (rHalf1_z a b hz)) (by simp [hp2, wb]) (fun k hk => hpL_low (by simp) hk) trivial ?_); try simp [hC, hY]))); (first | refine hQ _ _ _ _ (by kernel_rfl) ?_ | refine hP _ _ (by kernel_rfl) (fun _ => ?_)); clear hQ hP Q)
    | refine GW_block ?_
    | refine GW_ret ?_
    | refine GW_skip ?_
    | refine GW_exit ?_
    | refine GW_goto ?_
    | refine GW_label ?_
    | simp only [blockG_exit]
    | (refine GW_cond (by simp; rfl) ?_ ?_ <;> (intro hb; first | (exfalso; exact absurd hb (by decide)) | skip)))
  refine ⟨.inr trivial, ?_⟩
  simp [Tryd.results18, wi_zero]
@[simp] theorem rHalf_z (a b : Int) (hz : b = 0) (K : Value → Prop) : callK Tryd.prog G0 18 #[Value.agg #[.int .u64 (wi (a) 0), .int .u64 (wi (a) 1), .int .u64 (wi (a) 2), .int .u64 (wi (a) 3)], Value.agg #[.int .u64 (wi (b) 0), .int .u64 (wi (b) 1), .int .u64 (wi (b) 2), .int .u64 (wi (b) 3)]] K ↔ K (.tuple #[wd 0, .int .i64 30]) := callK_iff G0W (by kernel_rfl) (rHalf_z_ret a b hz)
theorem wInt_z_ret : Ret Tryd.prog G0 56 #[.agg #[.int .u64 0, .int .u64 0, .int .u64 0, .int .u64 0]] (.tuple #[.int .i64 0, .bool true]) := by
  have h := wint_ret 0
  have e : sz 0 = 0 := by decide
  have i0 : i64 0 := by decide
  simpa [e, i0, wi_zero] using h
@[simp] theorem wIntz (K : Value → Prop) : callK Tryd.prog G0 56 #[.agg #[.int .u64 0, .int .u64 0, .int .u64 0, .int .u64 0]] K ↔ K (.tuple #[.int .i64 0, .bool true]) := callK_iff G0W (by kernel_rfl) wInt_z_ret
theorem i64_wr {n : Int} (h : i64 n) : wr n := by unfold i64 at h; unfold wr; omega
theorem rInt_p_ret (n : Int) (h : i64 n) (h0 : 0 ≤ n) : Ret Tryd.prog G0 20 #[.int .i64 n] (.tuple #[.int .i64 (isq n), .int .i64 0]) := by
  refine ret_of G0F Tryd.func20 rfl Tryd.call20 (by simp) (by simp) (by simp [Tryd.ntmps20]) ?_
  intro C hC hC0 hY
  have hw := i64_wr h
  have hs := isq_spec n h0
  have hi : i64 (sz (isq n)) := by
    rw [wr_sz (isq_le n hw h0).2]
    unfold i64 at h ⊢
    have := sq_bd (x := isq n) 9223372036854775808 hs.1 (by decide) (by omega)
    omega
  have hz : sz (isq n) = isq n := wr_sz (isq_le n hw h0).2
  rw [hz] at hi
  repeat' (first
    | refine GW_seq ?_
    | simp only [List.length_cons, List.length_nil, Nat.reduceAdd, Nat.reduceMul, thenG_normal, thenG_ret, thenG_exit, thenG_goto, thenG_panic, blockG_normal, blockG_ret, blockG_goto, blockG_panic, jumpG_normal, jumpG_ret, jumpG_exit, jumpG_panic]
    | (refine GW_region' [] (by kernel_rfl) ?_; intro Q hQ hP; simp [hC, hY, h, hw, h0, hi, hz]; (first | refine hQ _ _ _ _ ?_ | refine hP _ _ (fun _ => ?_)); clear hQ hP Q)
    | (refine GW_draw' [] follows (by kernel_rfl) (by kernel_rfl) ?_; intro Q hQ hP; simp [hC, hY, h, hw, h0, hi, hz]; (first | refine hQ _ _ _ _ (by kernel_rfl) ?_ | refine hP _ _ (by kernel_rfl) (fun _ => ?_)); clear hQ hP Q)
    | refine GW_block ?_
    | refine GW_ret ?_
    | refine GW_skip ?_
    | refine GW_exit ?_
    | refine GW_goto ?_
    | refine GW_label ?_
    | simp only [blockG_exit]
    | (refine GW_cond (by simp; rfl) ?_ ?_ <;> (intro hb; first | (exfalso; exact absurd hb (by decide)) | skip)))
  refine ⟨.inr trivial, ?_⟩
  simp [Tryd.results20]
theorem rInt_n_ret (n : Int) (h : i64 n) (h0 : n < 0) : Ret Tryd.prog G0 20 #[.int .i64 n] (.tuple #[.int .i64 0, .int .i64 2]) := by
  refine ret_of G0F Tryd.func20 rfl Tryd.call20 (by simp) (by simp) (by simp [Tryd.ntmps20]) ?_
  intro C hC hC0 hY
  have hw := i64_wr h
  have e : sz 0 = 0 := by decide
  have i0 : i64 0 := by decide
  repeat' (first
    | refine GW_seq ?_
    | simp only [List.length_cons, List.length_nil, Nat.reduceAdd, Nat.reduceMul, thenG_normal, thenG_ret, thenG_exit, thenG_goto, thenG_panic, blockG_normal, blockG_ret, blockG_goto, blockG_panic, jumpG_normal, jumpG_ret, jumpG_exit, jumpG_panic]
    | (refine GW_region' [] (by kernel_rfl) ?_; intro Q hQ hP; simp [hC, hY, h, hw, h0, e, i0]; (first | refine hQ _ _ _ _ ?_ | refine hP _ _ (fun _ => ?_)); clear hQ hP Q)
    | (refine GW_draw' [] follows (by kernel_rfl) (by kernel_rfl) ?_; intro Q hQ hP; simp [hC, hY, h, hw, h0, e, i0]; (first | refine hQ _ _ _ _ (by kernel_rfl) ?_ | refine hP _ _ (by kernel_rfl) (fun _ => ?_)); clear hQ hP Q)
    | refine GW_block ?_
    | refine GW_ret ?_
    | refine GW_skip ?_
    | refine GW_exit ?_
    | refine GW_goto ?_
    | refine GW_label ?_
    | simp only [blockG_exit]
    | (refine GW_cond (by simp; rfl) ?_ ?_ <;> (intro hb; first | (exfalso; exact absurd hb (by decide)) | skip)))
  refine ⟨.inr trivial, ?_⟩
  simp [Tryd.results20]
@[simp] theorem rInt_p (n : Int) (h : i64 n) (h0 : 0 ≤ n) (K : Value → Prop) : callK Tryd.prog G0 20 #[.int .i64 n] K ↔ K (.tuple #[.int .i64 (isq n), .int .i64 0]) := callK_iff G0W (by kernel_rfl) (rInt_p_ret n h h0)
@[simp] theorem rInt_n (n : Int) (h : i64 n) (h0 : n < 0) (K : Value → Prop) : callK Tryd.prog G0 20 #[.int .i64 n] K ↔ K (.tuple #[.int .i64 0, .int .i64 2]) := callK_iff G0W (by kernel_rfl) (rInt_n_ret n h h0)
end Go.Gy
