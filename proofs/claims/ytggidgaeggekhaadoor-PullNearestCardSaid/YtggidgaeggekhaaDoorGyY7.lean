/-
  Contracts: quot.floor.
  Conditions: none.
-/
import Derived.Test.YtggidgaeggekhaaDoorGyY6
namespace Go.Gy
set_option linter.unusedSimpArgs false
set_option linter.unusedVariables false
open Go Go.RowKit Go.Proofs
theorem ret_of_retp {P : Program} {G : Hp} {f : FuncId} {args : Array Value} {v : Value} (h : RetP P G f args (.ret v)) : Ret P G f args v := ⟨h.1 v rfl, h.2.1, h.2.2.1, h.2.2.2⟩
@[simp] theorem qmust (n : Int) (K : Value → Prop) : callK Tryd.prog G0 108 #[.bool true, .int .i64 n] K ↔ K (.tuple #[]) := callK_iff G0W (by kernel_rfl) (ret_of_retp (must_t n))
@[simp] theorem qsure (z : Int) (K : Value → Prop) : callK Tryd.prog G0 109 #[Value.agg #[.int .u64 (wi (z) 0), .int .u64 (wi (z) 1), .int .u64 (wi (z) 2), .int .u64 (wi (z) 3)], .bool false] K ↔ K (wd z) := callK_iff G0W (by kernel_rfl) (ret_of_retp (sure_f z))
/-- In the range of the signed numbers. -/
def wr (z : Int) : Prop := -57896044618658097711785492504343953926634992332820282019728792003956564819968 ≤ z ∧ z < 57896044618658097711785492504343953926634992332820282019728792003956564819968
theorem wr_sz {z : Int} (h : wr z) : sz z = z := sz_id h.1 h.2
theorem wr_ng {z : Int} (h : wr z) : ng z = decide (z < 0) := by rw [ng_sz, wr_sz h]
theorem ng_f {z : Int} (h : wr z) (h0 : 0 ≤ z) : ng z = false := by rw [wr_ng h]; simp; exact h0
theorem ng_t {z : Int} (h : wr z) (h0 : z < 0) : ng z = true := by rw [wr_ng h]; simp; exact h0
theorem least_ne (z : Int) (h : wr z) (h1 : z ≠ -57896044618658097711785492504343953926634992332820282019728792003956564819968) : (!wi z 0 == 0 || (!wi z 1 == 0 || (!wi z 2 == 0 || !wi z 3 == 9223372036854775808))) = true := by
  refine Classical.byContradiction fun hn => h1 ?_
  simp at hn
  obtain ⟨w0, w1, w2, w3⟩ := hn
  rw [← wr_sz h, sz_w, w0, w1, w2, w3]
  unfold ng; rw [w3]; decide
theorem least_eq : (!wi (-57896044618658097711785492504343953926634992332820282019728792003956564819968) 0 == 0 || (!wi (-57896044618658097711785492504343953926634992332820282019728792003956564819968) 1 == 0 || (!wi (-57896044618658097711785492504343953926634992332820282019728792003956564819968) 2 == 0 || !wi (-57896044618658097711785492504343953926634992332820282019728792003956564819968) 3 == 9223372036854775808))) = false := by decide
theorem wr_ne {z : Int} (h : wr z) (h0 : z ≠ 0) : (!wi z 0 == 0 || (!wi z 1 == 0 || (!wi z 2 == 0 || !wi z 3 == 0))) = true := words_ne z (by rw [wr_sz h]; exact h0)
theorem i64_1 : i64 1 := by decide
def lst : Int := -57896044618658097711785492504343953926634992332820282019728792003956564819968

theorem floor_zero (a : Int) : RetP Tryd.prog G0 91 #[wd a, wd 0] (.pan (erV 30)) := by
  refine retp_of G0F Tryd.func91 rfl Tryd.call91 (fun v h => by cases h) (by simp) (by simp [Tryd.ntmps91]) ?_
  intro C hC hC0 hY
  repeat' (first
    | refine GW_seq ?_
    | simp only [List.length_cons, List.length_nil, Nat.reduceAdd, Nat.reduceMul, thenG_normal, thenG_ret, thenG_exit, thenG_goto, thenG_panic, blockG_normal, blockG_ret, blockG_goto, blockG_panic, jumpG_normal, jumpG_ret, jumpG_exit, jumpG_panic]
    | (refine GW_region' [1000108] (by kernel_rfl) ?_; intro Q hQ hP; simp [hC, hY, wi_zero]; (repeat (first | ((refine callP_of (must_f 30) ?_); try simp [hC, hY, wi_zero]))); (first | refine hQ _ _ _ _ ?_ | refine hP _ _ (fun _ => ?_)); clear hQ hP Q)
    | (refine GW_draw' [1000108] follows (by kernel_rfl) (by kernel_rfl) ?_; intro Q hQ hP; simp [hC, hY, wi_zero]; (repeat (first | ((refine callP_of (must_f 30) ?_); try simp [hC, hY, wi_zero]))); (first | refine hQ _ _ _ _ (by kernel_rfl) ?_ | refine hP _ _ (by kernel_rfl) (fun _ => ?_)); clear hQ hP Q)
    | refine GW_block ?_
    | refine GW_ret ?_
    | refine GW_skip ?_
    | refine GW_exit ?_
    | refine GW_goto ?_
    | refine GW_label ?_
    | simp only [blockG_exit]
    | (refine GW_cond (by simp; rfl) ?_ ?_ <;> (intro hb; first | (exfalso; exact absurd hb (by decide)) | skip)))
  rfl
theorem floor_over (a b : Int) (ha : wr a) (hb : wr b) (h0 : b ≠ 0) (h : a = lst ∨ b = lst) : RetP Tryd.prog G0 91 #[wd a, wd b] (.pan (erV 20)) := by
  refine retp_of G0F Tryd.func91 rfl Tryd.call91 (fun v h => by cases h) (by simp) (by simp [Tryd.ntmps91]) ?_
  intro C hC hC0 hY
  have hz := wr_ne hb h0
  have hl := least_eq
  by_cases h1 : a = lst
  · subst h1
    change (!wi lst 0 == 0 || (!wi lst 1 == 0 || (!wi lst 2 == 0 || !wi lst 3 == 9223372036854775808))) = false at hl
    repeat' (first
      | refine GW_seq ?_
      | simp only [List.length_cons, List.length_nil, Nat.reduceAdd, Nat.reduceMul, thenG_normal, thenG_ret, thenG_exit, thenG_goto, thenG_panic, blockG_normal, blockG_ret, blockG_goto, blockG_panic, jumpG_normal, jumpG_ret, jumpG_exit, jumpG_panic]
      | (refine GW_region' [1000108] (by kernel_rfl) ?_; intro Q hQ hP; simp [hC, hY, hz, hl, lsB]; (repeat (first | ((refine callP_of (must_t 30) ?_); try simp [hC, hY, hz, hl, lsB]) | ((refine callP_of (must_f 20) ?_); try simp [hC, hY, hz, hl, lsB]))); (first | refine hQ _ _ _ _ ?_ | refine hP _ _ (fun _ => ?_)); clear hQ hP Q)
      | (refine GW_draw' [1000108] follows (by kernel_rfl) (by kernel_rfl) ?_; intro Q hQ hP; simp [hC, hY, hz, hl, lsB]; (repeat (first | ((refine callP_of (must_t 30) ?_); try simp [hC, hY, hz, hl, lsB]) | ((refine callP_of (must_f 20) ?_); try simp [hC, hY, hz, hl, lsB]))); (first | refine hQ _ _ _ _ (by kernel_rfl) ?_ | refine hP _ _ (by kernel_rfl) (fun _ => ?_)); clear hQ hP Q)
      | refine GW_block ?_
      | refine GW_ret ?_
      | refine GW_skip ?_
      | refine GW_exit ?_
      | refine GW_goto ?_
      | refine GW_label ?_
      | simp only [blockG_exit]
      | (refine GW_cond (by simp; rfl) ?_ ?_ <;> (intro hb; first | (exfalso; exact absurd hb (by decide)) | skip)))
    rfl
  · obtain rfl := h.resolve_left h1
    change (!wi lst 0 == 0 || (!wi lst 1 == 0 || (!wi lst 2 == 0 || !wi lst 3 == 9223372036854775808))) = false at hl
    have hn := least_ne a ha h1
    repeat' (first
      | refine GW_seq ?_
      | simp only [List.length_cons, List.length_nil, Nat.reduceAdd, Nat.reduceMul, thenG_normal, thenG_ret, thenG_exit, thenG_goto, thenG_panic, blockG_normal, blockG_ret, blockG_goto, blockG_panic, jumpG_normal, jumpG_ret, jumpG_exit, jumpG_panic]
      | (refine GW_region' [1000108] (by kernel_rfl) ?_; intro Q hQ hP; simp [hC, hY, hz, hl, hn, lsB]; (repeat (first | ((refine callP_of (must_t 30) ?_); try simp [hC, hY, hz, hl, hn, lsB]) | ((refine callP_of (must_f 20) ?_); try simp [hC, hY, hz, hl, hn, lsB]))); (first | refine hQ _ _ _ _ ?_ | refine hP _ _ (fun _ => ?_)); clear hQ hP Q)
      | (refine GW_draw' [1000108] follows (by kernel_rfl) (by kernel_rfl) ?_; intro Q hQ hP; simp [hC, hY, hz, hl, hn, lsB]; (repeat (first | ((refine callP_of (must_t 30) ?_); try simp [hC, hY, hz, hl, hn, lsB]) | ((refine callP_of (must_f 20) ?_); try simp [hC, hY, hz, hl, hn, lsB]))); (first | refine hQ _ _ _ _ (by kernel_rfl) ?_ | refine hP _ _ (by kernel_rfl) (fun _ => ?_)); clear hQ hP Q)
      | refine GW_block ?_
      | refine GW_ret ?_
      | refine GW_skip ?_
      | refine GW_exit ?_
      | refine GW_goto ?_
      | refine GW_label ?_
      | simp only [blockG_exit]
      | (refine GW_cond (by simp; rfl) ?_ ?_ <;> (intro hb; first | (exfalso; exact absurd hb (by decide)) | skip)))
    rfl
set_option maxHeartbeats 2000000 in
theorem floor_pp (a b : Int) (ha : wr a) (hb : wr b) (h0 : 0 < b) (ha0 : 0 ≤ a) : Ret Tryd.prog G0 91 #[wd a, wd b] (.tuple #[wd (a.fdiv b), wd (a.fmod b)]) := by
  refine ret_of G0F Tryd.func91 rfl Tryd.call91 (by simp) (by simp) (by simp [Tryd.ntmps91]) ?_
  intro C hC hC0 hY
  have hz := wr_ne hb (by omega)
  have hn1 := least_ne a ha (by omega)
  have hn2 := least_ne b hb (by omega)
  have s1 : ¬ cmpI (sz b) 0 < 0 := by rw [wr_sz hb]; unfold cmpI; split <;> (try split) <;> omega
  have s2 : ¬ cmpI (sz a) 0 < 0 := by rw [wr_sz ha]; unfold cmpI; split <;> (try split) <;> omega
  have hbu : b < 57896044618658097711785492504343953926634992332820282019728792003956564819968 := hb.2
  have hau : a < 57896044618658097711785492504343953926634992332820282019728792003956564819968 := ha.2
  have e1 : a.fdiv b = a / b := Int.fdiv_eq_ediv_of_nonneg a (by omega)
  have e2 : a.fmod b = a % b := Int.fmod_eq_emod_of_nonneg a (by omega)
  repeat' (first
    | refine GW_seq ?_
    | simp only [List.length_cons, List.length_nil, Nat.reduceAdd, Nat.reduceMul, thenG_normal, thenG_ret, thenG_exit, thenG_goto, thenG_panic, blockG_normal, blockG_ret, blockG_goto, blockG_panic, jumpG_normal, jumpG_ret, jumpG_exit, jumpG_panic]
    | (refine GW_region' [] (by kernel_rfl) ?_; intro Q hQ hP; simp [hC, hY, hz, hn1, hn2, s1, s2, lsB, ha0, hau, h0, hbu]; (first | refine hQ _ _ _ _ ?_ | refine hP _ _ (fun _ => ?_)); clear hQ hP Q)
    | (refine GW_draw' [] follows (by kernel_rfl) (by kernel_rfl) ?_; intro Q hQ hP; simp [hC, hY, hz, hn1, hn2, s1, s2, lsB, ha0, hau, h0, hbu]; (first | refine hQ _ _ _ _ (by kernel_rfl) ?_ | refine hP _ _ (by kernel_rfl) (fun _ => ?_)); clear hQ hP Q)
    | refine GW_block ?_
    | refine GW_ret ?_
    | refine GW_skip ?_
    | refine GW_exit ?_
    | refine GW_goto ?_
    | refine GW_label ?_
    | simp only [blockG_exit]
    | (refine GW_cond (by simp; rfl) ?_ ?_ <;> (intro hb; first | (exfalso; exact absurd hb (by decide)) | skip)))
  refine ⟨.inr trivial, ?_⟩
  simp [Tryd.results91, e1, e2]
theorem neg_fdiv (m b : Int) (hb : 0 < b) : (-(m + 1)).fdiv b = -(m / b) - 1 ∧ (-(m + 1)).fmod b = b - 1 - m % b := by
  have h1 := Int.emod_add_mul_ediv m b
  have h2 := Int.emod_nonneg m (b := b) (by omega)
  have h3 := Int.emod_lt_of_pos m hb
  have e : -(m + 1) = (b - 1 - m % b) + b * (-(m / b) - 1) := by rw [Int.mul_sub, Int.mul_neg]; omega
  rw [Int.fdiv_eq_ediv_of_nonneg _ (by omega), Int.fmod_eq_emod_of_nonneg _ (by omega)]
  constructor
  · rw [e, Int.add_mul_ediv_left _ _ (by omega), Int.ediv_eq_zero_of_lt (by omega) (by omega)]; omega
  · rw [e, Int.add_mul_emod_self_left, Int.emod_eq_of_lt (by omega) (by omega)]
set_option maxHeartbeats 2000000 in
theorem floor_np (m b : Int) (ha : wr (-(m + 1))) (hal : -(m + 1) ≠ lst) (hb : wr b) (h0 : 0 < b) (hm0 : 0 ≤ m) : Ret Tryd.prog G0 91 #[wd (-(m + 1)), wd b] (.tuple #[wd ((-(m + 1)).fdiv b), wd ((-(m + 1)).fmod b)]) := by
  refine ret_of G0F Tryd.func91 rfl Tryd.call91 (by simp) (by simp) (by simp [Tryd.ntmps91]) ?_
  intro C hC hC0 hY
  obtain ⟨d1, d2⟩ := neg_fdiv m b h0
  rw [d1, d2]
  generalize ea : -(m + 1) = a at *
  have hz := wr_ne hb (by omega)
  have hn1 := least_ne a ha hal
  have hn2 := least_ne b hb (by omega)
  have s1 : ¬ cmpI (sz b) 0 < 0 := by rw [wr_sz hb]; unfold cmpI; split <;> (try split) <;> omega
  have s2 : cmpI (sz a) 0 < 0 := by rw [wr_sz ha]; unfold cmpI; split <;> (try split) <;> omega
  have hbu : b < 57896044618658097711785492504343953926634992332820282019728792003956564819968 := hb.2
  have hmu : m < 57896044618658097711785492504343953926634992332820282019728792003956564819968 := by have := ha.1; unfold lst at hal; omega
  have hq0 : 0 ≤ m / b := Int.ediv_nonneg hm0 (by omega)
  have hq1 : m / b ≤ m := Int.ediv_le_self b hm0
  have hr0 : 0 ≤ m % b := Int.emod_nonneg m (by omega)
  have hr1 : m % b < b := Int.emod_lt_of_pos m h0
  have em : -(a + 1) = m := by omega
  have f1 : (ng a == ng 1 && ng (a + 1) != ng a) = false := by
    rw [ng_t ha (by omega), ng_f (z := 1) (by unfold wr; omega) (by omega)]; rfl
  have f2 : (ng (a + 1) && ng m) = false := by rw [ng_f (z := m) (by unfold wr; omega) hm0]; simp
  have f3 : (ng (m / b) && ng (-(m / b))) = false := by rw [ng_f (z := m / b) (by unfold wr; omega) hq0]; simp
  have f4 : (ng (-(m / b)) != ng 1 && ng (-(m / b) - 1) != ng (-(m / b))) = false := by
    rw [ng_f (z := 1) (by unfold wr; omega) (by omega), ng_t (z := -(m / b) - 1) (by unfold wr; omega) (by omega)]
    cases ng (-(m / b)) <;> rfl
  have f5 : (ng b != ng 1 && ng (b - 1) != ng b) = false := by
    rw [ng_f hb (by omega), ng_f (z := 1) (by unfold wr; omega) (by omega)]; rfl
  have f6 : (ng (b - 1) != ng (m % b) && ng (b - 1 - m % b) != ng (b - 1)) = false := by
    rw [ng_f (z := b - 1) (by unfold wr; have := hb.2; omega) (by omega), ng_f (z := m % b) (by unfold wr; omega) hr0]; rfl
  have i1 := i64_1
  repeat' (first
    | refine GW_seq ?_
    | simp only [List.length_cons, List.length_nil, Nat.reduceAdd, Nat.reduceMul, thenG_normal, thenG_ret, thenG_exit, thenG_goto, thenG_panic, blockG_normal, blockG_ret, blockG_goto, blockG_panic, jumpG_normal, jumpG_ret, jumpG_exit, jumpG_panic]
    | (refine GW_region' [] (by kernel_rfl) ?_; intro Q hQ hP; simp [hC, hY, hz, hn1, hn2, s1, s2, lsB, h0, hbu, hm0, hmu, em, f1, f2, f3, f4, f5, f6, i1]; (first | refine hQ _ _ _ _ ?_ | refine hP _ _ (fun _ => ?_)); clear hQ hP Q)
    | (refine GW_draw' [] follows (by kernel_rfl) (by kernel_rfl) ?_; intro Q hQ hP; simp [hC, hY, hz, hn1, hn2, s1, s2, lsB, h0, hbu, hm0, hmu, em, f1, f2, f3, f4, f5, f6, i1]; (first | refine hQ _ _ _ _ (by kernel_rfl) ?_ | refine hP _ _ (by kernel_rfl) (fun _ => ?_)); clear hQ hP Q)
    | refine GW_block ?_
    | refine GW_ret ?_
    | refine GW_skip ?_
    | refine GW_exit ?_
    | refine GW_goto ?_
    | refine GW_label ?_
    | simp only [blockG_exit]
    | (refine GW_cond (by simp; rfl) ?_ ?_ <;> (intro hb; first | (exfalso; exact absurd hb (by decide)) | skip)))
  refine ⟨.inr trivial, ?_⟩
  simp [Tryd.results91]
theorem upd_far {α : Type} {f : Nat → α} {x k : Nat} {v : α} (h : k < x) : upd f x v k = f k := upd_other f v (by omega)
/-- Where the divisor is above 0. -/
theorem floor_ret (a b : Int) (ha : wr a) (hal : a ≠ lst) (hb : wr b) (h0 : 0 < b) : Ret Tryd.prog G0 91 #[wd a, wd b] (.tuple #[wd (a / b), wd (a % b)]) := by
  rw [← Int.fdiv_eq_ediv_of_nonneg a (Int.le_of_lt h0), ← Int.fmod_eq_emod_of_nonneg a (Int.le_of_lt h0)]
  by_cases ha0 : 0 ≤ a
  · exact floor_pp a b ha hb h0 ha0
  · obtain ⟨m, rfl⟩ : ∃ m, a = -(m + 1) := ⟨-a - 1, by omega⟩
    exact floor_np m b ha hal hb h0 (by omega)
@[simp] theorem qfloor (a b : Int) (ha : wr a) (hal : a ≠ lst) (hb : wr b) (h0 : 0 < b) (K : Value → Prop) : callK Tryd.prog G0 91 #[Value.agg #[.int .u64 (wi (a) 0), .int .u64 (wi (a) 1), .int .u64 (wi (a) 2), .int .u64 (wi (a) 3)], Value.agg #[.int .u64 (wi (b) 0), .int .u64 (wi (b) 1), .int .u64 (wi (b) 2), .int .u64 (wi (b) 3)]] K ↔ K (.tuple #[wd (a / b), wd (a % b)]) :=
  callK_iff G0W (by kernel_rfl) (floor_ret a b ha hal hb h0)
def hp2 (a b : Int) : Hp := hpL G0 [(200, wb a), (208, wb b)]
theorem hp2_rst (a b : Int) : rst (hp2 a b) [200, 208] = hp2 a b := hpL_rst G0F (by simp)
theorem hp2_closed (a b : Int) (D : Nat → Prop) (k : Nat) (c : Blk) (h : hp2 a b k = some c) : c.ids D := by
  rcases hpL_mem h with h | h
  · simp at h
    rcases h with ⟨_, rfl⟩ | ⟨_, rfl⟩ <;> simp [wb]
  · exact G0_closed _ _ _ h
theorem hp2_free (a b : Int) (x : Nat) (hx : 300 ≤ x) : hp2 a b x = none := by
  simp [hp2, show ¬ x = 200 by omega, show ¬ x = 208 by omega, show 100 ≤ x by omega]
theorem Floor1_fun (a b : Int) (ha : wr a) (hal : a ≠ lst) (hb : wr b) (h0 : 0 < b) : Fun Tryd.prog G0 90 [.pointer (some ⟨200, 0, none⟩), .pointer (some ⟨208, 0, none⟩)].toArray (hp2 a b) [200, 208] (.ret (wd (a / b)) []) := by
  refine fun_of (B := 300) G0F (fun k hk => hpL_low (by simp) hk) Tryd.func90 rfl Tryd.call90 ?_ ?_ ⟨flatV_ids (by simp), by simp [keys], by simp, by simp⟩ (by simp [Tryd.ntmps90]) (by omega) ?_ ?_
  · rw [hp2_rst]; simp [hp2, dom]
  · rw [hp2_rst]; exact hp2_closed a b _
  · rw [hp2_rst]; exact hp2_free a b
  · intro C hC hC0 hY
    rw [hp2_rst] at hC0 ⊢
    repeat' (first
      | refine GW_seq ?_
      | simp only [List.length_cons, List.length_nil, Nat.reduceAdd, Nat.reduceMul, thenG_normal, thenG_ret, thenG_exit, thenG_goto, thenG_panic, blockG_normal, blockG_ret, blockG_goto, blockG_panic, jumpG_normal, jumpG_ret, jumpG_exit, jumpG_panic]
      | (refine GW_region' [] (by kernel_rfl) ?_; intro Q hQ hP; simp [hC, hY, hp2, wb, ha, hal, hb, h0]; (first | refine hQ _ _ _ _ ?_ | refine hP _ _ (fun _ => ?_)); clear hQ hP Q)
      | (refine GW_draw' [] follows (by kernel_rfl) (by kernel_rfl) ?_; intro Q hQ hP; simp [hC, hY, hp2, wb, ha, hal, hb, h0]; (first | refine hQ _ _ _ _ (by kernel_rfl) ?_ | refine hP _ _ (by kernel_rfl) (fun _ => ?_)); clear hQ hP Q)
      | refine GW_block ?_
      | refine GW_ret ?_
      | refine GW_skip ?_
      | refine GW_exit ?_
      | refine GW_goto ?_
      | refine GW_label ?_
      | simp only [blockG_exit]
      | (refine GW_cond (by simp; rfl) ?_ ?_ <;> (intro hb; first | (exfalso; exact absurd hb (by decide)) | skip)))
    refine ⟨.inr rfl, by simp [Tryd.results90], fun k hk => ?_⟩
    have hk3 : k < 300 := Classical.byContradiction fun h => hk (hp2_free a b k (by omega))
    simp (disch := omega) only [upd_far]
    rfl
theorem qFloor_ret (a b : Int) (ha : wr a) (hal : a ≠ lst) (hb : wr b) (h0 : 0 < b) : Ret Tryd.prog G0 53 #[wd a, wd b] (.tuple #[wd (a / b), .int .i64 0]) := by
  refine ret_of G0F Tryd.func53 rfl Tryd.call53 (by simp) (by simp) (by simp [Tryd.ntmps53]) ?_
  intro C hC hC0 hY
  repeat' (first
    | refine GW_seq ?_
    | simp only [List.length_cons, List.length_nil, Nat.reduceAdd, Nat.reduceMul, thenG_normal, thenG_ret, thenG_exit, thenG_goto, thenG_panic, blockG_normal, blockG_ret, blockG_goto, blockG_panic, jumpG_normal, jumpG_ret, jumpG_exit, jumpG_panic]
    | (refine GW_region' [89] (by kernel_rfl) ?_; intro Q hQ hP; simp [hC, hY]; (repeat (first | ((refine heapK_of (hp' := hp2 a b) (qtold_ret (fun k hk => hpL_low (by simp) hk) (by simp) rfl (by simp) (Floor1_fun a b ha hal hb h0)) (by simp [hp2, wb]) (fun k hk => hpL_low (by simp) hk) trivial ?_); try simp [hC, hY]))); (first | refine hQ _ _ _ _ ?_ | refine hP _ _ (fun _ => ?_)); clear hQ hP Q)
    | (refine GW_draw' [89] follows (by kernel_rfl) (by kernel_rfl) ?_; intro Q hQ hP; simp [hC, hY]; (repeat (first | ((refine heapK_of (hp' := hp2 a b) (qtold_ret (fun k hk => hpL_low (by simp) hk) (by simp) rfl (by simp) (Floor1_fun a b ha hal hb h0)) (by simp [hp2, wb]) (fun k hk => hpL_low (by simp) hk) trivial ?_); try simp [hC, hY]))); (first | refine hQ _ _ _ _ (by kernel_rfl) ?_ | refine hP _ _ (by kernel_rfl) (fun _ => ?_)); clear hQ hP Q)
    | refine GW_block ?_
    | refine GW_ret ?_
    | refine GW_skip ?_
    | refine GW_exit ?_
    | refine GW_goto ?_
    | refine GW_label ?_
    | simp only [blockG_exit]
    | (refine GW_cond (by simp; rfl) ?_ ?_ <;> (intro hb; first | (exfalso; exact absurd hb (by decide)) | skip)))
  refine ⟨.inr trivial, ?_⟩
  simp [Tryd.results53]
@[simp] theorem qFloor (a b : Int) (ha : wr a) (hal : a ≠ lst) (hb : wr b) (h0 : 0 < b) (K : Value → Prop) : callK Tryd.prog G0 53 #[Value.agg #[.int .u64 (wi (a) 0), .int .u64 (wi (a) 1), .int .u64 (wi (a) 2), .int .u64 (wi (a) 3)], Value.agg #[.int .u64 (wi (b) 0), .int .u64 (wi (b) 1), .int .u64 (wi (b) 2), .int .u64 (wi (b) 3)]] K ↔ K (.tuple #[wd (a / b), .int .i64 0]) :=
  callK_iff G0W (by kernel_rfl) (qFloor_ret a b ha hal hb h0)
end Go.Gy
