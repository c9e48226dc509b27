/-
  Contracts of wide: Cmp, Sign.
  Conditions: none.
-/
import Derived.Test.YtggidgaeggekhaaDoorGyX5
namespace Go.Gy
set_option linter.unusedSimpArgs false
set_option linter.unusedVariables false
open Go Go.RowKit Go.Proofs

def cmpN (a b : Int) (j : Nat) : Int := if j = 0 then cmpI (Int.bmod (wi a 3) 18446744073709551616) (Int.bmod (wi b 3) 18446744073709551616) else cmpI (wi a (3 - j)) (wi b (3 - j))
def wcmpSt (a b : Int) (j : Nat) : GS :=
  ⟨tsL [(2, .pointer (some ⟨200, 0, none⟩)), (3, .pointer (some ⟨208, 0, none⟩)), (5, .int .i64 (cmpN a b j)), (6, .int .i64 (2 - j))], hpL G0 [(200, wb a), (208, wb b)], 300, 0⟩
theorem cmpI_0 {x y : Int} : cmpI x y = 0 ↔ x = y := by unfold cmpI; split <;> (try split) <;> omega
theorem bm3 (z : Int) : Int.bmod (wi z 3) 18446744073709551616 = wi z 3 - (if ng z then 18446744073709551616 else 0) := by
  have := wi_ge z 3; have := wi_lt z 3
  rw [Int.bmod_def]; unfold ng; simp only [decide_eq_true_eq]; split <;> split <;> omega
/-- The signed number, by its highest word and the rest. -/
theorem sz_hi (z : Int) : ∃ r, sz z = Int.bmod (wi z 3) 18446744073709551616 * 6277101735386680763835789423207666416102355444464034512896 + r ∧ r = wi z 0 + 18446744073709551616 * wi z 1 + 340282366920938463463374607431768211456 * wi z 2 ∧ 0 ≤ r ∧ r < 6277101735386680763835789423207666416102355444464034512896 := by
  refine ⟨_, ?_, rfl, ?_, ?_⟩
  · rw [sz_w, bm3]; split <;> omega
  · have := wi_ge z 0; have := wi_ge z 1; have := wi_ge z 2; omega
  · have := wi_lt z 0; have := wi_lt z 1; have := wi_lt z 2; omega
theorem cmpI_eq {x y u v : Int} (h1 : x < y ↔ u < v) (h2 : x = y ↔ u = v) : cmpI x y = cmpI u v := by
  unfold cmpI; simp only [h1, h2]
theorem cmp_key (a b : Int) (k : Nat) (hk : k = (if cmpN a b 0 = 0 then if cmpN a b 1 = 0 then if cmpN a b 2 = 0 then 3 else 2 else 1 else 0)) : cmpN a b k = cmpI (sz a) (sz b) := by
  obtain ⟨r, ea, er, r0, r1⟩ := sz_hi a
  obtain ⟨q, eb, eq, q0, q1⟩ := sz_hi b
  have z0 : cmpN a b 0 = 0 ↔ Int.bmod (wi a 3) 18446744073709551616 = Int.bmod (wi b 3) 18446744073709551616 := by simp only [cmpN, if_true, cmpI_0]
  have z1 : cmpN a b 1 = 0 ↔ wi a 2 = wi b 2 := by simp [cmpN, cmpI_0]
  have z2 : cmpN a b 2 = 0 ↔ wi a 1 = wi b 1 := by simp [cmpN, cmpI_0]
  simp only [z0, z1, z2] at hk
  have := wi_ge a 0; have := wi_lt a 0; have := wi_ge a 1; have := wi_lt a 1; have := wi_ge a 2; have := wi_lt a 2
  have := wi_ge b 0; have := wi_lt b 0; have := wi_ge b 1; have := wi_lt b 1; have := wi_ge b 2; have := wi_lt b 2
  clear z0 z1 z2
  by_cases h0 : Int.bmod (wi a 3) 18446744073709551616 = Int.bmod (wi b 3) 18446744073709551616
  · rw [if_pos h0] at hk
    rw [h0] at ea
    by_cases h1 : wi a 2 = wi b 2
    · rw [if_pos h1] at hk
      by_cases h2 : wi a 1 = wi b 1
      · rw [if_pos h2] at hk
        subst hk
        simp only [cmpN]
        exact cmpI_eq (by first | omega | (simp; omega)) (by first | omega | (simp; omega))
      · rw [if_neg h2] at hk
        subst hk
        simp only [cmpN]
        exact cmpI_eq (by first | omega | (simp; omega)) (by first | omega | (simp; omega))
    · rw [if_neg h1] at hk
      subst hk
      simp only [cmpN]
      exact cmpI_eq (by first | omega | (simp; omega)) (by first | omega | (simp; omega))
  · rw [if_neg h0] at hk
    subst hk
    simp only [cmpN]
    exact cmpI_eq (by first | omega | (simp; omega)) (by first | omega | (simp; omega))
theorem wcmp_ret (a b : Int) : Ret Tryd.prog G0 75 #[wd a, wd b] (.int .i64 (cmpI (sz a) (sz b))) := by
  refine ret_of G0F Tryd.func75 rfl Tryd.call75 (by simp) (by simp) (by simp [Tryd.ntmps75]) ?_
  intro C hC hC0 hY
  repeat' (first
    | refine GW_seq ?_
    | simp only [List.length_cons, List.length_nil, Nat.reduceAdd, Nat.reduceMul, thenG_normal, thenG_ret, thenG_exit, thenG_goto, thenG_panic, blockG_normal, blockG_ret, blockG_goto, blockG_panic, jumpG_normal, jumpG_ret, jumpG_exit, jumpG_panic]
    | (refine GW_region' [] (by kernel_rfl) ?_; intro Q hQ hP; simp [hC, hY]; (first | refine hQ _ _ _ _ ?_ | refine hP _ _ (fun _ => ?_)); clear hQ hP Q)
    | (refine GW_draw' [] follows (by kernel_rfl) (by kernel_rfl) ?_; intro Q hQ hP; simp [hC, hY]; (first | refine hQ _ _ _ _ (by kernel_rfl) ?_ | refine hP _ _ (by kernel_rfl) (fun _ => ?_)); clear hQ hP Q)
    | refine GW_block ?_
    | refine GW_ret ?_
    | refine GW_skip ?_
    | refine GW_exit ?_
    | refine GW_goto ?_
    | refine GW_label ?_
    | simp only [blockG_exit]
    | (refine GW_cond (by simp; rfl) ?_ ?_ <;> (intro hb; first | (exfalso; exact absurd hb (by decide)) | skip)))
  have e3 : ∀ z, Int.bmod (wi z 3) 18446744073709551616 = wi z 3 - (if ng z then 18446744073709551616 else 0) := fun z => by
    have := wi_ge z 3; have := wi_lt z 3
    rw [Int.bmod_def]; unfold ng; simp only [decide_eq_true_eq]; split <;> split <;> omega
  refine GW_for (if cmpN a b 0 = 0 then if cmpN a b 1 = 0 then if cmpN a b 2 = 0 then 3 else 2 else 1 else 0) (wcmpSt a b) ?_ ?_ ?_
  · refine weakL _ 300 hC G0F (m0 := []) hC0 (by omega) ?_ ?_ ?_
    · simp [idsV, idsA, idsF, ids0, dom, cmpN]
    · simp [ids_lit, idsF, ids0, wb]
    · simp
  · intro i hi
    have : (i = 0 ∧ cmpN a b 0 = 0) ∨ (i = 1 ∧ cmpN a b 1 = 0) ∨ (i = 2 ∧ cmpN a b 2 = 0) := by (repeat' split at hi) <;> omega
    rcases this with ⟨rfl, h⟩ | ⟨rfl, h⟩ | ⟨rfl, h⟩ <;> unfold wcmpSt
    all_goals
      repeat' (first
        | refine GW_seq ?_
        | simp only [List.length_cons, List.length_nil, Nat.reduceAdd, Nat.reduceMul, thenG_normal, thenG_ret, thenG_exit, thenG_goto, thenG_panic, blockG_normal, blockG_ret, blockG_goto, blockG_panic, jumpG_normal, jumpG_ret, jumpG_exit, jumpG_panic]
        | (refine GW_region' [] (by kernel_rfl) ?_; intro Q hQ hP; simp [hC, hY, h, wb]; (first | refine hQ _ _ _ _ ?_ | refine hP _ _ (fun _ => ?_)); clear hQ hP Q)
        | (refine GW_draw' [] follows (by kernel_rfl) (by kernel_rfl) ?_; intro Q hQ hP; simp [hC, hY, h, wb]; (first | refine hQ _ _ _ _ (by kernel_rfl) ?_ | refine hP _ _ (by kernel_rfl) (fun _ => ?_)); clear hQ hP Q)
        | refine GW_block ?_
        | refine GW_ret ?_
        | refine GW_skip ?_
        | refine GW_exit ?_
        | refine GW_goto ?_
        | refine GW_label ?_
        | simp only [blockG_exit]
        | (refine GW_cond (by simp; rfl) ?_ ?_ <;> (intro hb; first | (exfalso; exact absurd hb (by decide)) | skip)))
    all_goals
      refine weakL _ 300 hC G0F (m0 := []) hC0 (by omega) ?_ ?_ ?_
      · simp [idsV, idsA, idsF, ids0, dom, cmpN]
      · simp [ids_lit, idsF, ids0, wb]
      · simp
  · have f1 := sz_w a
    have f2 := sz_w b
    have g1 := e3 a
    have g2 := e3 b
    have := wi_ge a 0; have := wi_lt a 0; have := wi_ge a 1; have := wi_lt a 1; have := wi_ge a 2; have := wi_lt a 2; have := wi_ge a 3; have := wi_lt a 3
    have := wi_ge b 0; have := wi_lt b 0; have := wi_ge b 1; have := wi_lt b 1; have := wi_ge b 2; have := wi_lt b 2; have := wi_ge b 3; have := wi_lt b 3
    have key : ∀ k, k = (if cmpN a b 0 = 0 then if cmpN a b 1 = 0 then if cmpN a b 2 = 0 then 3 else 2 else 1 else 0) → cmpN a b k = cmpI (sz a) (sz b) := fun k hk => by
      exact cmp_key a b k hk
    have hk := key _ rfl
    generalize hN : (if cmpN a b 0 = 0 then if cmpN a b 1 = 0 then if cmpN a b 2 = 0 then 3 else 2 else 1 else 0) = N at *
    have hc : cmpN a b N ≠ 0 ∨ N = 3 := by (repeat' split at hN) <;> subst hN <;> first | (left; assumption) | (right; rfl)
    by_cases hz : cmpN a b N = 0
    · have h3 : N = 3 := hc.resolve_left (fun h => h hz)
      subst h3
      unfold wcmpSt
      repeat' (first
        | refine GW_seq ?_
        | simp only [List.length_cons, List.length_nil, Nat.reduceAdd, Nat.reduceMul, thenG_normal, thenG_ret, thenG_exit, thenG_goto, thenG_panic, blockG_normal, blockG_ret, blockG_goto, blockG_panic, jumpG_normal, jumpG_ret, jumpG_exit, jumpG_panic]
        | (refine GW_region' [] (by kernel_rfl) ?_; intro Q hQ hP; simp [hC, hY, hz, wb]; (first | refine hQ _ _ _ _ ?_ | refine hP _ _ (fun _ => ?_)); clear hQ hP Q)
        | (refine GW_draw' [] follows (by kernel_rfl) (by kernel_rfl) ?_; intro Q hQ hP; simp [hC, hY, hz, wb]; (first | refine hQ _ _ _ _ (by kernel_rfl) ?_ | refine hP _ _ (by kernel_rfl) (fun _ => ?_)); clear hQ hP Q)
        | refine GW_block ?_
        | refine GW_ret ?_
        | refine GW_skip ?_
        | refine GW_exit ?_
        | refine GW_goto ?_
        | refine GW_label ?_
        | simp only [blockG_exit]
        | (refine GW_cond (by simp; rfl) ?_ ?_ <;> (intro hb; first | (exfalso; exact absurd hb (by decide)) | skip)))
      refine ⟨.inr trivial, ?_⟩
      simp [Tryd.results75, ← hk, hz]
    · have hzb : (cmpN a b N == 0) = false := by simpa using hz
      unfold wcmpSt
      repeat' (first
        | refine GW_seq ?_
        | simp only [List.length_cons, List.length_nil, Nat.reduceAdd, Nat.reduceMul, thenG_normal, thenG_ret, thenG_exit, thenG_goto, thenG_panic, blockG_normal, blockG_ret, blockG_goto, blockG_panic, jumpG_normal, jumpG_ret, jumpG_exit, jumpG_panic]
        | (refine GW_region' [] (by kernel_rfl) ?_; intro Q hQ hP; simp [hC, hY, hzb, wb]; (first | refine hQ _ _ _ _ ?_ | refine hP _ _ (fun _ => ?_)); clear hQ hP Q)
        | (refine GW_draw' [] follows (by kernel_rfl) (by kernel_rfl) ?_; intro Q hQ hP; simp [hC, hY, hzb, wb]; (first | refine hQ _ _ _ _ (by kernel_rfl) ?_ | refine hP _ _ (by kernel_rfl) (fun _ => ?_)); clear hQ hP Q)
        | refine GW_block ?_
        | refine GW_ret ?_
        | refine GW_skip ?_
        | refine GW_exit ?_
        | refine GW_goto ?_
        | refine GW_label ?_
        | simp only [blockG_exit]
        | (refine GW_cond (by simp; rfl) ?_ ?_ <;> (intro hb; first | (exfalso; exact absurd hb (by decide)) | skip)))
      refine ⟨.inr trivial, ?_⟩
      simp [Tryd.results75, hk]
@[simp] theorem wCmp (a b : Int) (K : Value → Prop) : callK Tryd.prog G0 75 #[Value.agg #[.int .u64 (wi (a) 0), .int .u64 (wi (a) 1), .int .u64 (wi (a) 2), .int .u64 (wi (a) 3)], Value.agg #[.int .u64 (wi (b) 0), .int .u64 (wi (b) 1), .int .u64 (wi (b) 2), .int .u64 (wi (b) 3)]] K ↔ K (.int .i64 (cmpI (sz a) (sz b))) := callK_iff G0W (by kernel_rfl) (wcmp_ret a b)
@[simp] theorem wCmpz (a : Int) (K : Value → Prop) : callK Tryd.prog G0 75 #[Value.agg #[.int .u64 (wi (a) 0), .int .u64 (wi (a) 1), .int .u64 (wi (a) 2), .int .u64 (wi (a) 3)], .agg #[.int .u64 0, .int .u64 0, .int .u64 0, .int .u64 0]] K ↔ K (.int .i64 (cmpI (sz a) 0)) := by
  have := wCmp a 0 K
  have e : sz 0 = 0 := by decide
  rw [e] at this
  simpa using this
theorem wsign_ret (a : Int) : Ret Tryd.prog G0 84 #[wd a] (.int .i64 (cmpI (sz a) 0)) := by
  refine ret_of G0F Tryd.func84 rfl Tryd.call84 (by simp) (by simp) (by simp [Tryd.ntmps84]) ?_
  intro C hC hC0 hY
  repeat' (first
    | refine GW_seq ?_
    | simp only [List.length_cons, List.length_nil, Nat.reduceAdd, Nat.reduceMul, thenG_normal, thenG_ret, thenG_exit, thenG_goto, thenG_panic, blockG_normal, blockG_ret, blockG_goto, blockG_panic, jumpG_normal, jumpG_ret, jumpG_exit, jumpG_panic]
    | (refine GW_region' [] (by kernel_rfl) ?_; intro Q hQ hP; simp [hC, hY]; (first | refine hQ _ _ _ _ ?_ | refine hP _ _ (fun _ => ?_)); clear hQ hP Q)
    | (refine GW_draw' [] follows (by kernel_rfl) (by kernel_rfl) ?_; intro Q hQ hP; simp [hC, hY]; (first | refine hQ _ _ _ _ (by kernel_rfl) ?_ | refine hP _ _ (by kernel_rfl) (fun _ => ?_)); clear hQ hP Q)
    | refine GW_block ?_
    | refine GW_ret ?_
    | refine GW_skip ?_
    | refine GW_exit ?_
    | refine GW_goto ?_
    | refine GW_label ?_
    | simp only [blockG_exit]
    | (refine GW_cond (by simp; rfl) ?_ ?_ <;> (intro hb; first | (exfalso; exact absurd hb (by decide)) | skip)))
  refine ⟨.inr trivial, ?_⟩
  simp [Tryd.results84]
@[simp] theorem wSign (a : Int) (K : Value → Prop) : callK Tryd.prog G0 84 #[Value.agg #[.int .u64 (wi (a) 0), .int .u64 (wi (a) 1), .int .u64 (wi (a) 2), .int .u64 (wi (a) 3)]] K ↔ K (.int .i64 (cmpI (sz a) 0)) := callK_iff G0W (by kernel_rfl) (wsign_ret a)
end Go.Gy
