/-
  Contracts: pull.parts, its iterator.
  Conditions: none.
-/
import Derived.Test.YtggidgaeggekhaaDoorGyU2
namespace Go.Gy
set_option linter.unusedSimpArgs false
set_option linter.unusedVariables false
open Go Go.RowKit Go.Proofs
def vv (x0 x1 x2 : Int) : Value := .agg #[.int .i64 x0, .int .i64 x1, .int .i64 x2]
def vb (x0 x1 x2 : Int) : Blk := ⟨#[.int .i64 x0, .int .i64 x1, .int .i64 x2], 41⟩
theorem parts_new (x0 x1 x2 : Int) (k : Nat) (h100 : 100 ≤ k) : Fun Tryd.prog G1 70 #[vv x0 x1 x2] G1 [] (.new (.func (.func 94) #[] #[.pointer (some ⟨k, 0, none⟩)]) [(k, vb x0 x1 x2)]) := by
  have e0 : rst G1 [] = G1 := rst_G G1F []
  refine new_of (B := 200) (fun j => if j = k then 200 else j) G1F (fun _ _ => rfl) Tryd.func70 rfl Tryd.call70 (by simp [vv, idsV, idsA, idsF, ids0]) (by rw [e0]; exact G1_closed _) ?_ (by simp [Tryd.ntmps70]) (by omega) (by rw [e0]; exact fun x hx => G1_big x (by omega)) (fun j hj => ?_) ?_ ?_ ?_ ?_
  · refine ⟨by simp [idsV, idsA, idsF, ids0, extD, keys], by simp [keys]; omega, fun q b c h1 h2 => ?_⟩
    simp at h1 h2
    rw [h1.2, h2.2]
  · rw [e0] at hj; have := G1_dom hj; rw [if_neg (by omega)]
  · simp [e0, dom]
  · simp
  · simp [vb, ids_lit, idsF, ids0]
  · intro C hC hC0 hY
    rw [e0]
    repeat' (first
      | refine GW_seq ?_
      | simp only [List.length_cons, List.length_nil, Nat.reduceAdd, Nat.reduceMul, thenG_normal, thenG_ret, thenG_exit, thenG_goto, thenG_panic, blockG_normal, blockG_ret, blockG_goto, blockG_panic, jumpG_normal, jumpG_ret, jumpG_exit, jumpG_panic]
      | (refine GW_region' [] (by kernel_rfl) ?_; intro Q hQ hP; simp [hC, hY, vv]; (first | refine hQ _ _ _ _ ?_ | refine hP _ _ (fun _ => ?_)); clear hQ hP Q)
      | (refine GW_draw' [] follows (by kernel_rfl) (by kernel_rfl) ?_; intro Q hQ hP; simp [hC, hY, vv]; (first | refine hQ _ _ _ _ (by kernel_rfl) ?_ | refine hP _ _ (by kernel_rfl) (fun _ => ?_)); clear hQ hP Q)
      | refine GW_block ?_
      | refine GW_ret ?_
      | refine GW_skip ?_
      | refine GW_exit ?_
      | refine GW_goto ?_
      | refine GW_label ?_
      | simp only [blockG_exit]
      | (refine GW_cond (by simp; rfl) ?_ ?_ <;> (intro hb; first | (exfalso; exact absurd hb (by decide)) | skip)))
    refine ⟨.inr trivial, ?_⟩
    simp [Tryd.results70, ren, renA, renF, ren0, vb]
    intro j hj
    have := G1_dom hj
    intro h; omega
def partsXs (x0 x1 x2 : Int) : List (Array Value) := [#[.int .i64 0, .int .i64 x0], #[.int .i64 1, .int .i64 x1], #[.int .i64 2, .int .i64 x2]]
def pHp (x0 x1 x2 : Int) : Hp := hpL G1 [(100, vb x0 x1 x2)]
theorem parts_it (x0 x1 x2 : Int) : IterG Tryd.prog G1 94 #[.pointer (some ⟨100, 0, none⟩)] (pHp x0 x1 x2) [100] (partsXs x0 x1 x2) := by
  have e0 : rst (pHp x0 x1 x2) [100] = pHp x0 x1 x2 := hpL_rst G1F (by simp)
  refine iter_of (B := 200) (v := .tuple #[]) G1F (fun k hk => hpL_low (by simp) hk) Tryd.func94 rfl Tryd.call94 ?_ ?_ (by simp [Tryd.ntmps94]) (by omega) ?_ ?_
  · rw [e0]; simp [idsV, idsA, idsF, ids0, dom, pHp]
  · rw [e0]
    intro k c hk
    rcases hpL_mem hk with h | h
    · simp at h
      rcases h with ⟨_, rfl⟩; simp [vb, ids_lit, idsF, ids0]
    · exact fun x hx => flatF_ids ((G1F k c h).2 x hx)
  · rw [e0]
    intro x hx
    have h1 : ¬ x = 100 := by omega
    have h3 : 100 ≤ x := by omega
    simp [pHp, h1, h3]
  · intro C l stop hC hC0 hY
    rw [e0] at hC0 ⊢
    by_cases h3 : 3 ≤ stop
    · have q0 : (0 != stop) = true := by simp; omega
      have q1 : (1 != stop) = true := by simp; omega
      have q2 : (2 != stop) = true := by simp; omega
      have l1 : 1 ≤ stop := by omega
      have l2 : 2 ≤ stop := by omega
      repeat' (first
        | refine GW_seq ?_
        | refine GWL_start ?_
        | refine GWL_step ?_
        | simp only [List.length_cons, List.length_nil, Nat.reduceAdd, Nat.reduceMul, thenG_normal, thenG_ret, thenG_exit, thenG_goto, thenG_panic, blockG_normal, blockG_ret, blockG_goto, blockG_panic, jumpG_normal, jumpG_ret, jumpG_exit, jumpG_panic]
        | (refine GW_region' [] (by kernel_rfl) ?_; intro Q hQ hP; simp [hC, hY, pHp, vb, partsXs, q0, q1, q2, l1, l2, h3]; (first | refine hQ _ _ _ _ ?_ | refine hP _ _ (fun _ => ?_)); clear hQ hP Q)
        | (refine GW_draw' [] follows (by kernel_rfl) (by kernel_rfl) ?_; intro Q hQ hP; simp [hC, hY, pHp, vb, partsXs, q0, q1, q2, l1, l2, h3]; (first | refine hQ _ _ _ _ (by kernel_rfl) ?_ | refine hP _ _ (by kernel_rfl) (fun _ => ?_)); clear hQ hP Q)
        | refine GW_block ?_
        | refine GW_ret ?_
        | refine GW_skip ?_
        | refine GW_exit ?_
        | refine GW_goto ?_
        | refine GW_label ?_
        | simp only [blockG_exit]
        | (refine GW_cond (by simp; rfl) ?_ ?_ <;> (intro hb; first | (exfalso; exact absurd hb (by decide)) | skip)))
      refine ⟨by simp, by simp [Tryd.results94], ?_⟩
      simp [partsXs]; omega
    · have : stop = 0 ∨ stop = 1 ∨ stop = 2 := by omega
      rcases this with rfl | rfl | rfl
      all_goals
        repeat' (first
          | refine GW_seq ?_
          | refine GWL_start ?_
          | refine GWL_step ?_
          | simp only [List.length_cons, List.length_nil, Nat.reduceAdd, Nat.reduceMul, thenG_normal, thenG_ret, thenG_exit, thenG_goto, thenG_panic, blockG_normal, blockG_ret, blockG_goto, blockG_panic, jumpG_normal, jumpG_ret, jumpG_exit, jumpG_panic]
          | (refine GW_region' [] (by kernel_rfl) ?_; intro Q hQ hP; simp [hC, hY, pHp, vb, partsXs]; (first | refine hQ _ _ _ _ ?_ | refine hP _ _ (fun _ => ?_)); clear hQ hP Q)
          | (refine GW_draw' [] follows (by kernel_rfl) (by kernel_rfl) ?_; intro Q hQ hP; simp [hC, hY, pHp, vb, partsXs]; (first | refine hQ _ _ _ _ (by kernel_rfl) ?_ | refine hP _ _ (by kernel_rfl) (fun _ => ?_)); clear hQ hP Q)
          | refine GW_block ?_
          | refine GW_ret ?_
          | refine GW_skip ?_
          | refine GW_exit ?_
          | refine GW_goto ?_
          | refine GW_label ?_
          | simp only [blockG_exit]
          | (refine GW_cond (by simp; rfl) ?_ ?_ <;> (intro hb; first | (exfalso; exact absurd hb (by decide)) | skip)))
      all_goals
        exact ⟨by simp, by simp [Tryd.results94], by simp [partsXs]⟩
theorem parts_itP (x0 x1 x2 : Int) : IterP Tryd.prog G1 94 #[.pointer (some ⟨100, 0, none⟩)] (pHp x0 x1 x2) [100] (partsXs x0 x1 x2) := by
  have e0 : rst (pHp x0 x1 x2) [100] = pHp x0 x1 x2 := hpL_rst G1F (by simp)
  refine iterp_of (B := 200) G1F (fun k hk => hpL_low (by simp) hk) Tryd.func94 rfl Tryd.call94 ?_ ?_ (by simp [Tryd.ntmps94]) (by omega) ?_ ?_
  · rw [e0]; simp [idsV, idsA, idsF, ids0, dom, pHp]
  · rw [e0]
    intro k c hk
    rcases hpL_mem hk with h | h
    · simp at h
      rcases h with ⟨_, rfl⟩; simp [vb, ids_lit, idsF, ids0]
    · exact fun x hx => flatF_ids ((G1F k c h).2 x hx)
  · rw [e0]
    intro x hx
    have h1 : ¬ x = 100 := by omega
    have h3 : 100 ≤ x := by omega
    simp [pHp, h1, h3]
  · intro pv C l stop hC hC0 hl hY
    rw [e0] at hC0 ⊢
    have : stop = 0 ∨ stop = 1 ∨ stop = 2 := by simp [partsXs] at hl; omega
    rcases this with rfl | rfl | rfl
    all_goals
      repeat' (first
        | refine GW_seq ?_
        | refine GWL_start ?_
        | refine GWL_step ?_
        | simp only [List.length_cons, List.length_nil, Nat.reduceAdd, Nat.reduceMul, thenG_normal, thenG_ret, thenG_exit, thenG_goto, thenG_panic, blockG_normal, blockG_ret, blockG_goto, blockG_panic, jumpG_normal, jumpG_ret, jumpG_exit, jumpG_panic]
        | (refine GW_region' [] (by kernel_rfl) ?_; intro Q hQ hP; simp [hC, hY, pHp, vb, partsXs]; (first | refine hQ _ _ _ _ ?_ | refine hP _ _ (fun _ => ?_)); clear hQ hP Q)
        | (refine GW_draw' [] follows (by kernel_rfl) (by kernel_rfl) ?_; intro Q hQ hP; simp [hC, hY, pHp, vb, partsXs]; (first | refine hQ _ _ _ _ (by kernel_rfl) ?_ | refine hP _ _ (by kernel_rfl) (fun _ => ?_)); clear hQ hP Q)
        | refine GW_block ?_
        | refine GW_ret ?_
        | refine GW_skip ?_
        | refine GW_exit ?_
        | refine GW_goto ?_
        | refine GW_label ?_
        | simp only [blockG_exit]
        | (refine GW_cond (by simp; rfl) ?_ ?_ <;> (intro hb; first | (exfalso; exact absurd hb (by decide)) | skip)))
end Go.Gy
