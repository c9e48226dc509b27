/-
  Contracts of wide: low, words, plus; math/bits.Add64.
  Conditions: none.
-/
import Derived.Test.YtggidgaeggekhaaDoorGyM
import Derived.Test.YtggidgaeggekhaaDoorGyT
import Derived.Laws.Externs
namespace Go.Gy
set_option linter.unusedSimpArgs false
set_option linter.unusedVariables false
open Go Go.RowKit Go.Proofs

theorem wlow_ret (z : Int) : Ret Tryd.prog G0 100 #[wd z] (.bool (ng z)) := by
  refine ret_of G0F Tryd.func100 rfl Tryd.call100 rfl (by simp) (by simp [Tryd.ntmps100]) ?_
  intro C hC _ hY
  repeat' (first
    | refine GW_seq ?_
    | simp only [List.length_cons, List.length_nil, Nat.reduceAdd, Nat.reduceMul, thenG_normal, thenG_ret, thenG_exit, thenG_goto, thenG_panic, blockG_normal, blockG_ret, blockG_goto, blockG_panic, jumpG_normal, jumpG_ret, jumpG_exit, jumpG_panic]
    | (refine GW_region' [] (by kernel_rfl) ?_; intro Q hQ hP; simp [hC, hY]; (first | refine hQ _ _ _ _ ?_ | refine hP _ _ (fun _ => ?_)); clear hQ hP Q)
    | (refine GW_draw' [] follows (by kernel_rfl) (by kernel_rfl) ?_; intro Q hQ hP; simp [hC, hY]; (first | refine hQ _ _ _ _ (by kernel_rfl) ?_ | refine hP _ _ (by kernel_rfl) (fun _ => ?_)); clear hQ hP Q)
    | refine GW_block ?_
    | refine GW_ret ?_
    | refine GW_skip ?_
    | refine GW_exit ?_
    | refine GW_goto ?_
    | refine GW_label ?_
    | simp only [blockG_exit]
    | (refine GW_cond (by simp; rfl) ?_ ?_ <;> (intro hb; first | (exfalso; exact absurd hb (by decide)) | skip)))
  refine ⟨.inr trivial, ?_⟩
  have := wi_ge z 3
  have := wi_lt z 3
  simp [Tryd.results100, ng]
  rw [Int.bmod_def]
  split <;> omega
@[simp] theorem wlow (z : Int) (K : Value → Prop) : callK Tryd.prog G0 100 #[Value.agg #[.int .u64 (wi (z) 0), .int .u64 (wi (z) 1), .int .u64 (wi (z) 2), .int .u64 (wi (z) 3)]] K ↔ K (.bool (ng z)) := callK_iff G0W (by kernel_rfl) (wlow_ret z)

theorem add64_ret (x y c : Int) (hx : 0 ≤ x) (hy : 0 ≤ y) (h0 : 0 ≤ c) (h1 : c ≤ 1) : RetV Tryd.prog 103 #[.int .u64 x, .int .u64 y, .int .u64 c] (.tuple #[.int .u64 ((x + y + c) % 18446744073709551616), .int .u64 ((x + y + c) / 18446744073709551616)]) := by
  refine ⟨by simp, by simp, fun w => ?_⟩
  rw [run_callFunc_extern Tryd.func103 (by kernel_rfl) (by kernel_rfl) (by kernel_rfl) (e := add64Entry) (by kernel_rfl), run_add64 x y c hx hy h0 h1]
  simp only [Result.andThen]
@[simp] theorem add64 (x y c : Int) (hx : 0 ≤ x) (hy : 0 ≤ y) (h0 : 0 ≤ c) (h1 : c ≤ 1) (K : Value → Prop) : callK Tryd.prog G0 103 #[.int .u64 x, .int .u64 y, .int .u64 c] K ↔ K (.tuple #[.int .u64 ((x + y + c) % 18446744073709551616), .int .u64 ((x + y + c) / 18446744073709551616)]) := callK_iffV (add64_ret x y c hx hy h0 h1)

def wb (z : Int) : Blk := ⟨#[.int .u64 (wi z 0), .int .u64 (wi z 1), .int .u64 (wi z 2), .int .u64 (wi z 3)], 24⟩
theorem words_new (a b : Int) (k : Nat) (h100 : 100 ≤ k) : Fun Tryd.prog G0 115 #[wd a, wd b] G0 [] (.new (.func (.func 121) #[] #[.pointer (some ⟨k, 0, none⟩), .pointer (some ⟨k + 1, 0, none⟩)]) [(k, wb a), (k + 1, wb b)]) := by
  have e0 : rst G0 [] = G0 := rst_G G0F []
  refine new_of (B := 200) (fun j => if j = k then 200 else if j = k + 1 then 208 else j) G0F (fun _ _ => rfl) Tryd.func115 rfl Tryd.call115 (by simp [idsV, idsA, idsF, ids0]) (by rw [e0]; exact G0_closed _) ?_ (by simp [Tryd.ntmps115]) (by omega) (by rw [e0]; exact fun x hx => G0_big x (by omega)) (fun j hj => ?_) ?_ ?_ ?_ ?_
  · refine ⟨by simp [idsV, idsA, idsF, ids0, extD, keys], by simp [keys]; omega, fun q b c h1 h2 => ?_⟩
    simp at h1 h2
    rcases h1 with ⟨e1, rfl⟩ | ⟨e1, rfl⟩ <;> rcases h2 with ⟨e2, rfl⟩ | ⟨e2, rfl⟩ <;> first | rfl | omega
  · rw [e0] at hj; have := G0_dom hj; rw [if_neg (by omega), if_neg (by omega)]
  · simp [e0, dom]
  · simp
  · simp [wb, ids_lit, idsF, ids0]
  · intro C hC hC0 hY
    rw [e0]
    repeat' (first
      | refine GW_seq ?_
      | simp only [List.length_cons, List.length_nil, Nat.reduceAdd, Nat.reduceMul, thenG_normal, thenG_ret, thenG_exit, thenG_goto, thenG_panic, blockG_normal, blockG_ret, blockG_goto, blockG_panic, jumpG_normal, jumpG_ret, jumpG_exit, jumpG_panic]
      | (refine GW_region' [] (by kernel_rfl) ?_; intro Q hQ hP; simp [hC, hY]; (first | refine hQ _ _ _ _ ?_ | refine hP _ _ (fun _ => ?_)); clear hQ hP Q)
      | (refine GW_draw' [] follows (by kernel_rfl) (by kernel_rfl) ?_; intro Q hQ hP; simp [hC, hY]; (first | refine hQ _ _ _ _ (by kernel_rfl) ?_ | refine hP _ _ (by kernel_rfl) (fun _ => ?_)); clear hQ hP Q)
      | refine GW_block ?_
      | refine GW_ret ?_
      | refine GW_skip ?_
      | refine GW_exit ?_
      | refine GW_goto ?_
      | refine GW_label ?_
      | simp only [blockG_exit]
      | (refine GW_cond (by simp; rfl) ?_ ?_ <;> (intro hb; first | (exfalso; exact absurd hb (by decide)) | skip)))
    refine ⟨.inr trivial, ?_⟩
    simp [Tryd.results115, ren, renA, renF, ren0, wb]
    intro j hj
    have := G0_dom hj
    rw [if_neg (by omega), if_neg (by omega)]
def wordsXs (a b : Int) : List (Array Value) := [#[.int .u64 (wi a 0), .int .u64 (wi b 0)], #[.int .u64 (wi a 1), .int .u64 (wi b 1)], #[.int .u64 (wi a 2), .int .u64 (wi b 2)], #[.int .u64 (wi a 3), .int .u64 (wi b 3)]]

def wHp (a b : Int) : Hp := hpL G0 [(100, wb a), (101, wb b)]
def wordsSt (a b : Int) (l i : Nat) : GS :=
  ⟨tsL [(0, .func (.yield l) #[] #[]), (1, .pointer (some ⟨100, 0, none⟩)), (2, .pointer (some ⟨101, 0, none⟩)), (5, .int .i64 i)], wHp a b, 300, i⟩
theorem words_it (a b : Int) : IterG Tryd.prog G0 121 #[.pointer (some ⟨100, 0, none⟩), .pointer (some ⟨101, 0, none⟩)] (wHp a b) [100, 101] (wordsXs a b) := by
  have e0 : rst (wHp a b) [100, 101] = wHp a b := hpL_rst G0F (by simp)
  refine iter_of (B := 200) (v := .tuple #[]) G0F (fun k hk => hpL_low (by simp) hk) Tryd.func121 rfl Tryd.call121 ?_ ?_ (by simp [Tryd.ntmps121]) (by omega) ?_ ?_
  · rw [e0]; simp [idsV, idsA, idsF, ids0, dom, wHp]
  · rw [e0]
    intro k c hk
    rcases hpL_mem hk with h | h
    · simp at h
      rcases h with ⟨_, rfl⟩ | ⟨_, rfl⟩ <;> simp [wb, ids_lit, idsF, ids0]
    · exact fun x hx => flatF_ids ((G0F k c h).2 x hx)
  · rw [e0]
    intro x hx
    have h1 : ¬ x = 100 := by omega
    have h2 : ¬ x = 101 := by omega
    have h3 : 100 ≤ x := by omega
    simp [wHp, h1, h2, h3]
  · intro C l stop hC hC0 hY
    rw [e0] at hC0 ⊢
    repeat' (first
      | refine GW_seq ?_
      | simp only [List.length_cons, List.length_nil, Nat.reduceAdd, Nat.reduceMul, thenG_normal, thenG_ret, thenG_exit, thenG_goto, thenG_panic, blockG_normal, blockG_ret, blockG_goto, blockG_panic, jumpG_normal, jumpG_ret, jumpG_exit, jumpG_panic]
      | (refine GW_region' [] (by kernel_rfl) ?_; intro Q hQ hP; simp [hC, hY, wHp, wb]; (first | refine hQ _ _ _ _ ?_ | refine hP _ _ (fun _ => ?_)); clear hQ hP Q)
      | (refine GW_draw' [] follows (by kernel_rfl) (by kernel_rfl) ?_; intro Q hQ hP; simp [hC, hY, wHp, wb]; (first | refine hQ _ _ _ _ (by kernel_rfl) ?_ | refine hP _ _ (by kernel_rfl) (fun _ => ?_)); clear hQ hP Q)
      | refine GW_block ?_
      | refine GW_ret ?_
      | refine GW_skip ?_
      | refine GW_exit ?_
      | refine GW_goto ?_
      | refine GW_label ?_
      | simp only [blockG_exit]
      | (refine GW_cond (by simp; rfl) ?_ ?_ <;> (intro hb; first | (exfalso; exact absurd hb (by decide)) | skip)))
    refine GW_for (min stop 4) (wordsSt a b l) ?_ ?_ ?_
    · refine weakL _ 300 hC G0F (m0 := [(100, wb a), (101, wb b)]) hC0 (by omega) ?_ ?_ ?_
      · simp [idsV, idsA, idsF, ids0, dom]
      · simp [ids_lit, idsF, ids0, wb]
      · simp [wb]
    · intro i hi
      have hs : i < stop := by omega
      have hq : (i != stop) = true := by simp; omega
      have hle : i ≤ stop := by omega
      have : i = 0 ∨ i = 1 ∨ i = 2 ∨ i = 3 := by omega
      rcases this with rfl | rfl | rfl | rfl <;> unfold wordsSt wHp
      all_goals
        repeat' (first
          | refine GW_seq ?_
          | simp only [List.length_cons, List.length_nil, Nat.reduceAdd, Nat.reduceMul, thenG_normal, thenG_ret, thenG_exit, thenG_goto, thenG_panic, blockG_normal, blockG_ret, blockG_goto, blockG_panic, jumpG_normal, jumpG_ret, jumpG_exit, jumpG_panic]
          | (refine GW_region' [] (by kernel_rfl) ?_; intro Q hQ hP; simp [hC, hY, wordsXs, hq, hle, wb]; (first | refine hQ _ _ _ _ ?_ | refine hP _ _ (fun _ => ?_)); clear hQ hP Q)
          | (refine GW_draw' [] follows (by kernel_rfl) (by kernel_rfl) ?_; intro Q hQ hP; simp [hC, hY, wordsXs, hq, hle, wb]; (first | refine hQ _ _ _ _ (by kernel_rfl) ?_ | refine hP _ _ (by kernel_rfl) (fun _ => ?_)); clear hQ hP Q)
          | refine GW_block ?_
          | refine GW_ret ?_
          | refine GW_skip ?_
          | refine GW_exit ?_
          | refine GW_goto ?_
          | refine GW_label ?_
          | simp only [blockG_exit]
          | (refine GW_cond (by simp; rfl) ?_ ?_ <;> (intro hb; first | (exfalso; exact absurd hb (by decide)) | skip)))
      all_goals
        refine weakL _ 300 hC G0F (m0 := [(100, wb a), (101, wb b)]) hC0 (by omega) ?_ ?_ ?_
        · simp [idsV, idsA, idsF, ids0, dom]
        · simp [ids_lit, idsF, ids0, wb]
        · simp [wb]
    · by_cases h4 : 4 ≤ stop
      · rw [Nat.min_eq_right h4]
        unfold wordsSt wHp
        repeat' (first
          | refine GW_seq ?_
          | simp only [List.length_cons, List.length_nil, Nat.reduceAdd, Nat.reduceMul, thenG_normal, thenG_ret, thenG_exit, thenG_goto, thenG_panic, blockG_normal, blockG_ret, blockG_goto, blockG_panic, jumpG_normal, jumpG_ret, jumpG_exit, jumpG_panic]
          | (refine GW_region' [] (by kernel_rfl) ?_; intro Q hQ hP; simp [hC, hY, wordsXs, wb]; (first | refine hQ _ _ _ _ ?_ | refine hP _ _ (fun _ => ?_)); clear hQ hP Q)
          | (refine GW_draw' [] follows (by kernel_rfl) (by kernel_rfl) ?_; intro Q hQ hP; simp [hC, hY, wordsXs, wb]; (first | refine hQ _ _ _ _ (by kernel_rfl) ?_ | refine hP _ _ (by kernel_rfl) (fun _ => ?_)); clear hQ hP Q)
          | refine GW_block ?_
          | refine GW_ret ?_
          | refine GW_skip ?_
          | refine GW_exit ?_
          | refine GW_goto ?_
          | refine GW_label ?_
          | simp only [blockG_exit]
          | (refine GW_cond (by simp; rfl) ?_ ?_ <;> (intro hb; first | (exfalso; exact absurd hb (by decide)) | skip)))
        refine ⟨.inl trivial, ?_⟩
        simp [Tryd.results121, wordsXs]
        omega
      · rw [Nat.min_eq_left (by omega)]
        have : stop = 0 ∨ stop = 1 ∨ stop = 2 ∨ stop = 3 := by omega
        rcases this with rfl | rfl | rfl | rfl <;> unfold wordsSt wHp
        all_goals
          repeat' (first
            | refine GW_seq ?_
            | simp only [List.length_cons, List.length_nil, Nat.reduceAdd, Nat.reduceMul, thenG_normal, thenG_ret, thenG_exit, thenG_goto, thenG_panic, blockG_normal, blockG_ret, blockG_goto, blockG_panic, jumpG_normal, jumpG_ret, jumpG_exit, jumpG_panic]
            | (refine GW_region' [] (by kernel_rfl) ?_; intro Q hQ hP; simp [hC, hY, wordsXs, wb]; (first | refine hQ _ _ _ _ ?_ | refine hP _ _ (fun _ => ?_)); clear hQ hP Q)
            | (refine GW_draw' [] follows (by kernel_rfl) (by kernel_rfl) ?_; intro Q hQ hP; simp [hC, hY, wordsXs, wb]; (first | refine hQ _ _ _ _ (by kernel_rfl) ?_ | refine hP _ _ (by kernel_rfl) (fun _ => ?_)); clear hQ hP Q)
            | refine GW_block ?_
            | refine GW_ret ?_
            | refine GW_skip ?_
            | refine GW_exit ?_
            | refine GW_goto ?_
            | refine GW_label ?_
            | simp only [blockG_exit]
            | (refine GW_cond (by simp; rfl) ?_ ?_ <;> (intro hb; first | (exfalso; exact absurd hb (by decide)) | skip)))
        all_goals
          refine ⟨.inr trivial, ?_⟩
          simp [Tryd.results121, wordsXs]
end Go.Gy
