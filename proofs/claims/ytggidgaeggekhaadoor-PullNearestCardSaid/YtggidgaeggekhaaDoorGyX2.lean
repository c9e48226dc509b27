/-
  Contracts of wide: plus.
  Conditions: none.
-/
import Derived.Test.YtggidgaeggekhaaDoorGyX1
namespace Go.Gy
set_option linter.unusedSimpArgs false
set_option linter.unusedVariables false
open Go Go.RowKit Go.Proofs

theorem pow64 (i : Nat) : (2 : Int) ^ (64 * i) = 2 ^ (32 * (2 * i)) := by congr 1; omega
theorem wadd (a b c : Int) (i : Nat) : (wi a i + wi b i + car a b c (2 * i)) % 18446744073709551616 = wi (a + b + c) i := by
  unfold wi car
  rw [pow64, ediv_split a b c _ (pow32_pos (2 * i))]
  omega
theorem wcar (a b c : Int) (i : Nat) : (wi a i + wi b i + car a b c (2 * i)) / 18446744073709551616 = car a b c (2 * (i + 1)) := by
  unfold wi car
  have e : (2 : Int) ^ (32 * (2 * (i + 1))) = 2 ^ (32 * (2 * i)) * 18446744073709551616 := by
    rw [show 32 * (2 * (i + 1)) = 32 * (2 * i) + 64 by omega, Int.pow_add]; rfl
  rw [pow64, e, emod_mul a _ _ (pow32_pos (2 * i)) (by omega), emod_mul b _ _ (pow32_pos (2 * i)) (by omega)]
  generalize hM : (2 : Int) ^ (32 * (2 * i)) = M
  have hp : 0 < M := hM ▸ pow32_pos (2 * i)
  have e : a % M + M * (a / M % 18446744073709551616) + (b % M + M * (b / M % 18446744073709551616)) + c = (a % M + b % M + c) + M * (a / M % 18446744073709551616 + b / M % 18446744073709551616) := by rw [Int.mul_add]; omega
  rw [e, ← Int.ediv_ediv_of_nonneg (Int.le_of_lt hp), Int.add_mul_ediv_left _ _ (by omega)]
  congr 1
  omega

theorem IterG.cast {P : Program} {G : Hp} {f : FuncId} {caps caps' : Array Value} {hp : Hp} {rs rs' : List Nat} {xs : List (Array Value)} (h : IterG P G f caps hp rs xs) (e1 : caps = caps') (e2 : rs = rs') : IterG P G f caps' hp rs' xs := by subst e1 e2; exact h

theorem tsL_ids {D : Nat → Prop} {l : List (Nat × Value)} (h : ∀ p ∈ l, idsV D p.2) (t : Nat) : idsV D (tsL l t) := by
  rcases tsL_mem (l := l) (t := t) with e | e
  · rw [e]; simp [junk, idsV, idsA, idsF, ids0]
  · exact h _ e
def plHp (a b c : Int) (i : Nat) : Hp := hpL G0 [(200, wb a), (208, wb b), (216, ⟨#[.int .u64 (car a b c (2 * i))], 22⟩),
  (224, ⟨#[.int .u64 (if 0 < i then wi (a + b + c) 0 else 0), .int .u64 (if 1 < i then wi (a + b + c) 1 else 0), .int .u64 (if 2 < i then wi (a + b + c) 2 else 0), .int .u64 (if 3 < i then wi (a + b + c) 3 else 0)], 24⟩),
  (232, ⟨#[.int .i64 i], 3⟩)]
def plTs : Nat → Value := tsL [(3, .pointer (some ⟨200, 0, none⟩)), (4, .pointer (some ⟨208, 0, none⟩)), (5, .pointer (some ⟨216, 0, none⟩)), (6, .pointer (some ⟨224, 0, none⟩)), (7, .pointer (some ⟨232, 0, none⟩))]
theorem wplus_ret (a b c : Int) (h0 : 0 ≤ c) (h1 : c ≤ 1) : Ret Tryd.prog G0 99 #[wd a, wd b, .int .u64 c] (wd (a + b + c)) := by
  refine ret_of G0F Tryd.func99 rfl Tryd.call99 (by simp) (by simp) (by simp [Tryd.ntmps99]) ?_
  intro C hC hC0 hY
  repeat' (first
    | refine GW_seq ?_
    | simp only [List.length_cons, List.length_nil, Nat.reduceAdd, Nat.reduceMul, thenG_normal, thenG_ret, thenG_exit, thenG_goto, thenG_panic, blockG_normal, blockG_ret, blockG_goto, blockG_panic, jumpG_normal, jumpG_ret, jumpG_exit, jumpG_panic]
    | (refine GW_region' [] (by kernel_rfl) ?_; intro Q hQ hP; simp [hC, hY]; (first | refine hQ _ _ _ _ ?_ | refine hP _ _ (fun _ => ?_)); clear hQ hP Q)
    | (refine GW_draw' [] follows (by kernel_rfl) (by kernel_rfl) ?_; intro Q hQ hP; simp [hC, hY]; (first | refine hQ _ _ _ _ (by kernel_rfl) ?_ | refine hP _ _ (by kernel_rfl) (fun _ => ?_)); clear hQ hP Q)
    | refine GW_block ?_
    | refine GW_ret ?_
    | refine GW_skip ?_
    | refine GW_exit ?_
    | refine GW_goto ?_
    | refine GW_label ?_
    | simp only [blockG_exit]
    | (refine GW_cond (by simp; rfl) ?_ ?_ <;> (intro hb; first | (exfalso; exact absurd hb (by decide)) | skip)))
  refine GW_region' [115] (by kernel_rfl) ?_; intro Q hQ hP; simp [hC, hY]
  refine heapK_of (words_new a b 264 (by omega)) (by simp) (fun _ _ => rfl) (by simp [Res.at]) ?_
  simp
  refine hQ _ _ _ _ ?_; clear hQ hP Q
  repeat' (first
    | refine GW_seq ?_
    | simp only [List.length_cons, List.length_nil, Nat.reduceAdd, Nat.reduceMul, thenG_normal, thenG_ret, thenG_exit, thenG_goto, thenG_panic, blockG_normal, blockG_ret, blockG_goto, blockG_panic, jumpG_normal, jumpG_ret, jumpG_exit, jumpG_panic]
    | (refine GW_region' [] (by kernel_rfl) ?_; intro Q hQ hP; simp [hC, hY]; (first | refine hQ _ _ _ _ ?_ | refine hP _ _ (fun _ => ?_)); clear hQ hP Q)
    | (refine GW_draw' [] follows (by kernel_rfl) (by kernel_rfl) ?_; intro Q hQ hP; simp [hC, hY]; (first | refine hQ _ _ _ _ (by kernel_rfl) ?_ | refine hP _ _ (by kernel_rfl) (fun _ => ?_)); clear hQ hP Q)
    | refine GW_block ?_
    | refine GW_ret ?_
    | refine GW_skip ?_
    | refine GW_exit ?_
    | refine GW_goto ?_
    | refine GW_label ?_
    | simp only [blockG_exit]
    | (refine GW_cond (by simp; rfl) ?_ ?_ <;> (intro hb; first | (exfalso; exact absurd hb (by decide)) | skip)))
  refine GW_range (f := 121) (rs := [264, 265]) (xs := wordsXs a b) (caps := #[.pointer (some ⟨264, 0, none⟩), .pointer (some ⟨265, 0, none⟩)]) (by simp) ?_ (by simp [wordsXs]) (by simp [Tryd.ntmps99]) plTs (plHp a b c) 300 4 (by simp [wordsXs]) ?_ ?_ ?_ ?_ ?_
  · rw [hC]
    refine IterG.cast (IterX.rn (fun k => if k = 100 then 264 else if k = 101 then 265 else k) G0F (fun k hk => hpL_low (by simp) hk) (rs := [100, 101]) ?_ (words_it a b)) (by simp [ren0]) (by simp)
    refine ⟨fun k hk => ?_, ?_, ?_, ?_⟩
    · have h1 : ¬ k = 100 := by omega
      have h2 : ¬ k = 101 := by omega
      have h3 : ¬ k = 200 := by omega
      have h4 : ¬ k = 208 := by omega
      have h5 : ¬ k = 216 := by omega
      have h6 : ¬ k = 224 := by omega
      have h7 : ¬ k = 232 := by omega
      have h8 : ¬ k = 264 := by omega
      have h9 : ¬ k = 265 := by omega
      simp [h1, h2, h3, h4, h5, h6, h7, h8, h9, wHp]
    · simp
    · simp [wHp, wb, Blk.rn, renF, ren0]
    · simp
  · refine weakL _ 300 hC G0F (m0 := []) hC0 (by omega) ?_ ?_ ?_
    · simp [idsV, idsA, idsF, ids0, dom]
    · simp [ids_lit, idsF, ids0, wb, car_zero]
    · simp
  · simp [plHp, dom]
  · intro i hi t
    refine tsL_ids ?_ t
    simp [idsV, idsA, idsF, ids0, dom, plHp]
  · intro i x hi hx C1 l hC1 hh1 hY1
    have hCC := hC
    have hC1' : C1.G = G0 := hC1.trans hC
    have c0 := fun k => (car_bd a b c h0 h1 k).1
    have c1 := fun k => (car_bd a b c h0 h1 k).2
    have A0 : (wi a 0 + wi b 0 + car a b c 0) % 18446744073709551616 = wi (a + b + c) 0 := wadd a b c 0
    have A1 : (wi a 1 + wi b 1 + car a b c 2) % 18446744073709551616 = wi (a + b + c) 1 := wadd a b c 1
    have A2 : (wi a 2 + wi b 2 + car a b c 4) % 18446744073709551616 = wi (a + b + c) 2 := wadd a b c 2
    have A3 : (wi a 3 + wi b 3 + car a b c 6) % 18446744073709551616 = wi (a + b + c) 3 := wadd a b c 3
    have B0 : (wi a 0 + wi b 0 + car a b c 0) / 18446744073709551616 = car a b c 2 := wcar a b c 0
    have B1 : (wi a 1 + wi b 1 + car a b c 2) / 18446744073709551616 = car a b c 4 := wcar a b c 1
    have B2 : (wi a 2 + wi b 2 + car a b c 4) / 18446744073709551616 = car a b c 6 := wcar a b c 2
    have B3 : (wi a 3 + wi b 3 + car a b c 6) / 18446744073709551616 = car a b c 8 := wcar a b c 3
    replace hC := hC1'
    replace hY := hY1
    have : i = 0 ∨ i = 1 ∨ i = 2 ∨ i = 3 := by omega
    rcases this with rfl | rfl | rfl | rfl
    all_goals
      simp [wordsXs] at hx
      subst hx
      unfold plHp
    all_goals
      repeat' (first
        | refine GW_seq ?_
        | simp only [List.length_cons, List.length_nil, Nat.reduceAdd, Nat.reduceMul, thenG_normal, thenG_ret, thenG_exit, thenG_goto, thenG_panic, blockG_normal, blockG_ret, blockG_goto, blockG_panic, jumpG_normal, jumpG_ret, jumpG_exit, jumpG_panic]
        | (refine GW_region' [] (by kernel_rfl) ?_; intro Q hQ hP; simp [hC, hY, roundTs, plTs]; (first | refine hQ _ _ _ _ ?_ | refine hP _ _ (fun _ => ?_)); clear hQ hP Q)
        | (refine GW_draw' [] follows (by kernel_rfl) (by kernel_rfl) ?_; intro Q hQ hP; simp [hC, hY, roundTs, plTs]; (first | refine hQ _ _ _ _ (by kernel_rfl) ?_ | refine hP _ _ (by kernel_rfl) (fun _ => ?_)); clear hQ hP Q)
        | refine GW_block ?_
        | refine GW_ret ?_
        | refine GW_skip ?_
        | refine GW_exit ?_
        | refine GW_goto ?_
        | refine GW_label ?_
        | simp only [blockG_exit]
        | (refine GW_cond (by simp; rfl) ?_ ?_ <;> (intro hb; first | (exfalso; exact absurd hb (by decide)) | skip)))
    all_goals
      intro C2 hC2 hh2 hY2
      replace hC : C2.G = G0 := hC2.trans hCC
      replace hY := hY2
      repeat' (first
        | refine GW_seq ?_
        | simp only [List.length_cons, List.length_nil, Nat.reduceAdd, Nat.reduceMul, thenG_normal, thenG_ret, thenG_exit, thenG_goto, thenG_panic, blockG_normal, blockG_ret, blockG_goto, blockG_panic, jumpG_normal, jumpG_ret, jumpG_exit, jumpG_panic]
        | (refine GW_region' [] (by kernel_rfl) ?_; intro Q hQ hP; simp [hC, hY, roundTs, plTs, c0, c1, wi_ge, A0, A1, A2, A3, B0, B1, B2, B3]; (first | refine hQ _ _ _ _ ?_ | refine hP _ _ (fun _ => ?_)); clear hQ hP Q)
        | (refine GW_draw' [] follows (by kernel_rfl) (by kernel_rfl) ?_; intro Q hQ hP; simp [hC, hY, roundTs, plTs, c0, c1, wi_ge, A0, A1, A2, A3, B0, B1, B2, B3]; (first | refine hQ _ _ _ _ (by kernel_rfl) ?_ | refine hP _ _ (by kernel_rfl) (fun _ => ?_)); clear hQ hP Q)
        | refine GW_block ?_
        | refine GW_ret ?_
        | refine GW_skip ?_
        | refine GW_exit ?_
        | refine GW_goto ?_
        | refine GW_label ?_
        | simp only [blockG_exit]
        | (refine GW_cond (by simp; rfl) ?_ ?_ <;> (intro hb; first | (exfalso; exact absurd hb (by decide)) | skip)))
    all_goals
      refine weakL [] 300 hC1' G0F hh1 (by omega) ?_ ?_ ?_
      · simp
      · simp [ids_lit, idsF, ids0, wb]
      · simp [wb]
  · left
    refine ⟨rfl, ?_⟩
    unfold plHp plTs
    repeat' (first
      | refine GW_seq ?_
      | simp only [List.length_cons, List.length_nil, Nat.reduceAdd, Nat.reduceMul, thenG_normal, thenG_ret, thenG_exit, thenG_goto, thenG_panic, blockG_normal, blockG_ret, blockG_goto, blockG_panic, jumpG_normal, jumpG_ret, jumpG_exit, jumpG_panic]
      | (refine GW_region' [] (by kernel_rfl) ?_; intro Q hQ hP; simp [hC, hY]; (first | refine hQ _ _ _ _ ?_ | refine hP _ _ (fun _ => ?_)); clear hQ hP Q)
      | (refine GW_draw' [] follows (by kernel_rfl) (by kernel_rfl) ?_; intro Q hQ hP; simp [hC, hY]; (first | refine hQ _ _ _ _ (by kernel_rfl) ?_ | refine hP _ _ (by kernel_rfl) (fun _ => ?_)); clear hQ hP Q)
      | refine GW_block ?_
      | refine GW_ret ?_
      | refine GW_skip ?_
      | refine GW_exit ?_
      | refine GW_goto ?_
      | refine GW_label ?_
      | simp only [blockG_exit]
      | (refine GW_cond (by simp; rfl) ?_ ?_ <;> (intro hb; first | (exfalso; exact absurd hb (by decide)) | skip)))
    refine ⟨.inr trivial, ?_⟩
    simp [Tryd.results99]
@[simp] theorem wplus (a b c : Int) (h0 : 0 ≤ c) (h1 : c ≤ 1) (K : Value → Prop) : callK Tryd.prog G0 99 #[Value.agg #[.int .u64 (wi (a) 0), .int .u64 (wi (a) 1), .int .u64 (wi (a) 2), .int .u64 (wi (a) 3)], Value.agg #[.int .u64 (wi (b) 0), .int .u64 (wi (b) 1), .int .u64 (wi (b) 2), .int .u64 (wi (b) 3)], .int .u64 c] K ↔ K (wd (a + b + c)) := callK_iff G0W (by kernel_rfl) (wplus_ret a b c h0 h1)
end Go.Gy
