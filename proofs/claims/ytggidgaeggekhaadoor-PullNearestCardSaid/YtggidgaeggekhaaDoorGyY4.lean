/-
  Contracts: quot.shifts and its iterator.
  Conditions: none.
-/
import Derived.Test.YtggidgaeggekhaaDoorGyY3
namespace Go.Gy
set_option linter.unusedSimpArgs false
set_option linter.unusedVariables false
open Go Go.RowKit Go.Proofs

theorem shifts_new (a b : Int) (k : Nat) (h100 : 100 ≤ k) : Fun Tryd.prog G0 119 #[wd a, wd b] G0 [] (.new (.func (.func 123) #[] #[.pointer (some ⟨k, 0, none⟩), .pointer (some ⟨k + 1, 0, none⟩)]) [(k, wb a), (k + 1, wb b)]) := by
  have e0 : rst G0 [] = G0 := rst_G G0F []
  refine new_of (B := 200) (fun j => if j = k then 200 else if j = k + 1 then 208 else j) G0F (fun _ _ => rfl) Tryd.func119 rfl Tryd.call119 (by simp [idsV, idsA, idsF, ids0]) (by rw [e0]; exact G0_closed _) ?_ (by simp [Tryd.ntmps119]) (by omega) (by rw [e0]; exact fun x hx => G0_big x (by omega)) (fun j hj => ?_) ?_ ?_ ?_ ?_
  · refine ⟨by simp [idsV, idsA, idsF, ids0, extD, keys], by simp [keys]; omega, fun q b c h1 h2 => ?_⟩
    simp at h1 h2
    rcases h1 with ⟨e1, rfl⟩ | ⟨e1, rfl⟩ <;> rcases h2 with ⟨e2, rfl⟩ | ⟨e2, rfl⟩ <;> first | rfl | omega
  · rw [e0] at hj; have := G0_dom hj; rw [if_neg (by omega), if_neg (by omega)]
  · simp [e0, dom]
  · simp
  · simp [wb, ids_lit, idsF, ids0]
  · intro C hC hC0 hY
    rw [e0]
    repeat' (first
      | refine GW_seq ?_
      | simp only [List.length_cons, List.length_nil, Nat.reduceAdd, Nat.reduceMul, thenG_normal, thenG_ret, thenG_exit, thenG_goto, thenG_panic, blockG_normal, blockG_ret, blockG_goto, blockG_panic, jumpG_normal, jumpG_ret, jumpG_exit, jumpG_panic]
      | (refine GW_region' [] (by kernel_rfl) ?_; intro Q hQ hP; simp [hC, hY]; (first | refine hQ _ _ _ _ ?_ | refine hP _ _ (fun _ => ?_)); clear hQ hP Q)
      | (refine GW_draw' [] follows (by kernel_rfl) (by kernel_rfl) ?_; intro Q hQ hP; simp [hC, hY]; (first | refine hQ _ _ _ _ (by kernel_rfl) ?_ | refine hP _ _ (by kernel_rfl) (fun _ => ?_)); clear hQ hP Q)
      | refine GW_block ?_
      | refine GW_ret ?_
      | refine GW_skip ?_
      | refine GW_exit ?_
      | refine GW_goto ?_
      | refine GW_label ?_
      | simp only [blockG_exit]
      | (refine GW_cond (by simp; rfl) ?_ ?_ <;> (intro hb; first | (exfalso; exact absurd hb (by decide)) | skip)))
    refine ⟨.inr trivial, ?_⟩
    simp [Tryd.results119, ren, renA, renF, ren0, wb]
    intro j hj
    have := G0_dom hj
    rw [if_neg (by omega), if_neg (by omega)]
theorem uz_bd (z : Int) : 0 ≤ uz z ∧ uz z < 2 ^ 256 := by unfold uz; omega
def shN (a b : Int) : Int := nbits (uz a) - nbits (uz b)
theorem shN_bd (a b : Int) : -256 ≤ shN a b ∧ shN a b ≤ 256 := by
  have h1 := nbits_bd 256 (uz_bd a).2
  have h2 := nbits_bd 256 (uz_bd b).2
  unfold shN; omega
def shXs (b N : Int) : List (Array Value) := (List.range (N + 1).toNat).map fun (i : Nat) => #[.int .i64 (N - (i : Int)), wd (b * 2 ^ (N - (i : Int)).toNat)]
theorem shXs_len (b N : Int) : (shXs b N).length = (N + 1).toNat := by simp [shXs]
theorem shXs_at (b N : Int) (i : Nat) (h : i < (N + 1).toNat) : (shXs b N)[i]? = some #[.int .i64 (N - i), wd (b * 2 ^ (N - i).toNat)] := by
  simp [shXs, h]
def shSt (a b N : Int) (l i : Nat) : GS :=
  ⟨tsL [(0, .func (.yield l) #[] #[]), (1, .pointer (some ⟨100, 0, none⟩)), (2, .pointer (some ⟨101, 0, none⟩)), (4, .int .i64 (N - i))], wHp a b, 300, i⟩
theorem shifts_it (a b : Int) (hlt : shN a b < 256) : IterG Tryd.prog G0 123 #[.pointer (some ⟨100, 0, none⟩), .pointer (some ⟨101, 0, none⟩)] (wHp a b) [100, 101] (shXs b (shN a b)) := by
  have e0 : rst (wHp a b) [100, 101] = wHp a b := hpL_rst G0F (by simp)
  refine iter_of (B := 200) (v := .tuple #[]) G0F (fun k hk => hpL_low (by simp) hk) Tryd.func123 rfl Tryd.call123 ?_ ?_ (by simp [Tryd.ntmps123]) (by omega) ?_ ?_
  · rw [e0]; simp [idsV, idsA, idsF, ids0, dom, wHp]
  · rw [e0]
    intro k c hk
    rcases hpL_mem hk with h | h
    · simp at h
      rcases h with ⟨_, rfl⟩ | ⟨_, rfl⟩ <;> simp [wb, ids_lit, idsF, ids0]
    · exact fun x hx => flatF_ids ((G0F k c h).2 x hx)
  · rw [e0]
    intro x hx
    have h1 : ¬ x = 100 := by omega
    have h2 : ¬ x = 101 := by omega
    have h3 : 100 ≤ x := by omega
    simp [wHp, h1, h2, h3]
  · intro C l stop hC hC0 hY
    rw [e0] at hC0 ⊢
    have hbd := shN_bd a b
    have hN : Int.bmod (nbits (uz a) - nbits (uz b)) 18446744073709551616 = shN a b := bm (by unfold shN at hbd; omega) (by unfold shN at hbd; omega)
    have hlen := shXs_len b (shN a b)
    generalize hn : shN a b = N at *
    generalize hxs : shXs b N = xs at *
    refine GW_scope' 0 (fun m s => ∃ i, i ≤ stop ∧ i + m = xs.length ∧ s = shSt a b N l i) rfl ?_ ?_
    · rintro m _ ⟨i, hi, him, rfl⟩
      have hi256 : (i : Int) ≤ 257 := by omega
      by_cases hl : i < xs.length
      · have g1 : (i : Int) ≤ N := by omega
        have g2 : N - (i : Int) < 256 := by omega
        have g4 : Int.bmod (N - (i : Int) - 1) 18446744073709551616 = N - ((i + 1 : Nat) : Int) := by rw [bm (by omega) (by omega)]; omega
        have hx : xs[i]? = some #[.int .i64 (N - (i : Int)), wd (b * 2 ^ (N - (i : Int)).toNat)] := by
          rw [← hxs]; exact shXs_at b N i (by omega)
        simp only [wd_eq] at hx
        by_cases hs : i = stop
        · have q1 : (i != stop) = false := by simp [hs]
          unfold shSt
          repeat' (first
            | refine GW_seq ?_
            | simp only [List.length_cons, List.length_nil, Nat.reduceAdd, Nat.reduceMul, thenG_normal, thenG_ret, thenG_exit, thenG_goto, thenG_panic, blockG_normal, blockG_ret, blockG_goto, blockG_panic, jumpG_normal, jumpG_ret, jumpG_exit, jumpG_panic]
            | (refine GW_region' [] (by kernel_rfl) ?_; intro Q hQ hP; simp [hC, hY, wHp, wb, hi, g1, g2, hx, q1]; (first | refine hQ _ _ _ _ ?_ | refine hP _ _ (fun _ => ?_)); clear hQ hP Q)
            | (refine GW_draw' [] follows (by kernel_rfl) (by kernel_rfl) ?_; intro Q hQ hP; simp [hC, hY, wHp, wb, hi, g1, g2, hx, q1]; (first | refine hQ _ _ _ _ (by kernel_rfl) ?_ | refine hP _ _ (by kernel_rfl) (fun _ => ?_)); clear hQ hP Q)
            | refine GW_block ?_
            | refine GW_ret ?_
            | refine GW_skip ?_
            | refine GW_exit ?_
            | refine GW_goto ?_
            | refine GW_label ?_
            | simp only [blockG_exit]
            | (refine GW_cond (by simp; rfl) ?_ ?_ <;> (intro hb; first | (exfalso; exact absurd hb (by decide)) | skip)))
          refine ⟨.inl trivial, by simp [Tryd.results123], ?_⟩
          show i + 1 = _
          omega
        · have q1 : (i != stop) = true := by simp [hs]
          unfold shSt
          repeat' (first
            | refine GW_seq ?_
            | simp only [List.length_cons, List.length_nil, Nat.reduceAdd, Nat.reduceMul, thenG_normal, thenG_ret, thenG_exit, thenG_goto, thenG_panic, blockG_normal, blockG_ret, blockG_goto, blockG_panic, jumpG_normal, jumpG_ret, jumpG_exit, jumpG_panic]
            | (refine GW_region' [] (by kernel_rfl) ?_; intro Q hQ hP; simp [hC, hY, wHp, wb, hi, g1, g2, g4, hx, q1]; (first | refine hQ _ _ _ _ ?_ | refine hP _ _ (fun _ => ?_)); clear hQ hP Q)
            | (refine GW_draw' [] follows (by kernel_rfl) (by kernel_rfl) ?_; intro Q hQ hP; simp [hC, hY, wHp, wb, hi, g1, g2, g4, hx, q1]; (first | refine hQ _ _ _ _ (by kernel_rfl) ?_ | refine hP _ _ (by kernel_rfl) (fun _ => ?_)); clear hQ hP Q)
            | refine GW_block ?_
            | refine GW_ret ?_
            | refine GW_skip ?_
            | refine GW_exit ?_
            | refine GW_goto ?_
            | refine GW_label ?_
            | simp only [blockG_exit]
            | (refine GW_cond (by simp; rfl) ?_ ?_ <;> (intro hb; first | (exfalso; exact absurd hb (by decide)) | skip)))
          refine ⟨rfl, shSt a b N l (i + 1), xs.length - (i + 1), weakL _ 300 hC G0F (m := [(100, wb a), (101, wb b)]) (m0 := [(100, wb a), (101, wb b)]) hC0 (by omega) ?_ ?_ ?_, ⟨i + 1, by omega, by omega, rfl⟩, by omega⟩
          · simp [dom]
          · simp [wb]
          · simp [wb]
      · have g1 : ¬ (i : Int) ≤ N := by omega
        unfold shSt
        repeat' (first
          | refine GW_seq ?_
          | simp only [List.length_cons, List.length_nil, Nat.reduceAdd, Nat.reduceMul, thenG_normal, thenG_ret, thenG_exit, thenG_goto, thenG_panic, blockG_normal, blockG_ret, blockG_goto, blockG_panic, jumpG_normal, jumpG_ret, jumpG_exit, jumpG_panic]
          | (refine GW_region' [] (by kernel_rfl) ?_; intro Q hQ hP; simp [hC, hY, wHp, wb, g1]; (first | refine hQ _ _ _ _ ?_ | refine hP _ _ (fun _ => ?_)); clear hQ hP Q)
          | (refine GW_draw' [] follows (by kernel_rfl) (by kernel_rfl) ?_; intro Q hQ hP; simp [hC, hY, wHp, wb, g1]; (first | refine hQ _ _ _ _ (by kernel_rfl) ?_ | refine hP _ _ (by kernel_rfl) (fun _ => ?_)); clear hQ hP Q)
          | refine GW_block ?_
          | refine GW_ret ?_
          | refine GW_skip ?_
          | refine GW_exit ?_
          | refine GW_goto ?_
          | refine GW_label ?_
          | simp only [blockG_exit]
          | (refine GW_cond (by simp; rfl) ?_ ?_ <;> (intro hb; first | (exfalso; exact absurd hb (by decide)) | skip)))
        refine ⟨.inl trivial, by simp [Tryd.results123], ?_⟩
        show i = _
        omega
    · intro pass
      refine GW_seq ?_
      first
        | (refine GW_region' [] (by kernel_rfl) ?_; intro Q hQ hP; simp [hC, hY, wHp, wb, hN]; (first | refine hQ _ _ _ _ ?_ | refine hP _ _ (fun _ => ?_)); clear hQ hP Q)
        | (refine GW_draw' [] follows (by kernel_rfl) (by kernel_rfl) ?_; intro Q hQ hP; simp [hC, hY, wHp, wb, hN]; (first | refine hQ _ _ _ _ (by kernel_rfl) ?_ | refine hP _ _ (by kernel_rfl) (fun _ => ?_)); clear hQ hP Q)
      simp only [List.length_cons, List.length_nil, Nat.reduceAdd, Nat.reduceMul, thenG_normal, thenG_ret, thenG_exit, thenG_goto, thenG_panic]
      refine GW_seq (GW_label ?_)
      simp only [thenG_normal]
      refine pass xs.length (shSt a b N l 0) _ ?_ ⟨0, by omega, by omega, rfl⟩
      refine weakL _ 300 hC G0F (m := [(100, wb a), (101, wb b)]) (m0 := [(100, wb a), (101, wb b)]) hC0 (by omega) ?_ ?_ ?_
      · simp [dom]
      · simp [wb]
      · simp [wb]
end Go.Gy
