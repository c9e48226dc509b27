/-
  Plain laws: roots bit by bit; root.floor.
  Conditions: none beyond the hypotheses of each theorem.
-/
import Derived.Test.YtggidgaeggekhaaDoorGyZ1
namespace Go.Gy
set_option linter.unusedSimpArgs false
set_option linter.unusedVariables false
open Go Go.RowKit Go.Proofs
/-- A root, i bits of K behind. -/
def rp (a : Int) (K : Nat) : Nat → Int
  | 0 => 0
  | i + 1 => if (rp a K i + 2 ^ (K - 1 - i)) * (rp a K i + 2 ^ (K - 1 - i)) ≤ a then rp a K i + 2 ^ (K - 1 - i) else rp a K i
theorem rp_inv (a : Int) (K : Nat) (h0 : 0 ≤ a) (h : a < 2 ^ K * 2 ^ K) : ∀ i, i ≤ K → 0 ≤ rp a K i ∧ rp a K i * rp a K i ≤ a ∧ a < (rp a K i + 2 ^ (K - i)) * (rp a K i + 2 ^ (K - i))
  | 0, _ => by simp [rp]; exact ⟨h0, h⟩
  | i + 1, hi => by
    obtain ⟨h1, h2, h3⟩ := rp_inv a K h0 h i (by omega)
    have e1 : K - i = (K - 1 - i) + 1 := by omega
    have e2 : K - (i + 1) = K - 1 - i := by omega
    rw [e1, Int.pow_succ] at h3
    rw [e2]
    have hp := pow_pos2 (K - 1 - i)
    unfold rp
    split
    · rename_i hc
      refine ⟨by omega, hc, ?_⟩
      rw [Int.add_assoc, show (2 : Int) ^ (K - 1 - i) + 2 ^ (K - 1 - i) = 2 ^ (K - 1 - i) * 2 by omega]
      exact h3
    · rename_i hc
      exact ⟨h1, h2, by omega⟩
/-- The root of a number. -/
def isq (a : Int) : Int := rp a (nbits a / 2 + 1).toNat (nbits a / 2 + 1).toNat
theorem isq_bits (a : Int) (h0 : 0 ≤ a) : a < 2 ^ (nbits a / 2 + 1).toNat * 2 ^ (nbits a / 2 + 1).toNat := by
  rw [← Int.pow_add]
  by_cases h : a = 0
  · subst h; exact pow_pos2 _
  · obtain ⟨k, hk, k1, k2⟩ := nbits_pos (x := a) (by omega)
    refine Int.lt_of_lt_of_le k2 ?_
    rw [hk]
    exact_mod_cast Nat.pow_le_pow_right (by omega) (by omega)
theorem isq_spec (a : Int) (h0 : 0 ≤ a) : 0 ≤ isq a ∧ isq a * isq a ≤ a ∧ a < (isq a + 1) * (isq a + 1) := by
  have := rp_inv a (nbits a / 2 + 1).toNat h0 (isq_bits a h0) (nbits a / 2 + 1).toNat (Nat.le_refl _)
  simpa [isq] using this
theorem sq_lt {x y : Int} (hx : 0 ≤ x) (hy : 0 ≤ y) (h : x * x < y * y) : x < y := by
  refine Classical.byContradiction fun hn => ?_
  have : y * y ≤ x * x := Int.mul_le_mul (by omega) (by omega) hy hx
  omega
theorem isq_unique {a r : Int} (h0 : 0 ≤ r) (h1 : r * r ≤ a) (h2 : a < (r + 1) * (r + 1)) : isq a = r := by
  have ha : 0 ≤ a := Int.le_trans (Int.mul_nonneg h0 h0) h1
  obtain ⟨s0, s1, s2⟩ := isq_spec a ha
  have h3 := sq_lt (x := isq a) (y := r + 1) s0 (by omega) (by omega)
  have h4 := sq_lt (x := r) (y := isq a + 1) h0 (by omega) (by omega)
  omega
theorem sq_bd {x : Int} (B : Int) (hx : 0 ≤ x) (hB : 0 ≤ B) (h : x * x < B * B) : x < B := sq_lt hx hB h
def rfHp (a r : Int) : Hp := hpL G0 [(200, wb a), (208, wb r)]
def rfTs : Nat → Value := tsL [(1, .pointer (some ⟨200, 0, none⟩)), (2, .pointer (some ⟨208, 0, none⟩))]
theorem rfloor_neg (a : Int) (ha : wr a) (h0 : a < 0) : RetP Tryd.prog G0 44 #[wd a] (.pan (erV 2)) := by
  refine retp_of G0F Tryd.func44 rfl Tryd.call44 (fun v h => by cases h) (by simp) (by simp [Tryd.ntmps44]) ?_
  intro C hC hC0 hY
  have s1 : ¬ 0 ≤ cmpI (sz a) 0 := by rw [wr_sz ha]; unfold cmpI; split <;> (try split) <;> omega
  repeat' (first
    | refine GW_seq ?_
    | simp only [List.length_cons, List.length_nil, Nat.reduceAdd, Nat.reduceMul, thenG_normal, thenG_ret, thenG_exit, thenG_goto, thenG_panic, blockG_normal, blockG_ret, blockG_goto, blockG_panic, jumpG_normal, jumpG_ret, jumpG_exit, jumpG_panic]
    | (refine GW_region' [1000055] (by kernel_rfl) ?_; intro Q hQ hP; simp [hC, hY, s1]; (repeat (first | ((refine callP_of (rmust_f 2) ?_); try simp [hC, hY, s1]))); (first | refine hQ _ _ _ _ ?_ | refine hP _ _ (fun _ => ?_)); clear hQ hP Q)
    | (refine GW_draw' [1000055] follows (by kernel_rfl) (by kernel_rfl) ?_; intro Q hQ hP; simp [hC, hY, s1]; (repeat (first | ((refine callP_of (rmust_f 2) ?_); try simp [hC, hY, s1]))); (first | refine hQ _ _ _ _ (by kernel_rfl) ?_ | refine hP _ _ (by kernel_rfl) (fun _ => ?_)); clear hQ hP Q)
    | refine GW_block ?_
    | refine GW_ret ?_
    | refine GW_skip ?_
    | refine GW_exit ?_
    | refine GW_goto ?_
    | refine GW_label ?_
    | simp only [blockG_exit]
    | (refine GW_cond (by simp; rfl) ?_ ?_ <;> (intro hb; first | (exfalso; exact absurd hb (by decide)) | skip)))
  rfl
set_option maxHeartbeats 1000000 in
theorem rfloor_ret (a : Int) (ha : wr a) (h0 : 0 ≤ a) : Ret Tryd.prog G0 44 #[wd a] (wd (isq a)) := by
  refine ret_of G0F Tryd.func44 rfl Tryd.call44 (by simp) (by simp) (by simp [Tryd.ntmps44]) ?_
  intro C hC hC0 hY
  have s1 : 0 ≤ cmpI (sz a) 0 := by rw [wr_sz ha]; unfold cmpI; split <;> (try split) <;> omega
  have hnb := nbits_bd 255 ha.2
  have hit := all_it a
  have eu : uz a = a := by unfold uz; have := ha.2; omega
  rw [eu] at hit
  have hinv := rp_inv a (nbits a / 2 + 1).toNat h0 (isq_bits a h0)
  have hisq : isq a = rp a (nbits a / 2 + 1).toNat (nbits a / 2 + 1).toNat := rfl
  have hM : 0 ≤ nbits a / 2 ∧ nbits a / 2 ≤ 127 := by omega
  generalize nbits a / 2 = M at *
  repeat' (first
    | refine GW_seq ?_
    | simp only [List.length_cons, List.length_nil, Nat.reduceAdd, Nat.reduceMul, thenG_normal, thenG_ret, thenG_exit, thenG_goto, thenG_panic, blockG_normal, blockG_ret, blockG_goto, blockG_panic, jumpG_normal, jumpG_ret, jumpG_exit, jumpG_panic]
    | (refine GW_region' [] (by kernel_rfl) ?_; intro Q hQ hP; simp [hC, hY, s1]; (first | refine hQ _ _ _ _ ?_ | refine hP _ _ (fun _ => ?_)); clear hQ hP Q)
    | (refine GW_draw' [] follows (by kernel_rfl) (by kernel_rfl) ?_; intro Q hQ hP; simp [hC, hY, s1]; (first | refine hQ _ _ _ _ (by kernel_rfl) ?_ | refine hP _ _ (by kernel_rfl) (fun _ => ?_)); clear hQ hP Q)
    | refine GW_block ?_
    | refine GW_ret ?_
    | refine GW_skip ?_
    | refine GW_exit ?_
    | refine GW_goto ?_
    | refine GW_label ?_
    | simp only [blockG_exit]
    | (refine GW_cond (by simp; rfl) ?_ ?_ <;> (intro hb; first | (exfalso; exact absurd hb (by decide)) | skip)))
  refine GW_region' [85] (by kernel_rfl) ?_; intro Q hQ hP; simp [hC, hY]
  refine heapK_of (all_new a 256 (by omega)) (by simp) (fun _ _ => rfl) (by simp [Res.at]) ?_
  simp
  refine hQ _ _ _ _ ?_; clear hQ hP Q
  repeat' (first
    | refine GW_seq ?_
    | simp only [List.length_cons, List.length_nil, Nat.reduceAdd, Nat.reduceMul, thenG_normal, thenG_ret, thenG_exit, thenG_goto, thenG_panic, blockG_normal, blockG_ret, blockG_goto, blockG_panic, jumpG_normal, jumpG_ret, jumpG_exit, jumpG_panic]
    | (refine GW_region' [] (by kernel_rfl) ?_; intro Q hQ hP; simp [hC, hY]; (first | refine hQ _ _ _ _ ?_ | refine hP _ _ (fun _ => ?_)); clear hQ hP Q)
    | (refine GW_draw' [] follows (by kernel_rfl) (by kernel_rfl) ?_; intro Q hQ hP; simp [hC, hY]; (first | refine hQ _ _ _ _ (by kernel_rfl) ?_ | refine hP _ _ (by kernel_rfl) (fun _ => ?_)); clear hQ hP Q)
    | refine GW_block ?_
    | refine GW_ret ?_
    | refine GW_skip ?_
    | refine GW_exit ?_
    | refine GW_goto ?_
    | refine GW_label ?_
    | simp only [blockG_exit]
    | (refine GW_cond (by simp; rfl) ?_ ?_ <;> (intro hb; first | (exfalso; exact absurd hb (by decide)) | skip)))
  generalize hK : (M + 1).toNat = K at *
  refine GW_range (f := 97) (rs := [256]) (xs := allXs M) (caps := #[.pointer (some ⟨256, 0, none⟩)]) (by simp) ?_ ?_ (by simp [Tryd.ntmps44]) rfTs (fun i => rfHp a (rp a K i)) 300 K (by rw [allXs_len]; omega) ?_ ?_ ?_ ?_ ?_
  · rw [hC]
    refine IterG.cast (IterX.rn (fun k => if k = 100 then 256 else k) G0F (fun k hk => hpL_low (by simp) hk) (rs := [100]) ?_ hit) (by simp [ren0]) (by simp)
    refine ⟨fun k hk => ?_, ?_, ?_, ?_⟩
    · simp [aHp, show ¬ k = 100 by omega, show ¬ k = 200 by omega, show ¬ k = 208 by omega, show ¬ k = 256 by omega]
    · simp
    · simp [aHp, wb, Blk.rn, renF, ren0]
    · simp
  · intro x hx
    simp only [allXs, List.mem_map] at hx
    obtain ⟨i, _, rfl⟩ := hx
    simp
  · refine weakL _ 300 hC G0F (m0 := []) hC0 (by omega) ?_ ?_ ?_
    · simp [dom]
    · simp [wb, rp, wi_zero]
    · simp
  · simp [rfHp, dom]
  · intro i hi t
    refine tsL_ids ?_ t
    simp [dom, rfHp]
  · intro i x hi hx C1 l hC1 hh1 hY1
    have hCC := hC
    have hC1' : C1.G = G0 := hC1.trans hC
    obtain ⟨n, hn⟩ : ∃ n : Nat, M - (i : Int) = n := ⟨(M - i).toNat, by omega⟩
    rw [allXs_at M i (by omega), hn] at hx
    cases hx
    obtain ⟨r0, r1, r2⟩ := hinv i (by omega)
    have en : K - 1 - i = n := by omega
    have hrs : rp a K (i + 1) = if (rp a K i + 2 ^ n) * (rp a K i + 2 ^ n) ≤ a then rp a K i + 2 ^ n else rp a K i := by
      rw [rp, en]
    generalize rp a K i = r at *
    have hau := ha.2
    have hr : r < 340282366920938463463374607431768211456 := sq_bd _ r0 (by decide) (by omega)
    have hn2 : (2 : Int) ^ n ≤ 2 ^ 127 := by exact_mod_cast Nat.pow_le_pow_right (by omega) (by omega : n ≤ 127)
    have hn0 := pow_pos2 n
    have t0 : 0 ≤ r + 2 ^ n := by omega
    have t1 : r + 2 ^ n < 680564733841876926926749214863536422912 := by omega
    have szt : sz (r + 2 ^ n) = r + 2 ^ n := sz_pos t0 (Int.lt_trans t1 (by decide))
    have tt0 : 0 ≤ (r + 2 ^ n) * (r + 2 ^ n) := Int.mul_nonneg t0 t0
    have hmul : mulO (r + 2 ^ n) (r + 2 ^ n) = decide (¬ ((r + 2 ^ n) * (r + 2 ^ n) < 57896044618658097711785492504343953926634992332820282019728792003956564819968)) := by
      unfold mulO; rw [szt]; congr 1
      exact propext ⟨fun h1 h2 => h1 ⟨Int.le_trans (by decide) tt0, h2⟩, fun h1 h2 => h1 h2.2⟩
    have sza : sz a = a := wr_sz ha
    replace hC := hC1'
    replace hY := hY1
    simp only [hrs]
    generalize htt : (r + 2 ^ n) * (r + 2 ^ n) = T at *
    by_cases hov : T < 57896044618658097711785492504343953926634992332820282019728792003956564819968
    · have hm : mulO (r + 2 ^ n) (r + 2 ^ n) = false := by rw [hmul]; simp [hov]
      have szT : sz T = T := sz_pos tt0 hov
      by_cases hle : T ≤ a
      · have hcmp : cmpI (sz T) (sz a) ≤ 0 := by rw [szT, sza]; unfold cmpI; split <;> (try split) <;> omega
        rw [if_pos hle]
        unfold rfHp
        repeat' (first
          | refine GW_seq ?_
          | simp only [List.length_cons, List.length_nil, Nat.reduceAdd, Nat.reduceMul, thenG_normal, thenG_ret, thenG_exit, thenG_goto, thenG_panic, blockG_normal, blockG_ret, blockG_goto, blockG_panic, jumpG_normal, jumpG_ret, jumpG_exit, jumpG_panic]
          | (refine GW_region' [] (by kernel_rfl) ?_; intro Q hQ hP; simp [hC, hY, roundTs, rfTs]; (first | refine hQ _ _ _ _ ?_ | refine hP _ _ (fun _ => ?_)); clear hQ hP Q)
          | (refine GW_draw' [] follows (by kernel_rfl) (by kernel_rfl) ?_; intro Q hQ hP; simp [hC, hY, roundTs, rfTs]; (first | refine hQ _ _ _ _ (by kernel_rfl) ?_ | refine hP _ _ (by kernel_rfl) (fun _ => ?_)); clear hQ hP Q)
          | refine GW_block ?_
          | refine GW_ret ?_
          | refine GW_skip ?_
          | refine GW_exit ?_
          | refine GW_goto ?_
          | refine GW_label ?_
          | simp only [blockG_exit]
          | (refine GW_cond (by simp; rfl) ?_ ?_ <;> (intro hb; first | (exfalso; exact absurd hb (by decide)) | skip)))
        intro C2 hC2 hh2 hY2
        replace hC : C2.G = G0 := hC2.trans hCC
        replace hY := hY2
        repeat' (first
          | refine GW_seq ?_
          | simp only [List.length_cons, List.length_nil, Nat.reduceAdd, Nat.reduceMul, thenG_normal, thenG_ret, thenG_exit, thenG_goto, thenG_panic, blockG_normal, blockG_ret, blockG_goto, blockG_panic, jumpG_normal, jumpG_ret, jumpG_exit, jumpG_panic]
          | (refine GW_region' [] (by kernel_rfl) ?_; intro Q hQ hP; simp [hC, hY, roundTs, rfTs, wb, szt, htt, hm, hcmp]; (first | refine hQ _ _ _ _ ?_ | refine hP _ _ (fun _ => ?_)); clear hQ hP Q)
          | (refine GW_draw' [] follows (by kernel_rfl) (by kernel_rfl) ?_; intro Q hQ hP; simp [hC, hY, roundTs, rfTs, wb, szt, htt, hm, hcmp]; (first | refine hQ _ _ _ _ (by kernel_rfl) ?_ | refine hP _ _ (by kernel_rfl) (fun _ => ?_)); clear hQ hP Q)
          | refine GW_block ?_
          | refine GW_ret ?_
          | refine GW_skip ?_
          | refine GW_exit ?_
          | refine GW_goto ?_
          | refine GW_label ?_
          | simp only [blockG_exit]
          | (refine GW_cond (by simp; rfl) ?_ ?_ <;> (intro hb; first | (exfalso; exact absurd hb (by decide)) | skip)))
        refine weakL [] 300 hC1' G0F hh1 (by omega) ?_ ?_ ?_
        · simp
        · simp [wb]
        · simp [wb]
      · have hcmp : ¬ cmpI (sz T) (sz a) ≤ 0 := by rw [szT, sza]; unfold cmpI; split <;> (try split) <;> omega
        rw [if_neg hle]
        unfold rfHp
        repeat' (first
          | refine GW_seq ?_
          | simp only [List.length_cons, List.length_nil, Nat.reduceAdd, Nat.reduceMul, thenG_normal, thenG_ret, thenG_exit, thenG_goto, thenG_panic, blockG_normal, blockG_ret, blockG_goto, blockG_panic, jumpG_normal, jumpG_ret, jumpG_exit, jumpG_panic]
          | (refine GW_region' [] (by kernel_rfl) ?_; intro Q hQ hP; simp [hC, hY, roundTs, rfTs]; (first | refine hQ _ _ _ _ ?_ | refine hP _ _ (fun _ => ?_)); clear hQ hP Q)
          | (refine GW_draw' [] follows (by kernel_rfl) (by kernel_rfl) ?_; intro Q hQ hP; simp [hC, hY, roundTs, rfTs]; (first | refine hQ _ _ _ _ (by kernel_rfl) ?_ | refine hP _ _ (by kernel_rfl) (fun _ => ?_)); clear hQ hP Q)
          | refine GW_block ?_
          | refine GW_ret ?_
          | refine GW_skip ?_
          | refine GW_exit ?_
          | refine GW_goto ?_
          | refine GW_label ?_
          | simp only [blockG_exit]
          | (refine GW_cond (by simp; rfl) ?_ ?_ <;> (intro hb; first | (exfalso; exact absurd hb (by decide)) | skip)))
        intro C2 hC2 hh2 hY2
        replace hC : C2.G = G0 := hC2.trans hCC
        replace hY := hY2
        repeat' (first
          | refine GW_seq ?_
          | simp only [List.length_cons, List.length_nil, Nat.reduceAdd, Nat.reduceMul, thenG_normal, thenG_ret, thenG_exit, thenG_goto, thenG_panic, blockG_normal, blockG_ret, blockG_goto, blockG_panic, jumpG_normal, jumpG_ret, jumpG_exit, jumpG_panic]
          | (refine GW_region' [] (by kernel_rfl) ?_; intro Q hQ hP; simp [hC, hY, roundTs, rfTs, wb, szt, htt, hm, hcmp]; (first | refine hQ _ _ _ _ ?_ | refine hP _ _ (fun _ => ?_)); clear hQ hP Q)
          | (refine GW_draw' [] follows (by kernel_rfl) (by kernel_rfl) ?_; intro Q hQ hP; simp [hC, hY, roundTs, rfTs, wb, szt, htt, hm, hcmp]; (first | refine hQ _ _ _ _ (by kernel_rfl) ?_ | refine hP _ _ (by kernel_rfl) (fun _ => ?_)); clear hQ hP Q)
          | refine GW_block ?_
          | refine GW_ret ?_
          | refine GW_skip ?_
          | refine GW_exit ?_
          | refine GW_goto ?_
          | refine GW_label ?_
          | simp only [blockG_exit]
          | (refine GW_cond (by simp; rfl) ?_ ?_ <;> (intro hb; first | (exfalso; exact absurd hb (by decide)) | skip)))
        refine weakL [] 300 hC1' G0F hh1 (by omega) ?_ ?_ ?_
        · simp
        · simp [wb]
        · simp [wb]
    · have hm : mulO (r + 2 ^ n) (r + 2 ^ n) = true := by rw [hmul]; simp only [hov, not_false_eq_true, decide_true]
      have hle : ¬ T ≤ a := fun h => hov (Int.lt_of_le_of_lt h hau)
      rw [if_neg hle]
      unfold rfHp
      repeat' (first
        | refine GW_seq ?_
        | simp only [List.length_cons, List.length_nil, Nat.reduceAdd, Nat.reduceMul, thenG_normal, thenG_ret, thenG_exit, thenG_goto, thenG_panic, blockG_normal, blockG_ret, blockG_goto, blockG_panic, jumpG_normal, jumpG_ret, jumpG_exit, jumpG_panic]
        | (refine GW_region' [] (by kernel_rfl) ?_; intro Q hQ hP; simp [hC, hY, roundTs, rfTs]; (first | refine hQ _ _ _ _ ?_ | refine hP _ _ (fun _ => ?_)); clear hQ hP Q)
        | (refine GW_draw' [] follows (by kernel_rfl) (by kernel_rfl) ?_; intro Q hQ hP; simp [hC, hY, roundTs, rfTs]; (first | refine hQ _ _ _ _ (by kernel_rfl) ?_ | refine hP _ _ (by kernel_rfl) (fun _ => ?_)); clear hQ hP Q)
        | refine GW_block ?_
        | refine GW_ret ?_
        | refine GW_skip ?_
        | refine GW_exit ?_
        | refine GW_goto ?_
        | refine GW_label ?_
        | simp only [blockG_exit]
        | (refine GW_cond (by simp; rfl) ?_ ?_ <;> (intro hb; first | (exfalso; exact absurd hb (by decide)) | skip)))
      intro C2 hC2 hh2 hY2
      replace hC : C2.G = G0 := hC2.trans hCC
      replace hY := hY2
      repeat' (first
        | refine GW_seq ?_
        | simp only [List.length_cons, List.length_nil, Nat.reduceAdd, Nat.reduceMul, thenG_normal, thenG_ret, thenG_exit, thenG_goto, thenG_panic, blockG_normal, blockG_ret, blockG_goto, blockG_panic, jumpG_normal, jumpG_ret, jumpG_exit, jumpG_panic]
        | (refine GW_region' [] (by kernel_rfl) ?_; intro Q hQ hP; simp [hC, hY, roundTs, rfTs, wb, szt, htt, hm]; (first | refine hQ _ _ _ _ ?_ | refine hP _ _ (fun _ => ?_)); clear hQ hP Q)
        | (refine GW_draw' [] follows (by kernel_rfl) (by kernel_rfl) ?_; intro Q hQ hP; simp [hC, hY, roundTs, rfTs, wb, szt, htt, hm]; (first | refine hQ _ _ _ _ (by kernel_rfl) ?_ | refine hP _ _ (by kernel_rfl) (fun _ => ?_)); clear hQ hP Q)
        | refine GW_block ?_
        | refine GW_ret ?_
        | refine GW_skip ?_
        | refine GW_exit ?_
        | refine GW_goto ?_
        | refine GW_label ?_
        | simp only [blockG_exit]
        | (refine GW_cond (by simp; rfl) ?_ ?_ <;> (intro hb; first | (exfalso; exact absurd hb (by decide)) | skip)))
      refine weakL [] 300 hC1' G0F hh1 (by omega) ?_ ?_ ?_
      · simp
      · simp [wb]
      · simp [wb]
  · left
    refine ⟨by rw [allXs_len]; omega, ?_⟩
    rw [← hisq]
    unfold rfHp rfTs
    repeat' (first
      | refine GW_seq ?_
      | simp only [List.length_cons, List.length_nil, Nat.reduceAdd, Nat.reduceMul, thenG_normal, thenG_ret, thenG_exit, thenG_goto, thenG_panic, blockG_normal, blockG_ret, blockG_goto, blockG_panic, jumpG_normal, jumpG_ret, jumpG_exit, jumpG_panic]
      | (refine GW_region' [] (by kernel_rfl) ?_; intro Q hQ hP; simp [hC, hY, wb]; (first | refine hQ _ _ _ _ ?_ | refine hP _ _ (fun _ => ?_)); clear hQ hP Q)
      | (refine GW_draw' [] follows (by kernel_rfl) (by kernel_rfl) ?_; intro Q hQ hP; simp [hC, hY, wb]; (first | refine hQ _ _ _ _ (by kernel_rfl) ?_ | refine hP _ _ (by kernel_rfl) (fun _ => ?_)); clear hQ hP Q)
      | refine GW_block ?_
      | refine GW_ret ?_
      | refine GW_skip ?_
      | refine GW_exit ?_
      | refine GW_goto ?_
      | refine GW_label ?_
      | simp only [blockG_exit]
      | (refine GW_cond (by simp; rfl) ?_ ?_ <;> (intro hb; first | (exfalso; exact absurd hb (by decide)) | skip)))
    refine ⟨.inr trivial, ?_⟩
    simp [Tryd.results44]
@[simp] theorem rfloor (a : Int) (ha : wr a) (h0 : 0 ≤ a) (K : Value → Prop) : callK Tryd.prog G0 44 #[Value.agg #[.int .u64 (wi (a) 0), .int .u64 (wi (a) 1), .int .u64 (wi (a) 2), .int .u64 (wi (a) 3)]] K ↔ K (wd (isq a)) := callK_iff G0W (by kernel_rfl) (rfloor_ret a ha h0)
end Go.Gy
