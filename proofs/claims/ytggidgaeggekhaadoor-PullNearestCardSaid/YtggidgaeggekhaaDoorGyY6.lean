/-
  Contracts: quot.plain.
  Conditions: none.
-/
import Derived.Test.YtggidgaeggekhaaDoorGyY5
namespace Go.Gy
set_option linter.unusedSimpArgs false
set_option linter.unusedVariables false
open Go Go.RowKit Go.Proofs

def pnHp (a b : Int) (k : Nat) : Hp := hpL G0 [(200, wb (rA a b k)), (208, wb b), (216, ⟨fa 4 .u64 (wi (qA a b k)), 24⟩), (224, zB)]
def pnTs : Nat → Value := tsL [(2, .pointer (some ⟨200, 0, none⟩)), (3, .pointer (some ⟨208, 0, none⟩)), (4, .pointer (some ⟨216, 0, none⟩)), (5, .pointer (some ⟨224, 0, none⟩))]
set_option maxHeartbeats 1000000 in
theorem plain_ret (a b : Int) (ha0 : 0 ≤ a) (ha : a < 57896044618658097711785492504343953926634992332820282019728792003956564819968) (hb0 : 0 < b) (hb1 : b < 57896044618658097711785492504343953926634992332820282019728792003956564819968) :
    Ret Tryd.prog G0 110 #[wd a, wd b] (.tuple #[wd (a / b), wd (a % b)]) := by
  refine ret_of G0F Tryd.func110 rfl Tryd.call110 (by simp) (by simp) (by simp [Tryd.ntmps110]) ?_
  intro C hC hC0 hY
  have hup := shN_up a b ha0 hb0 (by omega) (by omega)
  have hbd := shN_bd a b
  have hna : nbits a ≤ 255 := (nbits_bd 255 (by omega)).2
  have hlt : shN a b < 256 := by
    have ea : uz a = a := by unfold uz; omega
    have hnb := nbits_bd 256 (uz_bd b).2
    unfold shN; rw [ea]; omega
  have hit := shifts_it a b hlt
  generalize shN a b = N at *
  repeat' (first
    | refine GW_seq ?_
    | simp only [List.length_cons, List.length_nil, Nat.reduceAdd, Nat.reduceMul, thenG_normal, thenG_ret, thenG_exit, thenG_goto, thenG_panic, blockG_normal, blockG_ret, blockG_goto, blockG_panic, jumpG_normal, jumpG_ret, jumpG_exit, jumpG_panic]
    | (refine GW_region' [] (by kernel_rfl) ?_; intro Q hQ hP; simp [hC, hY]; (first | refine hQ _ _ _ _ ?_ | refine hP _ _ (fun _ => ?_)); clear hQ hP Q)
    | (refine GW_draw' [] follows (by kernel_rfl) (by kernel_rfl) ?_; intro Q hQ hP; simp [hC, hY]; (first | refine hQ _ _ _ _ (by kernel_rfl) ?_ | refine hP _ _ (by kernel_rfl) (fun _ => ?_)); clear hQ hP Q)
    | refine GW_block ?_
    | refine GW_ret ?_
    | refine GW_skip ?_
    | refine GW_exit ?_
    | refine GW_goto ?_
    | refine GW_label ?_
    | simp only [blockG_exit]
    | (refine GW_cond (by simp; rfl) ?_ ?_ <;> (intro hb; first | (exfalso; exact absurd hb (by decide)) | skip)))
  refine GW_region' [119] (by kernel_rfl) ?_; intro Q hQ hP; simp [hC, hY]
  refine heapK_of (shifts_new a b 248 (by omega)) (by simp) (fun _ _ => rfl) (by simp [Res.at]) ?_
  simp
  refine hQ _ _ _ _ ?_; clear hQ hP Q
  repeat' (first
    | refine GW_seq ?_
    | simp only [List.length_cons, List.length_nil, Nat.reduceAdd, Nat.reduceMul, thenG_normal, thenG_ret, thenG_exit, thenG_goto, thenG_panic, blockG_normal, blockG_ret, blockG_goto, blockG_panic, jumpG_normal, jumpG_ret, jumpG_exit, jumpG_panic]
    | (refine GW_region' [] (by kernel_rfl) ?_; intro Q hQ hP; simp [hC, hY]; (first | refine hQ _ _ _ _ ?_ | refine hP _ _ (fun _ => ?_)); clear hQ hP Q)
    | (refine GW_draw' [] follows (by kernel_rfl) (by kernel_rfl) ?_; intro Q hQ hP; simp [hC, hY]; (first | refine hQ _ _ _ _ (by kernel_rfl) ?_ | refine hP _ _ (by kernel_rfl) (fun _ => ?_)); clear hQ hP Q)
    | refine GW_block ?_
    | refine GW_ret ?_
    | refine GW_skip ?_
    | refine GW_exit ?_
    | refine GW_goto ?_
    | refine GW_label ?_
    | simp only [blockG_exit]
    | (refine GW_cond (by simp; rfl) ?_ ?_ <;> (intro hb; first | (exfalso; exact absurd hb (by decide)) | skip)))
  refine GW_range (f := 123) (rs := [248, 249]) (xs := shXs b N) (caps := #[.pointer (some ⟨248, 0, none⟩), .pointer (some ⟨249, 0, none⟩)]) (by simp) ?_ ?_ (by simp [Tryd.ntmps110]) pnTs (fun i => pnHp a b (N + 1 - (i : Int)).toNat) 300 (N + 1).toNat (by rw [shXs_len]; omega) ?_ ?_ ?_ ?_ ?_
  · rw [hC]
    refine IterG.cast (IterX.rn (fun k => if k = 100 then 248 else if k = 101 then 249 else k) G0F (fun k hk => hpL_low (by simp) hk) (rs := [100, 101]) ?_ hit) (by simp [ren0]) (by simp)
    refine ⟨fun k hk => ?_, ?_, ?_, ?_⟩
    · have h1 : ¬ k = 100 := by omega
      have h2 : ¬ k = 101 := by omega
      have h3 : ¬ k = 200 := by omega
      have h4 : ¬ k = 208 := by omega
      have h5 : ¬ k = 216 := by omega
      have h6 : ¬ k = 224 := by omega
      have h8 : ¬ k = 248 := by omega
      have h9 : ¬ k = 249 := by omega
      simp [h1, h2, h3, h4, h5, h6, h8, h9, wHp]
    · simp
    · simp [wHp, wb, Blk.rn, renF, ren0]
    · simp
  · intro x hx
    simp only [shXs, List.mem_map] at hx
    obtain ⟨i, _, rfl⟩ := hx
    simp
  · have e := dA_begin a b (N + 1).toNat ha0 hup.1
    refine weakL _ 300 hC G0F (m0 := []) hC0 (by omega) ?_ ?_ ?_
    · simp [dom]
    · simp [zB, wb, e.1, e.2, fa_4, wi_zero]
    · simp
  · simp [pnHp, dom]
  · intro i hi t
    refine tsL_ids ?_ t
    simp [dom, pnHp]
  · intro i x hi hx C1 l hC1 hh1 hY1
    have hCC := hC
    have hC1' : C1.G = G0 := hC1.trans hC
    obtain ⟨n, hn⟩ : ∃ n : Nat, N - (i : Int) = n := ⟨(N - i).toNat, by omega⟩
    rw [shXs_at b N i hi, hn] at hx
    have e1 : (N + 1 - (i : Int)).toNat = n + 1 := by omega
    have e2 : (N + 1 - ((i + 1 : Nat) : Int)).toNat = n := by omega
    simp only [e1, e2]
    cases hx
    have hD : b * 2 ^ n < 57896044618658097711785492504343953926634992332820282019728792003956564819968 := by
      have h1 := hup.2 (by omega)
      have h2 : (2 : Int) ^ n ≤ 2 ^ N.toNat := by exact_mod_cast Nat.pow_le_pow_right (by omega) (by omega : n ≤ N.toNat)
      have h3 : b * 2 ^ n ≤ b * 2 ^ N.toNat := Int.mul_le_mul_of_nonneg_left h2 (by omega)
      have h4 : (2 : Int) ^ (nbits a).toNat ≤ 2 ^ 255 := by exact_mod_cast Nat.pow_le_pow_right (by omega) (by omega : (nbits a).toNat ≤ 255)
      omega
    have hD0 : 0 < b * 2 ^ n := Int.mul_pos hb0 (pow_pos2 _)
    have hM0 : 0 < b * 2 ^ (n + 1) := Int.mul_pos hb0 (pow_pos2 _)
    have hA0 : 0 ≤ rA a b (n + 1) := Int.emod_nonneg _ (by omega)
    have hA1 : rA a b (n + 1) ≤ a := by
      have h1 := Int.emod_add_mul_ediv a (b * 2 ^ (n + 1))
      have h2 : 0 ≤ b * 2 ^ (n + 1) * (a / (b * 2 ^ (n + 1))) := Int.mul_nonneg (by omega) (Int.ediv_nonneg ha0 (by omega))
      unfold rA; omega
    have szD : sz (b * 2 ^ n) = b * 2 ^ n := sz_pos (Int.le_of_lt hD0) hD
    have szA : sz (rA a b (n + 1)) = rA a b (n + 1) := sz_pos hA0 (Int.lt_of_le_of_lt hA1 ha)
    obtain ⟨t, r, hr, hn'⟩ : ∃ t r, r < 64 ∧ n = 64 * t + r := ⟨n / 64, n % 64, by omega, by omega⟩
    have tq : ((n : Int)).tdiv 64 = t := by rw [Int.tdiv_eq_ediv_of_nonneg (by omega)]; omega
    have tm : ((n : Int)).tmod 64 = r := by rw [Int.tmod_eq_emod_of_nonneg (by omega)]; omega
    have t4 : t < 4 := by omega
    have t4' : (t : Int) < 4 := by omega
    have t0 : (0 : Int) ≤ t := by omega
    have tb : Int.bmod (t : Int) 18446744073709551616 = t := bm (by omega) (by omega)
    have t3 : t ≤ 3 := Nat.le_of_lt_succ t4
    have t3' : (t : Int) ≤ 3 := Int.le_of_lt_add_one t4'
    have m1 : min r 64 = r := by omega
    have m2 : (2 : Int) ^ r % 18446744073709551616 = 2 ^ r := Int.emod_eq_of_lt (Int.le_of_lt (pow_pos2 _)) (by
      have : (2 : Int) ^ r < 2 ^ 64 := by exact_mod_cast Nat.pow_lt_pow_right (by omega) hr
      exact this)
    have hst := dA_step a b hb0 n
    replace hC := hC1'
    replace hY := hY1
    by_cases hle : b * 2 ^ n ≤ rA a b (n + 1)
    · have hcmp : cmpI (sz (b * 2 ^ n)) (sz (rA a b (n + 1))) ≤ 0 := by rw [szD, szA]; unfold cmpI; split <;> (try split) <;> omega
      obtain ⟨s1, s2⟩ := hst.1 hle
      have hb1 := wi_bit (a / (b * 2 ^ (64 * t + r + 1))) t r hr
      have hb2 := wi_other (a / (b * 2 ^ (64 * t + r + 1))) t r
      rw [← hn'] at hb1 hb2
      replace hb1 : bitI .or .u64 (wi (qA a b (n + 1)) t) (2 ^ r) = wi (qA a b n) t := by rw [s2]; exact hb1
      replace hb2 : ∀ j, j ≠ t → wi (qA a b n) j = wi (qA a b (n + 1)) j := fun j hj => by rw [s2]; exact hb2 j hr hj
      have hq : fa 4 .u64 (upd (wi (qA a b (n + 1))) t (wi (qA a b n) t)) = fa 4 .u64 (wi (qA a b n)) := fa_congr fun j _ => by
        unfold upd; split
        · rename_i h; rw [h]
        · rename_i h; rw [hb2 j h]
      unfold pnHp
      repeat' (first
        | refine GW_seq ?_
        | simp only [List.length_cons, List.length_nil, Nat.reduceAdd, Nat.reduceMul, thenG_normal, thenG_ret, thenG_exit, thenG_goto, thenG_panic, blockG_normal, blockG_ret, blockG_goto, blockG_panic, jumpG_normal, jumpG_ret, jumpG_exit, jumpG_panic]
        | (refine GW_region' [] (by kernel_rfl) ?_; intro Q hQ hP; simp [hC, hY, roundTs, pnTs]; (first | refine hQ _ _ _ _ ?_ | refine hP _ _ (fun _ => ?_)); clear hQ hP Q)
        | (refine GW_draw' [] follows (by kernel_rfl) (by kernel_rfl) ?_; intro Q hQ hP; simp [hC, hY, roundTs, pnTs]; (first | refine hQ _ _ _ _ (by kernel_rfl) ?_ | refine hP _ _ (by kernel_rfl) (fun _ => ?_)); clear hQ hP Q)
        | refine GW_block ?_
        | refine GW_ret ?_
        | refine GW_skip ?_
        | refine GW_exit ?_
        | refine GW_goto ?_
        | refine GW_label ?_
        | simp only [blockG_exit]
        | (refine GW_cond (by simp; rfl) ?_ ?_ <;> (intro hb; first | (exfalso; exact absurd hb (by decide)) | skip)))
      intro C2 hC2 hh2 hY2
      replace hC : C2.G = G0 := hC2.trans hCC
      replace hY := hY2
      repeat' (first
        | refine GW_seq ?_
        | simp only [List.length_cons, List.length_nil, Nat.reduceAdd, Nat.reduceMul, thenG_normal, thenG_ret, thenG_exit, thenG_goto, thenG_panic, blockG_normal, blockG_ret, blockG_goto, blockG_panic, jumpG_normal, jumpG_ret, jumpG_exit, jumpG_panic]
        | (refine GW_region' [] (by kernel_rfl) ?_; intro Q hQ hP; simp [hC, hY, roundTs, pnTs, wb, hcmp, tq, tm, t4, t4', t0, t3, t3', tb, m1, m2, fa_get, fa_set, hb1]; (first | refine hQ _ _ _ _ ?_ | refine hP _ _ (fun _ => ?_)); clear hQ hP Q)
        | (refine GW_draw' [] follows (by kernel_rfl) (by kernel_rfl) ?_; intro Q hQ hP; simp [hC, hY, roundTs, pnTs, wb, hcmp, tq, tm, t4, t4', t0, t3, t3', tb, m1, m2, fa_get, fa_set, hb1]; (first | refine hQ _ _ _ _ (by kernel_rfl) ?_ | refine hP _ _ (by kernel_rfl) (fun _ => ?_)); clear hQ hP Q)
        | refine GW_block ?_
        | refine GW_ret ?_
        | refine GW_skip ?_
        | refine GW_exit ?_
        | refine GW_goto ?_
        | refine GW_label ?_
        | simp only [blockG_exit]
        | (refine GW_cond (by simp; rfl) ?_ ?_ <;> (intro hb; first | (exfalso; exact absurd hb (by decide)) | skip)))
      refine weakL [] 300 hC1' G0F hh1 (by omega) ?_ ?_ ?_
      · simp
      · simp [fa_ids, ids_lit, wb, zB, hq, s1]
      · simp [wb, zB, hq, s1]
    · have hcmp : ¬ cmpI (sz (b * 2 ^ n)) (sz (rA a b (n + 1))) ≤ 0 := by rw [szD, szA]; unfold cmpI; split <;> (try split) <;> omega
      obtain ⟨s1, s2⟩ := hst.2 (by omega)
      unfold pnHp
      repeat' (first
        | refine GW_seq ?_
        | simp only [List.length_cons, List.length_nil, Nat.reduceAdd, Nat.reduceMul, thenG_normal, thenG_ret, thenG_exit, thenG_goto, thenG_panic, blockG_normal, blockG_ret, blockG_goto, blockG_panic, jumpG_normal, jumpG_ret, jumpG_exit, jumpG_panic]
        | (refine GW_region' [] (by kernel_rfl) ?_; intro Q hQ hP; simp [hC, hY, roundTs, pnTs]; (first | refine hQ _ _ _ _ ?_ | refine hP _ _ (fun _ => ?_)); clear hQ hP Q)
        | (refine GW_draw' [] follows (by kernel_rfl) (by kernel_rfl) ?_; intro Q hQ hP; simp [hC, hY, roundTs, pnTs]; (first | refine hQ _ _ _ _ (by kernel_rfl) ?_ | refine hP _ _ (by kernel_rfl) (fun _ => ?_)); clear hQ hP Q)
        | refine GW_block ?_
        | refine GW_ret ?_
        | refine GW_skip ?_
        | refine GW_exit ?_
        | refine GW_goto ?_
        | refine GW_label ?_
        | simp only [blockG_exit]
        | (refine GW_cond (by simp; rfl) ?_ ?_ <;> (intro hb; first | (exfalso; exact absurd hb (by decide)) | skip)))
      intro C2 hC2 hh2 hY2
      replace hC : C2.G = G0 := hC2.trans hCC
      replace hY := hY2
      repeat' (first
        | refine GW_seq ?_
        | simp only [List.length_cons, List.length_nil, Nat.reduceAdd, Nat.reduceMul, thenG_normal, thenG_ret, thenG_exit, thenG_goto, thenG_panic, blockG_normal, blockG_ret, blockG_goto, blockG_panic, jumpG_normal, jumpG_ret, jumpG_exit, jumpG_panic]
        | (refine GW_region' [] (by kernel_rfl) ?_; intro Q hQ hP; simp [hC, hY, roundTs, pnTs, wb, hcmp]; (first | refine hQ _ _ _ _ ?_ | refine hP _ _ (fun _ => ?_)); clear hQ hP Q)
        | (refine GW_draw' [] follows (by kernel_rfl) (by kernel_rfl) ?_; intro Q hQ hP; simp [hC, hY, roundTs, pnTs, wb, hcmp]; (first | refine hQ _ _ _ _ (by kernel_rfl) ?_ | refine hP _ _ (by kernel_rfl) (fun _ => ?_)); clear hQ hP Q)
        | refine GW_block ?_
        | refine GW_ret ?_
        | refine GW_skip ?_
        | refine GW_exit ?_
        | refine GW_goto ?_
        | refine GW_label ?_
        | simp only [blockG_exit]
        | (refine GW_cond (by simp; rfl) ?_ ?_ <;> (intro hb; first | (exfalso; exact absurd hb (by decide)) | skip)))
      refine weakL [] 300 hC1' G0F hh1 (by omega) ?_ ?_ ?_
      · simp
      · simp [fa_ids, ids_lit, wb, zB, s1, s2]
      · simp [wb, zB, s1, s2]
  · left
    refine ⟨by rw [shXs_len], ?_⟩
    have e : (N + 1 - ((N + 1).toNat : Int)).toNat = 0 := by omega
    have ed := dA_end a b
    rw [e]
    unfold pnHp pnTs
    rw [ed.1, ed.2]
    repeat' (first
      | refine GW_seq ?_
      | simp only [List.length_cons, List.length_nil, Nat.reduceAdd, Nat.reduceMul, thenG_normal, thenG_ret, thenG_exit, thenG_goto, thenG_panic, blockG_normal, blockG_ret, blockG_goto, blockG_panic, jumpG_normal, jumpG_ret, jumpG_exit, jumpG_panic]
      | (refine GW_region' [] (by kernel_rfl) ?_; intro Q hQ hP; simp [hC, hY, wb, fa_4, zB]; (first | refine hQ _ _ _ _ ?_ | refine hP _ _ (fun _ => ?_)); clear hQ hP Q)
      | (refine GW_draw' [] follows (by kernel_rfl) (by kernel_rfl) ?_; intro Q hQ hP; simp [hC, hY, wb, fa_4, zB]; (first | refine hQ _ _ _ _ (by kernel_rfl) ?_ | refine hP _ _ (by kernel_rfl) (fun _ => ?_)); clear hQ hP Q)
      | refine GW_block ?_
      | refine GW_ret ?_
      | refine GW_skip ?_
      | refine GW_exit ?_
      | refine GW_goto ?_
      | refine GW_label ?_
      | simp only [blockG_exit]
      | (refine GW_cond (by simp; rfl) ?_ ?_ <;> (intro hb; first | (exfalso; exact absurd hb (by decide)) | skip)))
    refine ⟨.inr trivial, ?_⟩
    simp [Tryd.results110]
@[simp] theorem qplain (a b : Int) (ha0 : 0 ≤ a) (ha : a < 57896044618658097711785492504343953926634992332820282019728792003956564819968) (hb0 : 0 < b) (hb1 : b < 57896044618658097711785492504343953926634992332820282019728792003956564819968) (K : Value → Prop) :
    callK Tryd.prog G0 110 #[Value.agg #[.int .u64 (wi (a) 0), .int .u64 (wi (a) 1), .int .u64 (wi (a) 2), .int .u64 (wi (a) 3)], Value.agg #[.int .u64 (wi (b) 0), .int .u64 (wi (b) 1), .int .u64 (wi (b) 2), .int .u64 (wi (b) 3)]] K ↔ K (.tuple #[wd (a / b), wd (a % b)]) := callK_iff G0W (by kernel_rfl) (plain_ret a b ha0 ha hb0 hb1)
end Go.Gy
