/-
  Lemmas of this claim, in their order (GyY6, GyY7, GyZ1, GyZ2, GyZ3, GyRA, GyRB, GyDM, GyQA, GyVB, GyVC, GyVD, GyRC, GyRF, GyQB, GyDB, GyDC, GyEP, GyEQ, GyEA, GyWA, GyWB, GyLB, GyWC, GyWD, GyWE, GyWK, GyER, GyEE, GyWF, GyWG, GyWH).
  Conditions: those of each theorem.
-/
import Derived.Test.YtfedlkjhfnlnbaaGreatDoorGz04
namespace Go.Gy
set_option linter.unusedSimpArgs false
set_option linter.unusedVariables false
open Go Go.RowKit Go.Proofs

def pnHp (a b : Int) (k : Nat) : Hp := hpL G0 [(200, wb (rA a b k)), (208, wb b), (216, ⟨fa 4 .u64 (wi (qA a b k)), .ty 30⟩), (224, zB)]
def pnTs : Nat → Value := tsL [(2, .pointer (some ⟨200, 0, none⟩)), (3, .pointer (some ⟨208, 0, none⟩)), (4, .pointer (some ⟨216, 0, none⟩)), (5, .pointer (some ⟨224, 0, none⟩))]
set_option maxHeartbeats 1000000 in
theorem plain_ret (a b : Int) (ha0 : 0 ≤ a) (ha : a < 57896044618658097711785492504343953926634992332820282019728792003956564819968) (hb0 : 0 < b) (hb1 : b < 57896044618658097711785492504343953926634992332820282019728792003956564819968) :
    Ret Tryz.prog G0 116 #[wd a, wd b] (.tuple #[wd (a / b), wd (a % b)]) := by
  refine ret_of G0F Tryz.func116 rfl Tryz.call116 (by simp) (by simp) (by simp [Tryz.ntmps116]) ?_
  intro C hC hC0 hY
  have hup := shN_up a b ha0 hb0 (by omega) (by omega)
  have hbd := shN_bd a b
  have hna : nbits a ≤ 255 := (nbits_bd 255 (by omega)).2
  have hlt : shN a b < 256 := by
    have ea : uz a = a := by unfold uz; omega
    have hnb := nbits_bd 256 (uz_bd b).2
    unfold shN; rw [ea]; omega
  have hit := shifts_it a b hlt
  generalize shN a b = N at *
  repeat' (first | apply gwS | simp only [wN, wM, Nat.reduceAdd, Nat.reduceMul] | ((first | refine gwR [] ?_ | refine gwD [] ?_); intro Q hQ hP; simp [hC, hY]; (first | refine hQ _ _ _ _ (by kernel_rfl) ?_ | refine hP _ _ (by kernel_rfl) fun _ => ?_); clear hQ hP Q) | apply gwB | apply gwT | apply gwK | apply gwE | apply gwG | apply gwL | simp only [blockG_exit] | (refine gwC ?_ ?_ <;> (intro hb; first | (cases hb; done) | skip)))
  refine GW_region' [130] (by kernel_rfl) ?_; intro Q hQ hP; simp [hC, hY]
  refine heapK_of (shifts_new a b 248 (by omega)) (by simp) (fun _ _ => rfl) (by simp [Res.at]) ?_
  simp
  refine hQ _ _ _ _ ?_; clear hQ hP Q
  repeat' (first | apply gwS | simp only [wN, wM, Nat.reduceAdd, Nat.reduceMul] | ((first | refine gwR [] ?_ | refine gwD [] ?_); intro Q hQ hP; simp [hC, hY]; (first | refine hQ _ _ _ _ (by kernel_rfl) ?_ | refine hP _ _ (by kernel_rfl) fun _ => ?_); clear hQ hP Q) | apply gwB | apply gwT | apply gwK | apply gwE | apply gwG | apply gwL | simp only [blockG_exit] | (refine gwC ?_ ?_ <;> (intro hb; first | (cases hb; done) | skip)))
  refine GW_range (f := 134) (rs := [248, 249]) (xs := shXs b N) (caps := #[.pointer (some ⟨248, 0, none⟩), .pointer (some ⟨249, 0, none⟩)]) (by simp) ?_ ?_ (by simp [Tryz.ntmps116]) pnTs (fun i => pnHp a b (N + 1 - (i : Int)).toNat) 300 (N + 1).toNat (by rw [shXs_len]; omega) ?_ ?_ ?_ ?_ ?_
  · rw [hC]
    refine IterG.cast (IterX.rn (fun k => if k = 100 then 248 else if k = 101 then 249 else k) G0F (fun k hk => hpL_low (by simp) hk) (rs := [100, 101]) ?_ hit) (by simp [ren0]) (by simp)
    refine ⟨fun k hk => ?_, ?_, ?_, ?_⟩
    · have h1 : ¬ k = 100 := by omega
      have h2 : ¬ k = 101 := by omega
      have h3 : ¬ k = 200 := by omega
      have h4 : ¬ k = 208 := by omega
      have h5 : ¬ k = 216 := by omega
      have h6 : ¬ k = 224 := by omega
      have h8 : ¬ k = 248 := by omega
      have h9 : ¬ k = 249 := by omega
      simp [h1, h2, h3, h4, h5, h6, h8, h9, wHp]
    · simp
    · simp [wHp, wb, Blk.rn, renF, ren0]
    · simp
  · intro x hx
    simp only [shXs, List.mem_map] at hx
    obtain ⟨i, _, rfl⟩ := hx
    simp
  · have e := dA_begin a b (N + 1).toNat ha0 hup.1
    refine weakL _ 300 hC G0F (m0 := []) hC0 (by omega) ?_ ?_ ?_
    · simp [dom]
    · simp [zB, wb, e.1, e.2, fa_4, wi_zero]
    · simp
  · simp [pnHp, dom]
  · intro i hi t
    refine tsL_ids ?_ t
    simp [dom, pnHp]
  · intro i x hi hx C1 l hC1 hh1 hY1
    have hCC := hC
    have hC1' : C1.G = G0 := hC1.trans hC
    obtain ⟨n, hn⟩ : ∃ n : Nat, N - (i : Int) = n := ⟨(N - i).toNat, by omega⟩
    rw [shXs_at b N i hi, hn] at hx
    have e1 : (N + 1 - (i : Int)).toNat = n + 1 := by omega
    have e2 : (N + 1 - ((i + 1 : Nat) : Int)).toNat = n := by omega
    simp only [e1, e2]
    cases hx
    have hD : b * 2 ^ n < 57896044618658097711785492504343953926634992332820282019728792003956564819968 := by
      have h1 := hup.2 (by omega)
      have h2 : (2 : Int) ^ n ≤ 2 ^ N.toNat := by exact_mod_cast Nat.pow_le_pow_right (by omega) (by omega : n ≤ N.toNat)
      have h3 : b * 2 ^ n ≤ b * 2 ^ N.toNat := Int.mul_le_mul_of_nonneg_left h2 (by omega)
      have h4 : (2 : Int) ^ (nbits a).toNat ≤ 2 ^ 255 := by exact_mod_cast Nat.pow_le_pow_right (by omega) (by omega : (nbits a).toNat ≤ 255)
      omega
    have hD0 : 0 < b * 2 ^ n := Int.mul_pos hb0 (pow_pos2 _)
    have hM0 : 0 < b * 2 ^ (n + 1) := Int.mul_pos hb0 (pow_pos2 _)
    have hA0 : 0 ≤ rA a b (n + 1) := Int.emod_nonneg _ (by omega)
    have hA1 : rA a b (n + 1) ≤ a := by
      have h1 := Int.emod_add_mul_ediv a (b * 2 ^ (n + 1))
      have h2 : 0 ≤ b * 2 ^ (n + 1) * (a / (b * 2 ^ (n + 1))) := Int.mul_nonneg (by omega) (Int.ediv_nonneg ha0 (by omega))
      unfold rA; omega
    have szD : sz (b * 2 ^ n) = b * 2 ^ n := sz_pos (Int.le_of_lt hD0) hD
    have szA : sz (rA a b (n + 1)) = rA a b (n + 1) := sz_pos hA0 (Int.lt_of_le_of_lt hA1 ha)
    obtain ⟨t, r, hr, hn'⟩ : ∃ t r, r < 64 ∧ n = 64 * t + r := ⟨n / 64, n % 64, by omega, by omega⟩
    have tq : ((n : Int)).tdiv 64 = t := by rw [Int.tdiv_eq_ediv_of_nonneg (by omega)]; omega
    have tm : ((n : Int)).tmod 64 = r := by rw [Int.tmod_eq_emod_of_nonneg (by omega)]; omega
    have t4 : t < 4 := by omega
    have t4' : (t : Int) < 4 := by omega
    have t0 : (0 : Int) ≤ t := by omega
    have tb : Int.bmod (t : Int) 18446744073709551616 = t := bm (by omega) (by omega)
    have t3 : t ≤ 3 := Nat.le_of_lt_succ t4
    have t3' : (t : Int) ≤ 3 := Int.le_of_lt_add_one t4'
    have m1 : min r 64 = r := by omega
    have m2 : (2 : Int) ^ r % 18446744073709551616 = 2 ^ r := Int.emod_eq_of_lt (Int.le_of_lt (pow_pos2 _)) (by
      have : (2 : Int) ^ r < 2 ^ 64 := by exact_mod_cast Nat.pow_lt_pow_right (by omega) hr
      exact this)
    have hst := dA_step a b hb0 n
    replace hC := hC1'
    replace hY := hY1
    by_cases hle : b * 2 ^ n ≤ rA a b (n + 1)
    · have hcmp : cmpI (sz (b * 2 ^ n)) (sz (rA a b (n + 1))) ≤ 0 := by rw [szD, szA]; unfold cmpI; split <;> (try split) <;> omega
      obtain ⟨s1, s2⟩ := hst.1 hle
      have hb1 := wi_bit (a / (b * 2 ^ (64 * t + r + 1))) t r hr
      have hb2 := wi_other (a / (b * 2 ^ (64 * t + r + 1))) t r
      rw [← hn'] at hb1 hb2
      replace hb1 : bitI .or .u64 (wi (qA a b (n + 1)) t) (2 ^ r) = wi (qA a b n) t := by rw [s2]; exact hb1
      replace hb2 : ∀ j, j ≠ t → wi (qA a b n) j = wi (qA a b (n + 1)) j := fun j hj => by rw [s2]; exact hb2 j hr hj
      have hq : fa 4 .u64 (upd (wi (qA a b (n + 1))) t (wi (qA a b n) t)) = fa 4 .u64 (wi (qA a b n)) := fa_congr fun j _ => by
        unfold upd; split
        · rename_i h; rw [h]
        · rename_i h; rw [hb2 j h]
      unfold pnHp
      repeat' (first | apply gwS | simp only [wN, wM, Nat.reduceAdd, Nat.reduceMul] | ((first | refine gwR [] ?_ | refine gwD [] ?_); intro Q hQ hP; simp [hC, hY, roundTs, pnTs]; (first | refine hQ _ _ _ _ (by kernel_rfl) ?_ | refine hP _ _ (by kernel_rfl) fun _ => ?_); clear hQ hP Q) | apply gwB | apply gwT | apply gwK | apply gwE | apply gwG | apply gwL | simp only [blockG_exit] | (refine gwC ?_ ?_ <;> (intro hb; first | (cases hb; done) | skip)))
      intro C2 hC2 hh2 hY2
      replace hC : C2.G = G0 := hC2.trans hCC
      replace hY := hY2
      repeat' (first | apply gwS | simp only [wN, wM, Nat.reduceAdd, Nat.reduceMul] | ((first | refine gwR [] ?_ | refine gwD [] ?_); intro Q hQ hP; simp [hC, hY, roundTs, pnTs, wb, hcmp, tq, tm, t4, t4', t0, t3, t3', tb, m1, m2, fa_get, fa_set, hb1]; (first | refine hQ _ _ _ _ (by kernel_rfl) ?_ | refine hP _ _ (by kernel_rfl) fun _ => ?_); clear hQ hP Q) | apply gwB | apply gwT | apply gwK | apply gwE | apply gwG | apply gwL | simp only [blockG_exit] | (refine gwC ?_ ?_ <;> (intro hb; first | (cases hb; done) | skip)))
      refine weakL [] 300 hC1' G0F hh1 (by omega) ?_ ?_ ?_
      · simp
      · simp [fa_ids, ids_lit, wb, zB, hq, s1]
      · simp [wb, zB, hq, s1]
    · have hcmp : ¬ cmpI (sz (b * 2 ^ n)) (sz (rA a b (n + 1))) ≤ 0 := by rw [szD, szA]; unfold cmpI; split <;> (try split) <;> omega
      obtain ⟨s1, s2⟩ := hst.2 (by omega)
      unfold pnHp
      repeat' (first | apply gwS | simp only [wN, wM, Nat.reduceAdd, Nat.reduceMul] | ((first | refine gwR [] ?_ | refine gwD [] ?_); intro Q hQ hP; simp [hC, hY, roundTs, pnTs]; (first | refine hQ _ _ _ _ (by kernel_rfl) ?_ | refine hP _ _ (by kernel_rfl) fun _ => ?_); clear hQ hP Q) | apply gwB | apply gwT | apply gwK | apply gwE | apply gwG | apply gwL | simp only [blockG_exit] | (refine gwC ?_ ?_ <;> (intro hb; first | (cases hb; done) | skip)))
      intro C2 hC2 hh2 hY2
      replace hC : C2.G = G0 := hC2.trans hCC
      replace hY := hY2
      repeat' (first | apply gwS | simp only [wN, wM, Nat.reduceAdd, Nat.reduceMul] | ((first | refine gwR [] ?_ | refine gwD [] ?_); intro Q hQ hP; simp [hC, hY, roundTs, pnTs, wb, hcmp]; (first | refine hQ _ _ _ _ (by kernel_rfl) ?_ | refine hP _ _ (by kernel_rfl) fun _ => ?_); clear hQ hP Q) | apply gwB | apply gwT | apply gwK | apply gwE | apply gwG | apply gwL | simp only [blockG_exit] | (refine gwC ?_ ?_ <;> (intro hb; first | (cases hb; done) | skip)))
      refine weakL [] 300 hC1' G0F hh1 (by omega) ?_ ?_ ?_
      · simp
      · simp [fa_ids, ids_lit, wb, zB, s1, s2]
      · simp [wb, zB, s1, s2]
  · left
    refine ⟨by rw [shXs_len], ?_⟩
    have e : (N + 1 - ((N + 1).toNat : Int)).toNat = 0 := by omega
    have ed := dA_end a b
    rw [e]
    unfold pnHp pnTs
    rw [ed.1, ed.2]
    repeat' (first | apply gwS | simp only [wN, wM, Nat.reduceAdd, Nat.reduceMul] | ((first | refine gwR [] ?_ | refine gwD [] ?_); intro Q hQ hP; simp [hC, hY, wb, fa_4, zB]; (first | refine hQ _ _ _ _ (by kernel_rfl) ?_ | refine hP _ _ (by kernel_rfl) fun _ => ?_); clear hQ hP Q) | apply gwB | apply gwT | apply gwK | apply gwE | apply gwG | apply gwL | simp only [blockG_exit] | (refine gwC ?_ ?_ <;> (intro hb; first | (cases hb; done) | skip)))
    refine ⟨.inr trivial, ?_⟩
    simp [Tryz.results116]
@[simp] theorem qplain (a b : Int) (ha0 : 0 ≤ a) (ha : a < 57896044618658097711785492504343953926634992332820282019728792003956564819968) (hb0 : 0 < b) (hb1 : b < 57896044618658097711785492504343953926634992332820282019728792003956564819968) (K : Value → Prop) :
    callK Tryz.prog G0 116 #[Value.agg #[.int .u64 (wi (a) 0), .int .u64 (wi (a) 1), .int .u64 (wi (a) 2), .int .u64 (wi (a) 3)], Value.agg #[.int .u64 (wi (b) 0), .int .u64 (wi (b) 1), .int .u64 (wi (b) 2), .int .u64 (wi (b) 3)]] K ↔ K (.tuple #[wd (a / b), wd (a % b)]) := callK_iff G0W (by kernel_rfl) (plain_ret a b ha0 ha hb0 hb1)
theorem ret_of_retp {P : Program} {G : Hp} {f : FuncId} {args : Array Value} {v : Value} (h : RetP P G f args (.ret v)) : Ret P G f args v := ⟨h.1 v rfl, h.2.1, h.2.2.1, h.2.2.2⟩
@[simp] theorem qmust (n : Int) (K : Value → Prop) : callK Tryz.prog G0 114 #[.bool true, .int .i64 n] K ↔ K (.tuple #[]) := callK_iff G0W (by kernel_rfl) (ret_of_retp (must_t n))
@[simp] theorem qsure (z : Int) (K : Value → Prop) : callK Tryz.prog G0 115 #[Value.agg #[.int .u64 (wi (z) 0), .int .u64 (wi (z) 1), .int .u64 (wi (z) 2), .int .u64 (wi (z) 3)], .bool false] K ↔ K (wd z) := callK_iff G0W (by kernel_rfl) (ret_of_retp (sure_f z))
def wr (z : Int) : Prop := -57896044618658097711785492504343953926634992332820282019728792003956564819968 ≤ z ∧ z < 57896044618658097711785492504343953926634992332820282019728792003956564819968
theorem wr_sz {z : Int} (h : wr z) : sz z = z := sz_id h.1 h.2
theorem wr_ng {z : Int} (h : wr z) : ng z = decide (z < 0) := by rw [ng_sz, wr_sz h]
theorem ng_f {z : Int} (h : wr z) (h0 : 0 ≤ z) : ng z = false := by rw [wr_ng h]; simp; exact h0
theorem ng_t {z : Int} (h : wr z) (h0 : z < 0) : ng z = true := by rw [wr_ng h]; simp; exact h0
theorem least_ne (z : Int) (h : wr z) (h1 : z ≠ -57896044618658097711785492504343953926634992332820282019728792003956564819968) : (!wi z 0 == 0 || (!wi z 1 == 0 || (!wi z 2 == 0 || !wi z 3 == 9223372036854775808))) = true := by
  refine Classical.byContradiction fun hn => h1 ?_
  simp at hn
  obtain ⟨w0, w1, w2, w3⟩ := hn
  rw [← wr_sz h, sz_w, w0, w1, w2, w3]
  unfold ng; rw [w3]; decide
theorem wr_ne {z : Int} (h : wr z) (h0 : z ≠ 0) : (!wi z 0 == 0 || (!wi z 1 == 0 || (!wi z 2 == 0 || !wi z 3 == 0))) = true := words_ne z (by rw [wr_sz h]; exact h0)
theorem i64_1 : i64 1 := by decide
def lst : Int := -57896044618658097711785492504343953926634992332820282019728792003956564819968

theorem floor_zero (a : Int) : RetP Tryz.prog G0 100 #[wd a, wd 0] (.pan (erV 30)) := by
  refine retp_of G0F Tryz.func100 rfl Tryz.call100 (fun v h => by cases h) (by simp) (by simp [Tryz.ntmps100]) ?_
  intro C hC hC0 hY
  repeat' (first | apply gwS | simp only [wN, wM, Nat.reduceAdd, Nat.reduceMul] | ((first | refine gwR [1000114] ?_ | refine gwD [1000114] ?_); intro Q hQ hP; simp [hC, hY, wi_zero]; (repeat ((first | (refine callP_of (must_f 30) ?_)); try simp [hC, hY, wi_zero])); (first | refine hQ _ _ _ _ (by kernel_rfl) ?_ | refine hP _ _ (by kernel_rfl) fun _ => ?_); clear hQ hP Q) | apply gwB | apply gwT | apply gwK | apply gwE | apply gwG | apply gwL | simp only [blockG_exit] | (refine gwC ?_ ?_ <;> (intro hb; first | (cases hb; done) | skip)))
  rfl
set_option maxHeartbeats 2000000 in
theorem floor_pp (a b : Int) (ha : wr a) (hb : wr b) (h0 : 0 < b) (ha0 : 0 ≤ a) : Ret Tryz.prog G0 100 #[wd a, wd b] (.tuple #[wd (a.fdiv b), wd (a.fmod b)]) := by
  refine ret_of G0F Tryz.func100 rfl Tryz.call100 (by simp) (by simp) (by simp [Tryz.ntmps100]) ?_
  intro C hC hC0 hY
  have hz := wr_ne hb (by omega)
  have hn1 := least_ne a ha (by omega)
  have hn2 := least_ne b hb (by omega)
  have s1 : ¬ cmpI (sz b) 0 < 0 := by rw [wr_sz hb]; unfold cmpI; split <;> (try split) <;> omega
  have s2 : ¬ cmpI (sz a) 0 < 0 := by rw [wr_sz ha]; unfold cmpI; split <;> (try split) <;> omega
  have hbu : b < 57896044618658097711785492504343953926634992332820282019728792003956564819968 := hb.2
  have hau : a < 57896044618658097711785492504343953926634992332820282019728792003956564819968 := ha.2
  have e1 : a.fdiv b = a / b := Int.fdiv_eq_ediv_of_nonneg a (by omega)
  have e2 : a.fmod b = a % b := Int.fmod_eq_emod_of_nonneg a (by omega)
  repeat' (first | apply gwS | simp only [wN, wM, Nat.reduceAdd, Nat.reduceMul] | ((first | refine gwR [] ?_ | refine gwD [] ?_); intro Q hQ hP; simp [hC, hY, hz, hn1, hn2, s1, s2, lsB, ha0, hau, h0, hbu]; (first | refine hQ _ _ _ _ (by kernel_rfl) ?_ | refine hP _ _ (by kernel_rfl) fun _ => ?_); clear hQ hP Q) | apply gwB | apply gwT | apply gwK | apply gwE | apply gwG | apply gwL | simp only [blockG_exit] | (refine gwC ?_ ?_ <;> (intro hb; first | (cases hb; done) | skip)))
  refine ⟨.inr trivial, ?_⟩
  simp [Tryz.results100, e1, e2]
theorem neg_fdiv (m b : Int) (hb : 0 < b) : (-(m + 1)).fdiv b = -(m / b) - 1 ∧ (-(m + 1)).fmod b = b - 1 - m % b := by
  have h1 := Int.emod_add_mul_ediv m b
  have h2 := Int.emod_nonneg m (b := b) (by omega)
  have h3 := Int.emod_lt_of_pos m hb
  have e : -(m + 1) = (b - 1 - m % b) + b * (-(m / b) - 1) := by rw [Int.mul_sub, Int.mul_neg]; omega
  rw [Int.fdiv_eq_ediv_of_nonneg _ (by omega), Int.fmod_eq_emod_of_nonneg _ (by omega)]
  constructor
  · rw [e, Int.add_mul_ediv_left _ _ (by omega), Int.ediv_eq_zero_of_lt (by omega) (by omega)]; omega
  · rw [e, Int.add_mul_emod_self_left, Int.emod_eq_of_lt (by omega) (by omega)]
set_option maxHeartbeats 2000000 in
theorem floor_np (m b : Int) (ha : wr (-(m + 1))) (hal : -(m + 1) ≠ lst) (hb : wr b) (h0 : 0 < b) (hm0 : 0 ≤ m) : Ret Tryz.prog G0 100 #[wd (-(m + 1)), wd b] (.tuple #[wd ((-(m + 1)).fdiv b), wd ((-(m + 1)).fmod b)]) := by
  refine ret_of G0F Tryz.func100 rfl Tryz.call100 (by simp) (by simp) (by simp [Tryz.ntmps100]) ?_
  intro C hC hC0 hY
  obtain ⟨d1, d2⟩ := neg_fdiv m b h0
  rw [d1, d2]
  generalize ea : -(m + 1) = a at *
  have hz := wr_ne hb (by omega)
  have hn1 := least_ne a ha hal
  have hn2 := least_ne b hb (by omega)
  have s1 : ¬ cmpI (sz b) 0 < 0 := by rw [wr_sz hb]; unfold cmpI; split <;> (try split) <;> omega
  have s2 : cmpI (sz a) 0 < 0 := by rw [wr_sz ha]; unfold cmpI; split <;> (try split) <;> omega
  have hbu : b < 57896044618658097711785492504343953926634992332820282019728792003956564819968 := hb.2
  have hmu : m < 57896044618658097711785492504343953926634992332820282019728792003956564819968 := by have := ha.1; unfold lst at hal; omega
  have hq0 : 0 ≤ m / b := Int.ediv_nonneg hm0 (by omega)
  have hq1 : m / b ≤ m := Int.ediv_le_self b hm0
  have hr0 : 0 ≤ m % b := Int.emod_nonneg m (by omega)
  have hr1 : m % b < b := Int.emod_lt_of_pos m h0
  have em : -(a + 1) = m := by omega
  have f1 : (ng a == ng 1 && ng (a + 1) != ng a) = false := by
    rw [ng_t ha (by omega), ng_f (z := 1) (by unfold wr; omega) (by omega)]; rfl
  have f2 : (ng (a + 1) && ng m) = false := by rw [ng_f (z := m) (by unfold wr; omega) hm0]; simp
  have f3 : (ng (m / b) && ng (-(m / b))) = false := by rw [ng_f (z := m / b) (by unfold wr; omega) hq0]; simp
  have f4 : (ng (-(m / b)) != ng 1 && ng (-(m / b) - 1) != ng (-(m / b))) = false := by
    rw [ng_f (z := 1) (by unfold wr; omega) (by omega), ng_t (z := -(m / b) - 1) (by unfold wr; omega) (by omega)]
    cases ng (-(m / b)) <;> rfl
  have f5 : (ng b != ng 1 && ng (b - 1) != ng b) = false := by
    rw [ng_f hb (by omega), ng_f (z := 1) (by unfold wr; omega) (by omega)]; rfl
  have f6 : (ng (b - 1) != ng (m % b) && ng (b - 1 - m % b) != ng (b - 1)) = false := by
    rw [ng_f (z := b - 1) (by unfold wr; have := hb.2; omega) (by omega), ng_f (z := m % b) (by unfold wr; omega) hr0]; rfl
  have i1 := i64_1
  repeat' (first | apply gwS | simp only [wN, wM, Nat.reduceAdd, Nat.reduceMul] | ((first | refine gwR [] ?_ | refine gwD [] ?_); intro Q hQ hP; simp [hC, hY, hz, hn1, hn2, s1, s2, lsB, h0, hbu, hm0, hmu, em, f1, f2, f3, f4, f5, f6, i1]; (first | refine hQ _ _ _ _ (by kernel_rfl) ?_ | refine hP _ _ (by kernel_rfl) fun _ => ?_); clear hQ hP Q) | apply gwB | apply gwT | apply gwK | apply gwE | apply gwG | apply gwL | simp only [blockG_exit] | (refine gwC ?_ ?_ <;> (intro hb; first | (cases hb; done) | skip)))
  refine ⟨.inr trivial, ?_⟩
  simp [Tryz.results100]
theorem upd_far {α : Type} {f : Nat → α} {x k : Nat} {v : α} (h : k < x) : upd f x v k = f k := upd_other f v (by omega)
theorem floor_ret (a b : Int) (ha : wr a) (hal : a ≠ lst) (hb : wr b) (h0 : 0 < b) : Ret Tryz.prog G0 100 #[wd a, wd b] (.tuple #[wd (a / b), wd (a % b)]) := by
  rw [← Int.fdiv_eq_ediv_of_nonneg a (Int.le_of_lt h0), ← Int.fmod_eq_emod_of_nonneg a (Int.le_of_lt h0)]
  by_cases ha0 : 0 ≤ a
  · exact floor_pp a b ha hb h0 ha0
  · obtain ⟨m, rfl⟩ : ∃ m, a = -(m + 1) := ⟨-a - 1, by omega⟩
    exact floor_np m b ha hal hb h0 (by omega)
@[simp] theorem qfloor (a b : Int) (ha : wr a) (hal : a ≠ lst) (hb : wr b) (h0 : 0 < b) (K : Value → Prop) : callK Tryz.prog G0 100 #[Value.agg #[.int .u64 (wi (a) 0), .int .u64 (wi (a) 1), .int .u64 (wi (a) 2), .int .u64 (wi (a) 3)], Value.agg #[.int .u64 (wi (b) 0), .int .u64 (wi (b) 1), .int .u64 (wi (b) 2), .int .u64 (wi (b) 3)]] K ↔ K (.tuple #[wd (a / b), wd (a % b)]) :=
  callK_iff G0W (by kernel_rfl) (floor_ret a b ha hal hb h0)
def hp2 (a b : Int) : Hp := hpL G0 [(200, wb a), (208, wb b)]
theorem hp2_rst (a b : Int) : rst (hp2 a b) [200, 208] = hp2 a b := hpL_rst G0F (by simp)
theorem hp2_closed (a b : Int) (D : Nat → Prop) (k : Nat) (c : Blk) (h : hp2 a b k = some c) : c.ids D := by
  rcases hpL_mem h with h | h
  · simp at h
    rcases h with ⟨_, rfl⟩ | ⟨_, rfl⟩ <;> simp [wb]
  · exact G0_closed _ _ _ h
theorem hp2_free (a b : Int) (x : Nat) (hx : 300 ≤ x) : hp2 a b x = none := by
  simp [hp2, show ¬ x = 200 by omega, show ¬ x = 208 by omega, show 100 ≤ x by omega]
theorem Floor1_fun (a b : Int) (ha : wr a) (hal : a ≠ lst) (hb : wr b) (h0 : 0 < b) : Fun Tryz.prog G0 99 [.pointer (some ⟨200, 0, none⟩), .pointer (some ⟨208, 0, none⟩)].toArray (hp2 a b) [200, 208] (.ret (wd (a / b)) []) := by
  refine fun_of (B := 300) G0F (fun k hk => hpL_low (by simp) hk) Tryz.func99 rfl Tryz.call99 ?_ ?_ ⟨flatV_ids (by simp), by simp [keys], by simp, by simp⟩ (by simp [Tryz.ntmps99]) (by omega) ?_ ?_
  · rw [hp2_rst]; simp [hp2, dom]
  · rw [hp2_rst]; exact hp2_closed a b _
  · rw [hp2_rst]; exact hp2_free a b
  · intro C hC hC0 hY
    rw [hp2_rst] at hC0 ⊢
    repeat' (first | apply gwS | simp only [wN, wM, Nat.reduceAdd, Nat.reduceMul] | ((first | refine gwR [] ?_ | refine gwD [] ?_); intro Q hQ hP; simp [hC, hY, hp2, wb, ha, hal, hb, h0]; (first | refine hQ _ _ _ _ (by kernel_rfl) ?_ | refine hP _ _ (by kernel_rfl) fun _ => ?_); clear hQ hP Q) | apply gwB | apply gwT | apply gwK | apply gwE | apply gwG | apply gwL | simp only [blockG_exit] | (refine gwC ?_ ?_ <;> (intro hb; first | (cases hb; done) | skip)))
    refine ⟨.inr rfl, by simp [Tryz.results99], fun k hk => ?_⟩
    have hk3 : k < 300 := Classical.byContradiction fun h => hk (hp2_free a b k (by omega))
    simp (disch := omega) only [upd_far]
    rfl
theorem qFloor_ret (a b : Int) (ha : wr a) (hal : a ≠ lst) (hb : wr b) (h0 : 0 < b) : Ret Tryz.prog G0 84 #[wd a, wd b] (.tuple #[wd (a / b), .int .i64 0]) := by
  refine ret_of G0F Tryz.func84 rfl Tryz.call84 (by simp) (by simp) (by simp [Tryz.ntmps84]) ?_
  intro C hC hC0 hY
  repeat' (first | apply gwS | simp only [wN, wM, Nat.reduceAdd, Nat.reduceMul] | ((first | refine gwR [98] ?_ | refine gwD [98] ?_); intro Q hQ hP; simp [hC, hY]; (repeat ((first | (refine heapK_of (hp' := hp2 a b) (qtold_ret (fun k hk => hpL_low (by simp) hk) (by simp) rfl (by simp) (Floor1_fun a b ha hal hb h0)) (by simp [hp2, wb]) (fun k hk => hpL_low (by simp) hk) trivial ?_)); try simp [hC, hY])); (first | refine hQ _ _ _ _ (by kernel_rfl) ?_ | refine hP _ _ (by kernel_rfl) fun _ => ?_); clear hQ hP Q) | apply gwB | apply gwT | apply gwK | apply gwE | apply gwG | apply gwL | simp only [blockG_exit] | (refine gwC ?_ ?_ <;> (intro hb; first | (cases hb; done) | skip)))
  refine ⟨.inr trivial, ?_⟩
  simp [Tryz.results84]
@[simp] theorem qFloor (a b : Int) (ha : wr a) (hal : a ≠ lst) (hb : wr b) (h0 : 0 < b) (K : Value → Prop) : callK Tryz.prog G0 84 #[Value.agg #[.int .u64 (wi (a) 0), .int .u64 (wi (a) 1), .int .u64 (wi (a) 2), .int .u64 (wi (a) 3)], Value.agg #[.int .u64 (wi (b) 0), .int .u64 (wi (b) 1), .int .u64 (wi (b) 2), .int .u64 (wi (b) 3)]] K ↔ K (.tuple #[wd (a / b), .int .i64 0]) :=
  callK_iff G0W (by kernel_rfl) (qFloor_ret a b ha hal hb h0)
theorem rmust_t (n : Int) : RetP Tryz.prog G0 82 #[.bool true, .int .i64 n] (.ret (.tuple #[])) := by
  refine retp_of G0F Tryz.func82 rfl Tryz.call82 (fun v h => by cases h; simp) (by simp) (by simp [Tryz.ntmps82]) ?_
  intro C hC hC0 hY
  repeat' (first | apply gwS | simp only [wN, wM, Nat.reduceAdd, Nat.reduceMul] | ((first | refine gwR [] ?_ | refine gwD [] ?_); intro Q hQ hP; simp [hC, hY]; (first | refine hQ _ _ _ _ (by kernel_rfl) ?_ | refine hP _ _ (by kernel_rfl) fun _ => ?_); clear hQ hP Q) | apply gwB | apply gwT | apply gwK | apply gwE | apply gwG | apply gwL | simp only [blockG_exit] | (refine gwC ?_ ?_ <;> (intro hb; first | (cases hb; done) | skip)))
  exact ⟨.inl trivial, by simp [Tryz.results82]⟩
theorem rmust_f (n : Int) : RetP Tryz.prog G0 82 #[.bool false, .int .i64 n] (.pan (erV n)) := by
  refine retp_of G0F Tryz.func82 rfl Tryz.call82 (fun v h => by cases h) (by simp) (by simp [Tryz.ntmps82]) ?_
  intro C hC hC0 hY
  repeat' (first | apply gwS | simp only [wN, wM, Nat.reduceAdd, Nat.reduceMul] | ((first | refine gwR [] ?_ | refine gwD [] ?_); intro Q hQ hP; simp [hC, hY]; (first | refine hQ _ _ _ _ (by kernel_rfl) ?_ | refine hP _ _ (by kernel_rfl) fun _ => ?_); clear hQ hP Q) | apply gwB | apply gwT | apply gwK | apply gwE | apply gwG | apply gwL | simp only [blockG_exit] | (refine gwC ?_ ?_ <;> (intro hb; first | (cases hb; done) | skip)))
  rfl
@[simp] theorem rmust (n : Int) (K : Value → Prop) : callK Tryz.prog G0 82 #[.bool true, .int .i64 n] K ↔ K (.tuple #[]) := callK_iff G0W (by kernel_rfl) (ret_of_retp (rmust_t n))
theorem most_ret (z : Int) : Ret Tryz.prog G0 118 #[wd z] (.int .i64 (nbits (uz z) / 2)) := by
  refine ret_of G0F Tryz.func118 rfl Tryz.call118 rfl (by simp) (by simp [Tryz.ntmps118]) ?_
  intro C hC hC0 hY
  have b0 := nb_word z 0
  have b1 := nb_word z 1
  have b2 := nb_word z 2
  have b3 := nb_word z 3
  have k3 := size_3 z
  have k2 := size_2 z
  have k1 := size_1 z
  have k0 := size_0 z
  have m3 : Int.bmod (192 + nbits (wi z 3)) 18446744073709551616 = 192 + nbits (wi z 3) := bm (by omega) (by omega)
  have m2 : Int.bmod (128 + nbits (wi z 2)) 18446744073709551616 = 128 + nbits (wi z 2) := bm (by omega) (by omega)
  have m1 : Int.bmod (64 + nbits (wi z 1)) 18446744073709551616 = 64 + nbits (wi z 1) := bm (by omega) (by omega)
  have t3 : (192 + nbits (wi z 3)).tdiv 2 = (192 + nbits (wi z 3)) / 2 := Int.tdiv_eq_ediv_of_nonneg (by omega)
  have t2 : (128 + nbits (wi z 2)).tdiv 2 = (128 + nbits (wi z 2)) / 2 := Int.tdiv_eq_ediv_of_nonneg (by omega)
  have t1 : (64 + nbits (wi z 1)).tdiv 2 = (64 + nbits (wi z 1)) / 2 := Int.tdiv_eq_ediv_of_nonneg (by omega)
  have t0 : (nbits (wi z 0)).tdiv 2 = nbits (wi z 0) / 2 := Int.tdiv_eq_ediv_of_nonneg (by omega)
  have u3 : Int.bmod ((192 + nbits (wi z 3)) / 2) 18446744073709551616 = (192 + nbits (wi z 3)) / 2 := bm (by omega) (by omega)
  have u2 : Int.bmod ((128 + nbits (wi z 2)) / 2) 18446744073709551616 = (128 + nbits (wi z 2)) / 2 := bm (by omega) (by omega)
  have u1 : Int.bmod ((64 + nbits (wi z 1)) / 2) 18446744073709551616 = (64 + nbits (wi z 1)) / 2 := bm (by omega) (by omega)
  have u0 : Int.bmod (nbits (wi z 0) / 2) 18446744073709551616 = nbits (wi z 0) / 2 := bm (by omega) (by omega)
  repeat' (first | apply gwS | refine GWL_start ?_ | refine GWL_step ?_ | simp only [wN, wM, Nat.reduceAdd, Nat.reduceMul] | ((first | refine gwR [] ?_ | refine gwD [] ?_); intro Q hQ hP; simp [hC, hY, wi_ge, wi_lt, m1, m2, m3, t0, t1, t2, t3, u0, u1, u2, u3]; (first | refine hQ _ _ _ _ (by kernel_rfl) ?_ | refine hP _ _ (by kernel_rfl) fun _ => ?_); clear hQ hP Q) | apply gwB | apply gwT | apply gwK | apply gwE | apply gwG | apply gwL | simp only [blockG_exit] | (refine gwC ?_ ?_ <;> (intro hb; first | (cases hb; done) | skip)))
  all_goals
    refine ⟨.inr trivial, ?_⟩
    simp [Tryz.results118]
    simp_all
@[simp] theorem rmost (z : Int) (K : Value → Prop) : callK Tryz.prog G0 118 #[Value.agg #[.int .u64 (wi (z) 0), .int .u64 (wi (z) 1), .int .u64 (wi (z) 2), .int .u64 (wi (z) 3)]] K ↔ K (.int .i64 (nbits (uz z) / 2)) := callK_iff G0W (by kernel_rfl) (most_ret z)
theorem all_new (a : Int) (k : Nat) (h100 : 100 ≤ k) : Fun Tryz.prog G0 101 #[wd a] G0 [] (.new (.func (.func 117) #[] #[.pointer (some ⟨k, 0, none⟩)]) [(k, wb a)]) := by
  have e0 : rst G0 [] = G0 := rst_G G0F []
  refine new_of (B := 200) (fun j => if j = k then 200 else j) G0F (fun _ _ => rfl) Tryz.func101 rfl Tryz.call101 (by simp [idsV, idsA, idsF, ids0]) (by rw [e0]; exact G0_closed _) ?_ (by simp [Tryz.ntmps101]) (by omega) (by rw [e0]; exact fun x hx => G0_big x (by omega)) (fun j hj => ?_) ?_ ?_ ?_ ?_
  · refine ⟨by simp [idsV, idsA, idsF, ids0, extD, keys], by simp [keys]; omega, fun q b c h1 h2 => ?_⟩
    simp at h1 h2
    rw [h1.2, h2.2]
  · rw [e0] at hj; have := G0_dom hj; rw [if_neg (by omega)]
  · simp [e0, dom]
  · simp
  · simp [wb, ids_lit, idsF, ids0]
  · intro C hC hC0 hY
    rw [e0]
    repeat' (first | apply gwS | simp only [wN, wM, Nat.reduceAdd, Nat.reduceMul] | ((first | refine gwR [] ?_ | refine gwD [] ?_); intro Q hQ hP; simp [hC, hY]; (first | refine hQ _ _ _ _ (by kernel_rfl) ?_ | refine hP _ _ (by kernel_rfl) fun _ => ?_); clear hQ hP Q) | apply gwB | apply gwT | apply gwK | apply gwE | apply gwG | apply gwL | simp only [blockG_exit] | (refine gwC ?_ ?_ <;> (intro hb; first | (cases hb; done) | skip)))
    refine ⟨.inr trivial, ?_⟩
    simp [Tryz.results101, ren, renA, renF, ren0, wb]
    intro j hj hj2
    have := G0_dom hj
    omega
theorem wi_pow (t r j : Nat) (hr : r < 64) : wi (2 ^ (64 * t + r)) j = if j = t then 2 ^ r else 0 := by
  by_cases h : j = t
  · subst h
    rw [if_pos rfl]
    unfold wi
    rw [Int.pow_add, Int.mul_ediv_cancel_left _ (by have := pow_pos2 (64 * j); omega)]
    exact Int.emod_eq_of_lt (Int.le_of_lt (pow_pos2 _)) (by
      have : (2 : Int) ^ r < 2 ^ 64 := by exact_mod_cast Nat.pow_lt_pow_right (by omega) hr
      exact this)
  · rw [if_neg h]
    have := wi_other 0 t r j hr h
    simp only [Int.zero_mul, Int.zero_add] at this
    rw [this, wi_zero]
theorem set_bit (t r : Nat) (ht : t < 4) (hr : r < 64) : (#[.int .u64 0, .int .u64 0, .int .u64 0, .int .u64 0] : Array Value).setIfInBounds t (.int .u64 (2 ^ r)) = #[.int .u64 (wi (2 ^ (64 * t + r)) 0), .int .u64 (wi (2 ^ (64 * t + r)) 1), .int .u64 (wi (2 ^ (64 * t + r)) 2), .int .u64 (wi (2 ^ (64 * t + r)) 3)] := by
  simp only [wi_pow _ _ _ hr]
  have : t = 0 ∨ t = 1 ∨ t = 2 ∨ t = 3 := by omega
  rcases this with rfl | rfl | rfl | rfl <;> simp
def allXs (M : Int) : List (Array Value) := (List.range (M + 1).toNat).map fun (i : Nat) => #[wd (2 ^ (M - (i : Int)).toNat)]
theorem allXs_len (M : Int) : (allXs M).length = (M + 1).toNat := by simp [allXs]
theorem allXs_at (M : Int) (i : Nat) (h : i < (M + 1).toNat) : (allXs M)[i]? = some #[wd (2 ^ (M - (i : Int)).toNat)] := by simp [allXs, h]
def aHp (a : Int) : Hp := hpL G0 [(100, wb a)]
def allSt (a M : Int) (l i : Nat) : GS :=
  ⟨tsL [(0, .func (.yield l) #[] #[]), (1, .pointer (some ⟨100, 0, none⟩)), (3, .int .i64 (M - i))], aHp a, 300, i⟩
theorem all_it (a : Int) : IterG Tryz.prog G0 117 #[.pointer (some ⟨100, 0, none⟩)] (aHp a) [100] (allXs (nbits (uz a) / 2)) := by
  have e0 : rst (aHp a) [100] = aHp a := hpL_rst G0F (by simp)
  refine iter_of (B := 200) (v := .tuple #[]) G0F (fun k hk => hpL_low (by simp) hk) Tryz.func117 rfl Tryz.call117 ?_ ?_ (by simp [Tryz.ntmps117]) (by omega) ?_ ?_
  · rw [e0]; simp [idsV, idsA, idsF, ids0, dom, aHp]
  · rw [e0]
    intro k c hk
    rcases hpL_mem hk with h | h
    · simp at h
      rcases h with ⟨_, rfl⟩
      simp [wb, ids_lit, idsF, ids0]
    · exact G0_closed _ _ _ h
  · rw [e0]
    intro x hx
    simp [aHp, show ¬ x = 100 by omega, show 100 ≤ x by omega]
  · intro C l stop hC hC0 hY
    rw [e0] at hC0 ⊢
    have hnb := nbits_bd 256 (uz_bd a).2
    have hM : 0 ≤ nbits (uz a) / 2 ∧ nbits (uz a) / 2 ≤ 128 := by omega
    have hlen := allXs_len (nbits (uz a) / 2)
    repeat' (first | apply gwS | simp only [wN, wM, Nat.reduceAdd, Nat.reduceMul] | ((first | refine gwR [] ?_ | refine gwD [] ?_); intro Q hQ hP; simp [hC, hY, aHp, wb]; (first | refine hQ _ _ _ _ (by kernel_rfl) ?_ | refine hP _ _ (by kernel_rfl) fun _ => ?_); clear hQ hP Q) | apply gwB | apply gwT | apply gwK | apply gwE | apply gwG | apply gwL | simp only [blockG_exit] | (refine gwC ?_ ?_ <;> (intro hb; first | (cases hb; done) | skip)))
    generalize hMe : nbits (uz a) / 2 = M at *
    generalize hxs : allXs M = xs at *
    refine GW_for (min stop xs.length) (allSt a M l) ?_ ?_ ?_
    · refine weakL _ 300 hC G0F (m := [(100, wb a)]) (m0 := [(100, wb a)]) hC0 (by omega) ?_ ?_ ?_
      · simp [dom]
      · simp [wb]
      · simp [wb]
    · intro i hi
      have hs : i < stop := by omega
      have hq : (i != stop) = true := by simp; omega
      have hle : i ≤ stop := by omega
      obtain ⟨n, hn⟩ : ∃ n : Nat, M - (i : Int) = n := ⟨(M - i).toNat, by omega⟩
      have g1 : (i : Int) ≤ M := by omega
      have hx : xs[i]? = some #[wd (2 ^ n)] := by
        rw [← hxs, allXs_at M i (by omega), hn]; rfl
      simp only [wd_eq] at hx
      have g4 : Int.bmod ((n : Int) - 1) 18446744073709551616 = M - ((i + 1 : Nat) : Int) := by rw [bm (by omega) (by omega)]; omega
      obtain ⟨t, r, hr, hn'⟩ : ∃ t r, r < 64 ∧ n = 64 * t + r := ⟨n / 64, n % 64, by omega, by omega⟩
      have tq : ((n : Int)).tdiv 64 = t := by rw [Int.tdiv_eq_ediv_of_nonneg (by omega)]; omega
      have tm : ((n : Int)).tmod 64 = r := by rw [Int.tmod_eq_emod_of_nonneg (by omega)]; omega
      have t4 : t < 4 := by omega
      have t4' : (t : Int) < 4 := by omega
      have t0 : (0 : Int) ≤ t := by omega
      have tb : Int.bmod (t : Int) 18446744073709551616 = t := bm (by omega) (by omega)
      have t3 : t ≤ 3 := Nat.le_of_lt_succ t4
      have m1 : min r 64 = r := by omega
      have m2 : (2 : Int) ^ r % 18446744073709551616 = 2 ^ r := Int.emod_eq_of_lt (Int.le_of_lt (pow_pos2 _)) (by
        have : (2 : Int) ^ r < 2 ^ 64 := by exact_mod_cast Nat.pow_lt_pow_right (by omega) hr
        exact this)
      have hset := set_bit t r t4 hr
      rw [← hn'] at hset
      unfold allSt
      repeat' (first | apply gwS | simp only [wN, wM, Nat.reduceAdd, Nat.reduceMul] | ((first | refine gwR [] ?_ | refine gwD [] ?_); intro Q hQ hP; simp [hC, hY, aHp, wb, hs, hq, hle, hn, g1, g4, hx, tq, tm, t4, t4', t0, tb, t3, m1, m2, hset]; (first | refine hQ _ _ _ _ (by kernel_rfl) ?_ | refine hP _ _ (by kernel_rfl) fun _ => ?_); clear hQ hP Q) | apply gwB | apply gwT | apply gwK | apply gwE | apply gwG | apply gwL | simp only [blockG_exit] | (refine gwC ?_ ?_ <;> (intro hb; first | (cases hb; done) | skip)))
      refine weakL _ 300 hC G0F (m := [(100, wb a)]) (m0 := [(100, wb a)]) hC0 (by omega) ?_ ?_ ?_
      · simp [dom]
      · simp [wb]
      · simp [wb]
    · by_cases h4 : xs.length ≤ stop
      · rw [Nat.min_eq_right h4]
        have g1 : ¬ ((xs.length : Int) ≤ M) := by omega
        unfold allSt
        repeat' (first | apply gwS | simp only [wN, wM, Nat.reduceAdd, Nat.reduceMul] | ((first | refine gwR [] ?_ | refine gwD [] ?_); intro Q hQ hP; simp [hC, hY, aHp, wb, g1]; (first | refine hQ _ _ _ _ (by kernel_rfl) ?_ | refine hP _ _ (by kernel_rfl) fun _ => ?_); clear hQ hP Q) | apply gwB | apply gwT | apply gwK | apply gwE | apply gwG | apply gwL | simp only [blockG_exit] | (refine gwC ?_ ?_ <;> (intro hb; first | (cases hb; done) | skip)))
        refine ⟨.inl trivial, by simp [Tryz.results117], ?_⟩
        show xs.length = _
        omega
      · rw [Nat.min_eq_left (by omega)]
        obtain ⟨n, hn⟩ : ∃ n : Nat, M - (stop : Int) = n := ⟨(M - stop).toNat, by omega⟩
        have g1 : (stop : Int) ≤ M := by omega
        have hx : xs[stop]? = some #[wd (2 ^ n)] := by
          rw [← hxs, allXs_at M stop (by omega), hn]; rfl
        simp only [wd_eq] at hx
        obtain ⟨t, r, hr, hn'⟩ : ∃ t r, r < 64 ∧ n = 64 * t + r := ⟨n / 64, n % 64, by omega, by omega⟩
        have tq : ((n : Int)).tdiv 64 = t := by rw [Int.tdiv_eq_ediv_of_nonneg (by omega)]; omega
        have tm : ((n : Int)).tmod 64 = r := by rw [Int.tmod_eq_emod_of_nonneg (by omega)]; omega
        have t4 : t < 4 := by omega
        have t4' : (t : Int) < 4 := by omega
        have t0 : (0 : Int) ≤ t := by omega
        have tb : Int.bmod (t : Int) 18446744073709551616 = t := bm (by omega) (by omega)
        have t3 : t ≤ 3 := Nat.le_of_lt_succ t4
        have m1 : min r 64 = r := by omega
        have m2 : (2 : Int) ^ r % 18446744073709551616 = 2 ^ r := Int.emod_eq_of_lt (Int.le_of_lt (pow_pos2 _)) (by
          have : (2 : Int) ^ r < 2 ^ 64 := by exact_mod_cast Nat.pow_lt_pow_right (by omega) hr
          exact this)
        have hset := set_bit t r t4 hr
        rw [← hn'] at hset
        unfold allSt
        repeat' (first | apply gwS | simp only [wN, wM, Nat.reduceAdd, Nat.reduceMul] | ((first | refine gwR [] ?_ | refine gwD [] ?_); intro Q hQ hP; simp [hC, hY, aHp, wb, hn, g1, hx, tq, tm, t4, t4', t0, tb, t3, m1, m2, hset]; (first | refine hQ _ _ _ _ (by kernel_rfl) ?_ | refine hP _ _ (by kernel_rfl) fun _ => ?_); clear hQ hP Q) | apply gwB | apply gwT | apply gwK | apply gwE | apply gwG | apply gwL | simp only [blockG_exit] | (refine gwC ?_ ?_ <;> (intro hb; first | (cases hb; done) | skip)))
        refine ⟨.inr trivial, by simp [Tryz.results117], ?_⟩
        show stop + 1 = _
        omega
def rp (a : Int) (K : Nat) : Nat → Int
  | 0 => 0
  | i + 1 => if (rp a K i + 2 ^ (K - 1 - i)) * (rp a K i + 2 ^ (K - 1 - i)) ≤ a then rp a K i + 2 ^ (K - 1 - i) else rp a K i
theorem rp_inv (a : Int) (K : Nat) (h0 : 0 ≤ a) (h : a < 2 ^ K * 2 ^ K) : ∀ i, i ≤ K → 0 ≤ rp a K i ∧ rp a K i * rp a K i ≤ a ∧ a < (rp a K i + 2 ^ (K - i)) * (rp a K i + 2 ^ (K - i))
  | 0, _ => by simp [rp]; exact ⟨h0, h⟩
  | i + 1, hi => by
    obtain ⟨h1, h2, h3⟩ := rp_inv a K h0 h i (by omega)
    have e1 : K - i = (K - 1 - i) + 1 := by omega
    have e2 : K - (i + 1) = K - 1 - i := by omega
    rw [e1, Int.pow_succ] at h3
    rw [e2]
    have hp := pow_pos2 (K - 1 - i)
    unfold rp
    split
    · rename_i hc
      refine ⟨by omega, hc, ?_⟩
      rw [Int.add_assoc, show (2 : Int) ^ (K - 1 - i) + 2 ^ (K - 1 - i) = 2 ^ (K - 1 - i) * 2 by omega]
      exact h3
    · rename_i hc
      exact ⟨h1, h2, by omega⟩
def isq (a : Int) : Int := rp a (nbits a / 2 + 1).toNat (nbits a / 2 + 1).toNat
theorem isq_bits (a : Int) (h0 : 0 ≤ a) : a < 2 ^ (nbits a / 2 + 1).toNat * 2 ^ (nbits a / 2 + 1).toNat := by
  rw [← Int.pow_add]
  by_cases h : a = 0
  · subst h; exact pow_pos2 _
  · obtain ⟨k, hk, k1, k2⟩ := nbits_pos (x := a) (by omega)
    refine Int.lt_of_lt_of_le k2 ?_
    rw [hk]
    exact_mod_cast Nat.pow_le_pow_right (by omega) (by omega)
theorem isq_spec (a : Int) (h0 : 0 ≤ a) : 0 ≤ isq a ∧ isq a * isq a ≤ a ∧ a < (isq a + 1) * (isq a + 1) := by
  have := rp_inv a (nbits a / 2 + 1).toNat h0 (isq_bits a h0) (nbits a / 2 + 1).toNat (Nat.le_refl _)
  simpa [isq] using this
theorem sq_lt {x y : Int} (hx : 0 ≤ x) (hy : 0 ≤ y) (h : x * x < y * y) : x < y := by
  refine Classical.byContradiction fun hn => ?_
  have : y * y ≤ x * x := Int.mul_le_mul (by omega) (by omega) hy hx
  omega
theorem isq_unique {a r : Int} (h0 : 0 ≤ r) (h1 : r * r ≤ a) (h2 : a < (r + 1) * (r + 1)) : isq a = r := by
  have ha : 0 ≤ a := Int.le_trans (Int.mul_nonneg h0 h0) h1
  obtain ⟨s0, s1, s2⟩ := isq_spec a ha
  have h3 := sq_lt (x := isq a) (y := r + 1) s0 (by omega) (by omega)
  have h4 := sq_lt (x := r) (y := isq a + 1) h0 (by omega) (by omega)
  omega
theorem sq_bd {x : Int} (B : Int) (hx : 0 ≤ x) (hB : 0 ≤ B) (h : x * x < B * B) : x < B := sq_lt hx hB h
def rfHp (a r : Int) : Hp := hpL G0 [(200, wb a), (208, wb r)]
def rfTs : Nat → Value := tsL [(1, .pointer (some ⟨200, 0, none⟩)), (2, .pointer (some ⟨208, 0, none⟩))]
theorem rfloor_neg (a : Int) (ha : wr a) (h0 : a < 0) : RetP Tryz.prog G0 85 #[wd a] (.pan (erV 2)) := by
  refine retp_of G0F Tryz.func85 rfl Tryz.call85 (fun v h => by cases h) (by simp) (by simp [Tryz.ntmps85]) ?_
  intro C hC hC0 hY
  have s1 : ¬ 0 ≤ cmpI (sz a) 0 := by rw [wr_sz ha]; unfold cmpI; split <;> (try split) <;> omega
  repeat' (first | apply gwS | simp only [wN, wM, Nat.reduceAdd, Nat.reduceMul] | ((first | refine gwR [1000082] ?_ | refine gwD [1000082] ?_); intro Q hQ hP; simp [hC, hY, s1]; (repeat ((first | (refine callP_of (rmust_f 2) ?_)); try simp [hC, hY, s1])); (first | refine hQ _ _ _ _ (by kernel_rfl) ?_ | refine hP _ _ (by kernel_rfl) fun _ => ?_); clear hQ hP Q) | apply gwB | apply gwT | apply gwK | apply gwE | apply gwG | apply gwL | simp only [blockG_exit] | (refine gwC ?_ ?_ <;> (intro hb; first | (cases hb; done) | skip)))
  rfl
set_option maxHeartbeats 1000000 in
theorem rfloor_ret (a : Int) (ha : wr a) (h0 : 0 ≤ a) : Ret Tryz.prog G0 85 #[wd a] (wd (isq a)) := by
  refine ret_of G0F Tryz.func85 rfl Tryz.call85 (by simp) (by simp) (by simp [Tryz.ntmps85]) ?_
  intro C hC hC0 hY
  have s1 : 0 ≤ cmpI (sz a) 0 := by rw [wr_sz ha]; unfold cmpI; split <;> (try split) <;> omega
  have hnb := nbits_bd 255 ha.2
  have hit := all_it a
  have eu : uz a = a := by unfold uz; have := ha.2; omega
  rw [eu] at hit
  have hinv := rp_inv a (nbits a / 2 + 1).toNat h0 (isq_bits a h0)
  have hisq : isq a = rp a (nbits a / 2 + 1).toNat (nbits a / 2 + 1).toNat := rfl
  have hM : 0 ≤ nbits a / 2 ∧ nbits a / 2 ≤ 127 := by omega
  generalize nbits a / 2 = M at *
  repeat' (first | apply gwS | simp only [wN, wM, Nat.reduceAdd, Nat.reduceMul] | ((first | refine gwR [] ?_ | refine gwD [] ?_); intro Q hQ hP; simp [hC, hY, s1]; (first | refine hQ _ _ _ _ (by kernel_rfl) ?_ | refine hP _ _ (by kernel_rfl) fun _ => ?_); clear hQ hP Q) | apply gwB | apply gwT | apply gwK | apply gwE | apply gwG | apply gwL | simp only [blockG_exit] | (refine gwC ?_ ?_ <;> (intro hb; first | (cases hb; done) | skip)))
  refine GW_region' [101] (by kernel_rfl) ?_; intro Q hQ hP; simp [hC, hY]
  refine heapK_of (all_new a 256 (by omega)) (by simp) (fun _ _ => rfl) (by simp [Res.at]) ?_
  simp
  refine hQ _ _ _ _ ?_; clear hQ hP Q
  repeat' (first | apply gwS | simp only [wN, wM, Nat.reduceAdd, Nat.reduceMul] | ((first | refine gwR [] ?_ | refine gwD [] ?_); intro Q hQ hP; simp [hC, hY]; (first | refine hQ _ _ _ _ (by kernel_rfl) ?_ | refine hP _ _ (by kernel_rfl) fun _ => ?_); clear hQ hP Q) | apply gwB | apply gwT | apply gwK | apply gwE | apply gwG | apply gwL | simp only [blockG_exit] | (refine gwC ?_ ?_ <;> (intro hb; first | (cases hb; done) | skip)))
  generalize hK : (M + 1).toNat = K at *
  refine GW_range (f := 117) (rs := [256]) (xs := allXs M) (caps := #[.pointer (some ⟨256, 0, none⟩)]) (by simp) ?_ ?_ (by simp [Tryz.ntmps85]) rfTs (fun i => rfHp a (rp a K i)) 300 K (by rw [allXs_len]; omega) ?_ ?_ ?_ ?_ ?_
  · rw [hC]
    refine IterG.cast (IterX.rn (fun k => if k = 100 then 256 else k) G0F (fun k hk => hpL_low (by simp) hk) (rs := [100]) ?_ hit) (by simp [ren0]) (by simp)
    refine ⟨fun k hk => ?_, ?_, ?_, ?_⟩
    · simp [aHp, show ¬ k = 100 by omega, show ¬ k = 200 by omega, show ¬ k = 208 by omega, show ¬ k = 256 by omega]
    · simp
    · simp [aHp, wb, Blk.rn, renF, ren0]
    · simp
  · intro x hx
    simp only [allXs, List.mem_map] at hx
    obtain ⟨i, _, rfl⟩ := hx
    simp
  · refine weakL _ 300 hC G0F (m0 := []) hC0 (by omega) ?_ ?_ ?_
    · simp [dom]
    · simp [wb, rp, wi_zero]
    · simp
  · simp [rfHp, dom]
  · intro i hi t
    refine tsL_ids ?_ t
    simp [dom, rfHp]
  · intro i x hi hx C1 l hC1 hh1 hY1
    have hCC := hC
    have hC1' : C1.G = G0 := hC1.trans hC
    obtain ⟨n, hn⟩ : ∃ n : Nat, M - (i : Int) = n := ⟨(M - i).toNat, by omega⟩
    rw [allXs_at M i (by omega), hn] at hx
    cases hx
    obtain ⟨r0, r1, r2⟩ := hinv i (by omega)
    have en : K - 1 - i = n := by omega
    have hrs : rp a K (i + 1) = if (rp a K i + 2 ^ n) * (rp a K i + 2 ^ n) ≤ a then rp a K i + 2 ^ n else rp a K i := by
      rw [rp, en]
    generalize rp a K i = r at *
    have hau := ha.2
    have hr : r < 340282366920938463463374607431768211456 := sq_bd _ r0 (by decide) (by omega)
    have hn2 : (2 : Int) ^ n ≤ 2 ^ 127 := by exact_mod_cast Nat.pow_le_pow_right (by omega) (by omega : n ≤ 127)
    have hn0 := pow_pos2 n
    have t0 : 0 ≤ r + 2 ^ n := by omega
    have t1 : r + 2 ^ n < 680564733841876926926749214863536422912 := by omega
    have szt : sz (r + 2 ^ n) = r + 2 ^ n := sz_pos t0 (Int.lt_trans t1 (by decide))
    have tt0 : 0 ≤ (r + 2 ^ n) * (r + 2 ^ n) := Int.mul_nonneg t0 t0
    have hmul : mulO (r + 2 ^ n) (r + 2 ^ n) = decide (¬ ((r + 2 ^ n) * (r + 2 ^ n) < 57896044618658097711785492504343953926634992332820282019728792003956564819968)) := by
      unfold mulO; rw [szt]; congr 1
      exact propext ⟨fun h1 h2 => h1 ⟨Int.le_trans (by decide) tt0, h2⟩, fun h1 h2 => h1 h2.2⟩
    have sza : sz a = a := wr_sz ha
    replace hC := hC1'
    replace hY := hY1
    simp only [hrs]
    generalize htt : (r + 2 ^ n) * (r + 2 ^ n) = T at *
    by_cases hov : T < 57896044618658097711785492504343953926634992332820282019728792003956564819968
    · have hm : mulO (r + 2 ^ n) (r + 2 ^ n) = false := by rw [hmul]; simp [hov]
      have szT : sz T = T := sz_pos tt0 hov
      by_cases hle : T ≤ a
      · have hcmp : cmpI (sz T) (sz a) ≤ 0 := by rw [szT, sza]; unfold cmpI; split <;> (try split) <;> omega
        rw [if_pos hle]
        unfold rfHp
        repeat' (first | apply gwS | simp only [wN, wM, Nat.reduceAdd, Nat.reduceMul] | ((first | refine gwR [] ?_ | refine gwD [] ?_); intro Q hQ hP; simp [hC, hY, roundTs, rfTs]; (first | refine hQ _ _ _ _ (by kernel_rfl) ?_ | refine hP _ _ (by kernel_rfl) fun _ => ?_); clear hQ hP Q) | apply gwB | apply gwT | apply gwK | apply gwE | apply gwG | apply gwL | simp only [blockG_exit] | (refine gwC ?_ ?_ <;> (intro hb; first | (cases hb; done) | skip)))
        intro C2 hC2 hh2 hY2
        replace hC : C2.G = G0 := hC2.trans hCC
        replace hY := hY2
        repeat' (first | apply gwS | simp only [wN, wM, Nat.reduceAdd, Nat.reduceMul] | ((first | refine gwR [] ?_ | refine gwD [] ?_); intro Q hQ hP; simp [hC, hY, roundTs, rfTs, wb, szt, htt, hm, hcmp]; (first | refine hQ _ _ _ _ (by kernel_rfl) ?_ | refine hP _ _ (by kernel_rfl) fun _ => ?_); clear hQ hP Q) | apply gwB | apply gwT | apply gwK | apply gwE | apply gwG | apply gwL | simp only [blockG_exit] | (refine gwC ?_ ?_ <;> (intro hb; first | (cases hb; done) | skip)))
        refine weakL [] 300 hC1' G0F hh1 (by omega) ?_ ?_ ?_
        · simp
        · simp [wb]
        · simp [wb]
      · have hcmp : ¬ cmpI (sz T) (sz a) ≤ 0 := by rw [szT, sza]; unfold cmpI; split <;> (try split) <;> omega
        rw [if_neg hle]
        unfold rfHp
        repeat' (first | apply gwS | simp only [wN, wM, Nat.reduceAdd, Nat.reduceMul] | ((first | refine gwR [] ?_ | refine gwD [] ?_); intro Q hQ hP; simp [hC, hY, roundTs, rfTs]; (first | refine hQ _ _ _ _ (by kernel_rfl) ?_ | refine hP _ _ (by kernel_rfl) fun _ => ?_); clear hQ hP Q) | apply gwB | apply gwT | apply gwK | apply gwE | apply gwG | apply gwL | simp only [blockG_exit] | (refine gwC ?_ ?_ <;> (intro hb; first | (cases hb; done) | skip)))
        intro C2 hC2 hh2 hY2
        replace hC : C2.G = G0 := hC2.trans hCC
        replace hY := hY2
        repeat' (first | apply gwS | simp only [wN, wM, Nat.reduceAdd, Nat.reduceMul] | ((first | refine gwR [] ?_ | refine gwD [] ?_); intro Q hQ hP; simp [hC, hY, roundTs, rfTs, wb, szt, htt, hm, hcmp]; (first | refine hQ _ _ _ _ (by kernel_rfl) ?_ | refine hP _ _ (by kernel_rfl) fun _ => ?_); clear hQ hP Q) | apply gwB | apply gwT | apply gwK | apply gwE | apply gwG | apply gwL | simp only [blockG_exit] | (refine gwC ?_ ?_ <;> (intro hb; first | (cases hb; done) | skip)))
        refine weakL [] 300 hC1' G0F hh1 (by omega) ?_ ?_ ?_
        · simp
        · simp [wb]
        · simp [wb]
    · have hm : mulO (r + 2 ^ n) (r + 2 ^ n) = true := by rw [hmul]; simp only [hov, not_false_eq_true, decide_true]
      have hle : ¬ T ≤ a := fun h => hov (Int.lt_of_le_of_lt h hau)
      rw [if_neg hle]
      unfold rfHp
      repeat' (first | apply gwS | simp only [wN, wM, Nat.reduceAdd, Nat.reduceMul] | ((first | refine gwR [] ?_ | refine gwD [] ?_); intro Q hQ hP; simp [hC, hY, roundTs, rfTs]; (first | refine hQ _ _ _ _ (by kernel_rfl) ?_ | refine hP _ _ (by kernel_rfl) fun _ => ?_); clear hQ hP Q) | apply gwB | apply gwT | apply gwK | apply gwE | apply gwG | apply gwL | simp only [blockG_exit] | (refine gwC ?_ ?_ <;> (intro hb; first | (cases hb; done) | skip)))
      intro C2 hC2 hh2 hY2
      replace hC : C2.G = G0 := hC2.trans hCC
      replace hY := hY2
      repeat' (first | apply gwS | simp only [wN, wM, Nat.reduceAdd, Nat.reduceMul] | ((first | refine gwR [] ?_ | refine gwD [] ?_); intro Q hQ hP; simp [hC, hY, roundTs, rfTs, wb, szt, htt, hm]; (first | refine hQ _ _ _ _ (by kernel_rfl) ?_ | refine hP _ _ (by kernel_rfl) fun _ => ?_); clear hQ hP Q) | apply gwB | apply gwT | apply gwK | apply gwE | apply gwG | apply gwL | simp only [blockG_exit] | (refine gwC ?_ ?_ <;> (intro hb; first | (cases hb; done) | skip)))
      refine weakL [] 300 hC1' G0F hh1 (by omega) ?_ ?_ ?_
      · simp
      · simp [wb]
      · simp [wb]
  · left
    refine ⟨by rw [allXs_len]; omega, ?_⟩
    rw [← hisq]
    unfold rfHp rfTs
    repeat' (first | apply gwS | simp only [wN, wM, Nat.reduceAdd, Nat.reduceMul] | ((first | refine gwR [] ?_ | refine gwD [] ?_); intro Q hQ hP; simp [hC, hY, wb]; (first | refine hQ _ _ _ _ (by kernel_rfl) ?_ | refine hP _ _ (by kernel_rfl) fun _ => ?_); clear hQ hP Q) | apply gwB | apply gwT | apply gwK | apply gwE | apply gwG | apply gwL | simp only [blockG_exit] | (refine gwC ?_ ?_ <;> (intro hb; first | (cases hb; done) | skip)))
    refine ⟨.inr trivial, ?_⟩
    simp [Tryz.results85]
@[simp] theorem rfloor (a : Int) (ha : wr a) (h0 : 0 ≤ a) (K : Value → Prop) : callK Tryz.prog G0 85 #[Value.agg #[.int .u64 (wi (a) 0), .int .u64 (wi (a) 1), .int .u64 (wi (a) 2), .int .u64 (wi (a) 3)]] K ↔ K (wd (isq a)) := callK_iff G0W (by kernel_rfl) (rfloor_ret a ha h0)
def hp1 (a : Int) : Hp := hpL G0 [(200, wb a)]
theorem of_zero (a : Int) : RetP Tryz.prog G0 59 #[wd a, wd 0] (.pan (erV 30)) := by
  refine retp_of G0F Tryz.func59 rfl Tryz.call59 (fun v h => by cases h) (by simp) (by simp [Tryz.ntmps59]) ?_
  intro C hC hC0 hY
  repeat' (first | apply gwS | simp only [wN, wM, Nat.reduceAdd, Nat.reduceMul] | ((first | refine gwR [1000082] ?_ | refine gwD [1000082] ?_); intro Q hQ hP; simp [hC, hY, wi_zero]; (repeat ((first | (refine callP_of (rmust_f 30) ?_)); try simp [hC, hY, wi_zero])); (first | refine hQ _ _ _ _ (by kernel_rfl) ?_ | refine hP _ _ (by kernel_rfl) fun _ => ?_); clear hQ hP Q) | apply gwB | apply gwT | apply gwK | apply gwE | apply gwG | apply gwL | simp only [blockG_exit] | (refine gwC ?_ ?_ <;> (intro hb; first | (cases hb; done) | skip)))
  rfl
theorem of_arg (a b : Int) (ha : wr a) (hb : wr b) (hb0 : b ≠ 0) (h : a < 0 ∨ b < 0) : RetP Tryz.prog G0 59 #[wd a, wd b] (.pan (erV 2)) := by
  refine retp_of G0F Tryz.func59 rfl Tryz.call59 (fun v h => by cases h) (by simp) (by simp [Tryz.ntmps59]) ?_
  intro C hC hC0 hY
  have hz := wr_ne hb hb0
  by_cases h0 : 0 ≤ a
  · have s1 : 0 ≤ cmpI (sz a) 0 := by rw [wr_sz ha]; unfold cmpI; split <;> (try split) <;> omega
    have s2 : ¬ 0 < cmpI (sz b) 0 := by rw [wr_sz hb]; unfold cmpI; split <;> (try split) <;> omega
    repeat' (first | apply gwS | simp only [wN, wM, Nat.reduceAdd, Nat.reduceMul] | ((first | refine gwR [1000082] ?_ | refine gwD [1000082] ?_); intro Q hQ hP; simp [hC, hY, hz, s1, s2]; (repeat ((first | (refine callP_of (rmust_t 30) ?_) | (refine callP_of (rmust_f 2) ?_)); try simp [hC, hY, hz, s1, s2])); (first | refine hQ _ _ _ _ (by kernel_rfl) ?_ | refine hP _ _ (by kernel_rfl) fun _ => ?_); clear hQ hP Q) | apply gwB | apply gwT | apply gwK | apply gwE | apply gwG | apply gwL | simp only [blockG_exit] | (refine gwC ?_ ?_ <;> (intro hb; first | (cases hb; done) | skip)))
    rfl
  · have s1 : ¬ 0 ≤ cmpI (sz a) 0 := by rw [wr_sz ha]; unfold cmpI; split <;> (try split) <;> omega
    repeat' (first | apply gwS | simp only [wN, wM, Nat.reduceAdd, Nat.reduceMul] | ((first | refine gwR [1000082] ?_ | refine gwD [1000082] ?_); intro Q hQ hP; simp [hC, hY, hz, s1]; (repeat ((first | (refine callP_of (rmust_t 30) ?_) | (refine callP_of (rmust_f 2) ?_)); try simp [hC, hY, hz, s1])); (first | refine hQ _ _ _ _ (by kernel_rfl) ?_ | refine hP _ _ (by kernel_rfl) fun _ => ?_); clear hQ hP Q) | apply gwB | apply gwT | apply gwK | apply gwE | apply gwG | apply gwL | simp only [blockG_exit] | (refine gwC ?_ ?_ <;> (intro hb; first | (cases hb; done) | skip)))
    rfl
theorem div_wr {a b : Int} (ha : wr a) (h0 : 0 ≤ a) (hb : 0 < b) : wr (a / b) ∧ 0 ≤ a / b := by
  have h1 : 0 ≤ a / b := Int.ediv_nonneg h0 (by omega)
  exact ⟨⟨Int.le_trans (by decide) h1, Int.lt_of_le_of_lt (Int.ediv_le_self b h0) ha.2⟩, h1⟩
theorem lst_ne {a : Int} (h0 : 0 ≤ a) : a ≠ lst := fun e => by rw [e] at h0; exact absurd h0 (by decide)
theorem of_ret (a b : Int) (ha : wr a) (hb : wr b) (h0 : 0 ≤ a) (hb0 : 0 < b) : Ret Tryz.prog G0 59 #[wd a, wd b] (wd (isq (a / b))) := by
  refine ret_of G0F Tryz.func59 rfl Tryz.call59 (by simp) (by simp) (by simp [Tryz.ntmps59]) ?_
  intro C hC hC0 hY
  have hz := wr_ne hb (by omega)
  have s1 : 0 ≤ cmpI (sz a) 0 := by rw [wr_sz ha]; unfold cmpI; split <;> (try split) <;> omega
  have s2 : 0 < cmpI (sz b) 0 := by rw [wr_sz hb]; unfold cmpI; split <;> (try split) <;> omega
  obtain ⟨d1, d2⟩ := div_wr ha h0 hb0
  have hl := lst_ne h0
  repeat' (first | apply gwS | simp only [wN, wM, Nat.reduceAdd, Nat.reduceMul] | ((first | refine gwR [] ?_ | refine gwD [] ?_); intro Q hQ hP; simp [hC, hY, hz, s1, s2, ha, hb, hb0, hl, d1, d2]; (first | refine hQ _ _ _ _ (by kernel_rfl) ?_ | refine hP _ _ (by kernel_rfl) fun _ => ?_); clear hQ hP Q) | apply gwB | apply gwT | apply gwK | apply gwE | apply gwG | apply gwL | simp only [blockG_exit] | (refine gwC ?_ ?_ <;> (intro hb; first | (cases hb; done) | skip)))
  refine ⟨.inr trivial, ?_⟩
  simp [Tryz.results59]
@[simp] theorem rof (a b : Int) (ha : wr a) (hb : wr b) (h0 : 0 ≤ a) (hb0 : 0 < b) (K : Value → Prop) : callK Tryz.prog G0 59 #[Value.agg #[.int .u64 (wi (a) 0), .int .u64 (wi (a) 1), .int .u64 (wi (a) 2), .int .u64 (wi (a) 3)], Value.agg #[.int .u64 (wi (b) 0), .int .u64 (wi (b) 1), .int .u64 (wi (b) 2), .int .u64 (wi (b) 3)]] K ↔ K (wd (isq (a / b))) := callK_iff G0W (by kernel_rfl) (of_ret a b ha hb h0 hb0)
theorem rOf1_p (a b : Int) (ha : wr a) (hb : wr b) (h0 : 0 ≤ a) (hb0 : 0 < b) : Fun Tryz.prog G0 58 [.pointer (some ⟨200, 0, none⟩), .pointer (some ⟨208, 0, none⟩)].toArray (hp2 a b) [200, 208] (.ret (wd (isq (a / b))) []) := by
  refine fun_of (B := 300) G0F (fun k hk => hpL_low (by simp) hk) Tryz.func58 rfl Tryz.call58 ?_ ?_ ⟨flatV_ids (by simp), by simp [keys], by simp, by simp⟩ (by simp [Tryz.ntmps58]) (by omega) ?_ ?_
  · rw [hp2_rst]; simp [hp2, dom]
  · rw [hp2_rst]; exact hp2_closed a b _
  · rw [hp2_rst]; exact hp2_free a b
  · intro C hC hC0 hY
    rw [hp2_rst] at hC0 ⊢
    repeat' (first | apply gwS | simp only [wN, wM, Nat.reduceAdd, Nat.reduceMul] | ((first | refine gwR [] ?_ | refine gwD [] ?_); intro Q hQ hP; simp [hC, hY, hp2, wb, ha, hb, h0, hb0]; (first | refine hQ _ _ _ _ (by kernel_rfl) ?_ | refine hP _ _ (by kernel_rfl) fun _ => ?_); clear hQ hP Q) | apply gwB | apply gwT | apply gwK | apply gwE | apply gwG | apply gwL | simp only [blockG_exit] | (refine gwC ?_ ?_ <;> (intro hb; first | (cases hb; done) | skip)))
    refine ⟨.inr rfl, by simp [Tryz.results58], fun k hk => ?_⟩
    have hk3 : k < 300 := Classical.byContradiction fun h => hk (hp2_free a _ k (by omega))
    simp (disch := omega) only [upd_far]
    rfl
theorem rOf1_a (a b : Int) (ha : wr a) (hb : wr b) (hb0 : b ≠ 0) (h : a < 0 ∨ b < 0) : Fun Tryz.prog G0 58 [.pointer (some ⟨200, 0, none⟩), .pointer (some ⟨208, 0, none⟩)].toArray (hp2 a b) [200, 208] (.pan (erV 2)) := by
  refine fun_of (B := 300) G0F (fun k hk => hpL_low (by simp) hk) Tryz.func58 rfl Tryz.call58 ?_ ?_ trivial (by simp [Tryz.ntmps58]) (by omega) ?_ ?_
  · rw [hp2_rst]; simp [hp2, dom]
  · rw [hp2_rst]; exact hp2_closed a b _
  · rw [hp2_rst]; exact hp2_free a b
  · intro C hC hC0 hY
    rw [hp2_rst] at hC0 ⊢
    repeat' (first | apply gwS | simp only [wN, wM, Nat.reduceAdd, Nat.reduceMul] | ((first | refine gwR [1000059] ?_ | refine gwD [1000059] ?_); intro Q hQ hP; simp [hC, hY, hp2, wb]; (repeat ((first | (refine callP_of (of_arg a b ha hb hb0 h) ?_)); try simp [hC, hY, hp2, wb])); (first | refine hQ _ _ _ _ (by kernel_rfl) ?_ | refine hP _ _ (by kernel_rfl) fun _ => ?_); clear hQ hP Q) | apply gwB | apply gwT | apply gwK | apply gwE | apply gwG | apply gwL | simp only [blockG_exit] | (refine gwC ?_ ?_ <;> (intro hb; first | (cases hb; done) | skip)))
    refine ⟨rfl, fun k hk => ?_⟩
    have hk3 : k < 300 := Classical.byContradiction fun h => hk (hp2_free a _ k (by omega))
    simp (disch := omega) only [upd_far]
    rfl
theorem rOf1_z (a b : Int) (hz : b = 0) : Fun Tryz.prog G0 58 [.pointer (some ⟨200, 0, none⟩), .pointer (some ⟨208, 0, none⟩)].toArray (hp2 a b) [200, 208] (.pan (erV 30)) := by
  refine fun_of (B := 300) G0F (fun k hk => hpL_low (by simp) hk) Tryz.func58 rfl Tryz.call58 ?_ ?_ trivial (by simp [Tryz.ntmps58]) (by omega) ?_ ?_
  · rw [hp2_rst]; simp [hp2, dom]
  · rw [hp2_rst]; exact hp2_closed a b _
  · rw [hp2_rst]; exact hp2_free a b
  · intro C hC hC0 hY
    rw [hp2_rst] at hC0 ⊢
    subst hz
    repeat' (first | apply gwS | simp only [wN, wM, Nat.reduceAdd, Nat.reduceMul] | ((first | refine gwR [1000059] ?_ | refine gwD [1000059] ?_); intro Q hQ hP; simp [hC, hY, hp2, wb]; (repeat ((first | (refine callP_of (of_zero a) ?_)); try simp [hC, hY, hp2, wb])); (first | refine hQ _ _ _ _ (by kernel_rfl) ?_ | refine hP _ _ (by kernel_rfl) fun _ => ?_); clear hQ hP Q) | apply gwB | apply gwT | apply gwK | apply gwE | apply gwG | apply gwL | simp only [blockG_exit] | (refine gwC ?_ ?_ <;> (intro hb; first | (cases hb; done) | skip)))
    refine ⟨rfl, fun k hk => ?_⟩
    have hk3 : k < 300 := Classical.byContradiction fun h => hk (hp2_free a _ k (by omega))
    simp (disch := omega) only [upd_far]
    rfl
theorem rOf_p_ret (a b : Int) (ha : wr a) (hb : wr b) (h0 : 0 ≤ a) (hb0 : 0 < b) : Ret Tryz.prog G0 27 #[wd a, wd b] (.tuple #[wd (isq (a / b)), .int .i64 0]) := by
  refine ret_of G0F Tryz.func27 rfl Tryz.call27 (by simp) (by simp) (by simp [Tryz.ntmps27]) ?_
  intro C hC hC0 hY
  repeat' (first | apply gwS | simp only [wN, wM, Nat.reduceAdd, Nat.reduceMul] | ((first | refine gwR [57] ?_ | refine gwD [57] ?_); intro Q hQ hP; simp [hC, hY]; (repeat ((first | (refine heapK_of (hp' := hp2 a b) (rtold_ret (fun k hk => hpL_low (by simp) hk) (by simp) rfl (by simp) (rOf1_p a b ha hb h0 hb0)) (by simp [hp2, wb]) (fun k hk => hpL_low (by simp) hk) trivial ?_)); try simp [hC, hY])); (first | refine hQ _ _ _ _ (by kernel_rfl) ?_ | refine hP _ _ (by kernel_rfl) fun _ => ?_); clear hQ hP Q) | apply gwB | apply gwT | apply gwK | apply gwE | apply gwG | apply gwL | simp only [blockG_exit] | (refine gwC ?_ ?_ <;> (intro hb; first | (cases hb; done) | skip)))
  refine ⟨.inr trivial, ?_⟩
  simp [Tryz.results27, wi_zero]
@[simp] theorem rOf_p (a b : Int) (ha : wr a) (hb : wr b) (h0 : 0 ≤ a) (hb0 : 0 < b) (K : Value → Prop) : callK Tryz.prog G0 27 #[Value.agg #[.int .u64 (wi (a) 0), .int .u64 (wi (a) 1), .int .u64 (wi (a) 2), .int .u64 (wi (a) 3)], Value.agg #[.int .u64 (wi (b) 0), .int .u64 (wi (b) 1), .int .u64 (wi (b) 2), .int .u64 (wi (b) 3)]] K ↔ K (.tuple #[wd (isq (a / b)), .int .i64 0]) := callK_iff G0W (by kernel_rfl) (rOf_p_ret a b ha hb h0 hb0)
theorem rOf_z_ret (a b : Int) (hz : b = 0) : Ret Tryz.prog G0 27 #[wd a, wd b] (.tuple #[wd 0, .int .i64 30]) := by
  refine ret_of G0F Tryz.func27 rfl Tryz.call27 (by simp) (by simp) (by simp [Tryz.ntmps27]) ?_
  intro C hC hC0 hY
  repeat' (first | apply gwS | simp only [wN, wM, Nat.reduceAdd, Nat.reduceMul] | ((first | refine gwR [57] ?_ | refine gwD [57] ?_); intro Q hQ hP; simp [hC, hY]; (repeat ((first | (refine heapK_of (hp' := hp2 a b) (rtold_pan (fun k hk => hpL_low (by simp) hk) (by simp) rfl (by simp) (rOf1_z a b hz)) (by simp [hp2, wb]) (fun k hk => hpL_low (by simp) hk) trivial ?_)); try simp [hC, hY])); (first | refine hQ _ _ _ _ (by kernel_rfl) ?_ | refine hP _ _ (by kernel_rfl) fun _ => ?_); clear hQ hP Q) | apply gwB | apply gwT | apply gwK | apply gwE | apply gwG | apply gwL | simp only [blockG_exit] | (refine gwC ?_ ?_ <;> (intro hb; first | (cases hb; done) | skip)))
  refine ⟨.inr trivial, ?_⟩
  simp [Tryz.results27, wi_zero]
@[simp] theorem rOf_z (a b : Int) (hz : b = 0) (K : Value → Prop) : callK Tryz.prog G0 27 #[Value.agg #[.int .u64 (wi (a) 0), .int .u64 (wi (a) 1), .int .u64 (wi (a) 2), .int .u64 (wi (a) 3)], Value.agg #[.int .u64 (wi (b) 0), .int .u64 (wi (b) 1), .int .u64 (wi (b) 2), .int .u64 (wi (b) 3)]] K ↔ K (.tuple #[wd 0, .int .i64 30]) := callK_iff G0W (by kernel_rfl) (rOf_z_ret a b hz)
theorem i64_wr {n : Int} (h : i64 n) : wr n := by unfold i64 at h; unfold wr; omega
end Go.Gy
namespace Go.Gy
set_option linter.unusedSimpArgs false
set_option linter.unusedVariables false
open Go Go.RowKit Go.Proofs
def wl (z : Int) : List Value := [.int .u64 (wi z 0), .int .u64 (wi z 1), .int .u64 (wi z 2), .int .u64 (wi z 3)]
@[simp] theorem wl_len (z : Int) : (wl z).length = 4 := rfl
def lc (b : Int) : Nat → List Value
  | 0 => []
  | k + 1 => lc b k ++ wl (b * 2 ^ k)
@[simp] theorem lc_len (b : Int) (k : Nat) : (lc b k).length = 4 * k := by
  induction k with
  | zero => rfl
  | succ k ih => simp [lc, ih]; omega
end Go.Gy
namespace Go.Gy
set_option linter.unusedSimpArgs false
set_option linter.unusedVariables false
end Go.Gy
namespace Go.Gy
set_option linter.unusedSimpArgs false
set_option linter.unusedVariables false
open Go Go.RowKit Go.Proofs
def sm (z : Int) : Prop := -1329227995784915872903807060280344576 ≤ z ∧ z ≤ 1329227995784915872903807060280344576
theorem sm.wr {z : Int} (h : sm z) : wr z := ⟨Int.le_trans (by decide) h.1, Int.lt_of_le_of_lt h.2 (by decide)⟩
theorem sm.up {z : Int} (h : sm z) : Gy.wr (z + 1) := ⟨Int.le_trans (by decide) (Int.le_trans h.1 (Int.le_add_one (Int.le_refl _))), Int.lt_of_le_of_lt (Int.add_le_add_right h.2 1) (by decide)⟩
def jb (n : Int) : Blk := ⟨#[.int .i64 n], .ty 3⟩
theorem lead (p : Nat → Prop) (m : Nat) : ∃ N, N ≤ m ∧ (∀ i, i < N → p i) ∧ (N = m ∨ ¬ p N) := by
  induction m with
  | zero => exact ⟨0, Nat.le_refl _, fun i hi => absurd hi (Nat.not_lt_zero i), .inl rfl⟩
  | succ m ih =>
    obtain ⟨N, h1, h2, h3⟩ := ih
    rcases h3 with rfl | h3
    · by_cases hp : p N
      · exact ⟨N + 1, Nat.le_refl _, fun i hi => by
          by_cases e : i = N
          · subst e; exact hp
          · exact h2 i (by omega), .inl rfl⟩
      · exact ⟨N, by omega, h2, .inr hp⟩
    · exact ⟨N, by omega, h2, .inr h3⟩
def inW (m x : Int) : Prop := 0 ≤ m ∧ -m ≤ x ∧ x ≤ m
instance inWdec (m x : Int) : Decidable (inW m x) := by unfold inW; infer_instance
theorem neg_in {m : Int} (h : i64 m) (h0 : 0 ≤ m) : Int.bmod (-m) 18446744073709551616 = -m := by
  have := h.1; have := h.2
  rw [Int.bmod_def]; omega
def wiHp (x0 x1 x2 m : Int) : Hp := hpL G0 [(200, ⟨#[.int .i64 x0, .int .i64 x1, .int .i64 x2], .ty 51⟩), (208, jb m), (216, ⟨#[.bool false], .ty 4⟩)]
def wiTs : Nat → Value := tsL [(3, .pointer (some ⟨208, 0, none⟩)), (4, .pointer (some ⟨216, 0, none⟩))]
set_option maxRecDepth 8000 in
theorem within_ret (x0 x1 x2 m : Int) (hm : i64 m) (h0 : i64 x0) (h1 : i64 x1) (h2 : i64 x2) : Ret Tryz.prog G0 108 #[.agg #[.int .i64 x0, .int .i64 x1, .int .i64 x2], .int .i64 m] (.bool (decide (inW m x0 ∧ inW m x1 ∧ inW m x2))) := by
  refine ret_of G0F Tryz.func108 rfl Tryz.call108 (by simp) (by simp) (by simp [Tryz.ntmps108]) ?_
  intro C hC hC0 hY
  obtain ⟨N, hN, hlt, hend⟩ := lead (fun i => inW m (vf x0 x1 x2 i)) 3
  repeat' (first | apply gwS | simp only [wN, wM, Nat.reduceAdd, Nat.reduceMul] | ((first | refine gwR [68] ?_ | refine gwD [68] ?_); intro Q hQ hP; simp [hC, hY, jb]; (repeat ((first | (refine heapK_of (vparts_new 232 240 1 1 #[.int .i64 x0, .int .i64 x1, .int .i64 x2] (by simp) (by omega) (by omega) (by omega) (by omega)) (by simp) (fun k hk => hpL_low (by simp) hk) (by simp [Res.at, keys]) ?_)); try simp [hC, hY, jb])); (first | refine hQ _ _ _ _ (by kernel_rfl) ?_ | refine hP _ _ (by kernel_rfl) fun _ => ?_); clear hQ hP Q) | apply gwB | apply gwT | apply gwK | apply gwE | apply gwG | apply gwL | simp only [blockG_exit] | (refine gwC ?_ ?_ <;> (intro hb; first | (cases hb; done) | skip)))
  have hT : m < 0 ∨ 0 ≤ m := by omega
  refine GW_range (f := 90) (rs := [240, 232]) (xs := xsV 3 (vf x0 x1 x2)) (caps := #[.pointer (some ⟨240, 0, none⟩)]) (by simp) ?_ (by simp [xsV]) (by simp [Tryz.ntmps108]) wiTs (fun _ => wiHp x0 x1 x2 m) 300 N (by simp [xsV]; omega) ?_ ?_ ?_ ?_ ?_
  · rw [hC]
    refine IterG.cast (IterX.rn (fun k => if k = 100 then 240 else if k = 108 then 232 else k) G0F (fun k hk => hpL_low (by simp [pvL1]) hk) (rs := [100, 108]) ?_ (vparts1_it x0 x1 x2)) (by simp [ren0]) (by simp)
    refine ⟨fun k hk => ?_, ?_, ?_, ?_⟩
    · have h1 : ¬ k = 100 := by omega
      have h2 : ¬ k = 108 := by omega
      have h3 : ¬ k = 200 := by omega
      have h4 : ¬ k = 208 := by omega
      have h5 : ¬ k = 216 := by omega
      have h8 : ¬ k = 232 := by omega
      have h9 : ¬ k = 240 := by omega
      simp [h1, h2, h3, h4, h5, h8, h9, pv1, pvL1]
    · simp
    · simp [pvL1, Blk.rn, renF, ren0]
    · simp
  · refine weakL _ 300 hC G0F (m0 := []) hC0 (by omega) ?_ ?_ ?_
    · simp [idsV, idsA, idsF, ids0, dom]
    · simp [ids_lit, idsF, ids0, jb]
    · simp
  · simp [wiHp, dom]
  · intro i hi t
    refine tsL_ids ?_ t
    simp [idsV, idsA, idsF, ids0, dom, wiHp]
  · intro i x hi hx C1 l hC1 hh1 hY1
    have hCC := hC
    have hC1' : C1.G = G0 := hC1.trans hC
    obtain ⟨g0, g1, g2⟩ := hlt i hi
    replace hC := hC1'
    replace hY := hY1
    have : i = 0 ∨ i = 1 ∨ i = 2 := by omega
    rcases this with rfl | rfl | rfl
    all_goals
      rw [xsV_at _ _ _ (by omega)] at hx
      simp only [Option.some.injEq] at hx
      subst hx
      simp only [vf] at *
      unfold wiHp
    all_goals
      repeat' (first | apply gwS | simp only [wN, wM, Nat.reduceAdd, Nat.reduceMul] | ((first | refine gwR [] ?_ | refine gwD [] ?_); intro Q hQ hP; simp [hC, hY, roundTs, wiTs, jb]; (first | refine hQ _ _ _ _ (by kernel_rfl) ?_ | refine hP _ _ (by kernel_rfl) fun _ => ?_); clear hQ hP Q) | apply gwB | apply gwT | apply gwK | apply gwE | apply gwG | apply gwL | simp only [blockG_exit] | (refine gwC ?_ ?_ <;> (intro hb; first | (cases hb; done) | skip)))
    all_goals
      intro C2 hC2 hh2 hY2
      replace hC : C2.G = G0 := hC2.trans hCC
      replace hY := hY2
      have q0 : ¬ m < 0 := by omega
      have q1 := Int.not_lt.2 g1
      have q2 := Int.not_lt.2 g2
      have hbm := neg_in hm g0
      repeat' (first | apply gwS | simp only [wN, wM, Nat.reduceAdd, Nat.reduceMul] | ((first | refine gwR [] ?_ | refine gwD [] ?_); intro Q hQ hP; simp [hC, hY, roundTs, wiTs, jb, hbm, q0, q1, q2]; (first | refine hQ _ _ _ _ (by kernel_rfl) ?_ | refine hP _ _ (by kernel_rfl) fun _ => ?_); clear hQ hP Q) | apply gwB | apply gwT | apply gwK | apply gwE | apply gwG | apply gwL | simp only [blockG_exit] | (refine gwC ?_ ?_ <;> (intro hb; first | (cases hb; done) | skip)))
    all_goals
      refine weakL [] 300 hC1' G0F hh1 (by omega) ?_ ?_ ?_
      · simp
      · simp [ids_lit, idsF, ids0, jb]
      · simp [jb]
  · by_cases hend' : N = 3
    · subst hend'
      left
      refine ⟨by simp [xsV], ?_⟩
      have e : (inW m x0 ∧ inW m x1 ∧ inW m x2) = True := by
        simp only [eq_iff_iff, iff_true]
        exact ⟨hlt 0 (by omega), hlt 1 (by omega), hlt 2 (by omega)⟩
      simp only [e]
      unfold wiHp wiTs jb
      repeat' (first | apply gwS | simp only [wN, wM, Nat.reduceAdd, Nat.reduceMul] | ((first | refine gwR [] ?_ | refine gwD [] ?_); intro Q hQ hP; simp [hC, hY]; (first | refine hQ _ _ _ _ (by kernel_rfl) ?_ | refine hP _ _ (by kernel_rfl) fun _ => ?_); clear hQ hP Q) | apply gwB | apply gwT | apply gwK | apply gwE | apply gwG | apply gwL | simp only [blockG_exit] | (refine gwC ?_ ?_ <;> (intro hb; first | (cases hb; done) | skip)))
      refine ⟨.inr trivial, ?_⟩
      simp [Tryz.results108]
    · right
      have hN3 : N < 3 := by omega
      replace hend := hend.resolve_left hend'
      refine ⟨_, xsV_at _ _ _ hN3, ?_⟩
      have e : (inW m x0 ∧ inW m x1 ∧ inW m x2) = False := by
        simp only [eq_iff_iff, iff_false]
        rintro ⟨a0, a1, a2⟩
        have : N = 0 ∨ N = 1 ∨ N = 2 := by omega
        rcases this with rfl | rfl | rfl <;> contradiction
      simp only [e]
      have hor : m < 0 ∨ (¬ m < 0 ∧ vf x0 x1 x2 N < -m) ∨ (¬ m < 0 ∧ ¬ vf x0 x1 x2 N < -m ∧ m < vf x0 x1 x2 N) := by
        unfold inW at hend; omega
      intro C1 l hC1 hh1 hY1
      have hCC := hC
      replace hC := hC1.trans hC
      replace hY := hY1
      clear hlt hN
      have : N = 0 ∨ N = 1 ∨ N = 2 := by omega
      rcases this with rfl | rfl | rfl
      all_goals
        simp only [vf] at hor ⊢
        unfold wiHp
      all_goals
        repeat' (first | apply gwS | simp only [wN, wM, Nat.reduceAdd, Nat.reduceMul] | ((first | refine gwR [] ?_ | refine gwD [] ?_); intro Q hQ hP; simp [hC, hY, roundTs, wiTs, jb]; (first | refine hQ _ _ _ _ (by kernel_rfl) ?_ | refine hP _ _ (by kernel_rfl) fun _ => ?_); clear hQ hP Q) | apply gwB | apply gwT | apply gwK | apply gwE | apply gwG | apply gwL | simp only [blockG_exit] | (refine gwC ?_ ?_ <;> (intro hb; first | (cases hb; done) | skip)))
      all_goals
        intro C2 hC2 hh2 hY2
        replace hC : C2.G = G0 := hC2.trans hCC
        replace hY := hY2
        rcases hor with q0 | ⟨q0, q1⟩ | ⟨q0, q1, q2⟩
        ·
          repeat' (first | apply gwS | simp only [wN, wM, Nat.reduceAdd, Nat.reduceMul] | ((first | refine gwR [] ?_ | refine gwD [] ?_); intro Q hQ hP; simp [hC, hY, roundTs, wiTs, jb, q0]; (first | refine hQ _ _ _ _ (by kernel_rfl) ?_ | refine hP _ _ (by kernel_rfl) fun _ => ?_); clear hQ hP Q) | apply gwB | apply gwT | apply gwK | apply gwE | apply gwG | apply gwL | simp only [blockG_exit] | (refine gwC ?_ ?_ <;> (intro hb; first | (cases hb; done) | skip)))
          refine ⟨by simp [outCode], fun t => tsL_ids (by simp [idsV, idsA, idsF, ids0, dom]) t, .inr trivial, ?_⟩
          simp [Tryz.results108, wiTs]
        · have hbm := neg_in hm (Int.not_lt.1 q0)
          repeat' (first | apply gwS | simp only [wN, wM, Nat.reduceAdd, Nat.reduceMul] | ((first | refine gwR [] ?_ | refine gwD [] ?_); intro Q hQ hP; simp [hC, hY, roundTs, wiTs, jb, hbm, q0, q1]; (first | refine hQ _ _ _ _ (by kernel_rfl) ?_ | refine hP _ _ (by kernel_rfl) fun _ => ?_); clear hQ hP Q) | apply gwB | apply gwT | apply gwK | apply gwE | apply gwG | apply gwL | simp only [blockG_exit] | (refine gwC ?_ ?_ <;> (intro hb; first | (cases hb; done) | skip)))
          refine ⟨by simp [outCode], fun t => tsL_ids (by simp [idsV, idsA, idsF, ids0, dom]) t, .inr trivial, ?_⟩
          simp [Tryz.results108, wiTs]
        · have hbm := neg_in hm (Int.not_lt.1 q0)
          repeat' (first | apply gwS | simp only [wN, wM, Nat.reduceAdd, Nat.reduceMul] | ((first | refine gwR [] ?_ | refine gwD [] ?_); intro Q hQ hP; simp [hC, hY, roundTs, wiTs, jb, hbm, q0, q1, q2]; (first | refine hQ _ _ _ _ (by kernel_rfl) ?_ | refine hP _ _ (by kernel_rfl) fun _ => ?_); clear hQ hP Q) | apply gwB | apply gwT | apply gwK | apply gwE | apply gwG | apply gwL | simp only [blockG_exit] | (refine gwC ?_ ?_ <;> (intro hb; first | (cases hb; done) | skip)))
          refine ⟨by simp [outCode], fun t => tsL_ids (by simp [idsV, idsA, idsF, ids0, dom]) t, .inr trivial, ?_⟩
          simp [Tryz.results108, wiTs]
def inV (m x0 x1 x2 : Int) : Bool := decide (inW m x0 ∧ inW m x1 ∧ inW m x2)
@[simp] theorem vwithin (x0 x1 x2 m : Int) (hm : i64 m) (h0 : i64 x0) (h1 : i64 x1) (h2 : i64 x2) (K : Value → Prop) : callK Tryz.prog G0 108 #[.agg #[.int .i64 x0, .int .i64 x1, .int .i64 x2], .int .i64 m] K ↔ K (.bool (inV m x0 x1 x2)) := callK_iff G0W (by kernel_rfl) (within_ret x0 x1 x2 m hm h0 h1 h2)
def fnI (x : Int) : Prop := -536870912 ≤ x ∧ x ≤ 536870912
instance fnIdec (x : Int) : Decidable (fnI x) := by unfold fnI; infer_instance
theorem fine_fun (M m : Nat) (v : Bool) (cs : Array Value) (hcs : ∀ x ∈ cs, flatF x = true) (f : Nat → Int) (hit : IterK Tryz.prog G0 90 #[.pointer (some ⟨100, 0, none⟩)] (hpL G0 [(100, ⟨#[.slice (some ⟨108, 0, none⟩) m m], .ty 108⟩), (108, ⟨cs, .ty 51⟩)]) (keys [(100, ⟨#[.slice (some ⟨108, 0, none⟩) m m], .ty 108⟩), (108, ⟨cs, .ty 51⟩)]) (xsV M f)) (hv : v = true ↔ ∀ j, j < M → fnI (f j)) :
    Fun Tryz.prog G0 67 #[.slice (some ⟨100, 0, none⟩) m m] (hpL G0 [(100, ⟨cs, .ty 51⟩)]) [100] (.ret (.bool v) []) := by
  have hfx : Blk.fx (Blk.mk cs (.ty 51)) := hcs
  have hfi : ∀ D, (Blk.mk cs (.ty 51)).ids D := fun D => Blk.fx_ids hfx D
  refine fun_ofL (m := [(100, ⟨cs, .ty 51⟩)]) (B := 200) G0F Tryz.func67 rfl Tryz.call67 ⟨by simp, by simp [keys], by simp only [List.mem_singleton, forall_eq]; exact hfi _⟩ ?_ (by simp) (by simp) (by simp) (by simp [Tryz.ntmps67]) (by omega) ?_
  · simp [idsV, idsA, idsF, ids0, keys]
  intro C hC hC0 hY
  obtain ⟨N, hN, hlt, hend⟩ := lead (fun i => fnI (f i)) M
  repeat' (first | apply gwS | simp only [wN, wM, Nat.reduceAdd, Nat.reduceMul] | ((first | refine gwR [68] ?_ | refine gwD [68] ?_); intro Q hQ hP; simp [hC, hY, jb]; (repeat ((first | (refine heapK_of (vparts_new 100 216 m m cs hcs (by omega) (by omega) (by omega) (by omega)) (by simp) (fun k hk => hpL_low (by simp) hk) (by simp [Res.at, keys]) ?_)); try simp [hC, hY, jb])); (first | refine hQ _ _ _ _ (by kernel_rfl) ?_ | refine hP _ _ (by kernel_rfl) fun _ => ?_); clear hQ hP Q) | apply gwB | apply gwT | apply gwK | apply gwE | apply gwG | apply gwL | simp only [blockG_exit] | (refine gwC ?_ ?_ <;> (intro hb; first | (cases hb; done) | skip)))
  refine GW_rangeKL (G := G0) (f := 90) (rs := [216, 100]) (xs := xsV M f) (caps := #[.pointer (some ⟨216, 0, none⟩)]) (m0 := [(100, ⟨cs, .ty 51⟩)]) [216, 100] G0F hC hC0 hY (by simp) ?_ (by simp [xsV]) (by simp [Tryz.ntmps67]) [(2, .pointer (some ⟨200, 0, none⟩))] [] (fun _ => [(200, ⟨#[.bool false], .ty 4⟩)]) 300 N (by simp [xsV]; omega) (by omega) (by simp) (by simp [dom]) ?_ (by simp) (by simp) (by simp) ?_ (by simp) ?_ ?_
  · refine iterk_mv (m := [(100, ⟨#[.slice (some ⟨108, 0, none⟩) m m], .ty 108⟩), (108, ⟨cs, .ty 51⟩)]) (B := 200) hit G0F ⟨by simp, by simp [keys], ?_⟩ (fun k => if k = 100 then 216 else if k = 108 then 100 else k) (fun k hk => ?_) (by simp [ren0]) (by simp [keys]) (by (intro k hk; first | rfl | (simp (disch := omega) only [addB, List.mem_cons, List.not_mem_nil, or_false, upd_other, hpL_cons, hpL_nil, if_neg, updL] <;> done))) ?_ ?_
    · simp only [List.mem_cons, List.not_mem_nil, or_false, forall_eq_or_imp, forall_eq]
      exact ⟨by simp [ids_lit, idsF, ids0, keys], hfi _⟩
    · rw [if_neg (by omega), if_neg (by omega)]
    · have hr := fun ρ => fx_map hcs ρ
      simp [hr, Blk.rn, renF, ren0]
    · simp [keys]
  · intro k hk b hb
    simp only [List.mem_cons, List.not_mem_nil, or_false] at hk
    rcases hk with rfl | rfl
    · simp at hb; subst hb; simp [ids_lit, idsF, ids0]
    · simp at hb; subst hb; exact hfi _
  · intro i hi
    simp [idsV, idsA, idsF, ids0, dom, ids_lit]
  · intro i x hi hx C1 l hC1 hh1 hY1
    rw [xsV_at _ _ _ (by omega)] at hx
    simp only [Option.some.injEq] at hx
    subst hx
    obtain ⟨g1, g2⟩ := hlt i hi
    have q1 := Int.not_lt.2 g1
    have q2 := Int.not_lt.2 g2
    clear hC hY
    have hC := hC1
    have hY := hY1
    repeat' (first | apply gwS | simp only [wN, wM, Nat.reduceAdd, Nat.reduceMul] | ((first | refine gwR [] ?_ | refine gwD [] ?_); intro Q hQ hP; simp [hC, hY, roundTs]; (first | refine hQ _ _ _ _ (by kernel_rfl) ?_ | refine hP _ _ (by kernel_rfl) fun _ => ?_); clear hQ hP Q) | apply gwB | apply gwT | apply gwK | apply gwE | apply gwG | apply gwL | simp only [blockG_exit] | (refine gwC ?_ ?_ <;> (intro hb; first | (cases hb; done) | skip)))
    intro C2 hC2 hh2 hY2
    clear hC hY
    have hC := hC2
    have hY := hY2
    repeat' (first | apply gwS | simp only [wN, wM, Nat.reduceAdd, Nat.reduceMul] | ((first | refine gwR [] ?_ | refine gwD [] ?_); intro Q hQ hP; simp [hC, hY, roundTs, q1, q2]; (first | refine hQ _ _ _ _ (by kernel_rfl) ?_ | refine hP _ _ (by kernel_rfl) fun _ => ?_); clear hQ hP Q) | apply gwB | apply gwT | apply gwK | apply gwE | apply gwG | apply gwL | simp only [blockG_exit] | (refine gwC ?_ ?_ <;> (intro hb; first | (cases hb; done) | skip)))
    simp
  · by_cases hend' : N = M
    · subst hend'
      left
      refine ⟨by simp [xsV], ?_⟩
      have e := hv.2 hlt
      subst e
      repeat' (first | apply gwS | simp only [wN, wM, Nat.reduceAdd, Nat.reduceMul] | ((first | refine gwR [] ?_ | refine gwD [] ?_); intro Q hQ hP; simp [hC, hY, addB, List.cons_append, List.nil_append]; (first | refine hQ _ _ _ _ (by kernel_rfl) ?_ | refine hP _ _ (by kernel_rfl) fun _ => ?_); clear hQ hP Q) | apply gwB | apply gwT | apply gwK | apply gwE | apply gwG | apply gwL | simp only [blockG_exit] | (refine gwC ?_ ?_ <;> (intro hb; first | (cases hb; done) | skip)))
      refine ⟨.inr rfl, by simp [Tryz.results67], keep_of G0F (by simp [addB]) (by (intro k hk; first | rfl | (simp (disch := omega) only [addB, List.mem_cons, List.not_mem_nil, or_false, upd_other, hpL_cons, hpL_nil, if_neg, updL] <;> done)))⟩
    · right
      have hN3 : N < M := by omega
      replace hend := hend.resolve_left hend'
      refine ⟨_, xsV_at _ _ _ hN3, ?_⟩
      have e : v = false := by
        cases v
        · rfl
        · exact absurd (hv.1 rfl N hN3) hend
      subst e
      have hor : f N < -536870912 ∨ (¬ f N < -536870912 ∧ 536870912 < f N) := by
        unfold fnI at hend; omega
      intro C1 l hC1 hh1 hY1
      clear hC hY
      have hC := hC1
      have hY := hY1
      repeat' (first | apply gwS | simp only [wN, wM, Nat.reduceAdd, Nat.reduceMul] | ((first | refine gwR [] ?_ | refine gwD [] ?_); intro Q hQ hP; simp [hC, hY, roundTs]; (first | refine hQ _ _ _ _ (by kernel_rfl) ?_ | refine hP _ _ (by kernel_rfl) fun _ => ?_); clear hQ hP Q) | apply gwB | apply gwT | apply gwK | apply gwE | apply gwG | apply gwL | simp only [blockG_exit] | (refine gwC ?_ ?_ <;> (intro hb; first | (cases hb; done) | skip)))
      intro C2 hC2 hh2 hY2
      clear hC hY
      have hC := hC2
      have hY := hY2
      rcases hor with q1 | ⟨q1, q2⟩
      ·
        repeat' (first | apply gwS | simp only [wN, wM, Nat.reduceAdd, Nat.reduceMul] | ((first | refine gwR [] ?_ | refine gwD [] ?_); intro Q hQ hP; simp [hC, hY, roundTs, q1]; (first | refine hQ _ _ _ _ (by kernel_rfl) ?_ | refine hP _ _ (by kernel_rfl) fun _ => ?_); clear hQ hP Q) | apply gwB | apply gwT | apply gwK | apply gwE | apply gwG | apply gwL | simp only [blockG_exit] | (refine gwC ?_ ?_ <;> (intro hb; first | (cases hb; done) | skip)))
        refine ⟨by simp [outCode], by simp [idsV, idsA, idsF, ids0, dom], by simp, .inr rfl, by simp [Tryz.results67, addB], keep_of G0F (by simp [addB]) (by (intro k hk; first | rfl | (simp (disch := omega) only [addB, List.mem_cons, List.not_mem_nil, or_false, upd_other, hpL_cons, hpL_nil, if_neg, updL] <;> done)))⟩
      ·
        repeat' (first | apply gwS | simp only [wN, wM, Nat.reduceAdd, Nat.reduceMul] | ((first | refine gwR [] ?_ | refine gwD [] ?_); intro Q hQ hP; simp [hC, hY, roundTs, q1, q2]; (first | refine hQ _ _ _ _ (by kernel_rfl) ?_ | refine hP _ _ (by kernel_rfl) fun _ => ?_); clear hQ hP Q) | apply gwB | apply gwT | apply gwK | apply gwE | apply gwG | apply gwL | simp only [blockG_exit] | (refine gwC ?_ ?_ <;> (intro hb; first | (cases hb; done) | skip)))
        refine ⟨by simp [outCode], by simp [idsV, idsA, idsF, ids0, dom], by simp, .inr rfl, by simp [Tryz.results67, addB], keep_of G0F (by simp [addB]) (by (intro k hk; first | rfl | (simp (disch := omega) only [addB, List.mem_cons, List.not_mem_nil, or_false, upd_other, hpL_cons, hpL_nil, if_neg, updL] <;> done)))⟩

theorem fine1_fun (x0 x1 x2 : Int) (v : Bool) (hv : v = true ↔ fnI x0 ∧ fnI x1 ∧ fnI x2) : Fun Tryz.prog G0 67 #[.slice (some ⟨100, 0, none⟩) 1 1] (hpL G0 [(100, ⟨#[.int .i64 x0, .int .i64 x1, .int .i64 x2], .ty 51⟩)]) [100] (.ret (.bool v) []) := by
  refine fine_fun 3 1 _ _ (by simp) _ (vparts1_itk x0 x1 x2) ?_
  rw [hv]
  refine ⟨fun ⟨h0, h1, h2⟩ j hj => ?_, fun h => ⟨h 0 (by omega), h 1 (by omega), h 2 (by omega)⟩⟩
  have : j = 0 ∨ j = 1 ∨ j = 2 := by omega
  rcases this with rfl | rfl | rfl <;> assumption
theorem fine2_fun (x0 x1 x2 y0 y1 y2 : Int) (v : Bool) (hv : v = true ↔ (fnI x0 ∧ fnI x1 ∧ fnI x2) ∧ fnI y0 ∧ fnI y1 ∧ fnI y2) : Fun Tryz.prog G0 67 #[.slice (some ⟨100, 0, none⟩) 2 2] (hpL G0 [(100, ⟨#[.int .i64 x0, .int .i64 x1, .int .i64 x2, .int .i64 y0, .int .i64 y1, .int .i64 y2], .ty 51⟩)]) [100] (.ret (.bool v) []) := by
  refine fine_fun 6 2 _ _ (by simp) _ (vparts2_itk x0 x1 x2 y0 y1 y2) ?_
  rw [hv]
  refine ⟨fun ⟨⟨h0, h1, h2⟩, h3, h4, h5⟩ j hj => ?_, fun h => ⟨⟨h 0 (by omega), h 1 (by omega), h 2 (by omega)⟩, h 3 (by omega), h 4 (by omega), h 5 (by omega)⟩⟩
  have : j = 0 ∨ j = 1 ∨ j = 2 ∨ j = 3 ∨ j = 4 ∨ j = 5 := by omega
  rcases this with rfl | rfl | rfl | rfl | rfl | rfl <;> assumption
@[simp] theorem flatV_fn0 (f : Fn) : flatV (.func f #[] #[]) = true := by simp [flatV, flatA, flatF, Array.all]
def eaE (op : Int → Int → Int) (a0 a1 a2 b0 b1 b2 : Int) : Int := if ((fnI a0 ∧ fnI a1 ∧ fnI a2) ∧ fnI b0 ∧ fnI b1 ∧ fnI b2) ∧ fnI (op a0 b0) ∧ fnI (op a1 b1) ∧ fnI (op a2 b2) then 0 else 20
def eaV (e v : Int) : Int := if e = 0 then v else 0
def eaL (g : FuncId) (op : Int → Int → Int) (a0 a1 a2 b0 b1 b2 : Int) (i : Nat) : List (Nat × Blk) := [(200, ⟨#[.int .i64 a0, .int .i64 a1, .int .i64 a2], .ty 51⟩), (208, ⟨#[.int .i64 b0, .int .i64 b1, .int .i64 b2], .ty 51⟩), (216, ⟨#[.func (.func g) #[] #[]], .ty 128⟩),
  (224, ⟨#[.int .i64 (if 0 < i then op a0 b0 else 0), .int .i64 (if 1 < i then op a1 b1 else 0), .int .i64 (if 2 < i then op a2 b2 else 0)], .ty 51⟩)]
set_option maxRecDepth 8000 in
theorem each_ret (g : FuncId) (op : Int → Int → Int) (hop : ∀ x y K, fnI x → fnI y → (callK Tryz.prog G0 g #[.int .i64 x, .int .i64 y] K ↔ K (.int .i64 (op x y)))) (a0 a1 a2 b0 b1 b2 : Int) : Ret Tryz.prog G0 109 #[.agg #[.int .i64 a0, .int .i64 a1, .int .i64 a2], .agg #[.int .i64 b0, .int .i64 b1, .int .i64 b2], .func (.func g) #[] #[]]
    (.tuple #[.agg #[.int .i64 (eaV (eaE op a0 a1 a2 b0 b1 b2) (op a0 b0)), .int .i64 (eaV (eaE op a0 a1 a2 b0 b1 b2) (op a1 b1)), .int .i64 (eaV (eaE op a0 a1 a2 b0 b1 b2) (op a2 b2))], .int .i64 (eaE op a0 a1 a2 b0 b1 b2)]) := by
  refine ret_of G0F Tryz.func109 rfl Tryz.call109 (by simp) (by simp) (by simp [Tryz.ntmps109]) ?_
  intro C hC hC0 hY
  obtain ⟨v, hv⟩ : ∃ v : Bool, v = true ↔ (fnI a0 ∧ fnI a1 ∧ fnI a2) ∧ fnI b0 ∧ fnI b1 ∧ fnI b2 := ⟨decide _, decide_eq_true_iff⟩
  cases v with
  | false =>
    have e : eaE op a0 a1 a2 b0 b1 b2 = 20 := by unfold eaE; rw [if_neg]; intro h; exact absurd (hv.2 h.1) (by simp)
    rw [e]
    repeat' (first | apply gwS | simp only [wN, wM, Nat.reduceAdd, Nat.reduceMul] | ((first | refine gwR [67] ?_ | refine gwD [67] ?_); intro Q hQ hP; simp [hC, hY]; (repeat ((first | (refine heapK_mv (fine2_fun a0 a1 a2 b0 b1 b2 _ hv) G0F (B := 200) ⟨by simp, by simp [keys], by simp [ids_lit, idsF, ids0]⟩ (fun k => if k = 100 then 256 else k) (fun k hk => if_neg (by omega)) (by simp [ren, renA, renF, ren0]) (by simp) (by simp [Blk.rn, renF, ren0]) (by simp [keys]) (by simp [keys]; rfl) ?_)); try simp [hC, hY])); (first | refine hQ _ _ _ _ (by kernel_rfl) ?_ | refine hP _ _ (by kernel_rfl) fun _ => ?_); clear hQ hP Q) | apply gwB | apply gwT | apply gwK | apply gwE | apply gwG | apply gwL | simp only [blockG_exit] | (refine gwC ?_ ?_ <;> (intro hb; first | (cases hb; done) | skip)))
    refine ⟨.inr trivial, ?_⟩
    simp [Tryz.results109, eaV]
  | true =>
    repeat' (first | apply gwS | simp only [wN, wM, Nat.reduceAdd, Nat.reduceMul] | ((first | refine gwR [67,68] ?_ | refine gwD [67,68] ?_); intro Q hQ hP; simp [hC, hY]; (repeat ((first | (first | (refine heapK_mv (fine2_fun a0 a1 a2 b0 b1 b2 _ hv) G0F (B := 200) ⟨by simp, by simp [keys], by simp [ids_lit, idsF, ids0]⟩ (fun k => if k = 100 then 256 else k) (fun k hk => if_neg (by omega)) (by simp [ren, renA, renF, ren0]) (by simp) (by simp [Blk.rn, renF, ren0]) (by simp [keys]) (by simp [keys]; rfl) ?_) | refine heapK_of (vparts_new 288 296 1 1 #[.int .i64 a0, .int .i64 a1, .int .i64 a2] (by simp) (by omega) (by omega) (by omega) (by omega)) (by simp) (fun k hk => hpL_low (by simp) hk) (by simp [Res.at, keys]) ?_)); try simp [hC, hY])); (first | refine hQ _ _ _ _ (by kernel_rfl) ?_ | refine hP _ _ (by kernel_rfl) fun _ => ?_); clear hQ hP Q) | apply gwB | apply gwT | apply gwK | apply gwE | apply gwG | apply gwL | simp only [blockG_exit] | (refine gwC ?_ ?_ <;> (intro hb; first | (cases hb; done) | skip)))
    obtain ⟨⟨f0, f1, f2⟩, g0, g1, g2⟩ := hv.1 rfl
    have s0 := fun K => hop a0 b0 K f0 g0
    have s1 := fun K => hop a1 b1 K f1 g1
    have s2 := fun K => hop a2 b2 K f2 g2
    refine GW_rangeKL (G := G0) (f := 90) (rs := [296, 288]) (xs := xsV 3 (vf a0 a1 a2)) (caps := #[.pointer (some ⟨296, 0, none⟩)]) (m0 := []) [296, 288] G0F hC hC0 hY (by simp) ?_ (by simp [xsV]) (by simp [Tryz.ntmps109]) [(3, .pointer (some ⟨200, 0, none⟩)), (4, .pointer (some ⟨208, 0, none⟩)), (5, .pointer (some ⟨216, 0, none⟩)), (6, .pointer (some ⟨224, 0, none⟩)), (7, .int .i64 0)] [] (eaL g op a0 a1 a2 b0 b1 b2) 400 3 (by simp [xsV]) (by omega) (by simp) (by simp [dom]) ?_ (by simp) (by simp) (by simp [eaL]) ?_ (by simp) ?_ ?_
    · refine iterk_mv (m := pvL1 a0 a1 a2) (B := 200) (vparts1_itk a0 a1 a2) G0F ⟨by simp [pvL1], by simp [pvL1, keys], by simp [pvL1, ids_lit, idsF, ids0, keys]⟩ (fun k => if k = 100 then 296 else if k = 108 then 288 else k) (fun k hk => ?_) (by simp [ren0]) (by simp [pvL1, keys]) (by (intro k hk; first | rfl | (simp (disch := omega) only [addB, List.mem_cons, List.not_mem_nil, or_false, upd_other, hpL_cons, hpL_nil, if_neg, updL] <;> done))) ?_ ?_
      · rw [if_neg (by omega), if_neg (by omega)]
      · simp [pvL1, Blk.rn, renF, ren0]
      · simp [pvL1, keys]
    · intro k hk b hb
      simp only [List.mem_cons, List.not_mem_nil, or_false] at hk
      rcases hk with rfl | rfl
      · simp at hb; subst hb; simp [ids_lit, idsF, ids0]
      · simp at hb; subst hb; simp [ids_lit, idsF, ids0]
    · intro i hi
      simp [eaL, idsV, idsA, idsF, ids0, dom, ids_lit]
    · intro i x hi hx C1 l hC1 hh1 hY1
      rw [xsV_at _ _ _ (by omega)] at hx
      simp only [Option.some.injEq] at hx
      subst hx
      clear hC hY
      have hC := hC1
      have hY := hY1
      have : i = 0 ∨ i = 1 ∨ i = 2 := by omega
      rcases this with rfl | rfl | rfl
      all_goals
        simp only [vf]
        unfold eaL
      all_goals
        repeat' (first | apply gwS | simp only [wN, wM, Nat.reduceAdd, Nat.reduceMul] | ((first | refine gwR [] ?_ | refine gwD [] ?_); intro Q hQ hP; simp [hC, hY, roundTs]; (first | refine hQ _ _ _ _ (by kernel_rfl) ?_ | refine hP _ _ (by kernel_rfl) fun _ => ?_); clear hQ hP Q) | apply gwB | apply gwT | apply gwK | apply gwE | apply gwG | apply gwL | simp only [blockG_exit] | (refine gwC ?_ ?_ <;> (intro hb; first | (cases hb; done) | skip)))
      all_goals
        intro C2 hC2 hh2 hY2
        clear hC hY
        have hC := hC2
        have hY := hY2
        repeat' (first | apply gwS | simp only [wN, wM, Nat.reduceAdd, Nat.reduceMul] | ((first | refine gwR [] ?_ | refine gwD [] ?_); intro Q hQ hP; simp [hC, hY, roundTs, s0, s1, s2]; (first | refine hQ _ _ _ _ (by kernel_rfl) ?_ | refine hP _ _ (by kernel_rfl) fun _ => ?_); clear hQ hP Q) | apply gwB | apply gwT | apply gwK | apply gwE | apply gwG | apply gwL | simp only [blockG_exit] | (refine gwC ?_ ?_ <;> (intro hb; first | (cases hb; done) | skip)))
      all_goals simp
    · left
      refine ⟨by simp [xsV], ?_⟩
      obtain ⟨w, hw⟩ : ∃ w : Bool, w = true ↔ fnI (op a0 b0) ∧ fnI (op a1 b1) ∧ fnI (op a2 b2) := ⟨decide _, decide_eq_true_iff⟩
      cases w with
      | false =>
        have e : eaE op a0 a1 a2 b0 b1 b2 = 20 := by unfold eaE; rw [if_neg]; intro h; exact absurd (hw.2 h.2) (by simp)
        rw [e]
        unfold eaL
        repeat' (first | apply gwS | simp only [wN, wM, Nat.reduceAdd, Nat.reduceMul] | ((first | refine gwR [67] ?_ | refine gwD [67] ?_); intro Q hQ hP; simp [hC, hY, addB, List.cons_append, List.nil_append]; (repeat ((first | (refine heapK_mv (fine1_fun (op a0 b0) (op a1 b1) (op a2 b2) _ hw) G0F (B := 200) ⟨by simp, by simp [keys], by simp [ids_lit, idsF, ids0]⟩ (fun k => if k = 100 then 408 else k) (fun k hk => if_neg (by omega)) (by simp [ren, renA, renF, ren0]) (by simp) (by simp [Blk.rn, renF, ren0]) (by simp [keys]) (by simp [keys]; rfl) ?_)); try simp [hC, hY, addB, List.cons_append, List.nil_append])); (first | refine hQ _ _ _ _ (by kernel_rfl) ?_ | refine hP _ _ (by kernel_rfl) fun _ => ?_); clear hQ hP Q) | apply gwB | apply gwT | apply gwK | apply gwE | apply gwG | apply gwL | simp only [blockG_exit] | (refine gwC ?_ ?_ <;> (intro hb; first | (cases hb; done) | skip)))
        refine ⟨.inr trivial, ?_⟩
        simp [Tryz.results109, eaV]
      | true =>
        have e : eaE op a0 a1 a2 b0 b1 b2 = 0 := by unfold eaE; rw [if_pos]; exact ⟨hv.1 rfl, hw.1 rfl⟩
        rw [e]
        unfold eaL
        repeat' (first | apply gwS | simp only [wN, wM, Nat.reduceAdd, Nat.reduceMul] | ((first | refine gwR [67] ?_ | refine gwD [67] ?_); intro Q hQ hP; simp [hC, hY, addB, List.cons_append, List.nil_append]; (repeat ((first | (refine heapK_mv (fine1_fun (op a0 b0) (op a1 b1) (op a2 b2) _ hw) G0F (B := 200) ⟨by simp, by simp [keys], by simp [ids_lit, idsF, ids0]⟩ (fun k => if k = 100 then 408 else k) (fun k hk => if_neg (by omega)) (by simp [ren, renA, renF, ren0]) (by simp) (by simp [Blk.rn, renF, ren0]) (by simp [keys]) (by simp [keys]; rfl) ?_)); try simp [hC, hY, addB, List.cons_append, List.nil_append])); (first | refine hQ _ _ _ _ (by kernel_rfl) ?_ | refine hP _ _ (by kernel_rfl) fun _ => ?_); clear hQ hP Q) | apply gwB | apply gwT | apply gwK | apply gwE | apply gwG | apply gwL | simp only [blockG_exit] | (refine gwC ?_ ?_ <;> (intro hb; first | (cases hb; done) | skip)))
        refine ⟨.inr trivial, ?_⟩
        simp [Tryz.results109, eaV]
theorem veach (g : FuncId) (op : Int → Int → Int) (hop : ∀ x y K, fnI x → fnI y → (callK Tryz.prog G0 g #[.int .i64 x, .int .i64 y] K ↔ K (.int .i64 (op x y)))) (a0 a1 a2 b0 b1 b2 : Int) (K : Value → Prop) : callK Tryz.prog G0 109 #[.agg #[.int .i64 a0, .int .i64 a1, .int .i64 a2], .agg #[.int .i64 b0, .int .i64 b1, .int .i64 b2], .func (.func g) #[] #[]] K ↔
    K (.tuple #[.agg #[.int .i64 (eaV (eaE op a0 a1 a2 b0 b1 b2) (op a0 b0)), .int .i64 (eaV (eaE op a0 a1 a2 b0 b1 b2) (op a1 b1)), .int .i64 (eaV (eaE op a0 a1 a2 b0 b1 b2) (op a2 b2))], .int .i64 (eaE op a0 a1 a2 b0 b1 b2)]) := callK_iff G0W (by kernel_rfl) (each_ret g op hop a0 a1 a2 b0 b1 b2)
end Go.Gy
namespace Go.Gy
set_option linter.unusedSimpArgs false
set_option linter.unusedVariables false
open Go Go.RowKit Go.Proofs
end Go.Gy
namespace Go.Gy
set_option linter.unusedSimpArgs false
set_option linter.unusedVariables false
open Go Go.RowKit Go.Proofs
theorem within9_ret (x0 x1 x2 m : Int) (hm : i64 m) : Ret Tryz.prog G0 112 #[.agg #[.int .i64 x0, .int .i64 x1, .int .i64 x2], .int .i64 m] (.bool (decide (inW m x0 ∧ inW m x1 ∧ inW m x2))) := by
  refine ret_of G0F Tryz.func112 rfl Tryz.call112 rfl (by simp) (by simp [Tryz.ntmps112]) ?_
  intro C hC hC0 hY
  by_cases q : m < 0
  · have e : decide (inW m x0 ∧ inW m x1 ∧ inW m x2) = false := decide_eq_false (by unfold inW; omega)
    rw [e]
    repeat' (first | apply gwS | refine GWL_start ?_ | refine GWL_step ?_ | simp only [wN, wM, Nat.reduceAdd, Nat.reduceMul] | ((first | refine gwR [] ?_ | refine gwD [] ?_); intro Q hQ hP; simp [hC, hY, q]; (first | refine hQ _ _ _ _ (by kernel_rfl) ?_ | refine hP _ _ (by kernel_rfl) fun _ => ?_); clear hQ hP Q) | apply gwB | apply gwT | apply gwK | apply gwE | apply gwG | apply gwL | simp only [blockG_exit] | (refine gwC ?_ ?_ <;> (intro hb; first | (cases hb; done) | skip)))
    refine ⟨.inr trivial, ?_⟩
    simp [Tryz.results112]
  · have hbm := neg_in hm (Int.not_lt.1 q)
    rcases Classical.em (m < x0) with a0 | a0
    · have e : decide (inW m x0 ∧ inW m x1 ∧ inW m x2) = false := decide_eq_false (by unfold inW; omega)
      rw [e]
      repeat' (first | apply gwS | refine GWL_start ?_ | refine GWL_step ?_ | simp only [wN, wM, Nat.reduceAdd, Nat.reduceMul] | ((first | refine gwR [] ?_ | refine gwD [] ?_); intro Q hQ hP; simp [hC, hY, q, hbm, a0]; (first | refine hQ _ _ _ _ (by kernel_rfl) ?_ | refine hP _ _ (by kernel_rfl) fun _ => ?_); clear hQ hP Q) | apply gwB | apply gwT | apply gwK | apply gwE | apply gwG | apply gwL | simp only [blockG_exit] | (refine gwC ?_ ?_ <;> (intro hb; first | (cases hb; done) | skip)))
      refine ⟨.inr trivial, ?_⟩
      simp [Tryz.results112]
    rcases Classical.em (x0 < -m) with b0 | b0
    · have e : decide (inW m x0 ∧ inW m x1 ∧ inW m x2) = false := decide_eq_false (by unfold inW; omega)
      rw [e]
      repeat' (first | apply gwS | refine GWL_start ?_ | refine GWL_step ?_ | simp only [wN, wM, Nat.reduceAdd, Nat.reduceMul] | ((first | refine gwR [] ?_ | refine gwD [] ?_); intro Q hQ hP; simp [hC, hY, q, hbm, a0, b0]; (first | refine hQ _ _ _ _ (by kernel_rfl) ?_ | refine hP _ _ (by kernel_rfl) fun _ => ?_); clear hQ hP Q) | apply gwB | apply gwT | apply gwK | apply gwE | apply gwG | apply gwL | simp only [blockG_exit] | (refine gwC ?_ ?_ <;> (intro hb; first | (cases hb; done) | skip)))
      refine ⟨.inr trivial, ?_⟩
      simp [Tryz.results112]
    rcases Classical.em (m < x1) with a1 | a1
    · have e : decide (inW m x0 ∧ inW m x1 ∧ inW m x2) = false := decide_eq_false (by unfold inW; omega)
      rw [e]
      repeat' (first | apply gwS | refine GWL_start ?_ | refine GWL_step ?_ | simp only [wN, wM, Nat.reduceAdd, Nat.reduceMul] | ((first | refine gwR [] ?_ | refine gwD [] ?_); intro Q hQ hP; simp [hC, hY, q, hbm, a0, b0, a1]; (first | refine hQ _ _ _ _ (by kernel_rfl) ?_ | refine hP _ _ (by kernel_rfl) fun _ => ?_); clear hQ hP Q) | apply gwB | apply gwT | apply gwK | apply gwE | apply gwG | apply gwL | simp only [blockG_exit] | (refine gwC ?_ ?_ <;> (intro hb; first | (cases hb; done) | skip)))
      refine ⟨.inr trivial, ?_⟩
      simp [Tryz.results112]
    rcases Classical.em (x1 < -m) with b1 | b1
    · have e : decide (inW m x0 ∧ inW m x1 ∧ inW m x2) = false := decide_eq_false (by unfold inW; omega)
      rw [e]
      repeat' (first | apply gwS | refine GWL_start ?_ | refine GWL_step ?_ | simp only [wN, wM, Nat.reduceAdd, Nat.reduceMul] | ((first | refine gwR [] ?_ | refine gwD [] ?_); intro Q hQ hP; simp [hC, hY, q, hbm, a0, b0, a1, b1]; (first | refine hQ _ _ _ _ (by kernel_rfl) ?_ | refine hP _ _ (by kernel_rfl) fun _ => ?_); clear hQ hP Q) | apply gwB | apply gwT | apply gwK | apply gwE | apply gwG | apply gwL | simp only [blockG_exit] | (refine gwC ?_ ?_ <;> (intro hb; first | (cases hb; done) | skip)))
      refine ⟨.inr trivial, ?_⟩
      simp [Tryz.results112]
    rcases Classical.em (m < x2) with a2 | a2
    · have e : decide (inW m x0 ∧ inW m x1 ∧ inW m x2) = false := decide_eq_false (by unfold inW; omega)
      rw [e]
      repeat' (first | apply gwS | refine GWL_start ?_ | refine GWL_step ?_ | simp only [wN, wM, Nat.reduceAdd, Nat.reduceMul] | ((first | refine gwR [] ?_ | refine gwD [] ?_); intro Q hQ hP; simp [hC, hY, q, hbm, a0, b0, a1, b1, a2]; (first | refine hQ _ _ _ _ (by kernel_rfl) ?_ | refine hP _ _ (by kernel_rfl) fun _ => ?_); clear hQ hP Q) | apply gwB | apply gwT | apply gwK | apply gwE | apply gwG | apply gwL | simp only [blockG_exit] | (refine gwC ?_ ?_ <;> (intro hb; first | (cases hb; done) | skip)))
      refine ⟨.inr trivial, ?_⟩
      simp [Tryz.results112]
    rcases Classical.em (x2 < -m) with b2 | b2
    · have e : decide (inW m x0 ∧ inW m x1 ∧ inW m x2) = false := decide_eq_false (by unfold inW; omega)
      rw [e]
      repeat' (first | apply gwS | refine GWL_start ?_ | refine GWL_step ?_ | simp only [wN, wM, Nat.reduceAdd, Nat.reduceMul] | ((first | refine gwR [] ?_ | refine gwD [] ?_); intro Q hQ hP; simp [hC, hY, q, hbm, a0, b0, a1, b1, a2, b2]; (first | refine hQ _ _ _ _ (by kernel_rfl) ?_ | refine hP _ _ (by kernel_rfl) fun _ => ?_); clear hQ hP Q) | apply gwB | apply gwT | apply gwK | apply gwE | apply gwG | apply gwL | simp only [blockG_exit] | (refine gwC ?_ ?_ <;> (intro hb; first | (cases hb; done) | skip)))
      refine ⟨.inr trivial, ?_⟩
      simp [Tryz.results112]
    have e : decide (inW m x0 ∧ inW m x1 ∧ inW m x2) = true := decide_eq_true (by unfold inW; omega)
    rw [e]
    repeat' (first | apply gwS | refine GWL_start ?_ | refine GWL_step ?_ | simp only [wN, wM, Nat.reduceAdd, Nat.reduceMul] | ((first | refine gwR [] ?_ | refine gwD [] ?_); intro Q hQ hP; simp [hC, hY, q, hbm, a0, b0, a1, b1, a2, b2]; (first | refine hQ _ _ _ _ (by kernel_rfl) ?_ | refine hP _ _ (by kernel_rfl) fun _ => ?_); clear hQ hP Q) | apply gwB | apply gwT | apply gwK | apply gwE | apply gwG | apply gwL | simp only [blockG_exit] | (refine gwC ?_ ?_ <;> (intro hb; first | (cases hb; done) | skip)))
    refine ⟨.inr trivial, ?_⟩
    simp [Tryz.results112]
@[simp] theorem within9 (x0 x1 x2 m : Int) (hm : i64 m) (K : Value → Prop) : callK Tryz.prog G0 112 #[.agg #[.int .i64 x0, .int .i64 x1, .int .i64 x2], .int .i64 m] K ↔ K (.bool (inV m x0 x1 x2)) := callK_iff G0W (by kernel_rfl) (within9_ret x0 x1 x2 m hm)
def plo (N s : Int) : Int := isq (N / s)
def phi (N s : Int) : Int := if plo N s * plo N s * s = N then plo N s else plo N s + 1
theorem sqq_mono {a b : Int} (h0 : 0 ≤ a) (h : a ≤ b) : a * a ≤ b * b := Int.mul_le_mul h h h0 (by omega)
theorem plo_spec {N s : Int} (hN : 0 ≤ N) (hs : 0 < s) : 0 ≤ plo N s ∧ plo N s * plo N s * s ≤ N ∧ N < (plo N s + 1) * (plo N s + 1) * s := by
  have hq : 0 ≤ N / s := Int.ediv_nonneg hN (by omega)
  obtain ⟨r0, r1, r2⟩ := isq_spec (N / s) hq
  have h1 := Int.emod_add_mul_ediv N s
  have h2 := Int.emod_nonneg N (b := s) (by omega)
  have h3 := Int.emod_lt_of_pos N hs
  unfold plo
  generalize isq (N / s) = r at *
  generalize N / s = q at *
  refine ⟨r0, ?_, ?_⟩
  · have : r * r * s ≤ q * s := Int.mul_le_mul_of_nonneg_right r1 (by omega)
    rw [Int.mul_comm q s] at this
    omega
  · have h4 : (q + 1) * s ≤ (r + 1) * (r + 1) * s := Int.mul_le_mul_of_nonneg_right (by omega) (by omega)
    rw [Int.add_mul, Int.mul_comm q s] at h4
    omega
theorem lo_iff {N s l : Int} (hN : 0 ≤ N) (hs : 0 < s) (hl : 0 ≤ l) : l * l * s ≤ N ↔ l ≤ plo N s := by
  obtain ⟨r0, r1, r2⟩ := plo_spec hN hs
  constructor
  · intro h
    refine Classical.byContradiction fun c => ?_
    have h1 := sqq_mono (a := plo N s + 1) (b := l) (by omega) (by omega)
    have h2 := Int.mul_le_mul_of_nonneg_right h1 (show 0 ≤ s by omega)
    omega
  · intro h
    have h1 := sqq_mono hl h
    have h2 := Int.mul_le_mul_of_nonneg_right h1 (show 0 ≤ s by omega)
    omega
theorem ph_iff {N s h : Int} (hN : 0 ≤ N) (hs : 0 < s) (hh : 0 ≤ h) : N ≤ h * h * s ↔ phi N s ≤ h := by
  obtain ⟨r0, r1, r2⟩ := plo_spec hN hs
  unfold phi
  constructor
  · intro h1
    split
    · rename_i e
      refine Classical.byContradiction fun c => ?_
      have h2 := sqq_mono (a := h + 1) (b := plo N s) (by omega) (by omega)
      have h3 : h * h < plo N s * plo N s := by
        have : (h + 1) * (h + 1) = h * h + 2 * h + 1 := by rw [Int.add_mul, Int.mul_add]; omega
        omega
      have h4 := Int.mul_lt_mul_of_pos_right h3 hs
      omega
    · rename_i e
      refine Classical.byContradiction fun c => ?_
      have h2 := sqq_mono (a := h) (b := plo N s) hh (by omega)
      have h3 := Int.mul_le_mul_of_nonneg_right h2 (show 0 ≤ s by omega)
      omega
  · intro h1
    split at h1
    · rename_i e
      have h2 := sqq_mono r0 h1
      have h3 := Int.mul_le_mul_of_nonneg_right h2 (show 0 ≤ s by omega)
      omega
    · have h2 := sqq_mono (a := plo N s + 1) (b := h) (by omega) h1
      have h3 := Int.mul_le_mul_of_nonneg_right h2 (show 0 ≤ s by omega)
      omega
theorem phi_nn {N s : Int} (hN : 0 ≤ N) (hs : 0 < s) : 0 ≤ phi N s := by
  obtain ⟨r0, _, _⟩ := plo_spec hN hs
  unfold phi
  split <;> omega
theorem phi_near {N s : Int} : plo N s ≤ phi N s ∧ phi N s ≤ plo N s + 1 := by
  unfold phi
  split <;> omega
structure EIn (g m w q : Int) : Prop where
  g0 : 1 ≤ g
  g1 : g ≤ 1048576
  m0 : 1 ≤ m
  m1 : m ≤ 1024
  w0 : 1 ≤ w
  w1 : w ≤ 1024
  q0 : 0 ≤ q
  q1 : q ≤ 13194139533312
def enA (g m w : Int) : Int := g * m * w * 1048576
def enLo (g m w q : Int) : Int := plo (enA g m w * enA g m w) q
def enHi (g m w q : Int) : Int := phi (enA g m w * enA g m w) q
theorem mulR {a b p q : Int} (h1 : 1 ≤ a) (h2 : a ≤ p) (h3 : 1 ≤ b) (h4 : b ≤ q) : 1 ≤ a * b ∧ a * b ≤ p * q := by
  constructor
  · have := Int.mul_le_mul (a := 1) (b := 1) (c := a) (d := b) h1 h3 (by omega) (by omega)
    omega
  · exact Int.mul_le_mul h2 h4 (by omega) (by omega)
theorem EIn.gm {g m w q : Int} (h : EIn g m w q) : 1 ≤ g * m ∧ g * m ≤ 1073741824 := mulR h.g0 h.g1 h.m0 h.m1
theorem EIn.gmw {g m w q : Int} (h : EIn g m w q) : 1 ≤ g * m * w ∧ g * m * w ≤ 1099511627776 := mulR h.gm.1 h.gm.2 h.w0 h.w1
theorem EIn.a {g m w q : Int} (h : EIn g m w q) : 1048576 ≤ enA g m w ∧ enA g m w ≤ 1152921504606846976 := by
  have := h.gmw
  unfold enA
  omega
theorem EIn.aa {g m w q : Int} (h : EIn g m w q) : 0 ≤ enA g m w * enA g m w ∧ enA g m w * enA g m w ≤ 1329227995784915872903807060280344576 := by
  have h1 := h.a
  exact ⟨Int.mul_nonneg (by omega) (by omega), Int.mul_le_mul h1.2 h1.2 (by omega) (by omega)⟩
theorem EIn.lo {g m w q : Int} (h : EIn g m w q) (hq : 0 < q) : 0 ≤ enLo g m w q ∧ enLo g m w q ≤ 1152921504606846976 := by
  have h1 := h.a
  obtain ⟨h2, h3, h4⟩ := plo_spec h.aa.1 hq
  refine ⟨h2, ?_⟩
  have h5 : enLo g m w q ≤ enA g m w := by
    refine Classical.byContradiction fun c => ?_
    have h6 := (lo_iff h.aa.1 hq (l := enA g m w + 1) (by omega)).2 (by unfold enLo at c; omega)
    have h7 : (enA g m w + 1) * (enA g m w + 1) * 1 ≤ (enA g m w + 1) * (enA g m w + 1) * q := Int.mul_le_mul_of_nonneg_left hq (Int.mul_nonneg (by omega) (by omega))
    have h8 : (enA g m w + 1) * (enA g m w + 1) = enA g m w * enA g m w + 2 * enA g m w + 1 := by rw [Int.add_mul, Int.mul_add]; omega
    omega
  omega
theorem EIn.hi {g m w q : Int} (h : EIn g m w q) (hq : 0 < q) : enLo g m w q ≤ enHi g m w q ∧ enHi g m w q ≤ enLo g m w q + 1 ∧ enHi g m w q ≤ 1152921504606846976 := by
  refine ⟨phi_near.1, phi_near.2, ?_⟩
  have h1 := h.a
  have h2 : enHi g m w q ≤ enA g m w := (ph_iff h.aa.1 hq (by omega)).1 (by
    have h7 : enA g m w * enA g m w * 1 ≤ enA g m w * enA g m w * q := Int.mul_le_mul_of_nonneg_left hq h.aa.1
    omega)
  omega
theorem en_hi_eq (g m w q : Int) : enHi g m w q = if enLo g m w q * enLo g m w q * q = enA g m w * enA g m w then enLo g m w q else enLo g m w q + 1 := rfl
theorem EIn.holds {g m w q : Int} (h : EIn g m w q) (hq : 0 < q) : enLo g m w q * enLo g m w q * q ≤ enA g m w * enA g m w ∧ enA g m w * enA g m w ≤ enHi g m w q * enHi g m w q * q ∧ (enLo g m w q = enHi g m w q ↔ enLo g m w q * enLo g m w q * q = enA g m w * enA g m w) := by
  refine ⟨(plo_spec h.aa.1 hq).2.1, (ph_iff h.aa.1 hq (phi_nn h.aa.1 hq)).2 (Int.le_refl _), ?_⟩
  rw [en_hi_eq]
  split
  · rename_i e
    exact ⟨fun _ => e, fun _ => rfl⟩
  · rename_i e
    exact ⟨fun h => absurd h (by omega), fun h => absurd h e⟩
theorem lolo_bd {a q : Int} (h0 : 0 ≤ a) (h1 : a ≤ 1152921504606846976) (q0 : 0 ≤ q) (q1 : q ≤ 13194139533312) : 0 ≤ a * a ∧ a * a ≤ 1329227995784915872903807060280344576 ∧ 0 ≤ a * a * q ∧ a * a * q ≤ 17538019647970835018444217992595396235871190515712 := by
  have h2 : a * a ≤ 1152921504606846976 * 1152921504606846976 := Int.mul_le_mul h1 h1 h0 (by omega)
  have h3 : 0 ≤ a * a := Int.mul_nonneg h0 h0
  have h4 : a * a * q ≤ 1329227995784915872903807060280344576 * 13194139533312 := Int.mul_le_mul h2 q1 q0 (by omega)
  exact ⟨h3, h2, Int.mul_nonneg h3 q0, h4⟩
theorem heapK_slA {f : FuncId} {c : Array Value} {T : TypeId} {n nk b : Nat} {x : Int} {v : Value} {hp : Hp} {K : Eff → Prop} (h : Fun Tryz.prog G0 f #[.int .i64 x, .slice (some ⟨100, 0, none⟩) n n] (hpL G0 [(100, ⟨c, .ty T⟩)]) [100] (.ret v [])) (hc : ∀ x ∈ c, flatF x = true) (hv : flatV v = true) (hb : 100 ≤ b)
    (h1 : hp b = some ⟨c, .ty T⟩) (hK : K ((Res.ret v []).eff [b])) : heapK Tryz.prog G0 f #[.int .i64 x, .slice (some ⟨b, 0, none⟩) n n] hp nk K :=
  heapK_mv h G0F (B := 200) ⟨by simp, by simp [keys], fun p hp1 => by simp at hp1; subst hp1; exact fun x hx => flatF_ids (hc x hx)⟩ (fun k => if k = 100 then b else k) (fun k hk => if_neg (by omega)) (by simp [ren, renA, renF, ren0]) hv
    (by simp [hb, h1, Blk.rn]; exact (map_eq_self (fun x hx => flatF_ren (hc x hx))).symm) (by simp [keys]) (by simp [keys]) hK
theorem heapK_slB {f : FuncId} {c : Array Value} {T : TypeId} {n nk b : Nat} {v : Value} {hp : Hp} {K : Eff → Prop} (h : Fun Tryz.prog G0 f #[.slice (some ⟨100, 0, none⟩) n n] (hpL G0 [(100, ⟨c, .ty T⟩)]) [100] (.ret v [])) (hc : ∀ x ∈ c, flatF x = true) (hv : flatV v = true) (hb : 100 ≤ b)
    (h1 : hp b = some ⟨c, .ty T⟩) (hK : K ((Res.ret v []).eff [b])) : heapK Tryz.prog G0 f #[.slice (some ⟨b, 0, none⟩) n n] hp nk K :=
  heapK_mv h G0F (B := 200) ⟨by simp, by simp [keys], fun p hp1 => by simp at hp1; subst hp1; exact fun x hx => flatF_ids (hc x hx)⟩ (fun k => if k = 100 then b else k) (fun k hk => if_neg (by omega)) (by simp [ren, renA, renF, ren0]) hv
    (by simp [hb, h1, Blk.rn]; exact (map_eq_self (fun x hx => flatF_ren (hc x hx))).symm) (by simp [keys]) (by simp [keys]) hK
theorem ewithin1 (most n0 : Int) : Fun Tryz.prog G0 24 #[.int .i64 most, .slice (some ⟨100, 0, none⟩) 1 1] (hpL G0 [(100, ⟨#[.int .i64 n0], .ty 3⟩)]) (keys [(100, (⟨#[.int .i64 n0], .ty 3⟩ : Blk))]) (.ret (.bool (decide ((1 ≤ n0 ∧ n0 ≤ most)))) []) := by
  refine fun_ofL (B := 200) G0F Tryz.func24 rfl Tryz.call24 ⟨by simp, by simp [keys], by simp [ids_lit, idsF, ids0]⟩ ?_ (by simp) (by simp) (by simp) (by simp [Tryz.ntmps24]) (by omega) ?_
  · simp [idsV, idsA, idsF, ids0, keys]
  intro C hC hC0 hY
  by_cases a00 : 1 ≤ n0
  rotate_left
  · have a00n : n0 < 1 := by omega
    have hd : decide ((1 ≤ n0 ∧ n0 ≤ most)) = false := decide_eq_false (by omega)
    rw [hd]
    repeat' (first | apply gwS | refine GWL_start ?_ | refine GWL_step ?_ | simp only [wN, wM, Nat.reduceAdd, Nat.reduceMul] | ((first | refine gwR [] ?_ | refine gwD [] ?_); intro Q hQ hP; simp [hC, hY, a00, a00n]; (first | refine hQ _ _ _ _ (by kernel_rfl) ?_ | refine hP _ _ (by kernel_rfl) fun _ => ?_); clear hQ hP Q) | apply gwB | apply gwT | apply gwK | apply gwE | apply gwG | apply gwL | simp only [blockG_exit] | (refine gwC ?_ ?_ <;> (intro hb; first | (cases hb; done) | skip)))
    refine ⟨.inr rfl, by simp [Tryz.results24], keep_of G0F (by simp) (by (intro k hk; first | rfl | (simp (disch := omega) only [addB, List.mem_cons, List.not_mem_nil, or_false, upd_other, hpL_cons, hpL_nil, if_neg, updL] <;> done)))⟩
  have a00n : ¬ n0 < 1 := by omega
  by_cases a01 : n0 ≤ most
  rotate_left
  · have a01n : most < n0 := by omega
    have hd : decide ((1 ≤ n0 ∧ n0 ≤ most)) = false := decide_eq_false (by omega)
    rw [hd]
    repeat' (first | apply gwS | refine GWL_start ?_ | refine GWL_step ?_ | simp only [wN, wM, Nat.reduceAdd, Nat.reduceMul] | ((first | refine gwR [] ?_ | refine gwD [] ?_); intro Q hQ hP; simp [hC, hY, a00, a00n, a01, a01n]; (first | refine hQ _ _ _ _ (by kernel_rfl) ?_ | refine hP _ _ (by kernel_rfl) fun _ => ?_); clear hQ hP Q) | apply gwB | apply gwT | apply gwK | apply gwE | apply gwG | apply gwL | simp only [blockG_exit] | (refine gwC ?_ ?_ <;> (intro hb; first | (cases hb; done) | skip)))
    refine ⟨.inr rfl, by simp [Tryz.results24], keep_of G0F (by simp) (by (intro k hk; first | rfl | (simp (disch := omega) only [addB, List.mem_cons, List.not_mem_nil, or_false, upd_other, hpL_cons, hpL_nil, if_neg, updL] <;> done)))⟩
  have a01n : ¬ most < n0 := by omega
  have hd : decide ((1 ≤ n0 ∧ n0 ≤ most)) = true := decide_eq_true (by omega)
  rw [hd]
  repeat' (first | apply gwS | refine GWL_start ?_ | refine GWL_step ?_ | simp only [wN, wM, Nat.reduceAdd, Nat.reduceMul] | ((first | refine gwR [] ?_ | refine gwD [] ?_); intro Q hQ hP; simp [hC, hY, a00, a00n, a01, a01n]; (first | refine hQ _ _ _ _ (by kernel_rfl) ?_ | refine hP _ _ (by kernel_rfl) fun _ => ?_); clear hQ hP Q) | apply gwB | apply gwT | apply gwK | apply gwE | apply gwG | apply gwL | simp only [blockG_exit] | (refine gwC ?_ ?_ <;> (intro hb; first | (cases hb; done) | skip)))
  refine ⟨.inr rfl, by simp [Tryz.results24], keep_of G0F (by simp) (by (intro k hk; first | rfl | (simp (disch := omega) only [addB, List.mem_cons, List.not_mem_nil, or_false, upd_other, hpL_cons, hpL_nil, if_neg, updL] <;> done)))⟩
theorem ewithin2 (most n0 n1 : Int) : Fun Tryz.prog G0 24 #[.int .i64 most, .slice (some ⟨100, 0, none⟩) 2 2] (hpL G0 [(100, ⟨#[.int .i64 n0, .int .i64 n1], .ty 3⟩)]) (keys [(100, (⟨#[.int .i64 n0, .int .i64 n1], .ty 3⟩ : Blk))]) (.ret (.bool (decide ((1 ≤ n0 ∧ n0 ≤ most) ∧ (1 ≤ n1 ∧ n1 ≤ most)))) []) := by
  refine fun_ofL (B := 200) G0F Tryz.func24 rfl Tryz.call24 ⟨by simp, by simp [keys], by simp [ids_lit, idsF, ids0]⟩ ?_ (by simp) (by simp) (by simp) (by simp [Tryz.ntmps24]) (by omega) ?_
  · simp [idsV, idsA, idsF, ids0, keys]
  intro C hC hC0 hY
  by_cases a00 : 1 ≤ n0
  rotate_left
  · have a00n : n0 < 1 := by omega
    have hd : decide ((1 ≤ n0 ∧ n0 ≤ most) ∧ (1 ≤ n1 ∧ n1 ≤ most)) = false := decide_eq_false (by omega)
    rw [hd]
    repeat' (first | apply gwS | refine GWL_start ?_ | refine GWL_step ?_ | simp only [wN, wM, Nat.reduceAdd, Nat.reduceMul] | ((first | refine gwR [] ?_ | refine gwD [] ?_); intro Q hQ hP; simp [hC, hY, a00, a00n]; (first | refine hQ _ _ _ _ (by kernel_rfl) ?_ | refine hP _ _ (by kernel_rfl) fun _ => ?_); clear hQ hP Q) | apply gwB | apply gwT | apply gwK | apply gwE | apply gwG | apply gwL | simp only [blockG_exit] | (refine gwC ?_ ?_ <;> (intro hb; first | (cases hb; done) | skip)))
    refine ⟨.inr rfl, by simp [Tryz.results24], keep_of G0F (by simp) (by (intro k hk; first | rfl | (simp (disch := omega) only [addB, List.mem_cons, List.not_mem_nil, or_false, upd_other, hpL_cons, hpL_nil, if_neg, updL] <;> done)))⟩
  have a00n : ¬ n0 < 1 := by omega
  by_cases a01 : n0 ≤ most
  rotate_left
  · have a01n : most < n0 := by omega
    have hd : decide ((1 ≤ n0 ∧ n0 ≤ most) ∧ (1 ≤ n1 ∧ n1 ≤ most)) = false := decide_eq_false (by omega)
    rw [hd]
    repeat' (first | apply gwS | refine GWL_start ?_ | refine GWL_step ?_ | simp only [wN, wM, Nat.reduceAdd, Nat.reduceMul] | ((first | refine gwR [] ?_ | refine gwD [] ?_); intro Q hQ hP; simp [hC, hY, a00, a00n, a01, a01n]; (first | refine hQ _ _ _ _ (by kernel_rfl) ?_ | refine hP _ _ (by kernel_rfl) fun _ => ?_); clear hQ hP Q) | apply gwB | apply gwT | apply gwK | apply gwE | apply gwG | apply gwL | simp only [blockG_exit] | (refine gwC ?_ ?_ <;> (intro hb; first | (cases hb; done) | skip)))
    refine ⟨.inr rfl, by simp [Tryz.results24], keep_of G0F (by simp) (by (intro k hk; first | rfl | (simp (disch := omega) only [addB, List.mem_cons, List.not_mem_nil, or_false, upd_other, hpL_cons, hpL_nil, if_neg, updL] <;> done)))⟩
  have a01n : ¬ most < n0 := by omega
  by_cases a10 : 1 ≤ n1
  rotate_left
  · have a10n : n1 < 1 := by omega
    have hd : decide ((1 ≤ n0 ∧ n0 ≤ most) ∧ (1 ≤ n1 ∧ n1 ≤ most)) = false := decide_eq_false (by omega)
    rw [hd]
    repeat' (first | apply gwS | refine GWL_start ?_ | refine GWL_step ?_ | simp only [wN, wM, Nat.reduceAdd, Nat.reduceMul] | ((first | refine gwR [] ?_ | refine gwD [] ?_); intro Q hQ hP; simp [hC, hY, a00, a00n, a01, a01n, a10, a10n]; (first | refine hQ _ _ _ _ (by kernel_rfl) ?_ | refine hP _ _ (by kernel_rfl) fun _ => ?_); clear hQ hP Q) | apply gwB | apply gwT | apply gwK | apply gwE | apply gwG | apply gwL | simp only [blockG_exit] | (refine gwC ?_ ?_ <;> (intro hb; first | (cases hb; done) | skip)))
    refine ⟨.inr rfl, by simp [Tryz.results24], keep_of G0F (by simp) (by (intro k hk; first | rfl | (simp (disch := omega) only [addB, List.mem_cons, List.not_mem_nil, or_false, upd_other, hpL_cons, hpL_nil, if_neg, updL] <;> done)))⟩
  have a10n : ¬ n1 < 1 := by omega
  by_cases a11 : n1 ≤ most
  rotate_left
  · have a11n : most < n1 := by omega
    have hd : decide ((1 ≤ n0 ∧ n0 ≤ most) ∧ (1 ≤ n1 ∧ n1 ≤ most)) = false := decide_eq_false (by omega)
    rw [hd]
    repeat' (first | apply gwS | refine GWL_start ?_ | refine GWL_step ?_ | simp only [wN, wM, Nat.reduceAdd, Nat.reduceMul] | ((first | refine gwR [] ?_ | refine gwD [] ?_); intro Q hQ hP; simp [hC, hY, a00, a00n, a01, a01n, a10, a10n, a11, a11n]; (first | refine hQ _ _ _ _ (by kernel_rfl) ?_ | refine hP _ _ (by kernel_rfl) fun _ => ?_); clear hQ hP Q) | apply gwB | apply gwT | apply gwK | apply gwE | apply gwG | apply gwL | simp only [blockG_exit] | (refine gwC ?_ ?_ <;> (intro hb; first | (cases hb; done) | skip)))
    refine ⟨.inr rfl, by simp [Tryz.results24], keep_of G0F (by simp) (by (intro k hk; first | rfl | (simp (disch := omega) only [addB, List.mem_cons, List.not_mem_nil, or_false, upd_other, hpL_cons, hpL_nil, if_neg, updL] <;> done)))⟩
  have a11n : ¬ most < n1 := by omega
  have hd : decide ((1 ≤ n0 ∧ n0 ≤ most) ∧ (1 ≤ n1 ∧ n1 ≤ most)) = true := decide_eq_true (by omega)
  rw [hd]
  repeat' (first | apply gwS | refine GWL_start ?_ | refine GWL_step ?_ | simp only [wN, wM, Nat.reduceAdd, Nat.reduceMul] | ((first | refine gwR [] ?_ | refine gwD [] ?_); intro Q hQ hP; simp [hC, hY, a00, a00n, a01, a01n, a10, a10n, a11, a11n]; (first | refine hQ _ _ _ _ (by kernel_rfl) ?_ | refine hP _ _ (by kernel_rfl) fun _ => ?_); clear hQ hP Q) | apply gwB | apply gwT | apply gwK | apply gwE | apply gwG | apply gwL | simp only [blockG_exit] | (refine gwC ?_ ?_ <;> (intro hb; first | (cases hb; done) | skip)))
  refine ⟨.inr rfl, by simp [Tryz.results24], keep_of G0F (by simp) (by (intro k hk; first | rfl | (simp (disch := omega) only [addB, List.mem_cons, List.not_mem_nil, or_false, upd_other, hpL_cons, hpL_nil, if_neg, updL] <;> done)))⟩
theorem ewhole_ret (r a n : Int) (hi : i64 n) (w1 : wr (r * r)) (w2 : wr (r * r * n)) (w3 : wr (a * a)) (hr : wr r) (ha : wr a) : Ret Tryz.prog G0 29 #[wd r, wd a, .int .i64 n] (.bool (decide (r * r * n = a * a))) := by
  refine ret_of G0F Tryz.func29 rfl Tryz.call29 rfl (by simp) (by simp [Tryz.ntmps29]) ?_
  intro C hC hC0 hY
  have s1 := wr_sz w1
  have s2 := wr_sz w2
  have s3 := wr_sz w3
  have s4 := wr_sz hr
  have s5 := wr_sz ha
  have s6 := wr_sz (i64_wr hi)
  repeat' (first | apply gwS | simp only [wN, wM, Nat.reduceAdd, Nat.reduceMul] | ((first | refine gwR [] ?_ | refine gwD [] ?_); intro Q hQ hP; simp [hC, hY, hi, s1, s2, s3, s4, s5, s6]; (first | refine hQ _ _ _ _ (by kernel_rfl) ?_ | refine hP _ _ (by kernel_rfl) fun _ => ?_); clear hQ hP Q) | apply gwB | apply gwT | apply gwK | apply gwE | apply gwG | apply gwL | simp only [blockG_exit] | (refine gwC ?_ ?_ <;> (intro hb; first | (cases hb; done) | skip)))
  refine ⟨.inr trivial, ?_⟩
  simp [Tryz.results29]
  rw [weq, s2, s3]
@[simp] theorem ewhole (r a n : Int) (hi : i64 n) (w1 : wr (r * r)) (w2 : wr (r * r * n)) (w3 : wr (a * a)) (hr : wr r) (ha : wr a) (K : Value → Prop) : callK Tryz.prog G0 29 #[Value.agg #[.int .u64 (wi (r) 0), .int .u64 (wi (r) 1), .int .u64 (wi (r) 2), .int .u64 (wi (r) 3)], Value.agg #[.int .u64 (wi (a) 0), .int .u64 (wi (a) 1), .int .u64 (wi (a) 2), .int .u64 (wi (a) 3)], .int .i64 n] K ↔ K (.bool (decide (r * r * n = a * a))) := callK_iff G0W (by kernel_rfl) (ewhole_ret r a n hi w1 w2 w3 hr ha)
structure SB (b : Blk) (off n : Nat) (f : Nat → Int) : Prop where
  rd : rdI b off (6 * n) f
  fx : b.fx
  i6 : ∀ j, j < 6 * n → i64 (f j)
  nn : n ≤ 2932031007402
def inB (bx tp : Int) (f : Nat → Int) (i : Nat) : Bool := inV bx (f (6 * i)) (f (6 * i + 1)) (f (6 * i + 2)) && inV tp (f (6 * i + 3)) (f (6 * i + 4)) (f (6 * i + 5))
theorem SB.body {b : Blk} {off n : Nat} {f : Nat → Int} (h : SB b off n f) {i : Nat} (hi : i < n) : loadK Tryz.prog 53 b (off + i * 6) = some (.agg #[.int .i64 (f (6 * i)), .int .i64 (f (6 * i + 1)), .int .i64 (f (6 * i + 2)), .int .i64 (f (6 * i + 3)), .int .i64 (f (6 * i + 4)), .int .i64 (f (6 * i + 5))]) := by
  have hbrd := Blk.fx_rd h.fx
  have := loadK_rd (P := Tryz.prog) (T := 53) (m := 6) (j := 6 * i) (tyAgg_of Tryz.isAgg53) (tySize_of Tryz.sizeOf53) (by omega) h.rd (by omega)
  rw [show off + i * 6 = off + 6 * i by omega, this, fa_6]
  rfl
theorem SB.i {b : Blk} {off n : Nat} {f : Nat → Int} (h : SB b off n f) {i : Nat} (hi : i < n) (q : Nat) (hq : q < 6) : i64 (f (6 * i + q)) := h.i6 _ (by omega)
theorem wi1_fun (bx tp x0 x1 x2 v0 v1 v2 : Int) (hbx : i64 bx) (htp : i64 tp) (h0 : i64 x0) (h1 : i64 x1) (h2 : i64 x2) (h3 : i64 v0) (h4 : i64 v1) (h5 : i64 v2) :
    Fun Tryz.prog G0 107 #[.agg #[.int .i64 x0, .int .i64 x1, .int .i64 x2, .int .i64 v0, .int .i64 v1, .int .i64 v2], .pointer (some ⟨100, 0, none⟩), .pointer (some ⟨108, 0, none⟩)] (hpL G0 [(100, jb bx), (108, jb tp)]) (keys [(100, jb bx), (108, jb tp)]) (.ret (.bool !(inV bx x0 x1 x2 && inV tp v0 v1 v2)) []) := by
  refine fun_ofL (B := 200) G0F Tryz.func107 rfl Tryz.call107 ⟨by simp, by simp [keys], by simp [jb, ids_lit, idsF, ids0]⟩ ?_ (by simp) (by simp) (by simp) (by simp [Tryz.ntmps107]) (by omega) ?_
  · simp [idsV, idsA, idsF, ids0, keys]
  intro C hC hC0 hY
  cases c0 : inV bx x0 x1 x2 with
  | true =>
    cases c1 : inV tp v0 v1 v2 with
    | true =>
      repeat' (first | apply gwS | simp only [wN, wM, Nat.reduceAdd, Nat.reduceMul] | ((first | refine gwR [] ?_ | refine gwD [] ?_); intro Q hQ hP; simp [hC, hY, jb, hbx, htp, h0, h1, h2, h3, h4, h5, c0, c1]; (first | refine hQ _ _ _ _ (by kernel_rfl) ?_ | refine hP _ _ (by kernel_rfl) fun _ => ?_); clear hQ hP Q) | apply gwB | apply gwT | apply gwK | apply gwE | apply gwG | apply gwL | simp only [blockG_exit] | (refine gwC ?_ ?_ <;> (intro hb; first | (cases hb; done) | skip)))
      refine ⟨.inr rfl, by simp [Tryz.results107], keep_of G0F (by simp [jb]) (by (intro k hk; first | rfl | (simp (disch := omega) only [addB, List.mem_cons, List.not_mem_nil, or_false, upd_other, hpL_cons, hpL_nil, if_neg, updL] <;> done)))⟩
    | false =>
      repeat' (first | apply gwS | simp only [wN, wM, Nat.reduceAdd, Nat.reduceMul] | ((first | refine gwR [] ?_ | refine gwD [] ?_); intro Q hQ hP; simp [hC, hY, jb, hbx, htp, h0, h1, h2, h3, h4, h5, c0, c1]; (first | refine hQ _ _ _ _ (by kernel_rfl) ?_ | refine hP _ _ (by kernel_rfl) fun _ => ?_); clear hQ hP Q) | apply gwB | apply gwT | apply gwK | apply gwE | apply gwG | apply gwL | simp only [blockG_exit] | (refine gwC ?_ ?_ <;> (intro hb; first | (cases hb; done) | skip)))
      refine ⟨.inr rfl, by simp [Tryz.results107], keep_of G0F (by simp [jb]) (by (intro k hk; first | rfl | (simp (disch := omega) only [addB, List.mem_cons, List.not_mem_nil, or_false, upd_other, hpL_cons, hpL_nil, if_neg, updL] <;> done)))⟩
  | false =>
    repeat' (first | apply gwS | simp only [wN, wM, Nat.reduceAdd, Nat.reduceMul] | ((first | refine gwR [] ?_ | refine gwD [] ?_); intro Q hQ hP; simp [hC, hY, jb, hbx, htp, h0, h1, h2, h3, h4, h5, c0]; (first | refine hQ _ _ _ _ (by kernel_rfl) ?_ | refine hP _ _ (by kernel_rfl) fun _ => ?_); clear hQ hP Q) | apply gwB | apply gwT | apply gwK | apply gwE | apply gwG | apply gwL | simp only [blockG_exit] | (refine gwC ?_ ?_ <;> (intro hb; first | (cases hb; done) | skip)))
    refine ⟨.inr rfl, by simp [Tryz.results107], keep_of G0F (by simp [jb]) (by (intro k hk; first | rfl | (simp (disch := omega) only [addB, List.mem_cons, List.not_mem_nil, or_false, upd_other, hpL_cons, hpL_nil, if_neg, updL] <;> done)))⟩
theorem jb_rn {m : Int} {ρ : Nat → Nat} : (jb m).rn ρ = jb m := by simp [jb, Blk.rn, renF, ren0]
def ixSt (b : Blk) (off n cap : Nat) (bx tp : Int) (i : Nat) : GS :=
  ⟨tsL [(0, .slice (some ⟨100, off, none⟩) n cap), (1, .func (.func 107) #[] #[.pointer (some ⟨108, 0, none⟩), .pointer (some ⟨116, 0, none⟩)]), (7, .int .i64 n), (8, .int .i64 i)],
   hpL G0 [(100, b), (108, jb bx), (116, jb tp)], 300, 0⟩
def ixL (b : Blk) (bx tp : Int) : List (Nat × Blk) := [(100, b), (108, jb bx), (116, jb tp)]
theorem ixL_ok {b : Blk} (hb : b.fx) (bx tp : Int) : LOk (ixL b bx tp) 200 := ⟨by simp [ixL], by simp [ixL, keys], by
  simp only [ixL, List.mem_cons, List.not_mem_nil, or_false, forall_eq_or_imp, forall_eq]
  exact ⟨Blk.fx_ids hb _, by simp [jb, ids_lit, idsF, ids0], by simp [jb, ids_lit, idsF, ids0]⟩⟩
theorem ix_fun (b : Blk) (off n cap : Nat) (f : Nat → Int) (h : SB b off n f) (bx tp : Int) (hbx : i64 bx) (htp : i64 tp) (N : Nat) (hN : N ≤ n) (hlt : ∀ i, i < N → inB bx tp f i = true) (hend : N = n ∨ inB bx tp f N = false) :
    Fun Tryz.prog G0 129 #[.slice (some ⟨100, off, none⟩) n cap, .func (.func 107) #[] #[.pointer (some ⟨108, 0, none⟩), .pointer (some ⟨116, 0, none⟩)]] (hpL G0 (ixL b bx tp)) (keys (ixL b bx tp)) (.ret (.int .i64 (if N = n then -1 else N)) []) := by
  refine fun_ofL (B := 200) G0F Tryz.func129 rfl Tryz.call129 (ixL_ok h.fx bx tp) ?_ (by simp) (by simp) (by simp) (by simp [Tryz.ntmps129]) (by omega) ?_
  · simp [idsV, idsA, idsF, ids0, keys, ixL]
  intro C hC hC0 hY
  have hnn := h.nn
  unfold ixL
  repeat' (first | apply gwS | simp only [wN, wM, Nat.reduceAdd, Nat.reduceMul] | ((first | refine gwR [] ?_ | refine gwD [] ?_); intro Q hQ hP; simp [hC, hY]; (first | refine hQ _ _ _ _ (by kernel_rfl) ?_ | refine hP _ _ (by kernel_rfl) fun _ => ?_); clear hQ hP Q) | apply gwB | apply gwT | apply gwK | apply gwE | apply gwG | apply gwL | simp only [blockG_exit] | (refine gwC ?_ ?_ <;> (intro hb; first | (cases hb; done) | skip)))
  refine GW_for N (ixSt b off n cap bx tp) ?_ ?_ ?_
  · refine weakL _ 300 hC G0F (m0 := [(100, b), (108, jb bx), (116, jb tp)]) hC0 (by omega) ?_ ?_ ?_
    · simp [idsV, idsA, idsF, ids0, dom]
    · have hi := fun D => Blk.fx_ids h.fx D
      simp [ids_lit, idsF, ids0, jb, hi]
    · simp
  · intro i hi
    have hin : i < n := by omega
    have hi' : (i : Int) < n := by omega
    have hz : (0 : Int) ≤ i := by omega
    have hs : Int.bmod ((i : Int) + 1) 18446744073709551616 = ((i + 1 : Nat) : Int) := by rw [bm (by omega) (by omega)]; rfl
    have hld := h.body hin
    have hq := hlt i hi
    unfold inB at hq
    rw [Bool.and_eq_true] at hq
    obtain ⟨q1, q2⟩ := hq
    unfold ixSt
    repeat' (first | apply gwS | simp only [wN, wM, Nat.reduceAdd, Nat.reduceMul] | ((first | refine gwR [107] ?_ | refine gwD [107] ?_); intro Q hQ hP; simp [hC, hY, hi, hi', hz, hs, hld, q1, q2, jb]; (repeat ((first | (refine heapK_mv (wi1_fun bx tp _ _ _ _ _ _ hbx htp (h.i hin 0 (by omega)) (h.i hin 1 (by omega)) (h.i hin 2 (by omega)) (h.i hin 3 (by omega)) (h.i hin 4 (by omega)) (h.i hin 5 (by omega))) G0F (B := 200) ⟨by simp, by simp [keys], by simp [jb, ids_lit, idsF, ids0]⟩ (fun k => if k = 100 then 108 else if k = 108 then 116 else k) (fun k hk => (if_neg (by omega)).trans (if_neg (by omega))) (by simp [ren, renA, renF, ren0]) (by simp) (by simp [jb, Blk.rn, renF, ren0]) (by simp [keys]) (by simp [keys]; rfl) ?_)); try simp [hC, hY, hi, hi', hz, hs, hld, q1, q2, jb])); (first | refine hQ _ _ _ _ (by kernel_rfl) ?_ | refine hP _ _ (by kernel_rfl) fun _ => ?_); clear hQ hP Q) | apply gwB | apply gwT | apply gwK | apply gwE | apply gwG | apply gwL | simp only [blockG_exit] | (refine gwC ?_ ?_ <;> (intro hb; first | (cases hb; done) | skip)))
    refine weakL _ 300 hC G0F (m0 := [(100, b), (108, jb bx), (116, jb tp)]) hC0 (by omega) ?_ ?_ ?_
    · simp [idsV, idsA, idsF, ids0, dom, hs]
    · have hi := fun D => Blk.fx_ids h.fx D
      simp [ids_lit, idsF, ids0, jb, hi]
    · simp [jb]
  · by_cases hNn : N = n
    · subst hNn
      simp only [if_true]
      unfold ixSt
      repeat' (first | apply gwS | simp only [wN, wM, Nat.reduceAdd, Nat.reduceMul] | ((first | refine gwR [] ?_ | refine gwD [] ?_); intro Q hQ hP; simp [hC, hY]; (first | refine hQ _ _ _ _ (by kernel_rfl) ?_ | refine hP _ _ (by kernel_rfl) fun _ => ?_); clear hQ hP Q) | apply gwB | apply gwT | apply gwK | apply gwE | apply gwG | apply gwL | simp only [blockG_exit] | (refine gwC ?_ ?_ <;> (intro hb; first | (cases hb; done) | skip)))
      refine ⟨.inr rfl, by simp [Tryz.results129], keep_of G0F (by simp) (by (intro k hk; first | rfl | (simp (disch := omega) only [addB, List.mem_cons, List.not_mem_nil, or_false, upd_other, hpL_cons, hpL_nil, if_neg, updL] <;> done)))⟩
    · have hin : N < n := by omega
      have hi' : (N : Int) < n := by omega
      have hz : (0 : Int) ≤ N := by omega
      have hld := h.body hin
      have hq := hend.resolve_left hNn
      unfold inB at hq
      rw [if_neg hNn]
      unfold ixSt
      cases q1 : inV bx (f (6 * N)) (f (6 * N + 1)) (f (6 * N + 2)) with
      | false =>
        repeat' (first | apply gwS | simp only [wN, wM, Nat.reduceAdd, Nat.reduceMul] | ((first | refine gwR [107] ?_ | refine gwD [107] ?_); intro Q hQ hP; simp [hC, hY, hin, hi', hz, hld, q1, jb]; (repeat ((first | (refine heapK_mv (wi1_fun bx tp _ _ _ _ _ _ hbx htp (h.i hin 0 (by omega)) (h.i hin 1 (by omega)) (h.i hin 2 (by omega)) (h.i hin 3 (by omega)) (h.i hin 4 (by omega)) (h.i hin 5 (by omega))) G0F (B := 200) ⟨by simp, by simp [keys], by simp [jb, ids_lit, idsF, ids0]⟩ (fun k => if k = 100 then 108 else if k = 108 then 116 else k) (fun k hk => (if_neg (by omega)).trans (if_neg (by omega))) (by simp [ren, renA, renF, ren0]) (by simp) (by simp [jb, Blk.rn, renF, ren0]) (by simp [keys]) (by simp [keys]; rfl) ?_)); try simp [hC, hY, hin, hi', hz, hld, q1, jb])); (first | refine hQ _ _ _ _ (by kernel_rfl) ?_ | refine hP _ _ (by kernel_rfl) fun _ => ?_); clear hQ hP Q) | apply gwB | apply gwT | apply gwK | apply gwE | apply gwG | apply gwL | simp only [blockG_exit] | (refine gwC ?_ ?_ <;> (intro hb; first | (cases hb; done) | skip)))
        refine ⟨.inr rfl, by simp [Tryz.results129], keep_of G0F (by simp [jb]) (by (intro k hk; first | rfl | (simp (disch := omega) only [addB, List.mem_cons, List.not_mem_nil, or_false, upd_other, hpL_cons, hpL_nil, if_neg, updL] <;> done)))⟩
      | true =>
        have q2 : inV tp (f (6 * N + 3)) (f (6 * N + 4)) (f (6 * N + 5)) = false := by rw [q1] at hq; simpa using hq
        repeat' (first | apply gwS | simp only [wN, wM, Nat.reduceAdd, Nat.reduceMul] | ((first | refine gwR [107] ?_ | refine gwD [107] ?_); intro Q hQ hP; simp [hC, hY, hin, hi', hz, hld, q1, q2, jb]; (repeat ((first | (refine heapK_mv (wi1_fun bx tp _ _ _ _ _ _ hbx htp (h.i hin 0 (by omega)) (h.i hin 1 (by omega)) (h.i hin 2 (by omega)) (h.i hin 3 (by omega)) (h.i hin 4 (by omega)) (h.i hin 5 (by omega))) G0F (B := 200) ⟨by simp, by simp [keys], by simp [jb, ids_lit, idsF, ids0]⟩ (fun k => if k = 100 then 108 else if k = 108 then 116 else k) (fun k hk => (if_neg (by omega)).trans (if_neg (by omega))) (by simp [ren, renA, renF, ren0]) (by simp) (by simp [jb, Blk.rn, renF, ren0]) (by simp [keys]) (by simp [keys]; rfl) ?_)); try simp [hC, hY, hin, hi', hz, hld, q1, q2, jb])); (first | refine hQ _ _ _ _ (by kernel_rfl) ?_ | refine hP _ _ (by kernel_rfl) fun _ => ?_); clear hQ hP Q) | apply gwB | apply gwT | apply gwK | apply gwE | apply gwG | apply gwL | simp only [blockG_exit] | (refine gwC ?_ ?_ <;> (intro hb; first | (cases hb; done) | skip)))
        refine ⟨.inr rfl, by simp [Tryz.results129], keep_of G0F (by simp [jb]) (by (intro k hk; first | rfl | (simp (disch := omega) only [addB, List.mem_cons, List.not_mem_nil, or_false, upd_other, hpL_cons, hpL_nil, if_neg, updL] <;> done)))⟩
def allB (bx tp : Int) (f : Nat → Int) (n : Nat) : Bool := (List.range n).all (inB bx tp f)
theorem allB_iff {bx tp : Int} {f : Nat → Int} {n : Nat} : allB bx tp f n = true ↔ ∀ i, i < n → inB bx tp f i = true := by simp [allB]
theorem allB_lead {bx tp : Int} {f : Nat → Int} {n N : Nat} (hN : N ≤ n) (hlt : ∀ i, i < N → inB bx tp f i = true) (hend : N = n ∨ inB bx tp f N = false) : allB bx tp f n = decide (N = n) := by
  by_cases h : N = n
  · subst h; rw [decide_eq_true rfl]; exact allB_iff.2 hlt
  · rw [decide_eq_false h]
    cases hb : allB bx tp f n with
    | false => rfl
    | true => have := allB_iff.1 hb N (by omega); rw [hend.resolve_left h] at this; cases this
theorem leadB (p : Nat → Bool) (m : Nat) : ∃ N, N ≤ m ∧ (∀ i, i < N → p i = true) ∧ (N = m ∨ p N = false) := by
  obtain ⟨N, h1, h2, h3⟩ := lead (fun i => p i = true) m
  exact ⟨N, h1, h2, h3.imp id (fun h => by simpa using h)⟩
theorem cf_fun (b : Blk) (off n cap : Nat) (f : Nat → Int) (h : SB b off n f) (bx tp : Int) (hbx : i64 bx) (htp : i64 tp) :
    Fun Tryz.prog G0 106 #[.slice (some ⟨100, off, none⟩) n cap, .func (.func 107) #[] #[.pointer (some ⟨108, 0, none⟩), .pointer (some ⟨116, 0, none⟩)]] (hpL G0 (ixL b bx tp)) (keys (ixL b bx tp)) (.ret (.bool !(allB bx tp f n)) []) := by
  refine fun_ofL (B := 200) G0F Tryz.func106 rfl Tryz.call106 (ixL_ok h.fx bx tp) ?_ (by simp) (by simp) (by simp) (by simp [Tryz.ntmps106]) (by omega) ?_
  · simp [idsV, idsA, idsF, ids0, keys, ixL]
  intro C hC hC0 hY
  obtain ⟨N, hN, hlt, hend⟩ := leadB (inB bx tp f) n
  rw [allB_lead hN hlt hend]
  have hr := fun ρ => Blk.fx_rn h.fx ρ
  unfold ixL
  by_cases hNn : N = n
  · have hNn' : (decide (N = n)) = true := decide_eq_true hNn
    rw [hNn']
    repeat' (first | apply gwS | simp only [wN, wM, Nat.reduceAdd, Nat.reduceMul] | ((first | refine gwR [129] ?_ | refine gwD [129] ?_); intro Q hQ hP; simp [hC, hY, hNn]; (repeat ((first | (refine heapK_mv (ix_fun b off n cap f h bx tp hbx htp N hN hlt hend) G0F (B := 200) (ixL_ok h.fx bx tp) (fun k => k) (fun k hk => rfl) (by simp [ren, renA, renF, ren0]) (by simp) (by simp [ixL, jb, Blk.rn_id]) (by simp [keys]) (by simp [keys, ixL]; rfl) ?_)); try simp [hC, hY, hNn])); (first | refine hQ _ _ _ _ (by kernel_rfl) ?_ | refine hP _ _ (by kernel_rfl) fun _ => ?_); clear hQ hP Q) | apply gwB | apply gwT | apply gwK | apply gwE | apply gwG | apply gwL | simp only [blockG_exit] | (refine gwC ?_ ?_ <;> (intro hb; first | (cases hb; done) | skip)))
    refine ⟨.inr rfl, by simp [Tryz.results106], keep_of G0F (by simp [jb]) (by (intro k hk; first | rfl | (simp (disch := omega) only [addB, List.mem_cons, List.not_mem_nil, or_false, upd_other, hpL_cons, hpL_nil, if_neg, updL] <;> done)))⟩
  · have hNn' : (decide (N = n)) = false := decide_eq_false hNn
    have hz : (0 : Int) ≤ N := by omega
    rw [hNn']
    repeat' (first | apply gwS | simp only [wN, wM, Nat.reduceAdd, Nat.reduceMul] | ((first | refine gwR [129] ?_ | refine gwD [129] ?_); intro Q hQ hP; simp [hC, hY, hNn, hz]; (repeat ((first | (refine heapK_mv (ix_fun b off n cap f h bx tp hbx htp N hN hlt hend) G0F (B := 200) (ixL_ok h.fx bx tp) (fun k => k) (fun k hk => rfl) (by simp [ren, renA, renF, ren0]) (by simp) (by simp [ixL, jb, Blk.rn_id]) (by simp [keys]) (by simp [keys, ixL]; rfl) ?_)); try simp [hC, hY, hNn, hz])); (first | refine hQ _ _ _ _ (by kernel_rfl) ?_ | refine hP _ _ (by kernel_rfl) fun _ => ?_); clear hQ hP Q) | apply gwB | apply gwT | apply gwK | apply gwE | apply gwG | apply gwL | simp only [blockG_exit] | (refine gwC ?_ ?_ <;> (intro hb; first | (cases hb; done) | skip)))
    refine ⟨.inr rfl, by simp [Tryz.results106], keep_of G0F (by simp [jb]) (by (intro k hk; first | rfl | (simp (disch := omega) only [addB, List.mem_cons, List.not_mem_nil, or_false, upd_other, hpL_cons, hpL_nil, if_neg, updL] <;> done)))⟩
theorem oneL_ok {b : Blk} (hb : b.fx) : LOk [(100, b)] 200 := ⟨by simp, by simp [keys], by
  simp only [List.mem_singleton, forall_eq]
  exact Blk.fx_ids hb _⟩
theorem swi_fun (b : Blk) (off n cap : Nat) (f : Nat → Int) (h : SB b off n f) (st bx tp : Int) (hbx : i64 bx) (htp : i64 tp) :
    Fun Tryz.prog G0 89 #[.agg #[.int .i64 st, .slice (some ⟨100, off, none⟩) n cap], .int .i64 bx, .int .i64 tp] (hpL G0 [(100, b)]) (keys [(100, b)]) (.ret (.bool (allB bx tp f n)) []) := by
  refine fun_ofL (B := 200) G0F Tryz.func89 rfl Tryz.call89 (oneL_ok h.fx) ?_ (by simp) (by simp) (by simp) (by simp [Tryz.ntmps89]) (by omega) ?_
  · simp [idsV, idsA, idsF, ids0, keys]
  intro C hC hC0 hY
  have hr := fun ρ => Blk.fx_rn h.fx ρ
  repeat' (first | apply gwS | simp only [wN, wM, Nat.reduceAdd, Nat.reduceMul] | ((first | refine gwR [106] ?_ | refine gwD [106] ?_); intro Q hQ hP; simp [hC, hY]; (repeat ((first | (refine heapK_mv (cf_fun b off n cap f h bx tp hbx htp) G0F (B := 200) (ixL_ok h.fx bx tp) (fun k => if k = 108 then 208 else if k = 116 then 216 else k) (fun k hk => (if_neg (by omega)).trans (if_neg (by omega))) (by simp [ren, renA, renF, ren0]) (by simp) (by simp [ixL, hr, jb_rn]; simp [jb]) (by simp [keys, ixL]) (by simp [keys, ixL]; rfl) ?_)); try simp [hC, hY])); (first | refine hQ _ _ _ _ (by kernel_rfl) ?_ | refine hP _ _ (by kernel_rfl) fun _ => ?_); clear hQ hP Q) | apply gwB | apply gwT | apply gwK | apply gwE | apply gwG | apply gwL | simp only [blockG_exit] | (refine gwC ?_ ?_ <;> (intro hb; first | (cases hb; done) | skip)))
  refine ⟨.inr rfl, by simp [Tryz.results89], keep_of G0F (by simp [jb]) (by (intro k hk; first | rfl | (simp (disch := omega) only [addB, List.mem_cons, List.not_mem_nil, or_false, upd_other, hpL_cons, hpL_nil, if_neg, updL] <;> done)))⟩
def stB (st : Int) : Bool := decide (-1073741824 ≤ st ∧ st ≤ 1073741824)
theorem stB_max (st : Int) (hs : i64 st) : stB st = (decide ((if st < Int.bmod (-st) 18446744073709551616 then Int.bmod (-st) 18446744073709551616 else st) ≤ 1073741824) && decide (-1073741824 ≤ st)) := by
  have h1 := hs.1
  have h2 := hs.2
  unfold stB
  rw [Bool.eq_iff_iff]
  simp only [Bool.and_eq_true, decide_eq_true_eq]
  rw [Int.bmod_def]
  split <;> split <;> omega
def rightB (st : Int) (f : Nat → Int) (n : Nat) : Bool := stB st && decide (1 ≤ n ∧ n ≤ 4) && allB 1048576 65536 f n
theorem i64_box : i64 1048576 := by unfold i64; omega
theorem i64_top : i64 65536 := by unfold i64; omega
theorem rig_fun (b : Blk) (off n cap : Nat) (f : Nat → Int) (h : SB b off n f) (st : Int) (hs : i64 st) :
    Fun Tryz.prog G0 66 #[.agg #[.int .i64 st, .slice (some ⟨100, off, none⟩) n cap]] (hpL G0 [(100, b)]) (keys [(100, b)]) (.ret (.bool (rightB st f n)) []) := by
  refine fun_ofL (B := 200) G0F Tryz.func66 rfl Tryz.call66 (oneL_ok h.fx) ?_ (by simp) (by simp) (by simp) (by simp [Tryz.ntmps66]) (by omega) ?_
  · simp [idsV, idsA, idsF, ids0, keys]
  intro C hC hC0 hY
  have hr := fun ρ => Blk.fx_rn h.fx ρ
  obtain ⟨m, hm⟩ : ∃ m, (if st < Int.bmod (-st) 18446744073709551616 then Int.bmod (-st) 18446744073709551616 else st) = m := ⟨_, rfl⟩
  have key := stB_max st hs
  rw [hm] at key
  unfold rightB
  rw [key]
  by_cases c0 : m ≤ 1073741824
  · by_cases c1 : -1073741824 ≤ st
    · by_cases c2 : 0 < n
      · by_cases c3 : n ≤ 4
        · have c4 : (n : Int) ≤ 4 := by omega
          have e : decide (1 ≤ n ∧ n ≤ 4) = true := decide_eq_true (by omega)
          rw [decide_eq_true c0, decide_eq_true c1, e]
          repeat' (first | apply gwS | simp only [wN, wM, Nat.reduceAdd, Nat.reduceMul] | ((first | refine gwR [89] ?_ | refine gwD [89] ?_); intro Q hQ hP; simp [hC, hY, hm, c0, c1, c2, c3, c4]; (repeat ((first | (refine heapK_mv (swi_fun b off n cap f h st 1048576 65536 i64_box i64_top) G0F (B := 200) (oneL_ok h.fx) (fun k => k) (fun k hk => rfl) (by simp [ren, renA, renF, ren0]) (by simp) (by simp [hr]) (by simp [keys]) (by simp [keys]; rfl) ?_)); try simp [hC, hY, hm, c0, c1, c2, c3, c4])); (first | refine hQ _ _ _ _ (by kernel_rfl) ?_ | refine hP _ _ (by kernel_rfl) fun _ => ?_); clear hQ hP Q) | apply gwB | apply gwT | apply gwK | apply gwE | apply gwG | apply gwL | simp only [blockG_exit] | (refine gwC ?_ ?_ <;> (intro hb; first | (cases hb; done) | skip)))
          refine ⟨.inr rfl, by simp [Tryz.results66], keep_of G0F (by simp) (by (intro k hk; first | rfl | (simp (disch := omega) only [addB, List.mem_cons, List.not_mem_nil, or_false, upd_other, hpL_cons, hpL_nil, if_neg, updL] <;> done)))⟩
        · have c4 : ¬ (n : Int) ≤ 4 := by omega
          have e : decide (1 ≤ n ∧ n ≤ 4) = false := decide_eq_false (by omega)
          rw [decide_eq_true c0, decide_eq_true c1, e]
          repeat' (first | apply gwS | simp only [wN, wM, Nat.reduceAdd, Nat.reduceMul] | ((first | refine gwR [] ?_ | refine gwD [] ?_); intro Q hQ hP; simp [hC, hY, hm, c0, c1, c2, c3, c4]; (first | refine hQ _ _ _ _ (by kernel_rfl) ?_ | refine hP _ _ (by kernel_rfl) fun _ => ?_); clear hQ hP Q) | apply gwB | apply gwT | apply gwK | apply gwE | apply gwG | apply gwL | simp only [blockG_exit] | (refine gwC ?_ ?_ <;> (intro hb; first | (cases hb; done) | skip)))
          refine ⟨.inr rfl, by simp [Tryz.results66], keep_of G0F (by simp) (by (intro k hk; first | rfl | (simp (disch := omega) only [addB, List.mem_cons, List.not_mem_nil, or_false, upd_other, hpL_cons, hpL_nil, if_neg, updL] <;> done)))⟩
      · have e : decide (1 ≤ n ∧ n ≤ 4) = false := decide_eq_false (by omega)
        rw [decide_eq_true c0, decide_eq_true c1, e]
        repeat' (first | apply gwS | simp only [wN, wM, Nat.reduceAdd, Nat.reduceMul] | ((first | refine gwR [] ?_ | refine gwD [] ?_); intro Q hQ hP; simp [hC, hY, hm, c0, c1, c2]; (first | refine hQ _ _ _ _ (by kernel_rfl) ?_ | refine hP _ _ (by kernel_rfl) fun _ => ?_); clear hQ hP Q) | apply gwB | apply gwT | apply gwK | apply gwE | apply gwG | apply gwL | simp only [blockG_exit] | (refine gwC ?_ ?_ <;> (intro hb; first | (cases hb; done) | skip)))
        refine ⟨.inr rfl, by simp [Tryz.results66], keep_of G0F (by simp) (by (intro k hk; first | rfl | (simp (disch := omega) only [addB, List.mem_cons, List.not_mem_nil, or_false, upd_other, hpL_cons, hpL_nil, if_neg, updL] <;> done)))⟩
    · rw [decide_eq_true c0, decide_eq_false c1]
      repeat' (first | apply gwS | simp only [wN, wM, Nat.reduceAdd, Nat.reduceMul] | ((first | refine gwR [] ?_ | refine gwD [] ?_); intro Q hQ hP; simp [hC, hY, hm, c0, c1]; (first | refine hQ _ _ _ _ (by kernel_rfl) ?_ | refine hP _ _ (by kernel_rfl) fun _ => ?_); clear hQ hP Q) | apply gwB | apply gwT | apply gwK | apply gwE | apply gwG | apply gwL | simp only [blockG_exit] | (refine gwC ?_ ?_ <;> (intro hb; first | (cases hb; done) | skip)))
      refine ⟨.inr rfl, by simp [Tryz.results66], keep_of G0F (by simp) (by (intro k hk; first | rfl | (simp (disch := omega) only [addB, List.mem_cons, List.not_mem_nil, or_false, upd_other, hpL_cons, hpL_nil, if_neg, updL] <;> done)))⟩
  · rw [decide_eq_false c0]
    repeat' (first | apply gwS | simp only [wN, wM, Nat.reduceAdd, Nat.reduceMul] | ((first | refine gwR [] ?_ | refine gwD [] ?_); intro Q hQ hP; simp [hC, hY, hm, c0]; (first | refine hQ _ _ _ _ (by kernel_rfl) ?_ | refine hP _ _ (by kernel_rfl) fun _ => ?_); clear hQ hP Q) | apply gwB | apply gwT | apply gwK | apply gwE | apply gwG | apply gwL | simp only [blockG_exit] | (refine gwC ?_ ?_ <;> (intro hb; first | (cases hb; done) | skip)))
    refine ⟨.inr rfl, by simp [Tryz.results66], keep_of G0F (by simp) (by (intro k hk; first | rfl | (simp (disch := omega) only [addB, List.mem_cons, List.not_mem_nil, or_false, upd_other, hpL_cons, hpL_nil, if_neg, updL] <;> done)))⟩
theorem SB.int {b : Blk} {off n : Nat} {f : Nat → Int} (h : SB b off n f) {i : Nat} (hi : i < n) {q : Nat} (hq : q < 6) : loadK Tryz.prog 3 b (off + i * 6 + q) = some (.int .i64 (f (6 * i + q))) := by
  have hbrd := Blk.fx_rd h.fx
  have := loadK_rd1 (P := Tryz.prog) (T := 3) (j := 6 * i + q) (tyAgg_of Tryz.isAgg3) h.rd (by omega)
  rw [show off + i * 6 + q = off + (6 * i + q) by omega, this]
def w10St (b : Blk) (off n cap : Nat) (st : Int) (i : Nat) : GS :=
  ⟨tsL [(1, .int .i64 1048576), (2, .int .i64 65536), (3, .pointer (some ⟨200, 0, none⟩)), (7, .int .i64 i)],
   hpL G0 [(200, ⟨#[.int .i64 st, .slice (some ⟨100, off, none⟩) n cap], .ty 27⟩), (100, b)], 400, 0⟩
theorem inB_cases {f : Nat → Int} {i : Nat} : inB 1048576 65536 f i = true ↔ ((-1048576 ≤ f (6 * i) ∧ f (6 * i) ≤ 1048576) ∧ (-1048576 ≤ f (6 * i + 1) ∧ f (6 * i + 1) ≤ 1048576) ∧ (-1048576 ≤ f (6 * i + 2) ∧ f (6 * i + 2) ≤ 1048576)) ∧ (-65536 ≤ f (6 * i + 3) ∧ f (6 * i + 3) ≤ 65536) ∧ (-65536 ≤ f (6 * i + 4) ∧ f (6 * i + 4) ≤ 65536) ∧ (-65536 ≤ f (6 * i + 5) ∧ f (6 * i + 5) ≤ 65536) := by
  unfold inB inV inW
  simp only [Bool.and_eq_true, decide_eq_true_eq]
  omega
set_option maxHeartbeats 4000000 in
set_option maxRecDepth 20000 in
theorem w10_fun (b : Blk) (off n cap : Nat) (f : Nat → Int) (h : SB b off n f) (st : Int) :
    Fun Tryz.prog G0 78 #[.agg #[.int .i64 st, .slice (some ⟨100, off, none⟩) n cap], .int .i64 1048576, .int .i64 65536] (hpL G0 [(100, b)]) (keys [(100, b)]) (.ret (.bool (allB 1048576 65536 f n)) []) := by
  refine fun_ofL (B := 200) G0F Tryz.func78 rfl Tryz.call78 (oneL_ok h.fx) ?_ (by simp) (by simp) (by simp) (by simp [Tryz.ntmps78]) (by omega) ?_
  · simp [idsV, idsA, idsF, ids0, keys]
  intro C hC hC0 hY
  obtain ⟨N, hN, hlt, hend⟩ := leadB (inB 1048576 65536 f) n
  have hnn := h.nn
  rw [allB_lead hN hlt hend]
  repeat' (first | apply gwS | simp only [wN, wM, Nat.reduceAdd, Nat.reduceMul] | ((first | refine gwR [] ?_ | refine gwD [] ?_); intro Q hQ hP; simp [hC, hY]; (first | refine hQ _ _ _ _ (by kernel_rfl) ?_ | refine hP _ _ (by kernel_rfl) fun _ => ?_); clear hQ hP Q) | apply gwB | apply gwT | apply gwK | apply gwE | apply gwG | apply gwL | simp only [blockG_exit] | (refine gwC ?_ ?_ <;> (intro hb; first | (cases hb; done) | skip)))
  refine GW_for N (w10St b off n cap st) ?_ ?_ ?_
  · refine weakL _ 400 hC G0F (m0 := [(100, b)]) hC0 (by omega) ?_ ?_ ?_
    · simp [idsV, idsA, idsF, ids0, dom]
    · have hi := fun D => Blk.fx_ids h.fx D
      simp [ids_lit, idsF, ids0, hi, dom]
    · simp
  · intro i hi
    have hin : i < n := by omega
    have hi' : (i : Int) < n := by omega
    have hz : (0 : Int) ≤ i := by omega
    have hs : Int.bmod ((i : Int) + 1) 18446744073709551616 = ((i + 1 : Nat) : Int) := by rw [bm (by omega) (by omega)]; rfl
    have l0 := h.int hin (q := 0) (by omega)
    have l1 := h.int hin (q := 1) (by omega)
    have l2 := h.int hin (q := 2) (by omega)
    have l3 := h.int hin (q := 3) (by omega)
    have l4 := h.int hin (q := 4) (by omega)
    have l5 := h.int hin (q := 5) (by omega)
    simp only [Nat.add_zero] at l0
    obtain ⟨⟨⟨a0, b0⟩, ⟨a1, b1⟩, ⟨a2, b2⟩⟩, ⟨a3, b3⟩, ⟨a4, b4⟩, ⟨a5, b5⟩⟩ := inB_cases.1 (hlt i hi)
    replace a0 := Int.not_lt.2 a0
    replace a1 := Int.not_lt.2 a1
    replace a2 := Int.not_lt.2 a2
    replace a3 := Int.not_lt.2 a3
    replace a4 := Int.not_lt.2 a4
    replace a5 := Int.not_lt.2 a5
    replace b0 := Int.not_lt.2 b0
    replace b1 := Int.not_lt.2 b1
    replace b2 := Int.not_lt.2 b2
    replace b3 := Int.not_lt.2 b3
    replace b4 := Int.not_lt.2 b4
    replace b5 := Int.not_lt.2 b5
    unfold w10St
    repeat' (first | apply gwS | refine GWL_start ?_ | refine GWL_step ?_ | simp only [wN, wM, Nat.reduceAdd, Nat.reduceMul] | ((first | refine gwR [] ?_ | refine gwD [] ?_); intro Q hQ hP; simp [hC, hY, hi, hin, hi', hz, hs, l0, l1, l2, l3, l4, l5, a0, a1, a2, a3, a4, a5, b0, b1, b2, b3, b4, b5]; (first | refine hQ _ _ _ _ (by kernel_rfl) ?_ | refine hP _ _ (by kernel_rfl) fun _ => ?_); clear hQ hP Q) | apply gwB | apply gwT | apply gwK | apply gwE | apply gwG | apply gwL | simp only [blockG_exit] | (refine gwC ?_ ?_ <;> (intro hb; first | (cases hb; done) | skip)))
    refine weakL _ 400 hC G0F (m0 := [(100, b)]) hC0 (by omega) ?_ ?_ ?_
    · simp [idsV, idsA, idsF, ids0, dom, hs]
    · have hi := fun D => Blk.fx_ids h.fx D
      simp [ids_lit, idsF, ids0, hi, dom]
    · simp
  · by_cases hNn : N = n
    · rw [decide_eq_true hNn]
      subst hNn
      unfold w10St
      repeat' (first | apply gwS | simp only [wN, wM, Nat.reduceAdd, Nat.reduceMul] | ((first | refine gwR [] ?_ | refine gwD [] ?_); intro Q hQ hP; simp [hC, hY]; (first | refine hQ _ _ _ _ (by kernel_rfl) ?_ | refine hP _ _ (by kernel_rfl) fun _ => ?_); clear hQ hP Q) | apply gwB | apply gwT | apply gwK | apply gwE | apply gwG | apply gwL | simp only [blockG_exit] | (refine gwC ?_ ?_ <;> (intro hb; first | (cases hb; done) | skip)))
      refine ⟨.inr rfl, by simp [Tryz.results78], keep_of G0F (by simp) (by (intro k hk; first | rfl | (simp (disch := omega) only [addB, List.mem_cons, List.not_mem_nil, or_false, upd_other, hpL_cons, hpL_nil, if_neg, updL] <;> done)))⟩
    · rw [decide_eq_false hNn]
      have hin : N < n := by omega
      have hi' : (N : Int) < n := by omega
      have hz : (0 : Int) ≤ N := by omega
      have l0 := h.int hin (q := 0) (by omega)
      have l1 := h.int hin (q := 1) (by omega)
      have l2 := h.int hin (q := 2) (by omega)
      have l3 := h.int hin (q := 3) (by omega)
      have l4 := h.int hin (q := 4) (by omega)
      have l5 := h.int hin (q := 5) (by omega)
      simp only [Nat.add_zero] at l0
      have hbad : ¬ inB 1048576 65536 f N = true := by rw [hend.resolve_left hNn]; simp
      rw [inB_cases] at hbad
      unfold w10St
      by_cases a0 : f (6 * N) < -1048576
      ·
        repeat' (first | apply gwS | refine GWL_start ?_ | refine GWL_step ?_ | simp only [wN, wM, Nat.reduceAdd, Nat.reduceMul] | ((first | refine gwR [] ?_ | refine gwD [] ?_); intro Q hQ hP; simp [hC, hY, hin, hi', hz, l0, l1, l2, l3, l4, l5, a0]; (first | refine hQ _ _ _ _ (by kernel_rfl) ?_ | refine hP _ _ (by kernel_rfl) fun _ => ?_); clear hQ hP Q) | apply gwB | apply gwT | apply gwK | apply gwE | apply gwG | apply gwL | simp only [blockG_exit] | (refine gwC ?_ ?_ <;> (intro hb; first | (cases hb; done) | skip)))
        refine ⟨.inr rfl, by simp [Tryz.results78], keep_of G0F (by simp) (by (intro k hk; first | rfl | (simp (disch := omega) only [addB, List.mem_cons, List.not_mem_nil, or_false, upd_other, hpL_cons, hpL_nil, if_neg, updL] <;> done)))⟩
      by_cases b0 : 1048576 < f (6 * N)
      ·
        repeat' (first | apply gwS | refine GWL_start ?_ | refine GWL_step ?_ | simp only [wN, wM, Nat.reduceAdd, Nat.reduceMul] | ((first | refine gwR [] ?_ | refine gwD [] ?_); intro Q hQ hP; simp [hC, hY, hin, hi', hz, l0, l1, l2, l3, l4, l5, a0, b0]; (first | refine hQ _ _ _ _ (by kernel_rfl) ?_ | refine hP _ _ (by kernel_rfl) fun _ => ?_); clear hQ hP Q) | apply gwB | apply gwT | apply gwK | apply gwE | apply gwG | apply gwL | simp only [blockG_exit] | (refine gwC ?_ ?_ <;> (intro hb; first | (cases hb; done) | skip)))
        refine ⟨.inr rfl, by simp [Tryz.results78], keep_of G0F (by simp) (by (intro k hk; first | rfl | (simp (disch := omega) only [addB, List.mem_cons, List.not_mem_nil, or_false, upd_other, hpL_cons, hpL_nil, if_neg, updL] <;> done)))⟩
      by_cases a3 : f (6 * N + 3) < -65536
      ·
        repeat' (first | apply gwS | refine GWL_start ?_ | refine GWL_step ?_ | simp only [wN, wM, Nat.reduceAdd, Nat.reduceMul] | ((first | refine gwR [] ?_ | refine gwD [] ?_); intro Q hQ hP; simp [hC, hY, hin, hi', hz, l0, l1, l2, l3, l4, l5, a0, b0, a3]; (first | refine hQ _ _ _ _ (by kernel_rfl) ?_ | refine hP _ _ (by kernel_rfl) fun _ => ?_); clear hQ hP Q) | apply gwB | apply gwT | apply gwK | apply gwE | apply gwG | apply gwL | simp only [blockG_exit] | (refine gwC ?_ ?_ <;> (intro hb; first | (cases hb; done) | skip)))
        refine ⟨.inr rfl, by simp [Tryz.results78], keep_of G0F (by simp) (by (intro k hk; first | rfl | (simp (disch := omega) only [addB, List.mem_cons, List.not_mem_nil, or_false, upd_other, hpL_cons, hpL_nil, if_neg, updL] <;> done)))⟩
      by_cases b3 : 65536 < f (6 * N + 3)
      ·
        repeat' (first | apply gwS | refine GWL_start ?_ | refine GWL_step ?_ | simp only [wN, wM, Nat.reduceAdd, Nat.reduceMul] | ((first | refine gwR [] ?_ | refine gwD [] ?_); intro Q hQ hP; simp [hC, hY, hin, hi', hz, l0, l1, l2, l3, l4, l5, a0, b0, a3, b3]; (first | refine hQ _ _ _ _ (by kernel_rfl) ?_ | refine hP _ _ (by kernel_rfl) fun _ => ?_); clear hQ hP Q) | apply gwB | apply gwT | apply gwK | apply gwE | apply gwG | apply gwL | simp only [blockG_exit] | (refine gwC ?_ ?_ <;> (intro hb; first | (cases hb; done) | skip)))
        refine ⟨.inr rfl, by simp [Tryz.results78], keep_of G0F (by simp) (by (intro k hk; first | rfl | (simp (disch := omega) only [addB, List.mem_cons, List.not_mem_nil, or_false, upd_other, hpL_cons, hpL_nil, if_neg, updL] <;> done)))⟩
      by_cases a1 : f (6 * N + 1) < -1048576
      ·
        repeat' (first | apply gwS | refine GWL_start ?_ | refine GWL_step ?_ | simp only [wN, wM, Nat.reduceAdd, Nat.reduceMul] | ((first | refine gwR [] ?_ | refine gwD [] ?_); intro Q hQ hP; simp [hC, hY, hin, hi', hz, l0, l1, l2, l3, l4, l5, a0, b0, a3, b3, a1]; (first | refine hQ _ _ _ _ (by kernel_rfl) ?_ | refine hP _ _ (by kernel_rfl) fun _ => ?_); clear hQ hP Q) | apply gwB | apply gwT | apply gwK | apply gwE | apply gwG | apply gwL | simp only [blockG_exit] | (refine gwC ?_ ?_ <;> (intro hb; first | (cases hb; done) | skip)))
        refine ⟨.inr rfl, by simp [Tryz.results78], keep_of G0F (by simp) (by (intro k hk; first | rfl | (simp (disch := omega) only [addB, List.mem_cons, List.not_mem_nil, or_false, upd_other, hpL_cons, hpL_nil, if_neg, updL] <;> done)))⟩
      by_cases b1 : 1048576 < f (6 * N + 1)
      ·
        repeat' (first | apply gwS | refine GWL_start ?_ | refine GWL_step ?_ | simp only [wN, wM, Nat.reduceAdd, Nat.reduceMul] | ((first | refine gwR [] ?_ | refine gwD [] ?_); intro Q hQ hP; simp [hC, hY, hin, hi', hz, l0, l1, l2, l3, l4, l5, a0, b0, a3, b3, a1, b1]; (first | refine hQ _ _ _ _ (by kernel_rfl) ?_ | refine hP _ _ (by kernel_rfl) fun _ => ?_); clear hQ hP Q) | apply gwB | apply gwT | apply gwK | apply gwE | apply gwG | apply gwL | simp only [blockG_exit] | (refine gwC ?_ ?_ <;> (intro hb; first | (cases hb; done) | skip)))
        refine ⟨.inr rfl, by simp [Tryz.results78], keep_of G0F (by simp) (by (intro k hk; first | rfl | (simp (disch := omega) only [addB, List.mem_cons, List.not_mem_nil, or_false, upd_other, hpL_cons, hpL_nil, if_neg, updL] <;> done)))⟩
      by_cases a4 : f (6 * N + 4) < -65536
      ·
        repeat' (first | apply gwS | refine GWL_start ?_ | refine GWL_step ?_ | simp only [wN, wM, Nat.reduceAdd, Nat.reduceMul] | ((first | refine gwR [] ?_ | refine gwD [] ?_); intro Q hQ hP; simp [hC, hY, hin, hi', hz, l0, l1, l2, l3, l4, l5, a0, b0, a3, b3, a1, b1, a4]; (first | refine hQ _ _ _ _ (by kernel_rfl) ?_ | refine hP _ _ (by kernel_rfl) fun _ => ?_); clear hQ hP Q) | apply gwB | apply gwT | apply gwK | apply gwE | apply gwG | apply gwL | simp only [blockG_exit] | (refine gwC ?_ ?_ <;> (intro hb; first | (cases hb; done) | skip)))
        refine ⟨.inr rfl, by simp [Tryz.results78], keep_of G0F (by simp) (by (intro k hk; first | rfl | (simp (disch := omega) only [addB, List.mem_cons, List.not_mem_nil, or_false, upd_other, hpL_cons, hpL_nil, if_neg, updL] <;> done)))⟩
      by_cases b4 : 65536 < f (6 * N + 4)
      ·
        repeat' (first | apply gwS | refine GWL_start ?_ | refine GWL_step ?_ | simp only [wN, wM, Nat.reduceAdd, Nat.reduceMul] | ((first | refine gwR [] ?_ | refine gwD [] ?_); intro Q hQ hP; simp [hC, hY, hin, hi', hz, l0, l1, l2, l3, l4, l5, a0, b0, a3, b3, a1, b1, a4, b4]; (first | refine hQ _ _ _ _ (by kernel_rfl) ?_ | refine hP _ _ (by kernel_rfl) fun _ => ?_); clear hQ hP Q) | apply gwB | apply gwT | apply gwK | apply gwE | apply gwG | apply gwL | simp only [blockG_exit] | (refine gwC ?_ ?_ <;> (intro hb; first | (cases hb; done) | skip)))
        refine ⟨.inr rfl, by simp [Tryz.results78], keep_of G0F (by simp) (by (intro k hk; first | rfl | (simp (disch := omega) only [addB, List.mem_cons, List.not_mem_nil, or_false, upd_other, hpL_cons, hpL_nil, if_neg, updL] <;> done)))⟩
      by_cases a2 : f (6 * N + 2) < -1048576
      ·
        repeat' (first | apply gwS | refine GWL_start ?_ | refine GWL_step ?_ | simp only [wN, wM, Nat.reduceAdd, Nat.reduceMul] | ((first | refine gwR [] ?_ | refine gwD [] ?_); intro Q hQ hP; simp [hC, hY, hin, hi', hz, l0, l1, l2, l3, l4, l5, a0, b0, a3, b3, a1, b1, a4, b4, a2]; (first | refine hQ _ _ _ _ (by kernel_rfl) ?_ | refine hP _ _ (by kernel_rfl) fun _ => ?_); clear hQ hP Q) | apply gwB | apply gwT | apply gwK | apply gwE | apply gwG | apply gwL | simp only [blockG_exit] | (refine gwC ?_ ?_ <;> (intro hb; first | (cases hb; done) | skip)))
        refine ⟨.inr rfl, by simp [Tryz.results78], keep_of G0F (by simp) (by (intro k hk; first | rfl | (simp (disch := omega) only [addB, List.mem_cons, List.not_mem_nil, or_false, upd_other, hpL_cons, hpL_nil, if_neg, updL] <;> done)))⟩
      by_cases b2 : 1048576 < f (6 * N + 2)
      ·
        repeat' (first | apply gwS | refine GWL_start ?_ | refine GWL_step ?_ | simp only [wN, wM, Nat.reduceAdd, Nat.reduceMul] | ((first | refine gwR [] ?_ | refine gwD [] ?_); intro Q hQ hP; simp [hC, hY, hin, hi', hz, l0, l1, l2, l3, l4, l5, a0, b0, a3, b3, a1, b1, a4, b4, a2, b2]; (first | refine hQ _ _ _ _ (by kernel_rfl) ?_ | refine hP _ _ (by kernel_rfl) fun _ => ?_); clear hQ hP Q) | apply gwB | apply gwT | apply gwK | apply gwE | apply gwG | apply gwL | simp only [blockG_exit] | (refine gwC ?_ ?_ <;> (intro hb; first | (cases hb; done) | skip)))
        refine ⟨.inr rfl, by simp [Tryz.results78], keep_of G0F (by simp) (by (intro k hk; first | rfl | (simp (disch := omega) only [addB, List.mem_cons, List.not_mem_nil, or_false, upd_other, hpL_cons, hpL_nil, if_neg, updL] <;> done)))⟩
      by_cases a5 : f (6 * N + 5) < -65536
      ·
        repeat' (first | apply gwS | refine GWL_start ?_ | refine GWL_step ?_ | simp only [wN, wM, Nat.reduceAdd, Nat.reduceMul] | ((first | refine gwR [] ?_ | refine gwD [] ?_); intro Q hQ hP; simp [hC, hY, hin, hi', hz, l0, l1, l2, l3, l4, l5, a0, b0, a3, b3, a1, b1, a4, b4, a2, b2, a5]; (first | refine hQ _ _ _ _ (by kernel_rfl) ?_ | refine hP _ _ (by kernel_rfl) fun _ => ?_); clear hQ hP Q) | apply gwB | apply gwT | apply gwK | apply gwE | apply gwG | apply gwL | simp only [blockG_exit] | (refine gwC ?_ ?_ <;> (intro hb; first | (cases hb; done) | skip)))
        refine ⟨.inr rfl, by simp [Tryz.results78], keep_of G0F (by simp) (by (intro k hk; first | rfl | (simp (disch := omega) only [addB, List.mem_cons, List.not_mem_nil, or_false, upd_other, hpL_cons, hpL_nil, if_neg, updL] <;> done)))⟩
      by_cases b5 : 65536 < f (6 * N + 5)
      ·
        repeat' (first | apply gwS | refine GWL_start ?_ | refine GWL_step ?_ | simp only [wN, wM, Nat.reduceAdd, Nat.reduceMul] | ((first | refine gwR [] ?_ | refine gwD [] ?_); intro Q hQ hP; simp [hC, hY, hin, hi', hz, l0, l1, l2, l3, l4, l5, a0, b0, a3, b3, a1, b1, a4, b4, a2, b2, a5, b5]; (first | refine hQ _ _ _ _ (by kernel_rfl) ?_ | refine hP _ _ (by kernel_rfl) fun _ => ?_); clear hQ hP Q) | apply gwB | apply gwT | apply gwK | apply gwE | apply gwG | apply gwL | simp only [blockG_exit] | (refine gwC ?_ ?_ <;> (intro hb; first | (cases hb; done) | skip)))
        refine ⟨.inr rfl, by simp [Tryz.results78], keep_of G0F (by simp) (by (intro k hk; first | rfl | (simp (disch := omega) only [addB, List.mem_cons, List.not_mem_nil, or_false, upd_other, hpL_cons, hpL_nil, if_neg, updL] <;> done)))⟩
      exfalso
      omega
theorem rig10_fun (b : Blk) (off n cap : Nat) (f : Nat → Int) (h : SB b off n f) (st : Int) :
    Fun Tryz.prog G0 47 #[.agg #[.int .i64 st, .slice (some ⟨100, off, none⟩) n cap]] (hpL G0 [(100, b)]) (keys [(100, b)]) (.ret (.bool (rightB st f n)) []) := by
  refine fun_ofL (B := 200) G0F Tryz.func47 rfl Tryz.call47 (oneL_ok h.fx) ?_ (by simp) (by simp) (by simp) (by simp [Tryz.ntmps47]) (by omega) ?_
  · simp [idsV, idsA, idsF, ids0, keys]
  intro C hC hC0 hY
  have hr := fun ρ => Blk.fx_rn h.fx ρ
  unfold rightB
  by_cases c0 : -1073741824 ≤ st
  · by_cases c1 : st ≤ 1073741824
    · have es : stB st = true := decide_eq_true ⟨c0, c1⟩
      rw [es]
      by_cases c2 : 1 ≤ n
      · have c2' : (1 : Int) ≤ n := by omega
        have c2'' : 0 < n := by omega
        by_cases c3 : n ≤ 4
        · have c4 : (n : Int) ≤ 4 := by omega
          have e : decide (1 ≤ n ∧ n ≤ 4) = true := decide_eq_true (by omega)
          rw [e]
          repeat' (first | apply gwS | simp only [wN, wM, Nat.reduceAdd, Nat.reduceMul] | ((first | refine gwR [78] ?_ | refine gwD [78] ?_); intro Q hQ hP; simp [hC, hY, c0, c1, c2, c2', c2'', c3, c4]; (repeat ((first | (refine heapK_mv (w10_fun b off n cap f h st) G0F (B := 200) (oneL_ok h.fx) (fun k => k) (fun k hk => rfl) (by simp [ren, renA, renF, ren0]) (by simp) (by simp [hr]) (by simp [keys]) (by simp [keys]; rfl) ?_)); try simp [hC, hY, c0, c1, c2, c2', c2'', c3, c4])); (first | refine hQ _ _ _ _ (by kernel_rfl) ?_ | refine hP _ _ (by kernel_rfl) fun _ => ?_); clear hQ hP Q) | apply gwB | apply gwT | apply gwK | apply gwE | apply gwG | apply gwL | simp only [blockG_exit] | (refine gwC ?_ ?_ <;> (intro hb; first | (cases hb; done) | skip)))
          refine ⟨.inr rfl, by simp [Tryz.results47], keep_of G0F (by simp) (by (intro k hk; first | rfl | (simp (disch := omega) only [addB, List.mem_cons, List.not_mem_nil, or_false, upd_other, hpL_cons, hpL_nil, if_neg, updL] <;> done)))⟩
        · have c4 : ¬ (n : Int) ≤ 4 := by omega
          have e : decide (1 ≤ n ∧ n ≤ 4) = false := decide_eq_false (by omega)
          rw [e]
          repeat' (first | apply gwS | simp only [wN, wM, Nat.reduceAdd, Nat.reduceMul] | ((first | refine gwR [] ?_ | refine gwD [] ?_); intro Q hQ hP; simp [hC, hY, c0, c1, c2, c2', c2'', c3, c4]; (first | refine hQ _ _ _ _ (by kernel_rfl) ?_ | refine hP _ _ (by kernel_rfl) fun _ => ?_); clear hQ hP Q) | apply gwB | apply gwT | apply gwK | apply gwE | apply gwG | apply gwL | simp only [blockG_exit] | (refine gwC ?_ ?_ <;> (intro hb; first | (cases hb; done) | skip)))
          refine ⟨.inr rfl, by simp [Tryz.results47], keep_of G0F (by simp) (by (intro k hk; first | rfl | (simp (disch := omega) only [addB, List.mem_cons, List.not_mem_nil, or_false, upd_other, hpL_cons, hpL_nil, if_neg, updL] <;> done)))⟩
      · have c2' : ¬ (1 : Int) ≤ n := by omega
        have c2'' : ¬ 0 < n := by omega
        have c2''' : n = 0 := by omega
        have e : decide (1 ≤ n ∧ n ≤ 4) = false := decide_eq_false (by omega)
        rw [e]
        repeat' (first | apply gwS | simp only [wN, wM, Nat.reduceAdd, Nat.reduceMul] | ((first | refine gwR [] ?_ | refine gwD [] ?_); intro Q hQ hP; simp [hC, hY, c0, c1, c2, c2', c2'', c2''']; (first | refine hQ _ _ _ _ (by kernel_rfl) ?_ | refine hP _ _ (by kernel_rfl) fun _ => ?_); clear hQ hP Q) | apply gwB | apply gwT | apply gwK | apply gwE | apply gwG | apply gwL | simp only [blockG_exit] | (refine gwC ?_ ?_ <;> (intro hb; first | (cases hb; done) | skip)))
        refine ⟨.inr rfl, by simp [Tryz.results47], keep_of G0F (by simp) (by (intro k hk; first | rfl | (simp (disch := omega) only [addB, List.mem_cons, List.not_mem_nil, or_false, upd_other, hpL_cons, hpL_nil, if_neg, updL] <;> done)))⟩
    · have es : stB st = false := decide_eq_false (by omega)
      rw [es]
      repeat' (first | apply gwS | simp only [wN, wM, Nat.reduceAdd, Nat.reduceMul] | ((first | refine gwR [] ?_ | refine gwD [] ?_); intro Q hQ hP; simp [hC, hY, c0, c1]; (first | refine hQ _ _ _ _ (by kernel_rfl) ?_ | refine hP _ _ (by kernel_rfl) fun _ => ?_); clear hQ hP Q) | apply gwB | apply gwT | apply gwK | apply gwE | apply gwG | apply gwL | simp only [blockG_exit] | (refine gwC ?_ ?_ <;> (intro hb; first | (cases hb; done) | skip)))
      refine ⟨.inr rfl, by simp [Tryz.results47], keep_of G0F (by simp) (by (intro k hk; first | rfl | (simp (disch := omega) only [addB, List.mem_cons, List.not_mem_nil, or_false, upd_other, hpL_cons, hpL_nil, if_neg, updL] <;> done)))⟩
  · have es : stB st = false := decide_eq_false (by omega)
    rw [es]
    repeat' (first | apply gwS | simp only [wN, wM, Nat.reduceAdd, Nat.reduceMul] | ((first | refine gwR [] ?_ | refine gwD [] ?_); intro Q hQ hP; simp [hC, hY, c0]; (first | refine hQ _ _ _ _ (by kernel_rfl) ?_ | refine hP _ _ (by kernel_rfl) fun _ => ?_); clear hQ hP Q) | apply gwB | apply gwT | apply gwK | apply gwE | apply gwG | apply gwL | simp only [blockG_exit] | (refine gwC ?_ ?_ <;> (intro hb; first | (cases hb; done) | skip)))
    refine ⟨.inr rfl, by simp [Tryz.results47], keep_of G0F (by simp) (by (intro k hk; first | rfl | (simp (disch := omega) only [addB, List.mem_cons, List.not_mem_nil, or_false, upd_other, hpL_cons, hpL_nil, if_neg, updL] <;> done)))⟩
theorem rig10_nil (st : Int) : Ret Tryz.prog G0 47 #[.agg #[.int .i64 st, .slice none 0 0]] (.bool false) := by
  refine ret_of G0F Tryz.func47 rfl Tryz.call47 rfl (by simp) (by simp [Tryz.ntmps47]) ?_
  intro C hC hC0 hY
  by_cases c0 : -1073741824 ≤ st
  · by_cases c1 : st ≤ 1073741824
    · (repeat' (first | apply gwS | simp only [wN, wM, Nat.reduceAdd, Nat.reduceMul] | ((first | refine gwR [] ?_ | refine gwD [] ?_); intro Q hQ hP; simp [hC, hY, c0, c1]; (first | refine hQ _ _ _ _ (by kernel_rfl) ?_ | refine hP _ _ (by kernel_rfl) fun _ => ?_); clear hQ hP Q) | apply gwB | apply gwT | apply gwK | apply gwE | apply gwG | apply gwL | simp only [blockG_exit] | (refine gwC ?_ ?_ <;> (intro hb; first | (cases hb; done) | skip))))
      refine ⟨.inr trivial, ?_⟩
      simp [Tryz.results47]
    · (repeat' (first | apply gwS | simp only [wN, wM, Nat.reduceAdd, Nat.reduceMul] | ((first | refine gwR [] ?_ | refine gwD [] ?_); intro Q hQ hP; simp [hC, hY, c0, c1]; (first | refine hQ _ _ _ _ (by kernel_rfl) ?_ | refine hP _ _ (by kernel_rfl) fun _ => ?_); clear hQ hP Q) | apply gwB | apply gwT | apply gwK | apply gwE | apply gwG | apply gwL | simp only [blockG_exit] | (refine gwC ?_ ?_ <;> (intro hb; first | (cases hb; done) | skip))))
      refine ⟨.inr trivial, ?_⟩
      simp [Tryz.results47]
  · (repeat' (first | apply gwS | simp only [wN, wM, Nat.reduceAdd, Nat.reduceMul] | ((first | refine gwR [] ?_ | refine gwD [] ?_); intro Q hQ hP; simp [hC, hY, c0]; (first | refine hQ _ _ _ _ (by kernel_rfl) ?_ | refine hP _ _ (by kernel_rfl) fun _ => ?_); clear hQ hP Q) | apply gwB | apply gwT | apply gwK | apply gwE | apply gwG | apply gwL | simp only [blockG_exit] | (refine gwC ?_ ?_ <;> (intro hb; first | (cases hb; done) | skip))))
    refine ⟨.inr trivial, ?_⟩
    simp [Tryz.results47]
@[simp] theorem rig10N (st : Int) (K : Value → Prop) : callK Tryz.prog G0 47 #[.agg #[.int .i64 st, .slice none 0 0]] K ↔ K (.bool false) := callK_iff G0W (by kernel_rfl) (rig10_nil st)
end Go.Gy
namespace Go.Gy
set_option linter.unusedSimpArgs false
open Go Go.RowKit
section
variable {P : Program} {C : Ctx} {n : Nat} {d : List Deferred} {ro : Option Nat} {s : GS} {K : Exit → GS → Prop}
def RowAtK (κ : IntKind) (m i : Nat) (G : Nat → Int) (e : TypeId) (hp : Hp) (sl : Value) : Prop := (i = 0 ∧ sl = .slice none 0 0) ∨ ∃ (k c : Nat) (g : Nat → Int), 100 ≤ k ∧ sl = .slice (some ⟨k, 0, none⟩) i c ∧ hp k = some ⟨fa (m * c) κ g, .ty e⟩ ∧ i ≤ c ∧ ∀ j, j < m * i → g j = G j
theorem GL_pushK (κ : IntKind) {ops : Array Oper} {o : Oper} {post : List Oper} {base k : Nat} {ts : Nat → Value} {hp : Hp} {yc : Nat} {tx ty : Tmp} {t e : TypeId} {m i j by' : Nat} {z : Value} {T2 : BTy} {G ev : Nat → Int} (hg : o.guard = none) (hd : ∀ dd, o.dst = some dd → dd < n)
    (ho : o.op = .call { callee := .builtin .append, args := #[.tmp tx, .tmp ty], argTypes := #[t, t] }) (ht : P.underlying t = some (.slice e)) (hs : tySize P e = some m) (hz : tyZero P e = some z) (hby : tyBytes P e = some by') (hb8 : by' ≤ 8 * m)
    (hzz : ∀ x ∈ z.cells, x = .int κ 0) (hzs : z.cells.size = m) (hm0 : 0 < m) (hm1 : m ≤ 1024) (hx : RowAtK κ m i G e hp (ts tx)) (hy : ts ty = .slice (some ⟨j, 0, none⟩) 1 1) (hb2 : hp j = some ⟨fa m κ ev, T2⟩) (hev : ∀ q, q < m → ev q = G (m * i + q)) (hi20 : (i + 1) * (8 * m) ≤ 140737488355328)
    (h : ∀ k' c' g', (k' = base + 8 * k ∨ ∃ c, ts tx = .slice (some ⟨k', 0, none⟩) i c) → 100 ≤ k' → i + 1 ≤ c' → (∀ q, q < m * (i + 1) → g' q = G q) →
      GL P C n d ro ops base (k + 1) post (putT ts o.dst (.slice (some ⟨k', 0, none⟩) (i + 1) c')) (upd hp k' (some ⟨fa (m * c') κ g', .ty e⟩)) yc K) (hrd : T2.rd = true := by first | rfl | assumption) : GL P C n d ro ops base k (o :: post) ts hp yc K := by
  have hzf : ∀ q, ∀ x ∈ Builtin.zeroCells z.cells q, flatF x = true := fun q x hx => by rw [hzz x (zc_mem hx)]; rfl
  by_cases hb100 : ¬ 100 ≤ base
  · intro r a W hi hf hb hG hR
    exact absurd hb hb100
  replace hb100 : 100 ≤ base := Classical.not_not.1 hb100
  have hle : m * (i + 1) = m * i + m := by rw [Nat.mul_add, Nat.mul_one]
  have hmi : m * i ≤ 140737488355328 := Nat.le_trans (by rw [Nat.mul_comm]; exact Nat.mul_le_mul (by omega) (by omega)) hi20
  have hi1 : i + 1 ≤ 140737488355328 := Nat.le_trans (Nat.le_mul_of_pos_right _ (by omega)) hi20
  have h8 : (i + 1) * by' ≤ 140737488355328 := Nat.le_trans (Nat.mul_le_mul (Nat.le_refl _) hb8) hi20
  rcases hx with ⟨rfl, hx⟩ | ⟨k0, c, g, hk0, hx, hb, hic, hgG⟩
  · refine GL_app0 (nw := (fa m κ ev).toList) hg hd ho ht hs hz hby hx hy hb2 (fun q u hq => by simpa using hq) fa_list_flat hzf (by omega) (by simp) (by unfold maxLen; omega) (by omega) (fun cap' hc' => ?_)
    rw [zeros_fa (k := κ) hzz, app_new, hzs]
    have em : m + (cap' - 1) * m = m * cap' := by
      have : cap' = (cap' - 1) + 1 := by omega
      rw [this, Nat.mul_add, Nat.mul_comm m]; simp; omega
    rw [em]
    refine h _ cap' _ (.inl rfl) (by omega) (by omega) fun q hq => ?_
    unfold catN
    rw [if_pos (by omega)]
    have := hev q (by omega)
    simpa using this
  · refine GL_app hg hd (appX_mk (c := (fa (m * c) κ g).toList) (c2 := (fa m κ ev).toList) (k := k0) (j := j) (m := 1) (m' := 1) (sl := i) (cap := c) (e := e) (T2 := T2) (sz := m) (by' := by') (z := z) ho ht hs hz hby hx hk0 (by simpa using hb) fa_list_flat hy (by simpa using hb2) fa_list_flat fa_list_one hzf (by simp) (by rw [fa_toList_len, Nat.mul_comm]; exact Nat.le_refl _) hic (by unfold maxLen; omega) h8 (fun hr => ?_) (fun hr cap' hc' => ?_))
    · have hcm : m * (i + 1) ≤ m * c := Nat.mul_le_mul (Nat.le_refl _) hr
      rw [Nat.mul_comm i m, app_room (by omega)]
      refine h k0 c _ (.inr ⟨c, hx⟩) hk0 hr fun q hq => ?_
      unfold putN
      by_cases hq1 : q < m * i
      · rw [if_neg (by omega)]; exact hgG q hq1
      · rw [if_pos (by omega), hev _ (by omega)]; congr 1; omega
    · have hcm : m * i ≤ m * c := Nat.mul_le_mul (Nat.le_refl _) hic
      rw [Nat.mul_comm i m, zeros_fa (k := κ) hzz, hzs, app_grow (by omega)]
      have em : m * i + m + (cap' - (i + 1)) * m = m * cap' := by
        obtain ⟨x, rfl⟩ : ∃ x, cap' = i + 1 + x := ⟨cap' - (i + 1), by omega⟩
        rw [show i + 1 + x - (i + 1) = x by omega, Nat.mul_add, Nat.mul_add, Nat.mul_one, Nat.mul_comm x m]
      rw [em]
      refine h _ cap' _ (.inl rfl) (by omega) hc' fun q hq => ?_
      unfold catN
      by_cases hq1 : q < m * i
      · rw [if_pos hq1]; exact hgG q hq1
      · rw [if_neg hq1, if_pos (by omega), hev _ (by omega)]; congr 1; omega
theorem FunS.mvL {G : Hp} {f : FuncId} {args args' : Array Value} {m : List (Nat × Blk)} {B : Nat} {R R' : Value → List (Nat × Blk) → Prop} {hp' : Hp} {rs' : List Nat} (h : FunS P G f args (hpL G m) (keys m) R) (hGF : GFlat G) (hm : LOk m B) (ρ : Nat → Nat) (hlow : ∀ k, k < 100 → ρ k = k)
    (ea : args.map (ren ρ) = args') (er : (keys m).map ρ = rs') (eR : RR ρ R = R') (hp0 : ∀ k, k < 100 → hp' k = G k) (hat : ∀ p ∈ m, 100 ≤ ρ p.1 ∧ hp' (ρ p.1) = some (p.2.rn ρ)) (hinj : ∀ k ∈ keys m, ∀ l ∈ keys m, ρ k = ρ l → k = l)
    (hnew : ∀ v ns, R v ns → ∀ k ∈ keys ns, 100 ≤ ρ k ∧ ρ k ∉ rs') (hnj : ∀ v ns, R v ns → ∀ k ∈ keys ns, ∀ l ∈ keys ns, ρ k = ρ l → k = l) : FunS P G f args' hp' rs' R' := by
  subst ea er eR
  refine h.rn ρ hGF hm.low (rn_ofL hm ρ hlow hp0 hat hinj) (fun v ns hR k hk => ?_) hnj
  obtain ⟨h1, h2⟩ := hnew v ns hR k hk
  refine ⟨h1, fun hd => hd ?_⟩
  unfold rst
  rw [if_neg]
  rintro (h3 | h3)
  · omega
  · exact h2 h3
theorem GL_callL {G : Hp} {ops : Array Oper} {o : Oper} {post : List Oper} {base k : Nat} {ts : Nat → Value} {hp hp' : Hp} {yc : Nat} {c : Call} {f : Operand} {g : FuncId} {cap : Array Value} {rs : List Nat} {args : Array Value} {R : Value → List (Nat × Blk) → Prop} (hCG : C.G = G) (hr : FunS P G g args hp' rs R) (hg : o.guard = none) (hd : ∀ dd, o.dst = some dd → dd < n)
    (ho : o.op = .call c) (hc : c.callee = .value f) (hf : okT ts f) (hgf : gev ts f = .func (.func g) #[] cap) (hcp : cap.all plain0 = true) (ha : ∀ x ∈ c.args.toList, okX ts hp x) (hargs : c.args.map (gev ts) ++ cap = args)
    (h1 : ∀ q ∈ rs, hp' q = hp q) (h2 : ∀ q, q < 100 → hp' q = hp q) (hat : ∀ v ns, R v ns → ∀ q ∈ keys ns, base + 8 * k ≤ q ∧ q < base + 8 * k + 8)
    (h : ∀ v ns, R v ns → GL P C n d ro ops base (k + 1) post (putT ts o.dst v) (updL hp ns) yc K) : GL P C n d ro ops base k (o :: post) ts hp yc K := by
  subst hCG
  exact GL_callS hg hd ho hc hf hgf hcp ha hargs hr h1 h2 hat h
end
end Go.Gy
namespace Go.Gy
set_option linter.unusedSimpArgs false
set_option linter.unusedVariables false
open Go Go.RowKit Go.Proofs
theorem nilL_ok : LOk [] 200 := ⟨by simp, by simp [keys], by simp⟩
def stB' (st : Int) (k off n cap : Nat) : Blk := ⟨#[.int .i64 st, .slice (some ⟨k, off, none⟩) n cap], .ty 27⟩
end Go.Gy
namespace Go.Gy
open Go Go.RowKit Go.Proofs
theorem inV_iff {m x y z : Int} : inV m x y z = true ↔ inW m x ∧ inW m y ∧ inW m z := by unfold inV; exact decide_eq_true_iff
theorem right_n {st : Int} {f : Nat → Int} {n : Nat} (h : rightB st f n = true) : (-1073741824 ≤ st ∧ st ≤ 1073741824) ∧ (1 ≤ n ∧ n ≤ 4) ∧ ∀ i, i < n → inB 1048576 65536 f i = true := by
  unfold rightB stB at h
  simp only [Bool.and_eq_true, decide_eq_true_eq] at h
  exact ⟨h.1.1, h.1.2, allB_iff.1 h.2⟩
theorem right_b {st : Int} {f : Nat → Int} {n : Nat} (h : rightB st f n = true) {i : Nat} (hi : i < n) : (inW 1048576 (f (6 * i)) ∧ inW 1048576 (f (6 * i + 1)) ∧ inW 1048576 (f (6 * i + 2))) ∧ (inW 65536 (f (6 * i + 3)) ∧ inW 65536 (f (6 * i + 4)) ∧ inW 65536 (f (6 * i + 5))) := by
  have := (right_n h).2.2 i hi
  unfold inB at this
  rw [Bool.and_eq_true, inV_iff, inV_iff] at this
  exact this
end Go.Gy
namespace Go.Gy
set_option linter.unusedSimpArgs false
set_option linter.unusedVariables false
open Go Go.RowKit Go.Proofs
def sumN (f : Nat → Int) : Nat → Int
  | 0 => 0
  | n + 1 => sumN f n + f n
def sum2 (F : Nat → Nat → Int) : Nat → Int
  | 0 => 0
  | n + 1 => sum2 F n + sumN (F n) n
theorem sumN_congr {f g : Nat → Int} : ∀ {n : Nat}, (∀ i, i < n → f i = g i) → sumN f n = sumN g n
  | 0, _ => rfl
  | n + 1, h => by
    unfold sumN
    rw [sumN_congr (fun i hi => h i (by omega)), h n (by omega)]
theorem sum2_congr {F H : Nat → Nat → Int} : ∀ {n : Nat}, (∀ i k, k < i → i < n → F i k = H i k) → sum2 F n = sum2 H n
  | 0, _ => rfl
  | n + 1, h => by
    unfold sum2
    rw [sum2_congr (fun i k h1 h2 => h i k h1 (by omega)), sumN_congr (fun k hk => h n k hk (by omega))]
theorem sumN_bd {f : Nat → Int} {lo hi : Int} : ∀ {n : Nat}, (∀ i, i < n → lo ≤ f i ∧ f i ≤ hi) → n * lo ≤ sumN f n ∧ sumN f n ≤ n * hi
  | 0, _ => by simp [sumN]
  | n + 1, h => by
    have h1 := sumN_bd (n := n) fun i hi => h i (by omega)
    have h2 := h n (by omega)
    unfold sumN
    rw [Int.natCast_succ, Int.add_mul, Int.add_mul]
    omega
theorem sum2_zero {Z : Nat → Nat → Int} (h0 : ∀ i k, Z i k = 0 ∨ Z i k = 1) (n : Nat) : sum2 Z n = 0 ↔ ∀ i k, k < i → i < n → Z i k = 0 := by
  have hN : ∀ (f : Nat → Int) (m : Nat), (∀ k, f k = 0 ∨ f k = 1) → 0 ≤ sumN f m ∧ (sumN f m = 0 ↔ ∀ k, k < m → f k = 0) := by
    intro f m hf
    induction m with
    | zero => simp [sumN]
    | succ m ih =>
      unfold sumN
      obtain ⟨i1, i2⟩ := ih
      have hm := hf m
      refine ⟨by omega, ?_, ?_⟩
      · intro h k hk
        by_cases hkm : k = m
        · subst hkm; omega
        · exact i2.1 (by omega) k (by omega)
      · intro h
        have := i2.2 fun k hk => h k (by omega)
        have := h m (by omega)
        omega
  have h2 : 0 ≤ sum2 Z n ∧ (sum2 Z n = 0 ↔ ∀ i k, k < i → i < n → Z i k = 0) := by
    induction n with
    | zero => simp [sum2]
    | succ n ih =>
      unfold sum2
      obtain ⟨i1, i2⟩ := ih
      obtain ⟨j1, j2⟩ := hN (Z n) n (h0 n)
      refine ⟨by omega, ?_, ?_⟩
      · intro h i k hk hi
        by_cases hin : i = n
        · subst hin; exact j2.1 (by omega) k hk
        · exact i2.1 (by omega) i k hk (by omega)
      · intro h
        have := i2.2 fun i k hk hi => h i k hk (by omega)
        have := j2.2 fun k hk => h n k hk (by omega)
        omega
  exact h2.2
def wF (x : Nat → Int) (j : Nat) : Int := wi (x (j / 4)) (j % 4)
def wRow (c : Nat) (g : Nat → Int) : Blk := ⟨fa (4 * c) .u64 g, .ty 30⟩
theorem wRow_fx (c : Nat) (g : Nat → Int) : (wRow c g).fx := fun x hx => by
  obtain ⟨m, rfl⟩ := fa_mem hx
  rfl
theorem wRow_ok (c : Nat) (g : Nat → Int) : LOk [(100, wRow c g)] 200 := oneL_ok (wRow_fx c g)
theorem wRow_rd {c n : Nat} {g : Nat → Int} {x : Nat → Int} (hg : ∀ j, j < 4 * n → g j = wF x j) {i : Nat} (hi : i < n) (hc : n ≤ c) : (fa (4 * c) .u64 g).extract (i * 4) (i * 4 + 4) = #[.int .u64 (wi (x i) 0), .int .u64 (wi (x i) 1), .int .u64 (wi (x i) 2), .int .u64 (wi (x i) 3)] := by
  have h : ∀ k, k < 4 → g (i * 4 + k) = wi (x i) k := fun k hk => by
    rw [hg _ (by omega)]
    unfold wF
    rw [show (i * 4 + k) / 4 = i by omega, show (i * 4 + k) % 4 = k by omega]
  rw [← h 0 (by omega), ← h 1 (by omega), ← h 2 (by omega), ← h 3 (by omega)]
  apply Array.ext
  · simp; omega
  · intro k h1 h2
    simp at h2
    rw [Array.getElem_extract, fa_gete]
    have : k = 0 ∨ k = 1 ∨ k = 2 ∨ k = 3 := by omega
    rcases this with rfl | rfl | rfl | rfl <;> rfl
theorem wr_small {a : Int} (h0 : 0 ≤ a) (h1 : a ≤ 9223372036854775807) : wr a := i64_wr ⟨by omega, by omega⟩
def smSt (c n cap : Nat) (g x : Nat → Int) (i : Nat) : GS :=
  ⟨tsL [(2, .pointer (some ⟨200, 0, none⟩)), (3, .bool false), (8, .slice (some ⟨100, 0, none⟩) n cap), (9, .int .i64 n), (10, .int .i64 i)],
   hpL G0 [(100, wRow c g), (200, ⟨#[.int .u64 (wi (sumN x i) 0), .int .u64 (wi (sumN x i) 1), .int .u64 (wi (sumN x i) 2), .int .u64 (wi (sumN x i) 3)], .ty 30⟩)], 400, 0⟩
theorem wSum_fun (c n : Nat) (g x : Nat → Int) (hnc : n ≤ c) (hn : n ≤ 1000) (hg : ∀ j, j < 4 * n → g j = wF x j) (hx : ∀ j, j < n → 0 ≤ x j ∧ x j ≤ 1152921504606846) :
    Fun Tryz.prog G0 36 #[.slice (some ⟨100, 0, none⟩) n c] (hpL G0 [(100, wRow c g)]) (keys [(100, wRow c g)]) (.ret (.tuple #[wd (sumN x n), .bool false]) []) := by
  refine fun_ofL (B := 200) G0F Tryz.func36 rfl Tryz.call36 (wRow_ok c g) ?_ ?_ (by simp) (by simp) (by simp [Tryz.ntmps36]) (by omega) ?_
  · simp [idsV, idsA, idsF, ids0, keys]
  · exact flatV_ids (by simp)
  intro C hC hC0 hY
  have hid : ∀ D, Blk.ids D ⟨fa (4 * c) .u64 g, .ty 30⟩ := fun D => Blk.fx_ids (wRow_fx c g) D
  have e0 : sumN x 0 = 0 := rfl
  unfold wRow at hC0 ⊢
  repeat' (first | apply gwS | simp only [wN, wM, Nat.reduceAdd, Nat.reduceMul] | ((first | refine gwR [] ?_ | refine gwD [] ?_); intro Q hQ hP; simp [hC, hY, wi_zero]; (first | refine hQ _ _ _ _ (by kernel_rfl) ?_ | refine hP _ _ (by kernel_rfl) fun _ => ?_); clear hQ hP Q) | apply gwB | apply gwT | apply gwK | apply gwE | apply gwG | apply gwL | simp only [blockG_exit] | (refine gwC ?_ ?_ <;> (intro hb; first | (cases hb; done) | skip)))
  refine GW_for n (smSt c n c g x) ?_ ?_ ?_
  · refine weakL _ 400 hC G0F (m0 := [(100, ⟨fa (4 * c) .u64 g, .ty 30⟩)]) hC0 (by omega) ?_ ?_ ?_
    · simp [smSt, wRow, idsV, idsA, idsF, ids0, dom]
    · simp [smSt, wRow, ids_lit, idsF, ids0, hid, e0, wi_zero]
    · simp [smSt, wRow, e0, wi_zero]
  · intro i hi
    have hi' : (i : Int) < n := by omega
    have hz : (0 : Int) ≤ i := by omega
    have hs : Int.bmod ((i : Int) + 1) 18446744073709551616 = ((i + 1 : Nat) : Int) := by rw [bm (by omega) (by omega)]; rfl
    have hrd := wRow_rd hg hi hnc
    have hle : i * 4 + 4 ≤ 4 * c := by omega
    have hxi := hx i hi
    have hb := sumN_bd (f := x) (n := i) (lo := 0) (hi := 1152921504606846) fun j hj => hx j (by omega)
    have hb1 : sumN x i ≤ 1000 * 1152921504606846 := Int.le_trans hb.2 (Int.mul_le_mul_of_nonneg_right (by omega) (by omega))
    have hb0 : 0 ≤ sumN x i := by omega
    have w1 := wr_small hb0 (by omega)
    have w2 := wr_small hxi.1 (by omega)
    have w3 : wr (sumN x i + x i) := wr_small (by omega) (by omega)
    have g1 := ng_f w1 hb0
    have g2 := ng_f w2 hxi.1
    have g3 := ng_f w3 (by omega)
    have es : sumN x (i + 1) = sumN x i + x i := rfl
    unfold smSt wRow
    repeat' (first | apply gwS | simp only [wN, wM, Nat.reduceAdd, Nat.reduceMul] | ((first | refine gwR [] ?_ | refine gwD [] ?_); intro Q hQ hP; simp [hC, hY, hi', hz, hrd, hle]; (first | refine hQ _ _ _ _ (by kernel_rfl) ?_ | refine hP _ _ (by kernel_rfl) fun _ => ?_); clear hQ hP Q) | apply gwB | apply gwT | apply gwK | apply gwE | apply gwG | apply gwL | simp only [blockG_exit] | (refine gwC ?_ ?_ <;> (intro hb; first | (cases hb; done) | skip)))
    refine weakL _ 400 hC G0F (m0 := [(100, ⟨fa (4 * c) .u64 g, .ty 30⟩)]) hC0 (by omega) ?_ ?_ ?_
    · simp [idsV, idsA, idsF, ids0, dom, hs, g1, g2, g3]
    · simp [ids_lit, idsF, ids0, hid, es]
    · simp [es]
  · unfold smSt wRow
    repeat' (first | apply gwS | simp only [wN, wM, Nat.reduceAdd, Nat.reduceMul] | ((first | refine gwR [] ?_ | refine gwD [] ?_); intro Q hQ hP; simp [hC, hY]; (first | refine hQ _ _ _ _ (by kernel_rfl) ?_ | refine hP _ _ (by kernel_rfl) fun _ => ?_); clear hQ hP Q) | apply gwB | apply gwT | apply gwK | apply gwE | apply gwG | apply gwL | simp only [blockG_exit] | (refine gwC ?_ ?_ <;> (intro hb; first | (cases hb; done) | skip)))
    refine ⟨.inr rfl, by simp [Tryz.results36], keep_of G0F (by simp) (by (intro k hk; first | rfl | (simp (disch := omega) only [addB, List.mem_cons, List.not_mem_nil, or_false, upd_other, hpL_cons, hpL_nil, if_neg, updL] <;> done)))⟩
end Go.Gy
namespace Go.Gy
set_option linter.unusedSimpArgs false
set_option linter.unusedVariables false
open Go Go.RowKit Go.Proofs
end Go.Gy
