/-
  Lemmas of this claim, in their order (GyY6, GyY7, GyZ1, GyZ2, GyZ3, GyW1, GyH, GyRD, GyRE, GyRA, GyRB).
  Conditions: those of each theorem.
-/
import Derived.Test.YtggidgaeggekhaaDoorGz03
import Derived.Test.YtggidgaeggekhaaDoorCards
import Derived.Test.YtggidgaeggekhaaDoorTie
import Derived.WalkKit
import Derived.ProofKit
import Derived.OpenShut
import Derived.Below
import Derived.ChangeSame
import Derived.Deep.DeepHandedRow
import Derived.Lib.LaidTab
namespace Go.Gy
set_option linter.unusedSimpArgs false
set_option linter.unusedVariables false
open Go Go.RowKit Go.Proofs

def pnHp (a b : Int) (k : Nat) : Hp := hpL G0 [(200, wb (rA a b k)), (208, wb b), (216, ⟨fa 4 .u64 (wi (qA a b k)), 24⟩), (224, zB)]
def pnTs : Nat → Value := tsL [(2, .pointer (some ⟨200, 0, none⟩)), (3, .pointer (some ⟨208, 0, none⟩)), (4, .pointer (some ⟨216, 0, none⟩)), (5, .pointer (some ⟨224, 0, none⟩))]
set_option maxHeartbeats 1000000 in
theorem plain_ret (a b : Int) (ha0 : 0 ≤ a) (ha : a < 57896044618658097711785492504343953926634992332820282019728792003956564819968) (hb0 : 0 < b) (hb1 : b < 57896044618658097711785492504343953926634992332820282019728792003956564819968) :
    Ret Tryd.prog G0 110 #[wd a, wd b] (.tuple #[wd (a / b), wd (a % b)]) := by
  refine ret_of G0F Tryd.func110 rfl Tryd.call110 (by simp) (by simp) (by simp [Tryd.ntmps110]) ?_
  intro C hC hC0 hY
  have hup := shN_up a b ha0 hb0 (by omega) (by omega)
  have hbd := shN_bd a b
  have hna : nbits a ≤ 255 := (nbits_bd 255 (by omega)).2
  have hlt : shN a b < 256 := by
    have ea : uz a = a := by unfold uz; omega
    have hnb := nbits_bd 256 (uz_bd b).2
    unfold shN; rw [ea]; omega
  have hit := shifts_it a b hlt
  generalize shN a b = N at *
  repeat' (first
    | refine GW_seq ?_
    | simp only [List.length_cons, List.length_nil, Nat.reduceAdd, Nat.reduceMul, thenG_normal, thenG_ret, thenG_exit, thenG_goto, thenG_panic, blockG_normal, blockG_ret, blockG_goto, blockG_panic, jumpG_normal, jumpG_ret, jumpG_exit, jumpG_panic]
    | (refine GW_region' [] (by kernel_rfl) ?_; intro Q hQ hP; simp [hC, hY]; (first | refine hQ _ _ _ _ ?_ | refine hP _ _ (fun _ => ?_)); clear hQ hP Q)
    | (refine GW_draw' [] follows (by kernel_rfl) (by kernel_rfl) ?_; intro Q hQ hP; simp [hC, hY]; (first | refine hQ _ _ _ _ (by kernel_rfl) ?_ | refine hP _ _ (by kernel_rfl) (fun _ => ?_)); clear hQ hP Q)
    | refine GW_block ?_
    | refine GW_ret ?_
    | refine GW_skip ?_
    | refine GW_exit ?_
    | refine GW_goto ?_
    | refine GW_label ?_
    | simp only [blockG_exit]
    | (refine GW_cond (by simp; rfl) ?_ ?_ <;> (intro hb; first | (exfalso; exact absurd hb (by decide)) | skip)))
  refine GW_region' [119] (by kernel_rfl) ?_; intro Q hQ hP; simp [hC, hY]
  refine heapK_of (shifts_new a b 248 (by omega)) (by simp) (fun _ _ => rfl) (by simp [Res.at]) ?_
  simp
  refine hQ _ _ _ _ ?_; clear hQ hP Q
  repeat' (first
    | refine GW_seq ?_
    | simp only [List.length_cons, List.length_nil, Nat.reduceAdd, Nat.reduceMul, thenG_normal, thenG_ret, thenG_exit, thenG_goto, thenG_panic, blockG_normal, blockG_ret, blockG_goto, blockG_panic, jumpG_normal, jumpG_ret, jumpG_exit, jumpG_panic]
    | (refine GW_region' [] (by kernel_rfl) ?_; intro Q hQ hP; simp [hC, hY]; (first | refine hQ _ _ _ _ ?_ | refine hP _ _ (fun _ => ?_)); clear hQ hP Q)
    | (refine GW_draw' [] follows (by kernel_rfl) (by kernel_rfl) ?_; intro Q hQ hP; simp [hC, hY]; (first | refine hQ _ _ _ _ (by kernel_rfl) ?_ | refine hP _ _ (by kernel_rfl) (fun _ => ?_)); clear hQ hP Q)
    | refine GW_block ?_
    | refine GW_ret ?_
    | refine GW_skip ?_
    | refine GW_exit ?_
    | refine GW_goto ?_
    | refine GW_label ?_
    | simp only [blockG_exit]
    | (refine GW_cond (by simp; rfl) ?_ ?_ <;> (intro hb; first | (exfalso; exact absurd hb (by decide)) | skip)))
  refine GW_range (f := 123) (rs := [248, 249]) (xs := shXs b N) (caps := #[.pointer (some ⟨248, 0, none⟩), .pointer (some ⟨249, 0, none⟩)]) (by simp) ?_ ?_ (by simp [Tryd.ntmps110]) pnTs (fun i => pnHp a b (N + 1 - (i : Int)).toNat) 300 (N + 1).toNat (by rw [shXs_len]; omega) ?_ ?_ ?_ ?_ ?_
  · rw [hC]
    refine IterG.cast (IterX.rn (fun k => if k = 100 then 248 else if k = 101 then 249 else k) G0F (fun k hk => hpL_low (by simp) hk) (rs := [100, 101]) ?_ hit) (by simp [ren0]) (by simp)
    refine ⟨fun k hk => ?_, ?_, ?_, ?_⟩
    · have h1 : ¬ k = 100 := by omega
      have h2 : ¬ k = 101 := by omega
      have h3 : ¬ k = 200 := by omega
      have h4 : ¬ k = 208 := by omega
      have h5 : ¬ k = 216 := by omega
      have h6 : ¬ k = 224 := by omega
      have h8 : ¬ k = 248 := by omega
      have h9 : ¬ k = 249 := by omega
      simp [h1, h2, h3, h4, h5, h6, h8, h9, wHp]
    · simp
    · simp [wHp, wb, Blk.rn, renF, ren0]
    · simp
  · intro x hx
    simp only [shXs, List.mem_map] at hx
    obtain ⟨i, _, rfl⟩ := hx
    simp
  · have e := dA_begin a b (N + 1).toNat ha0 hup.1
    refine weakL _ 300 hC G0F (m0 := []) hC0 (by omega) ?_ ?_ ?_
    · simp [dom]
    · simp [zB, wb, e.1, e.2, fa_4, wi_zero]
    · simp
  · simp [pnHp, dom]
  · intro i hi t
    refine tsL_ids ?_ t
    simp [dom, pnHp]
  · intro i x hi hx C1 l hC1 hh1 hY1
    have hCC := hC
    have hC1' : C1.G = G0 := hC1.trans hC
    obtain ⟨n, hn⟩ : ∃ n : Nat, N - (i : Int) = n := ⟨(N - i).toNat, by omega⟩
    rw [shXs_at b N i hi, hn] at hx
    have e1 : (N + 1 - (i : Int)).toNat = n + 1 := by omega
    have e2 : (N + 1 - ((i + 1 : Nat) : Int)).toNat = n := by omega
    simp only [e1, e2]
    cases hx
    have hD : b * 2 ^ n < 57896044618658097711785492504343953926634992332820282019728792003956564819968 := by
      have h1 := hup.2 (by omega)
      have h2 : (2 : Int) ^ n ≤ 2 ^ N.toNat := by exact_mod_cast Nat.pow_le_pow_right (by omega) (by omega : n ≤ N.toNat)
      have h3 : b * 2 ^ n ≤ b * 2 ^ N.toNat := Int.mul_le_mul_of_nonneg_left h2 (by omega)
      have h4 : (2 : Int) ^ (nbits a).toNat ≤ 2 ^ 255 := by exact_mod_cast Nat.pow_le_pow_right (by omega) (by omega : (nbits a).toNat ≤ 255)
      omega
    have hD0 : 0 < b * 2 ^ n := Int.mul_pos hb0 (pow_pos2 _)
    have hM0 : 0 < b * 2 ^ (n + 1) := Int.mul_pos hb0 (pow_pos2 _)
    have hA0 : 0 ≤ rA a b (n + 1) := Int.emod_nonneg _ (by omega)
    have hA1 : rA a b (n + 1) ≤ a := by
      have h1 := Int.emod_add_mul_ediv a (b * 2 ^ (n + 1))
      have h2 : 0 ≤ b * 2 ^ (n + 1) * (a / (b * 2 ^ (n + 1))) := Int.mul_nonneg (by omega) (Int.ediv_nonneg ha0 (by omega))
      unfold rA; omega
    have szD : sz (b * 2 ^ n) = b * 2 ^ n := sz_pos (Int.le_of_lt hD0) hD
    have szA : sz (rA a b (n + 1)) = rA a b (n + 1) := sz_pos hA0 (Int.lt_of_le_of_lt hA1 ha)
    obtain ⟨t, r, hr, hn'⟩ : ∃ t r, r < 64 ∧ n = 64 * t + r := ⟨n / 64, n % 64, by omega, by omega⟩
    have tq : ((n : Int)).tdiv 64 = t := by rw [Int.tdiv_eq_ediv_of_nonneg (by omega)]; omega
    have tm : ((n : Int)).tmod 64 = r := by rw [Int.tmod_eq_emod_of_nonneg (by omega)]; omega
    have t4 : t < 4 := by omega
    have t4' : (t : Int) < 4 := by omega
    have t0 : (0 : Int) ≤ t := by omega
    have tb : Int.bmod (t : Int) 18446744073709551616 = t := bm (by omega) (by omega)
    have t3 : t ≤ 3 := Nat.le_of_lt_succ t4
    have t3' : (t : Int) ≤ 3 := Int.le_of_lt_add_one t4'
    have m1 : min r 64 = r := by omega
    have m2 : (2 : Int) ^ r % 18446744073709551616 = 2 ^ r := Int.emod_eq_of_lt (Int.le_of_lt (pow_pos2 _)) (by
      have : (2 : Int) ^ r < 2 ^ 64 := by exact_mod_cast Nat.pow_lt_pow_right (by omega) hr
      exact this)
    have hst := dA_step a b hb0 n
    replace hC := hC1'
    replace hY := hY1
    by_cases hle : b * 2 ^ n ≤ rA a b (n + 1)
    · have hcmp : cmpI (sz (b * 2 ^ n)) (sz (rA a b (n + 1))) ≤ 0 := by rw [szD, szA]; unfold cmpI; split <;> (try split) <;> omega
      obtain ⟨s1, s2⟩ := hst.1 hle
      have hb1 := wi_bit (a / (b * 2 ^ (64 * t + r + 1))) t r hr
      have hb2 := wi_other (a / (b * 2 ^ (64 * t + r + 1))) t r
      rw [← hn'] at hb1 hb2
      replace hb1 : bitI .or .u64 (wi (qA a b (n + 1)) t) (2 ^ r) = wi (qA a b n) t := by rw [s2]; exact hb1
      replace hb2 : ∀ j, j ≠ t → wi (qA a b n) j = wi (qA a b (n + 1)) j := fun j hj => by rw [s2]; exact hb2 j hr hj
      have hq : fa 4 .u64 (upd (wi (qA a b (n + 1))) t (wi (qA a b n) t)) = fa 4 .u64 (wi (qA a b n)) := fa_congr fun j _ => by
        unfold upd; split
        · rename_i h; rw [h]
        · rename_i h; rw [hb2 j h]
      unfold pnHp
      repeat' (first
        | refine GW_seq ?_
        | simp only [List.length_cons, List.length_nil, Nat.reduceAdd, Nat.reduceMul, thenG_normal, thenG_ret, thenG_exit, thenG_goto, thenG_panic, blockG_normal, blockG_ret, blockG_goto, blockG_panic, jumpG_normal, jumpG_ret, jumpG_exit, jumpG_panic]
        | (refine GW_region' [] (by kernel_rfl) ?_; intro Q hQ hP; simp [hC, hY, roundTs, pnTs]; (first | refine hQ _ _ _ _ ?_ | refine hP _ _ (fun _ => ?_)); clear hQ hP Q)
        | (refine GW_draw' [] follows (by kernel_rfl) (by kernel_rfl) ?_; intro Q hQ hP; simp [hC, hY, roundTs, pnTs]; (first | refine hQ _ _ _ _ (by kernel_rfl) ?_ | refine hP _ _ (by kernel_rfl) (fun _ => ?_)); clear hQ hP Q)
        | refine GW_block ?_
        | refine GW_ret ?_
        | refine GW_skip ?_
        | refine GW_exit ?_
        | refine GW_goto ?_
        | refine GW_label ?_
        | simp only [blockG_exit]
        | (refine GW_cond (by simp; rfl) ?_ ?_ <;> (intro hb; first | (exfalso; exact absurd hb (by decide)) | skip)))
      intro C2 hC2 hh2 hY2
      replace hC : C2.G = G0 := hC2.trans hCC
      replace hY := hY2
      repeat' (first
        | refine GW_seq ?_
        | simp only [List.length_cons, List.length_nil, Nat.reduceAdd, Nat.reduceMul, thenG_normal, thenG_ret, thenG_exit, thenG_goto, thenG_panic, blockG_normal, blockG_ret, blockG_goto, blockG_panic, jumpG_normal, jumpG_ret, jumpG_exit, jumpG_panic]
        | (refine GW_region' [] (by kernel_rfl) ?_; intro Q hQ hP; simp [hC, hY, roundTs, pnTs, wb, hcmp, tq, tm, t4, t4', t0, t3, t3', tb, m1, m2, fa_get, fa_set, hb1]; (first | refine hQ _ _ _ _ ?_ | refine hP _ _ (fun _ => ?_)); clear hQ hP Q)
        | (refine GW_draw' [] follows (by kernel_rfl) (by kernel_rfl) ?_; intro Q hQ hP; simp [hC, hY, roundTs, pnTs, wb, hcmp, tq, tm, t4, t4', t0, t3, t3', tb, m1, m2, fa_get, fa_set, hb1]; (first | refine hQ _ _ _ _ (by kernel_rfl) ?_ | refine hP _ _ (by kernel_rfl) (fun _ => ?_)); clear hQ hP Q)
        | refine GW_block ?_
        | refine GW_ret ?_
        | refine GW_skip ?_
        | refine GW_exit ?_
        | refine GW_goto ?_
        | refine GW_label ?_
        | simp only [blockG_exit]
        | (refine GW_cond (by simp; rfl) ?_ ?_ <;> (intro hb; first | (exfalso; exact absurd hb (by decide)) | skip)))
      refine weakL [] 300 hC1' G0F hh1 (by omega) ?_ ?_ ?_
      · simp
      · simp [fa_ids, ids_lit, wb, zB, hq, s1]
      · simp [wb, zB, hq, s1]
    · have hcmp : ¬ cmpI (sz (b * 2 ^ n)) (sz (rA a b (n + 1))) ≤ 0 := by rw [szD, szA]; unfold cmpI; split <;> (try split) <;> omega
      obtain ⟨s1, s2⟩ := hst.2 (by omega)
      unfold pnHp
      repeat' (first
        | refine GW_seq ?_
        | simp only [List.length_cons, List.length_nil, Nat.reduceAdd, Nat.reduceMul, thenG_normal, thenG_ret, thenG_exit, thenG_goto, thenG_panic, blockG_normal, blockG_ret, blockG_goto, blockG_panic, jumpG_normal, jumpG_ret, jumpG_exit, jumpG_panic]
        | (refine GW_region' [] (by kernel_rfl) ?_; intro Q hQ hP; simp [hC, hY, roundTs, pnTs]; (first | refine hQ _ _ _ _ ?_ | refine hP _ _ (fun _ => ?_)); clear hQ hP Q)
        | (refine GW_draw' [] follows (by kernel_rfl) (by kernel_rfl) ?_; intro Q hQ hP; simp [hC, hY, roundTs, pnTs]; (first | refine hQ _ _ _ _ (by kernel_rfl) ?_ | refine hP _ _ (by kernel_rfl) (fun _ => ?_)); clear hQ hP Q)
        | refine GW_block ?_
        | refine GW_ret ?_
        | refine GW_skip ?_
        | refine GW_exit ?_
        | refine GW_goto ?_
        | refine GW_label ?_
        | simp only [blockG_exit]
        | (refine GW_cond (by simp; rfl) ?_ ?_ <;> (intro hb; first | (exfalso; exact absurd hb (by decide)) | skip)))
      intro C2 hC2 hh2 hY2
      replace hC : C2.G = G0 := hC2.trans hCC
      replace hY := hY2
      repeat' (first
        | refine GW_seq ?_
        | simp only [List.length_cons, List.length_nil, Nat.reduceAdd, Nat.reduceMul, thenG_normal, thenG_ret, thenG_exit, thenG_goto, thenG_panic, blockG_normal, blockG_ret, blockG_goto, blockG_panic, jumpG_normal, jumpG_ret, jumpG_exit, jumpG_panic]
        | (refine GW_region' [] (by kernel_rfl) ?_; intro Q hQ hP; simp [hC, hY, roundTs, pnTs, wb, hcmp]; (first | refine hQ _ _ _ _ ?_ | refine hP _ _ (fun _ => ?_)); clear hQ hP Q)
        | (refine GW_draw' [] follows (by kernel_rfl) (by kernel_rfl) ?_; intro Q hQ hP; simp [hC, hY, roundTs, pnTs, wb, hcmp]; (first | refine hQ _ _ _ _ (by kernel_rfl) ?_ | refine hP _ _ (by kernel_rfl) (fun _ => ?_)); clear hQ hP Q)
        | refine GW_block ?_
        | refine GW_ret ?_
        | refine GW_skip ?_
        | refine GW_exit ?_
        | refine GW_goto ?_
        | refine GW_label ?_
        | simp only [blockG_exit]
        | (refine GW_cond (by simp; rfl) ?_ ?_ <;> (intro hb; first | (exfalso; exact absurd hb (by decide)) | skip)))
      refine weakL [] 300 hC1' G0F hh1 (by omega) ?_ ?_ ?_
      · simp
      · simp [fa_ids, ids_lit, wb, zB, s1, s2]
      · simp [wb, zB, s1, s2]
  · left
    refine ⟨by rw [shXs_len], ?_⟩
    have e : (N + 1 - ((N + 1).toNat : Int)).toNat = 0 := by omega
    have ed := dA_end a b
    rw [e]
    unfold pnHp pnTs
    rw [ed.1, ed.2]
    repeat' (first
      | refine GW_seq ?_
      | simp only [List.length_cons, List.length_nil, Nat.reduceAdd, Nat.reduceMul, thenG_normal, thenG_ret, thenG_exit, thenG_goto, thenG_panic, blockG_normal, blockG_ret, blockG_goto, blockG_panic, jumpG_normal, jumpG_ret, jumpG_exit, jumpG_panic]
      | (refine GW_region' [] (by kernel_rfl) ?_; intro Q hQ hP; simp [hC, hY, wb, fa_4, zB]; (first | refine hQ _ _ _ _ ?_ | refine hP _ _ (fun _ => ?_)); clear hQ hP Q)
      | (refine GW_draw' [] follows (by kernel_rfl) (by kernel_rfl) ?_; intro Q hQ hP; simp [hC, hY, wb, fa_4, zB]; (first | refine hQ _ _ _ _ (by kernel_rfl) ?_ | refine hP _ _ (by kernel_rfl) (fun _ => ?_)); clear hQ hP Q)
      | refine GW_block ?_
      | refine GW_ret ?_
      | refine GW_skip ?_
      | refine GW_exit ?_
      | refine GW_goto ?_
      | refine GW_label ?_
      | simp only [blockG_exit]
      | (refine GW_cond (by simp; rfl) ?_ ?_ <;> (intro hb; first | (exfalso; exact absurd hb (by decide)) | skip)))
    refine ⟨.inr trivial, ?_⟩
    simp [Tryd.results110]
@[simp] theorem qplain (a b : Int) (ha0 : 0 ≤ a) (ha : a < 57896044618658097711785492504343953926634992332820282019728792003956564819968) (hb0 : 0 < b) (hb1 : b < 57896044618658097711785492504343953926634992332820282019728792003956564819968) (K : Value → Prop) :
    callK Tryd.prog G0 110 #[Value.agg #[.int .u64 (wi (a) 0), .int .u64 (wi (a) 1), .int .u64 (wi (a) 2), .int .u64 (wi (a) 3)], Value.agg #[.int .u64 (wi (b) 0), .int .u64 (wi (b) 1), .int .u64 (wi (b) 2), .int .u64 (wi (b) 3)]] K ↔ K (.tuple #[wd (a / b), wd (a % b)]) := callK_iff G0W (by kernel_rfl) (plain_ret a b ha0 ha hb0 hb1)
end Go.Gy
namespace Go.Gy
set_option linter.unusedSimpArgs false
set_option linter.unusedVariables false
open Go Go.RowKit Go.Proofs
theorem ret_of_retp {P : Program} {G : Hp} {f : FuncId} {args : Array Value} {v : Value} (h : RetP P G f args (.ret v)) : Ret P G f args v := ⟨h.1 v rfl, h.2.1, h.2.2.1, h.2.2.2⟩
@[simp] theorem qmust (n : Int) (K : Value → Prop) : callK Tryd.prog G0 108 #[.bool true, .int .i64 n] K ↔ K (.tuple #[]) := callK_iff G0W (by kernel_rfl) (ret_of_retp (must_t n))
@[simp] theorem qsure (z : Int) (K : Value → Prop) : callK Tryd.prog G0 109 #[Value.agg #[.int .u64 (wi (z) 0), .int .u64 (wi (z) 1), .int .u64 (wi (z) 2), .int .u64 (wi (z) 3)], .bool false] K ↔ K (wd z) := callK_iff G0W (by kernel_rfl) (ret_of_retp (sure_f z))
/-- In the range of the signed numbers. -/
def wr (z : Int) : Prop := -57896044618658097711785492504343953926634992332820282019728792003956564819968 ≤ z ∧ z < 57896044618658097711785492504343953926634992332820282019728792003956564819968
theorem wr_sz {z : Int} (h : wr z) : sz z = z := sz_id h.1 h.2
theorem wr_ng {z : Int} (h : wr z) : ng z = decide (z < 0) := by rw [ng_sz, wr_sz h]
theorem ng_f {z : Int} (h : wr z) (h0 : 0 ≤ z) : ng z = false := by rw [wr_ng h]; simp; exact h0
theorem ng_t {z : Int} (h : wr z) (h0 : z < 0) : ng z = true := by rw [wr_ng h]; simp; exact h0
theorem least_ne (z : Int) (h : wr z) (h1 : z ≠ -57896044618658097711785492504343953926634992332820282019728792003956564819968) : (!wi z 0 == 0 || (!wi z 1 == 0 || (!wi z 2 == 0 || !wi z 3 == 9223372036854775808))) = true := by
  refine Classical.byContradiction fun hn => h1 ?_
  simp at hn
  obtain ⟨w0, w1, w2, w3⟩ := hn
  rw [← wr_sz h, sz_w, w0, w1, w2, w3]
  unfold ng; rw [w3]; decide
theorem least_eq : (!wi (-57896044618658097711785492504343953926634992332820282019728792003956564819968) 0 == 0 || (!wi (-57896044618658097711785492504343953926634992332820282019728792003956564819968) 1 == 0 || (!wi (-57896044618658097711785492504343953926634992332820282019728792003956564819968) 2 == 0 || !wi (-57896044618658097711785492504343953926634992332820282019728792003956564819968) 3 == 9223372036854775808))) = false := by decide
theorem wr_ne {z : Int} (h : wr z) (h0 : z ≠ 0) : (!wi z 0 == 0 || (!wi z 1 == 0 || (!wi z 2 == 0 || !wi z 3 == 0))) = true := words_ne z (by rw [wr_sz h]; exact h0)
theorem i64_1 : i64 1 := by decide
def lst : Int := -57896044618658097711785492504343953926634992332820282019728792003956564819968

theorem floor_zero (a : Int) : RetP Tryd.prog G0 91 #[wd a, wd 0] (.pan (erV 30)) := by
  refine retp_of G0F Tryd.func91 rfl Tryd.call91 (fun v h => by cases h) (by simp) (by simp [Tryd.ntmps91]) ?_
  intro C hC hC0 hY
  repeat' (first
    | refine GW_seq ?_
    | simp only [List.length_cons, List.length_nil, Nat.reduceAdd, Nat.reduceMul, thenG_normal, thenG_ret, thenG_exit, thenG_goto, thenG_panic, blockG_normal, blockG_ret, blockG_goto, blockG_panic, jumpG_normal, jumpG_ret, jumpG_exit, jumpG_panic]
    | (refine GW_region' [1000108] (by kernel_rfl) ?_; intro Q hQ hP; simp [hC, hY, wi_zero]; (repeat (first | ((refine callP_of (must_f 30) ?_); try simp [hC, hY, wi_zero]))); (first | refine hQ _ _ _ _ ?_ | refine hP _ _ (fun _ => ?_)); clear hQ hP Q)
    | (refine GW_draw' [1000108] follows (by kernel_rfl) (by kernel_rfl) ?_; intro Q hQ hP; simp [hC, hY, wi_zero]; (repeat (first | ((refine callP_of (must_f 30) ?_); try simp [hC, hY, wi_zero]))); (first | refine hQ _ _ _ _ (by kernel_rfl) ?_ | refine hP _ _ (by kernel_rfl) (fun _ => ?_)); clear hQ hP Q)
    | refine GW_block ?_
    | refine GW_ret ?_
    | refine GW_skip ?_
    | refine GW_exit ?_
    | refine GW_goto ?_
    | refine GW_label ?_
    | simp only [blockG_exit]
    | (refine GW_cond (by simp; rfl) ?_ ?_ <;> (intro hb; first | (exfalso; exact absurd hb (by decide)) | skip)))
  rfl
theorem floor_over (a b : Int) (ha : wr a) (hb : wr b) (h0 : b ≠ 0) (h : a = lst ∨ b = lst) : RetP Tryd.prog G0 91 #[wd a, wd b] (.pan (erV 20)) := by
  refine retp_of G0F Tryd.func91 rfl Tryd.call91 (fun v h => by cases h) (by simp) (by simp [Tryd.ntmps91]) ?_
  intro C hC hC0 hY
  have hz := wr_ne hb h0
  have hl := least_eq
  by_cases h1 : a = lst
  · subst h1
    change (!wi lst 0 == 0 || (!wi lst 1 == 0 || (!wi lst 2 == 0 || !wi lst 3 == 9223372036854775808))) = false at hl
    repeat' (first
      | refine GW_seq ?_
      | simp only [List.length_cons, List.length_nil, Nat.reduceAdd, Nat.reduceMul, thenG_normal, thenG_ret, thenG_exit, thenG_goto, thenG_panic, blockG_normal, blockG_ret, blockG_goto, blockG_panic, jumpG_normal, jumpG_ret, jumpG_exit, jumpG_panic]
      | (refine GW_region' [1000108] (by kernel_rfl) ?_; intro Q hQ hP; simp [hC, hY, hz, hl, lsB]; (repeat (first | ((refine callP_of (must_t 30) ?_); try simp [hC, hY, hz, hl, lsB]) | ((refine callP_of (must_f 20) ?_); try simp [hC, hY, hz, hl, lsB]))); (first | refine hQ _ _ _ _ ?_ | refine hP _ _ (fun _ => ?_)); clear hQ hP Q)
      | (refine GW_draw' [1000108] follows (by kernel_rfl) (by kernel_rfl) ?_; intro Q hQ hP; simp [hC, hY, hz, hl, lsB]; (repeat (first | ((refine callP_of (must_t 30) ?_); try simp [hC, hY, hz, hl, lsB]) | ((refine callP_of (must_f 20) ?_); try simp [hC, hY, hz, hl, lsB]))); (first | refine hQ _ _ _ _ (by kernel_rfl) ?_ | refine hP _ _ (by kernel_rfl) (fun _ => ?_)); clear hQ hP Q)
      | refine GW_block ?_
      | refine GW_ret ?_
      | refine GW_skip ?_
      | refine GW_exit ?_
      | refine GW_goto ?_
      | refine GW_label ?_
      | simp only [blockG_exit]
      | (refine GW_cond (by simp; rfl) ?_ ?_ <;> (intro hb; first | (exfalso; exact absurd hb (by decide)) | skip)))
    rfl
  · obtain rfl := h.resolve_left h1
    change (!wi lst 0 == 0 || (!wi lst 1 == 0 || (!wi lst 2 == 0 || !wi lst 3 == 9223372036854775808))) = false at hl
    have hn := least_ne a ha h1
    repeat' (first
      | refine GW_seq ?_
      | simp only [List.length_cons, List.length_nil, Nat.reduceAdd, Nat.reduceMul, thenG_normal, thenG_ret, thenG_exit, thenG_goto, thenG_panic, blockG_normal, blockG_ret, blockG_goto, blockG_panic, jumpG_normal, jumpG_ret, jumpG_exit, jumpG_panic]
      | (refine GW_region' [1000108] (by kernel_rfl) ?_; intro Q hQ hP; simp [hC, hY, hz, hl, hn, lsB]; (repeat (first | ((refine callP_of (must_t 30) ?_); try simp [hC, hY, hz, hl, hn, lsB]) | ((refine callP_of (must_f 20) ?_); try simp [hC, hY, hz, hl, hn, lsB]))); (first | refine hQ _ _ _ _ ?_ | refine hP _ _ (fun _ => ?_)); clear hQ hP Q)
      | (refine GW_draw' [1000108] follows (by kernel_rfl) (by kernel_rfl) ?_; intro Q hQ hP; simp [hC, hY, hz, hl, hn, lsB]; (repeat (first | ((refine callP_of (must_t 30) ?_); try simp [hC, hY, hz, hl, hn, lsB]) | ((refine callP_of (must_f 20) ?_); try simp [hC, hY, hz, hl, hn, lsB]))); (first | refine hQ _ _ _ _ (by kernel_rfl) ?_ | refine hP _ _ (by kernel_rfl) (fun _ => ?_)); clear hQ hP Q)
      | refine GW_block ?_
      | refine GW_ret ?_
      | refine GW_skip ?_
      | refine GW_exit ?_
      | refine GW_goto ?_
      | refine GW_label ?_
      | simp only [blockG_exit]
      | (refine GW_cond (by simp; rfl) ?_ ?_ <;> (intro hb; first | (exfalso; exact absurd hb (by decide)) | skip)))
    rfl
set_option maxHeartbeats 2000000 in
theorem floor_pp (a b : Int) (ha : wr a) (hb : wr b) (h0 : 0 < b) (ha0 : 0 ≤ a) : Ret Tryd.prog G0 91 #[wd a, wd b] (.tuple #[wd (a.fdiv b), wd (a.fmod b)]) := by
  refine ret_of G0F Tryd.func91 rfl Tryd.call91 (by simp) (by simp) (by simp [Tryd.ntmps91]) ?_
  intro C hC hC0 hY
  have hz := wr_ne hb (by omega)
  have hn1 := least_ne a ha (by omega)
  have hn2 := least_ne b hb (by omega)
  have s1 : ¬ cmpI (sz b) 0 < 0 := by rw [wr_sz hb]; unfold cmpI; split <;> (try split) <;> omega
  have s2 : ¬ cmpI (sz a) 0 < 0 := by rw [wr_sz ha]; unfold cmpI; split <;> (try split) <;> omega
  have hbu : b < 57896044618658097711785492504343953926634992332820282019728792003956564819968 := hb.2
  have hau : a < 57896044618658097711785492504343953926634992332820282019728792003956564819968 := ha.2
  have e1 : a.fdiv b = a / b := Int.fdiv_eq_ediv_of_nonneg a (by omega)
  have e2 : a.fmod b = a % b := Int.fmod_eq_emod_of_nonneg a (by omega)
  repeat' (first
    | refine GW_seq ?_
    | simp only [List.length_cons, List.length_nil, Nat.reduceAdd, Nat.reduceMul, thenG_normal, thenG_ret, thenG_exit, thenG_goto, thenG_panic, blockG_normal, blockG_ret, blockG_goto, blockG_panic, jumpG_normal, jumpG_ret, jumpG_exit, jumpG_panic]
    | (refine GW_region' [] (by kernel_rfl) ?_; intro Q hQ hP; simp [hC, hY, hz, hn1, hn2, s1, s2, lsB, ha0, hau, h0, hbu]; (first | refine hQ _ _ _ _ ?_ | refine hP _ _ (fun _ => ?_)); clear hQ hP Q)
    | (refine GW_draw' [] follows (by kernel_rfl) (by kernel_rfl) ?_; intro Q hQ hP; simp [hC, hY, hz, hn1, hn2, s1, s2, lsB, ha0, hau, h0, hbu]; (first | refine hQ _ _ _ _ (by kernel_rfl) ?_ | refine hP _ _ (by kernel_rfl) (fun _ => ?_)); clear hQ hP Q)
    | refine GW_block ?_
    | refine GW_ret ?_
    | refine GW_skip ?_
    | refine GW_exit ?_
    | refine GW_goto ?_
    | refine GW_label ?_
    | simp only [blockG_exit]
    | (refine GW_cond (by simp; rfl) ?_ ?_ <;> (intro hb; first | (exfalso; exact absurd hb (by decide)) | skip)))
  refine ⟨.inr trivial, ?_⟩
  simp [Tryd.results91, e1, e2]
theorem neg_fdiv (m b : Int) (hb : 0 < b) : (-(m + 1)).fdiv b = -(m / b) - 1 ∧ (-(m + 1)).fmod b = b - 1 - m % b := by
  have h1 := Int.emod_add_mul_ediv m b
  have h2 := Int.emod_nonneg m (b := b) (by omega)
  have h3 := Int.emod_lt_of_pos m hb
  have e : -(m + 1) = (b - 1 - m % b) + b * (-(m / b) - 1) := by rw [Int.mul_sub, Int.mul_neg]; omega
  rw [Int.fdiv_eq_ediv_of_nonneg _ (by omega), Int.fmod_eq_emod_of_nonneg _ (by omega)]
  constructor
  · rw [e, Int.add_mul_ediv_left _ _ (by omega), Int.ediv_eq_zero_of_lt (by omega) (by omega)]; omega
  · rw [e, Int.add_mul_emod_self_left, Int.emod_eq_of_lt (by omega) (by omega)]
set_option maxHeartbeats 2000000 in
theorem floor_np (m b : Int) (ha : wr (-(m + 1))) (hal : -(m + 1) ≠ lst) (hb : wr b) (h0 : 0 < b) (hm0 : 0 ≤ m) : Ret Tryd.prog G0 91 #[wd (-(m + 1)), wd b] (.tuple #[wd ((-(m + 1)).fdiv b), wd ((-(m + 1)).fmod b)]) := by
  refine ret_of G0F Tryd.func91 rfl Tryd.call91 (by simp) (by simp) (by simp [Tryd.ntmps91]) ?_
  intro C hC hC0 hY
  obtain ⟨d1, d2⟩ := neg_fdiv m b h0
  rw [d1, d2]
  generalize ea : -(m + 1) = a at *
  have hz := wr_ne hb (by omega)
  have hn1 := least_ne a ha hal
  have hn2 := least_ne b hb (by omega)
  have s1 : ¬ cmpI (sz b) 0 < 0 := by rw [wr_sz hb]; unfold cmpI; split <;> (try split) <;> omega
  have s2 : cmpI (sz a) 0 < 0 := by rw [wr_sz ha]; unfold cmpI; split <;> (try split) <;> omega
  have hbu : b < 57896044618658097711785492504343953926634992332820282019728792003956564819968 := hb.2
  have hmu : m < 57896044618658097711785492504343953926634992332820282019728792003956564819968 := by have := ha.1; unfold lst at hal; omega
  have hq0 : 0 ≤ m / b := Int.ediv_nonneg hm0 (by omega)
  have hq1 : m / b ≤ m := Int.ediv_le_self b hm0
  have hr0 : 0 ≤ m % b := Int.emod_nonneg m (by omega)
  have hr1 : m % b < b := Int.emod_lt_of_pos m h0
  have em : -(a + 1) = m := by omega
  have f1 : (ng a == ng 1 && ng (a + 1) != ng a) = false := by
    rw [ng_t ha (by omega), ng_f (z := 1) (by unfold wr; omega) (by omega)]; rfl
  have f2 : (ng (a + 1) && ng m) = false := by rw [ng_f (z := m) (by unfold wr; omega) hm0]; simp
  have f3 : (ng (m / b) && ng (-(m / b))) = false := by rw [ng_f (z := m / b) (by unfold wr; omega) hq0]; simp
  have f4 : (ng (-(m / b)) != ng 1 && ng (-(m / b) - 1) != ng (-(m / b))) = false := by
    rw [ng_f (z := 1) (by unfold wr; omega) (by omega), ng_t (z := -(m / b) - 1) (by unfold wr; omega) (by omega)]
    cases ng (-(m / b)) <;> rfl
  have f5 : (ng b != ng 1 && ng (b - 1) != ng b) = false := by
    rw [ng_f hb (by omega), ng_f (z := 1) (by unfold wr; omega) (by omega)]; rfl
  have f6 : (ng (b - 1) != ng (m % b) && ng (b - 1 - m % b) != ng (b - 1)) = false := by
    rw [ng_f (z := b - 1) (by unfold wr; have := hb.2; omega) (by omega), ng_f (z := m % b) (by unfold wr; omega) hr0]; rfl
  have i1 := i64_1
  repeat' (first
    | refine GW_seq ?_
    | simp only [List.length_cons, List.length_nil, Nat.reduceAdd, Nat.reduceMul, thenG_normal, thenG_ret, thenG_exit, thenG_goto, thenG_panic, blockG_normal, blockG_ret, blockG_goto, blockG_panic, jumpG_normal, jumpG_ret, jumpG_exit, jumpG_panic]
    | (refine GW_region' [] (by kernel_rfl) ?_; intro Q hQ hP; simp [hC, hY, hz, hn1, hn2, s1, s2, lsB, h0, hbu, hm0, hmu, em, f1, f2, f3, f4, f5, f6, i1]; (first | refine hQ _ _ _ _ ?_ | refine hP _ _ (fun _ => ?_)); clear hQ hP Q)
    | (refine GW_draw' [] follows (by kernel_rfl) (by kernel_rfl) ?_; intro Q hQ hP; simp [hC, hY, hz, hn1, hn2, s1, s2, lsB, h0, hbu, hm0, hmu, em, f1, f2, f3, f4, f5, f6, i1]; (first | refine hQ _ _ _ _ (by kernel_rfl) ?_ | refine hP _ _ (by kernel_rfl) (fun _ => ?_)); clear hQ hP Q)
    | refine GW_block ?_
    | refine GW_ret ?_
    | refine GW_skip ?_
    | refine GW_exit ?_
    | refine GW_goto ?_
    | refine GW_label ?_
    | simp only [blockG_exit]
    | (refine GW_cond (by simp; rfl) ?_ ?_ <;> (intro hb; first | (exfalso; exact absurd hb (by decide)) | skip)))
  refine ⟨.inr trivial, ?_⟩
  simp [Tryd.results91]
theorem upd_far {α : Type} {f : Nat → α} {x k : Nat} {v : α} (h : k < x) : upd f x v k = f k := upd_other f v (by omega)
/-- Where the divisor is above 0. -/
theorem floor_ret (a b : Int) (ha : wr a) (hal : a ≠ lst) (hb : wr b) (h0 : 0 < b) : Ret Tryd.prog G0 91 #[wd a, wd b] (.tuple #[wd (a / b), wd (a % b)]) := by
  rw [← Int.fdiv_eq_ediv_of_nonneg a (Int.le_of_lt h0), ← Int.fmod_eq_emod_of_nonneg a (Int.le_of_lt h0)]
  by_cases ha0 : 0 ≤ a
  · exact floor_pp a b ha hb h0 ha0
  · obtain ⟨m, rfl⟩ : ∃ m, a = -(m + 1) := ⟨-a - 1, by omega⟩
    exact floor_np m b ha hal hb h0 (by omega)
@[simp] theorem qfloor (a b : Int) (ha : wr a) (hal : a ≠ lst) (hb : wr b) (h0 : 0 < b) (K : Value → Prop) : callK Tryd.prog G0 91 #[Value.agg #[.int .u64 (wi (a) 0), .int .u64 (wi (a) 1), .int .u64 (wi (a) 2), .int .u64 (wi (a) 3)], Value.agg #[.int .u64 (wi (b) 0), .int .u64 (wi (b) 1), .int .u64 (wi (b) 2), .int .u64 (wi (b) 3)]] K ↔ K (.tuple #[wd (a / b), wd (a % b)]) :=
  callK_iff G0W (by kernel_rfl) (floor_ret a b ha hal hb h0)
def hp2 (a b : Int) : Hp := hpL G0 [(200, wb a), (208, wb b)]
theorem hp2_rst (a b : Int) : rst (hp2 a b) [200, 208] = hp2 a b := hpL_rst G0F (by simp)
theorem hp2_closed (a b : Int) (D : Nat → Prop) (k : Nat) (c : Blk) (h : hp2 a b k = some c) : c.ids D := by
  rcases hpL_mem h with h | h
  · simp at h
    rcases h with ⟨_, rfl⟩ | ⟨_, rfl⟩ <;> simp [wb]
  · exact G0_closed _ _ _ h
theorem hp2_free (a b : Int) (x : Nat) (hx : 300 ≤ x) : hp2 a b x = none := by
  simp [hp2, show ¬ x = 200 by omega, show ¬ x = 208 by omega, show 100 ≤ x by omega]
theorem Floor1_fun (a b : Int) (ha : wr a) (hal : a ≠ lst) (hb : wr b) (h0 : 0 < b) : Fun Tryd.prog G0 90 [.pointer (some ⟨200, 0, none⟩), .pointer (some ⟨208, 0, none⟩)].toArray (hp2 a b) [200, 208] (.ret (wd (a / b)) []) := by
  refine fun_of (B := 300) G0F (fun k hk => hpL_low (by simp) hk) Tryd.func90 rfl Tryd.call90 ?_ ?_ ⟨flatV_ids (by simp), by simp [keys], by simp, by simp⟩ (by simp [Tryd.ntmps90]) (by omega) ?_ ?_
  · rw [hp2_rst]; simp [hp2, dom]
  · rw [hp2_rst]; exact hp2_closed a b _
  · rw [hp2_rst]; exact hp2_free a b
  · intro C hC hC0 hY
    rw [hp2_rst] at hC0 ⊢
    repeat' (first
      | refine GW_seq ?_
      | simp only [List.length_cons, List.length_nil, Nat.reduceAdd, Nat.reduceMul, thenG_normal, thenG_ret, thenG_exit, thenG_goto, thenG_panic, blockG_normal, blockG_ret, blockG_goto, blockG_panic, jumpG_normal, jumpG_ret, jumpG_exit, jumpG_panic]
      | (refine GW_region' [] (by kernel_rfl) ?_; intro Q hQ hP; simp [hC, hY, hp2, wb, ha, hal, hb, h0]; (first | refine hQ _ _ _ _ ?_ | refine hP _ _ (fun _ => ?_)); clear hQ hP Q)
      | (refine GW_draw' [] follows (by kernel_rfl) (by kernel_rfl) ?_; intro Q hQ hP; simp [hC, hY, hp2, wb, ha, hal, hb, h0]; (first | refine hQ _ _ _ _ (by kernel_rfl) ?_ | refine hP _ _ (by kernel_rfl) (fun _ => ?_)); clear hQ hP Q)
      | refine GW_block ?_
      | refine GW_ret ?_
      | refine GW_skip ?_
      | refine GW_exit ?_
      | refine GW_goto ?_
      | refine GW_label ?_
      | simp only [blockG_exit]
      | (refine GW_cond (by simp; rfl) ?_ ?_ <;> (intro hb; first | (exfalso; exact absurd hb (by decide)) | skip)))
    refine ⟨.inr rfl, by simp [Tryd.results90], fun k hk => ?_⟩
    have hk3 : k < 300 := Classical.byContradiction fun h => hk (hp2_free a b k (by omega))
    simp (disch := omega) only [upd_far]
    rfl
theorem qFloor_ret (a b : Int) (ha : wr a) (hal : a ≠ lst) (hb : wr b) (h0 : 0 < b) : Ret Tryd.prog G0 53 #[wd a, wd b] (.tuple #[wd (a / b), .int .i64 0]) := by
  refine ret_of G0F Tryd.func53 rfl Tryd.call53 (by simp) (by simp) (by simp [Tryd.ntmps53]) ?_
  intro C hC hC0 hY
  repeat' (first
    | refine GW_seq ?_
    | simp only [List.length_cons, List.length_nil, Nat.reduceAdd, Nat.reduceMul, thenG_normal, thenG_ret, thenG_exit, thenG_goto, thenG_panic, blockG_normal, blockG_ret, blockG_goto, blockG_panic, jumpG_normal, jumpG_ret, jumpG_exit, jumpG_panic]
    | (refine GW_region' [89] (by kernel_rfl) ?_; intro Q hQ hP; simp [hC, hY]; (repeat (first | ((refine heapK_of (hp' := hp2 a b) (qtold_ret (fun k hk => hpL_low (by simp) hk) (by simp) rfl (by simp) (Floor1_fun a b ha hal hb h0)) (by simp [hp2, wb]) (fun k hk => hpL_low (by simp) hk) trivial ?_); try simp [hC, hY]))); (first | refine hQ _ _ _ _ ?_ | refine hP _ _ (fun _ => ?_)); clear hQ hP Q)
    | (refine GW_draw' [89] follows (by kernel_rfl) (by kernel_rfl) ?_; intro Q hQ hP; simp [hC, hY]; (repeat (first | ((refine heapK_of (hp' := hp2 a b) (qtold_ret (fun k hk => hpL_low (by simp) hk) (by simp) rfl (by simp) (Floor1_fun a b ha hal hb h0)) (by simp [hp2, wb]) (fun k hk => hpL_low (by simp) hk) trivial ?_); try simp [hC, hY]))); (first | refine hQ _ _ _ _ (by kernel_rfl) ?_ | refine hP _ _ (by kernel_rfl) (fun _ => ?_)); clear hQ hP Q)
    | refine GW_block ?_
    | refine GW_ret ?_
    | refine GW_skip ?_
    | refine GW_exit ?_
    | refine GW_goto ?_
    | refine GW_label ?_
    | simp only [blockG_exit]
    | (refine GW_cond (by simp; rfl) ?_ ?_ <;> (intro hb; first | (exfalso; exact absurd hb (by decide)) | skip)))
  refine ⟨.inr trivial, ?_⟩
  simp [Tryd.results53]
@[simp] theorem qFloor (a b : Int) (ha : wr a) (hal : a ≠ lst) (hb : wr b) (h0 : 0 < b) (K : Value → Prop) : callK Tryd.prog G0 53 #[Value.agg #[.int .u64 (wi (a) 0), .int .u64 (wi (a) 1), .int .u64 (wi (a) 2), .int .u64 (wi (a) 3)], Value.agg #[.int .u64 (wi (b) 0), .int .u64 (wi (b) 1), .int .u64 (wi (b) 2), .int .u64 (wi (b) 3)]] K ↔ K (.tuple #[wd (a / b), .int .i64 0]) :=
  callK_iff G0W (by kernel_rfl) (qFloor_ret a b ha hal hb h0)
end Go.Gy
namespace Go.Gy
set_option linter.unusedSimpArgs false
set_option linter.unusedVariables false
open Go Go.RowKit Go.Proofs
theorem rmust_t (n : Int) : RetP Tryd.prog G0 55 #[.bool true, .int .i64 n] (.ret (.tuple #[])) := by
  refine retp_of G0F Tryd.func55 rfl Tryd.call55 (fun v h => by cases h; simp) (by simp) (by simp [Tryd.ntmps55]) ?_
  intro C hC hC0 hY
  repeat' (first
    | refine GW_seq ?_
    | simp only [List.length_cons, List.length_nil, Nat.reduceAdd, Nat.reduceMul, thenG_normal, thenG_ret, thenG_exit, thenG_goto, thenG_panic, blockG_normal, blockG_ret, blockG_goto, blockG_panic, jumpG_normal, jumpG_ret, jumpG_exit, jumpG_panic]
    | (refine GW_region' [] (by kernel_rfl) ?_; intro Q hQ hP; simp [hC, hY]; (first | refine hQ _ _ _ _ ?_ | refine hP _ _ (fun _ => ?_)); clear hQ hP Q)
    | (refine GW_draw' [] follows (by kernel_rfl) (by kernel_rfl) ?_; intro Q hQ hP; simp [hC, hY]; (first | refine hQ _ _ _ _ (by kernel_rfl) ?_ | refine hP _ _ (by kernel_rfl) (fun _ => ?_)); clear hQ hP Q)
    | refine GW_block ?_
    | refine GW_ret ?_
    | refine GW_skip ?_
    | refine GW_exit ?_
    | refine GW_goto ?_
    | refine GW_label ?_
    | simp only [blockG_exit]
    | (refine GW_cond (by simp; rfl) ?_ ?_ <;> (intro hb; first | (exfalso; exact absurd hb (by decide)) | skip)))
  exact ⟨.inl trivial, by simp [Tryd.results55]⟩
theorem rmust_f (n : Int) : RetP Tryd.prog G0 55 #[.bool false, .int .i64 n] (.pan (erV n)) := by
  refine retp_of G0F Tryd.func55 rfl Tryd.call55 (fun v h => by cases h) (by simp) (by simp [Tryd.ntmps55]) ?_
  intro C hC hC0 hY
  repeat' (first
    | refine GW_seq ?_
    | simp only [List.length_cons, List.length_nil, Nat.reduceAdd, Nat.reduceMul, thenG_normal, thenG_ret, thenG_exit, thenG_goto, thenG_panic, blockG_normal, blockG_ret, blockG_goto, blockG_panic, jumpG_normal, jumpG_ret, jumpG_exit, jumpG_panic]
    | (refine GW_region' [] (by kernel_rfl) ?_; intro Q hQ hP; simp [hC, hY]; (first | refine hQ _ _ _ _ ?_ | refine hP _ _ (fun _ => ?_)); clear hQ hP Q)
    | (refine GW_draw' [] follows (by kernel_rfl) (by kernel_rfl) ?_; intro Q hQ hP; simp [hC, hY]; (first | refine hQ _ _ _ _ (by kernel_rfl) ?_ | refine hP _ _ (by kernel_rfl) (fun _ => ?_)); clear hQ hP Q)
    | refine GW_block ?_
    | refine GW_ret ?_
    | refine GW_skip ?_
    | refine GW_exit ?_
    | refine GW_goto ?_
    | refine GW_label ?_
    | simp only [blockG_exit]
    | (refine GW_cond (by simp; rfl) ?_ ?_ <;> (intro hb; first | (exfalso; exact absurd hb (by decide)) | skip)))
  rfl
@[simp] theorem rmust (n : Int) (K : Value → Prop) : callK Tryd.prog G0 55 #[.bool true, .int .i64 n] K ↔ K (.tuple #[]) := callK_iff G0W (by kernel_rfl) (ret_of_retp (rmust_t n))
theorem most_ret (z : Int) : Ret Tryd.prog G0 98 #[wd z] (.int .i64 (nbits (uz z) / 2)) := by
  refine ret_of G0F Tryd.func98 rfl Tryd.call98 rfl (by simp) (by simp [Tryd.ntmps98]) ?_
  intro C hC hC0 hY
  have b0 := nb_word z 0
  have b1 := nb_word z 1
  have b2 := nb_word z 2
  have b3 := nb_word z 3
  have k3 := size_3 z
  have k2 := size_2 z
  have k1 := size_1 z
  have k0 := size_0 z
  have m3 : Int.bmod (192 + nbits (wi z 3)) 18446744073709551616 = 192 + nbits (wi z 3) := bm (by omega) (by omega)
  have m2 : Int.bmod (128 + nbits (wi z 2)) 18446744073709551616 = 128 + nbits (wi z 2) := bm (by omega) (by omega)
  have m1 : Int.bmod (64 + nbits (wi z 1)) 18446744073709551616 = 64 + nbits (wi z 1) := bm (by omega) (by omega)
  have t3 : (192 + nbits (wi z 3)).tdiv 2 = (192 + nbits (wi z 3)) / 2 := Int.tdiv_eq_ediv_of_nonneg (by omega)
  have t2 : (128 + nbits (wi z 2)).tdiv 2 = (128 + nbits (wi z 2)) / 2 := Int.tdiv_eq_ediv_of_nonneg (by omega)
  have t1 : (64 + nbits (wi z 1)).tdiv 2 = (64 + nbits (wi z 1)) / 2 := Int.tdiv_eq_ediv_of_nonneg (by omega)
  have t0 : (nbits (wi z 0)).tdiv 2 = nbits (wi z 0) / 2 := Int.tdiv_eq_ediv_of_nonneg (by omega)
  have u3 : Int.bmod ((192 + nbits (wi z 3)) / 2) 18446744073709551616 = (192 + nbits (wi z 3)) / 2 := bm (by omega) (by omega)
  have u2 : Int.bmod ((128 + nbits (wi z 2)) / 2) 18446744073709551616 = (128 + nbits (wi z 2)) / 2 := bm (by omega) (by omega)
  have u1 : Int.bmod ((64 + nbits (wi z 1)) / 2) 18446744073709551616 = (64 + nbits (wi z 1)) / 2 := bm (by omega) (by omega)
  have u0 : Int.bmod (nbits (wi z 0) / 2) 18446744073709551616 = nbits (wi z 0) / 2 := bm (by omega) (by omega)
  repeat' (first
    | refine GW_seq ?_
    | refine GWL_start ?_
    | refine GWL_step ?_
    | simp only [List.length_cons, List.length_nil, Nat.reduceAdd, Nat.reduceMul, thenG_normal, thenG_ret, thenG_exit, thenG_goto, thenG_panic, blockG_normal, blockG_ret, blockG_goto, blockG_panic, jumpG_normal, jumpG_ret, jumpG_exit, jumpG_panic]
    | (refine GW_region' [] (by kernel_rfl) ?_; intro Q hQ hP; simp [hC, hY, wi_ge, wi_lt, m1, m2, m3, t0, t1, t2, t3, u0, u1, u2, u3]; (first | refine hQ _ _ _ _ ?_ | refine hP _ _ (fun _ => ?_)); clear hQ hP Q)
    | (refine GW_draw' [] follows (by kernel_rfl) (by kernel_rfl) ?_; intro Q hQ hP; simp [hC, hY, wi_ge, wi_lt, m1, m2, m3, t0, t1, t2, t3, u0, u1, u2, u3]; (first | refine hQ _ _ _ _ (by kernel_rfl) ?_ | refine hP _ _ (by kernel_rfl) (fun _ => ?_)); clear hQ hP Q)
    | refine GW_block ?_
    | refine GW_ret ?_
    | refine GW_skip ?_
    | refine GW_exit ?_
    | refine GW_goto ?_
    | refine GW_label ?_
    | simp only [blockG_exit]
    | (refine GW_cond (by simp; rfl) ?_ ?_ <;> (intro hb; first | (exfalso; exact absurd hb (by decide)) | skip)))
  all_goals
    refine ⟨.inr trivial, ?_⟩
    simp [Tryd.results98]
    simp_all
@[simp] theorem rmost (z : Int) (K : Value → Prop) : callK Tryd.prog G0 98 #[Value.agg #[.int .u64 (wi (z) 0), .int .u64 (wi (z) 1), .int .u64 (wi (z) 2), .int .u64 (wi (z) 3)]] K ↔ K (.int .i64 (nbits (uz z) / 2)) := callK_iff G0W (by kernel_rfl) (most_ret z)
theorem all_new (a : Int) (k : Nat) (h100 : 100 ≤ k) : Fun Tryd.prog G0 85 #[wd a] G0 [] (.new (.func (.func 97) #[] #[.pointer (some ⟨k, 0, none⟩)]) [(k, wb a)]) := by
  have e0 : rst G0 [] = G0 := rst_G G0F []
  refine new_of (B := 200) (fun j => if j = k then 200 else j) G0F (fun _ _ => rfl) Tryd.func85 rfl Tryd.call85 (by simp [idsV, idsA, idsF, ids0]) (by rw [e0]; exact G0_closed _) ?_ (by simp [Tryd.ntmps85]) (by omega) (by rw [e0]; exact fun x hx => G0_big x (by omega)) (fun j hj => ?_) ?_ ?_ ?_ ?_
  · refine ⟨by simp [idsV, idsA, idsF, ids0, extD, keys], by simp [keys]; omega, fun q b c h1 h2 => ?_⟩
    simp at h1 h2
    rw [h1.2, h2.2]
  · rw [e0] at hj; have := G0_dom hj; rw [if_neg (by omega)]
  · simp [e0, dom]
  · simp
  · simp [wb, ids_lit, idsF, ids0]
  · intro C hC hC0 hY
    rw [e0]
    repeat' (first
      | refine GW_seq ?_
      | simp only [List.length_cons, List.length_nil, Nat.reduceAdd, Nat.reduceMul, thenG_normal, thenG_ret, thenG_exit, thenG_goto, thenG_panic, blockG_normal, blockG_ret, blockG_goto, blockG_panic, jumpG_normal, jumpG_ret, jumpG_exit, jumpG_panic]
      | (refine GW_region' [] (by kernel_rfl) ?_; intro Q hQ hP; simp [hC, hY]; (first | refine hQ _ _ _ _ ?_ | refine hP _ _ (fun _ => ?_)); clear hQ hP Q)
      | (refine GW_draw' [] follows (by kernel_rfl) (by kernel_rfl) ?_; intro Q hQ hP; simp [hC, hY]; (first | refine hQ _ _ _ _ (by kernel_rfl) ?_ | refine hP _ _ (by kernel_rfl) (fun _ => ?_)); clear hQ hP Q)
      | refine GW_block ?_
      | refine GW_ret ?_
      | refine GW_skip ?_
      | refine GW_exit ?_
      | refine GW_goto ?_
      | refine GW_label ?_
      | simp only [blockG_exit]
      | (refine GW_cond (by simp; rfl) ?_ ?_ <;> (intro hb; first | (exfalso; exact absurd hb (by decide)) | skip)))
    refine ⟨.inr trivial, ?_⟩
    simp [Tryd.results85, ren, renA, renF, ren0, wb]
    intro j hj hj2
    have := G0_dom hj
    omega
theorem wi_pow (t r j : Nat) (hr : r < 64) : wi (2 ^ (64 * t + r)) j = if j = t then 2 ^ r else 0 := by
  by_cases h : j = t
  · subst h
    rw [if_pos rfl]
    unfold wi
    rw [Int.pow_add, Int.mul_ediv_cancel_left _ (by have := pow_pos2 (64 * j); omega)]
    exact Int.emod_eq_of_lt (Int.le_of_lt (pow_pos2 _)) (by
      have : (2 : Int) ^ r < 2 ^ 64 := by exact_mod_cast Nat.pow_lt_pow_right (by omega) hr
      exact this)
  · rw [if_neg h]
    have := wi_other 0 t r j hr h
    simp only [Int.zero_mul, Int.zero_add] at this
    rw [this, wi_zero]
theorem set_bit (t r : Nat) (ht : t < 4) (hr : r < 64) : (#[.int .u64 0, .int .u64 0, .int .u64 0, .int .u64 0] : Array Value).setIfInBounds t (.int .u64 (2 ^ r)) = #[.int .u64 (wi (2 ^ (64 * t + r)) 0), .int .u64 (wi (2 ^ (64 * t + r)) 1), .int .u64 (wi (2 ^ (64 * t + r)) 2), .int .u64 (wi (2 ^ (64 * t + r)) 3)] := by
  simp only [wi_pow _ _ _ hr]
  have : t = 0 ∨ t = 1 ∨ t = 2 ∨ t = 3 := by omega
  rcases this with rfl | rfl | rfl | rfl <;> simp
def allXs (M : Int) : List (Array Value) := (List.range (M + 1).toNat).map fun (i : Nat) => #[wd (2 ^ (M - (i : Int)).toNat)]
theorem allXs_len (M : Int) : (allXs M).length = (M + 1).toNat := by simp [allXs]
theorem allXs_at (M : Int) (i : Nat) (h : i < (M + 1).toNat) : (allXs M)[i]? = some #[wd (2 ^ (M - (i : Int)).toNat)] := by simp [allXs, h]
def aHp (a : Int) : Hp := hpL G0 [(100, wb a)]
def allSt (a M : Int) (l i : Nat) : GS :=
  ⟨tsL [(0, .func (.yield l) #[] #[]), (1, .pointer (some ⟨100, 0, none⟩)), (3, .int .i64 (M - i))], aHp a, 300, i⟩
theorem all_it (a : Int) : IterG Tryd.prog G0 97 #[.pointer (some ⟨100, 0, none⟩)] (aHp a) [100] (allXs (nbits (uz a) / 2)) := by
  have e0 : rst (aHp a) [100] = aHp a := hpL_rst G0F (by simp)
  refine iter_of (B := 200) (v := .tuple #[]) G0F (fun k hk => hpL_low (by simp) hk) Tryd.func97 rfl Tryd.call97 ?_ ?_ (by simp [Tryd.ntmps97]) (by omega) ?_ ?_
  · rw [e0]; simp [idsV, idsA, idsF, ids0, dom, aHp]
  · rw [e0]
    intro k c hk
    rcases hpL_mem hk with h | h
    · simp at h
      rcases h with ⟨_, rfl⟩
      simp [wb, ids_lit, idsF, ids0]
    · exact G0_closed _ _ _ h
  · rw [e0]
    intro x hx
    simp [aHp, show ¬ x = 100 by omega, show 100 ≤ x by omega]
  · intro C l stop hC hC0 hY
    rw [e0] at hC0 ⊢
    have hnb := nbits_bd 256 (uz_bd a).2
    have hM : 0 ≤ nbits (uz a) / 2 ∧ nbits (uz a) / 2 ≤ 128 := by omega
    have hlen := allXs_len (nbits (uz a) / 2)
    repeat' (first
      | refine GW_seq ?_
      | simp only [List.length_cons, List.length_nil, Nat.reduceAdd, Nat.reduceMul, thenG_normal, thenG_ret, thenG_exit, thenG_goto, thenG_panic, blockG_normal, blockG_ret, blockG_goto, blockG_panic, jumpG_normal, jumpG_ret, jumpG_exit, jumpG_panic]
      | (refine GW_region' [] (by kernel_rfl) ?_; intro Q hQ hP; simp [hC, hY, aHp, wb]; (first | refine hQ _ _ _ _ ?_ | refine hP _ _ (fun _ => ?_)); clear hQ hP Q)
      | (refine GW_draw' [] follows (by kernel_rfl) (by kernel_rfl) ?_; intro Q hQ hP; simp [hC, hY, aHp, wb]; (first | refine hQ _ _ _ _ (by kernel_rfl) ?_ | refine hP _ _ (by kernel_rfl) (fun _ => ?_)); clear hQ hP Q)
      | refine GW_block ?_
      | refine GW_ret ?_
      | refine GW_skip ?_
      | refine GW_exit ?_
      | refine GW_goto ?_
      | refine GW_label ?_
      | simp only [blockG_exit]
      | (refine GW_cond (by simp; rfl) ?_ ?_ <;> (intro hb; first | (exfalso; exact absurd hb (by decide)) | skip)))
    generalize hMe : nbits (uz a) / 2 = M at *
    generalize hxs : allXs M = xs at *
    refine GW_for (min stop xs.length) (allSt a M l) ?_ ?_ ?_
    · refine weakL _ 300 hC G0F (m := [(100, wb a)]) (m0 := [(100, wb a)]) hC0 (by omega) ?_ ?_ ?_
      · simp [dom]
      · simp [wb]
      · simp [wb]
    · intro i hi
      have hs : i < stop := by omega
      have hq : (i != stop) = true := by simp; omega
      have hle : i ≤ stop := by omega
      obtain ⟨n, hn⟩ : ∃ n : Nat, M - (i : Int) = n := ⟨(M - i).toNat, by omega⟩
      have g1 : (i : Int) ≤ M := by omega
      have hx : xs[i]? = some #[wd (2 ^ n)] := by
        rw [← hxs, allXs_at M i (by omega), hn]; rfl
      simp only [wd_eq] at hx
      have g4 : Int.bmod ((n : Int) - 1) 18446744073709551616 = M - ((i + 1 : Nat) : Int) := by rw [bm (by omega) (by omega)]; omega
      obtain ⟨t, r, hr, hn'⟩ : ∃ t r, r < 64 ∧ n = 64 * t + r := ⟨n / 64, n % 64, by omega, by omega⟩
      have tq : ((n : Int)).tdiv 64 = t := by rw [Int.tdiv_eq_ediv_of_nonneg (by omega)]; omega
      have tm : ((n : Int)).tmod 64 = r := by rw [Int.tmod_eq_emod_of_nonneg (by omega)]; omega
      have t4 : t < 4 := by omega
      have t4' : (t : Int) < 4 := by omega
      have t0 : (0 : Int) ≤ t := by omega
      have tb : Int.bmod (t : Int) 18446744073709551616 = t := bm (by omega) (by omega)
      have t3 : t ≤ 3 := Nat.le_of_lt_succ t4
      have m1 : min r 64 = r := by omega
      have m2 : (2 : Int) ^ r % 18446744073709551616 = 2 ^ r := Int.emod_eq_of_lt (Int.le_of_lt (pow_pos2 _)) (by
        have : (2 : Int) ^ r < 2 ^ 64 := by exact_mod_cast Nat.pow_lt_pow_right (by omega) hr
        exact this)
      have hset := set_bit t r t4 hr
      rw [← hn'] at hset
      unfold allSt
      repeat' (first
        | refine GW_seq ?_
        | simp only [List.length_cons, List.length_nil, Nat.reduceAdd, Nat.reduceMul, thenG_normal, thenG_ret, thenG_exit, thenG_goto, thenG_panic, blockG_normal, blockG_ret, blockG_goto, blockG_panic, jumpG_normal, jumpG_ret, jumpG_exit, jumpG_panic]
        | (refine GW_region' [] (by kernel_rfl) ?_; intro Q hQ hP; simp [hC, hY, aHp, wb, hs, hq, hle, hn, g1, g4, hx, tq, tm, t4, t4', t0, tb, t3, m1, m2, hset]; (first | refine hQ _ _ _ _ ?_ | refine hP _ _ (fun _ => ?_)); clear hQ hP Q)
        | (refine GW_draw' [] follows (by kernel_rfl) (by kernel_rfl) ?_; intro Q hQ hP; simp [hC, hY, aHp, wb, hs, hq, hle, hn, g1, g4, hx, tq, tm, t4, t4', t0, tb, t3, m1, m2, hset]; (first | refine hQ _ _ _ _ (by kernel_rfl) ?_ | refine hP _ _ (by kernel_rfl) (fun _ => ?_)); clear hQ hP Q)
        | refine GW_block ?_
        | refine GW_ret ?_
        | refine GW_skip ?_
        | refine GW_exit ?_
        | refine GW_goto ?_
        | refine GW_label ?_
        | simp only [blockG_exit]
        | (refine GW_cond (by simp; rfl) ?_ ?_ <;> (intro hb; first | (exfalso; exact absurd hb (by decide)) | skip)))
      refine weakL _ 300 hC G0F (m := [(100, wb a)]) (m0 := [(100, wb a)]) hC0 (by omega) ?_ ?_ ?_
      · simp [dom]
      · simp [wb]
      · simp [wb]
    · by_cases h4 : xs.length ≤ stop
      · rw [Nat.min_eq_right h4]
        have g1 : ¬ ((xs.length : Int) ≤ M) := by omega
        unfold allSt
        repeat' (first
          | refine GW_seq ?_
          | simp only [List.length_cons, List.length_nil, Nat.reduceAdd, Nat.reduceMul, thenG_normal, thenG_ret, thenG_exit, thenG_goto, thenG_panic, blockG_normal, blockG_ret, blockG_goto, blockG_panic, jumpG_normal, jumpG_ret, jumpG_exit, jumpG_panic]
          | (refine GW_region' [] (by kernel_rfl) ?_; intro Q hQ hP; simp [hC, hY, aHp, wb, g1]; (first | refine hQ _ _ _ _ ?_ | refine hP _ _ (fun _ => ?_)); clear hQ hP Q)
          | (refine GW_draw' [] follows (by kernel_rfl) (by kernel_rfl) ?_; intro Q hQ hP; simp [hC, hY, aHp, wb, g1]; (first | refine hQ _ _ _ _ (by kernel_rfl) ?_ | refine hP _ _ (by kernel_rfl) (fun _ => ?_)); clear hQ hP Q)
          | refine GW_block ?_
          | refine GW_ret ?_
          | refine GW_skip ?_
          | refine GW_exit ?_
          | refine GW_goto ?_
          | refine GW_label ?_
          | simp only [blockG_exit]
          | (refine GW_cond (by simp; rfl) ?_ ?_ <;> (intro hb; first | (exfalso; exact absurd hb (by decide)) | skip)))
        refine ⟨.inl trivial, by simp [Tryd.results97], ?_⟩
        show xs.length = _
        omega
      · rw [Nat.min_eq_left (by omega)]
        obtain ⟨n, hn⟩ : ∃ n : Nat, M - (stop : Int) = n := ⟨(M - stop).toNat, by omega⟩
        have g1 : (stop : Int) ≤ M := by omega
        have hx : xs[stop]? = some #[wd (2 ^ n)] := by
          rw [← hxs, allXs_at M stop (by omega), hn]; rfl
        simp only [wd_eq] at hx
        obtain ⟨t, r, hr, hn'⟩ : ∃ t r, r < 64 ∧ n = 64 * t + r := ⟨n / 64, n % 64, by omega, by omega⟩
        have tq : ((n : Int)).tdiv 64 = t := by rw [Int.tdiv_eq_ediv_of_nonneg (by omega)]; omega
        have tm : ((n : Int)).tmod 64 = r := by rw [Int.tmod_eq_emod_of_nonneg (by omega)]; omega
        have t4 : t < 4 := by omega
        have t4' : (t : Int) < 4 := by omega
        have t0 : (0 : Int) ≤ t := by omega
        have tb : Int.bmod (t : Int) 18446744073709551616 = t := bm (by omega) (by omega)
        have t3 : t ≤ 3 := Nat.le_of_lt_succ t4
        have m1 : min r 64 = r := by omega
        have m2 : (2 : Int) ^ r % 18446744073709551616 = 2 ^ r := Int.emod_eq_of_lt (Int.le_of_lt (pow_pos2 _)) (by
          have : (2 : Int) ^ r < 2 ^ 64 := by exact_mod_cast Nat.pow_lt_pow_right (by omega) hr
          exact this)
        have hset := set_bit t r t4 hr
        rw [← hn'] at hset
        unfold allSt
        repeat' (first
          | refine GW_seq ?_
          | simp only [List.length_cons, List.length_nil, Nat.reduceAdd, Nat.reduceMul, thenG_normal, thenG_ret, thenG_exit, thenG_goto, thenG_panic, blockG_normal, blockG_ret, blockG_goto, blockG_panic, jumpG_normal, jumpG_ret, jumpG_exit, jumpG_panic]
          | (refine GW_region' [] (by kernel_rfl) ?_; intro Q hQ hP; simp [hC, hY, aHp, wb, hn, g1, hx, tq, tm, t4, t4', t0, tb, t3, m1, m2, hset]; (first | refine hQ _ _ _ _ ?_ | refine hP _ _ (fun _ => ?_)); clear hQ hP Q)
          | (refine GW_draw' [] follows (by kernel_rfl) (by kernel_rfl) ?_; intro Q hQ hP; simp [hC, hY, aHp, wb, hn, g1, hx, tq, tm, t4, t4', t0, tb, t3, m1, m2, hset]; (first | refine hQ _ _ _ _ (by kernel_rfl) ?_ | refine hP _ _ (by kernel_rfl) (fun _ => ?_)); clear hQ hP Q)
          | refine GW_block ?_
          | refine GW_ret ?_
          | refine GW_skip ?_
          | refine GW_exit ?_
          | refine GW_goto ?_
          | refine GW_label ?_
          | simp only [blockG_exit]
          | (refine GW_cond (by simp; rfl) ?_ ?_ <;> (intro hb; first | (exfalso; exact absurd hb (by decide)) | skip)))
        refine ⟨.inr trivial, by simp [Tryd.results97], ?_⟩
        show stop + 1 = _
        omega
end Go.Gy
namespace Go.Gy
set_option linter.unusedSimpArgs false
set_option linter.unusedVariables false
open Go Go.RowKit Go.Proofs
/-- A root, i bits of K behind. -/
def rp (a : Int) (K : Nat) : Nat → Int
  | 0 => 0
  | i + 1 => if (rp a K i + 2 ^ (K - 1 - i)) * (rp a K i + 2 ^ (K - 1 - i)) ≤ a then rp a K i + 2 ^ (K - 1 - i) else rp a K i
theorem rp_inv (a : Int) (K : Nat) (h0 : 0 ≤ a) (h : a < 2 ^ K * 2 ^ K) : ∀ i, i ≤ K → 0 ≤ rp a K i ∧ rp a K i * rp a K i ≤ a ∧ a < (rp a K i + 2 ^ (K - i)) * (rp a K i + 2 ^ (K - i))
  | 0, _ => by simp [rp]; exact ⟨h0, h⟩
  | i + 1, hi => by
    obtain ⟨h1, h2, h3⟩ := rp_inv a K h0 h i (by omega)
    have e1 : K - i = (K - 1 - i) + 1 := by omega
    have e2 : K - (i + 1) = K - 1 - i := by omega
    rw [e1, Int.pow_succ] at h3
    rw [e2]
    have hp := pow_pos2 (K - 1 - i)
    unfold rp
    split
    · rename_i hc
      refine ⟨by omega, hc, ?_⟩
      rw [Int.add_assoc, show (2 : Int) ^ (K - 1 - i) + 2 ^ (K - 1 - i) = 2 ^ (K - 1 - i) * 2 by omega]
      exact h3
    · rename_i hc
      exact ⟨h1, h2, by omega⟩
/-- The root of a number. -/
def isq (a : Int) : Int := rp a (nbits a / 2 + 1).toNat (nbits a / 2 + 1).toNat
theorem isq_bits (a : Int) (h0 : 0 ≤ a) : a < 2 ^ (nbits a / 2 + 1).toNat * 2 ^ (nbits a / 2 + 1).toNat := by
  rw [← Int.pow_add]
  by_cases h : a = 0
  · subst h; exact pow_pos2 _
  · obtain ⟨k, hk, k1, k2⟩ := nbits_pos (x := a) (by omega)
    refine Int.lt_of_lt_of_le k2 ?_
    rw [hk]
    exact_mod_cast Nat.pow_le_pow_right (by omega) (by omega)
theorem isq_spec (a : Int) (h0 : 0 ≤ a) : 0 ≤ isq a ∧ isq a * isq a ≤ a ∧ a < (isq a + 1) * (isq a + 1) := by
  have := rp_inv a (nbits a / 2 + 1).toNat h0 (isq_bits a h0) (nbits a / 2 + 1).toNat (Nat.le_refl _)
  simpa [isq] using this
theorem sq_lt {x y : Int} (hx : 0 ≤ x) (hy : 0 ≤ y) (h : x * x < y * y) : x < y := by
  refine Classical.byContradiction fun hn => ?_
  have : y * y ≤ x * x := Int.mul_le_mul (by omega) (by omega) hy hx
  omega
theorem isq_unique {a r : Int} (h0 : 0 ≤ r) (h1 : r * r ≤ a) (h2 : a < (r + 1) * (r + 1)) : isq a = r := by
  have ha : 0 ≤ a := Int.le_trans (Int.mul_nonneg h0 h0) h1
  obtain ⟨s0, s1, s2⟩ := isq_spec a ha
  have h3 := sq_lt (x := isq a) (y := r + 1) s0 (by omega) (by omega)
  have h4 := sq_lt (x := r) (y := isq a + 1) h0 (by omega) (by omega)
  omega
theorem sq_bd {x : Int} (B : Int) (hx : 0 ≤ x) (hB : 0 ≤ B) (h : x * x < B * B) : x < B := sq_lt hx hB h
def rfHp (a r : Int) : Hp := hpL G0 [(200, wb a), (208, wb r)]
def rfTs : Nat → Value := tsL [(1, .pointer (some ⟨200, 0, none⟩)), (2, .pointer (some ⟨208, 0, none⟩))]
theorem rfloor_neg (a : Int) (ha : wr a) (h0 : a < 0) : RetP Tryd.prog G0 44 #[wd a] (.pan (erV 2)) := by
  refine retp_of G0F Tryd.func44 rfl Tryd.call44 (fun v h => by cases h) (by simp) (by simp [Tryd.ntmps44]) ?_
  intro C hC hC0 hY
  have s1 : ¬ 0 ≤ cmpI (sz a) 0 := by rw [wr_sz ha]; unfold cmpI; split <;> (try split) <;> omega
  repeat' (first
    | refine GW_seq ?_
    | simp only [List.length_cons, List.length_nil, Nat.reduceAdd, Nat.reduceMul, thenG_normal, thenG_ret, thenG_exit, thenG_goto, thenG_panic, blockG_normal, blockG_ret, blockG_goto, blockG_panic, jumpG_normal, jumpG_ret, jumpG_exit, jumpG_panic]
    | (refine GW_region' [1000055] (by kernel_rfl) ?_; intro Q hQ hP; simp [hC, hY, s1]; (repeat (first | ((refine callP_of (rmust_f 2) ?_); try simp [hC, hY, s1]))); (first | refine hQ _ _ _ _ ?_ | refine hP _ _ (fun _ => ?_)); clear hQ hP Q)
    | (refine GW_draw' [1000055] follows (by kernel_rfl) (by kernel_rfl) ?_; intro Q hQ hP; simp [hC, hY, s1]; (repeat (first | ((refine callP_of (rmust_f 2) ?_); try simp [hC, hY, s1]))); (first | refine hQ _ _ _ _ (by kernel_rfl) ?_ | refine hP _ _ (by kernel_rfl) (fun _ => ?_)); clear hQ hP Q)
    | refine GW_block ?_
    | refine GW_ret ?_
    | refine GW_skip ?_
    | refine GW_exit ?_
    | refine GW_goto ?_
    | refine GW_label ?_
    | simp only [blockG_exit]
    | (refine GW_cond (by simp; rfl) ?_ ?_ <;> (intro hb; first | (exfalso; exact absurd hb (by decide)) | skip)))
  rfl
set_option maxHeartbeats 1000000 in
theorem rfloor_ret (a : Int) (ha : wr a) (h0 : 0 ≤ a) : Ret Tryd.prog G0 44 #[wd a] (wd (isq a)) := by
  refine ret_of G0F Tryd.func44 rfl Tryd.call44 (by simp) (by simp) (by simp [Tryd.ntmps44]) ?_
  intro C hC hC0 hY
  have s1 : 0 ≤ cmpI (sz a) 0 := by rw [wr_sz ha]; unfold cmpI; split <;> (try split) <;> omega
  have hnb := nbits_bd 255 ha.2
  have hit := all_it a
  have eu : uz a = a := by unfold uz; have := ha.2; omega
  rw [eu] at hit
  have hinv := rp_inv a (nbits a / 2 + 1).toNat h0 (isq_bits a h0)
  have hisq : isq a = rp a (nbits a / 2 + 1).toNat (nbits a / 2 + 1).toNat := rfl
  have hM : 0 ≤ nbits a / 2 ∧ nbits a / 2 ≤ 127 := by omega
  generalize nbits a / 2 = M at *
  repeat' (first
    | refine GW_seq ?_
    | simp only [List.length_cons, List.length_nil, Nat.reduceAdd, Nat.reduceMul, thenG_normal, thenG_ret, thenG_exit, thenG_goto, thenG_panic, blockG_normal, blockG_ret, blockG_goto, blockG_panic, jumpG_normal, jumpG_ret, jumpG_exit, jumpG_panic]
    | (refine GW_region' [] (by kernel_rfl) ?_; intro Q hQ hP; simp [hC, hY, s1]; (first | refine hQ _ _ _ _ ?_ | refine hP _ _ (fun _ => ?_)); clear hQ hP Q)
    | (refine GW_draw' [] follows (by kernel_rfl) (by kernel_rfl) ?_; intro Q hQ hP; simp [hC, hY, s1]; (first | refine hQ _ _ _ _ (by kernel_rfl) ?_ | refine hP _ _ (by kernel_rfl) (fun _ => ?_)); clear hQ hP Q)
    | refine GW_block ?_
    | refine GW_ret ?_
    | refine GW_skip ?_
    | refine GW_exit ?_
    | refine GW_goto ?_
    | refine GW_label ?_
    | simp only [blockG_exit]
    | (refine GW_cond (by simp; rfl) ?_ ?_ <;> (intro hb; first | (exfalso; exact absurd hb (by decide)) | skip)))
  refine GW_region' [85] (by kernel_rfl) ?_; intro Q hQ hP; simp [hC, hY]
  refine heapK_of (all_new a 256 (by omega)) (by simp) (fun _ _ => rfl) (by simp [Res.at]) ?_
  simp
  refine hQ _ _ _ _ ?_; clear hQ hP Q
  repeat' (first
    | refine GW_seq ?_
    | simp only [List.length_cons, List.length_nil, Nat.reduceAdd, Nat.reduceMul, thenG_normal, thenG_ret, thenG_exit, thenG_goto, thenG_panic, blockG_normal, blockG_ret, blockG_goto, blockG_panic, jumpG_normal, jumpG_ret, jumpG_exit, jumpG_panic]
    | (refine GW_region' [] (by kernel_rfl) ?_; intro Q hQ hP; simp [hC, hY]; (first | refine hQ _ _ _ _ ?_ | refine hP _ _ (fun _ => ?_)); clear hQ hP Q)
    | (refine GW_draw' [] follows (by kernel_rfl) (by kernel_rfl) ?_; intro Q hQ hP; simp [hC, hY]; (first | refine hQ _ _ _ _ (by kernel_rfl) ?_ | refine hP _ _ (by kernel_rfl) (fun _ => ?_)); clear hQ hP Q)
    | refine GW_block ?_
    | refine GW_ret ?_
    | refine GW_skip ?_
    | refine GW_exit ?_
    | refine GW_goto ?_
    | refine GW_label ?_
    | simp only [blockG_exit]
    | (refine GW_cond (by simp; rfl) ?_ ?_ <;> (intro hb; first | (exfalso; exact absurd hb (by decide)) | skip)))
  generalize hK : (M + 1).toNat = K at *
  refine GW_range (f := 97) (rs := [256]) (xs := allXs M) (caps := #[.pointer (some ⟨256, 0, none⟩)]) (by simp) ?_ ?_ (by simp [Tryd.ntmps44]) rfTs (fun i => rfHp a (rp a K i)) 300 K (by rw [allXs_len]; omega) ?_ ?_ ?_ ?_ ?_
  · rw [hC]
    refine IterG.cast (IterX.rn (fun k => if k = 100 then 256 else k) G0F (fun k hk => hpL_low (by simp) hk) (rs := [100]) ?_ hit) (by simp [ren0]) (by simp)
    refine ⟨fun k hk => ?_, ?_, ?_, ?_⟩
    · simp [aHp, show ¬ k = 100 by omega, show ¬ k = 200 by omega, show ¬ k = 208 by omega, show ¬ k = 256 by omega]
    · simp
    · simp [aHp, wb, Blk.rn, renF, ren0]
    · simp
  · intro x hx
    simp only [allXs, List.mem_map] at hx
    obtain ⟨i, _, rfl⟩ := hx
    simp
  · refine weakL _ 300 hC G0F (m0 := []) hC0 (by omega) ?_ ?_ ?_
    · simp [dom]
    · simp [wb, rp, wi_zero]
    · simp
  · simp [rfHp, dom]
  · intro i hi t
    refine tsL_ids ?_ t
    simp [dom, rfHp]
  · intro i x hi hx C1 l hC1 hh1 hY1
    have hCC := hC
    have hC1' : C1.G = G0 := hC1.trans hC
    obtain ⟨n, hn⟩ : ∃ n : Nat, M - (i : Int) = n := ⟨(M - i).toNat, by omega⟩
    rw [allXs_at M i (by omega), hn] at hx
    cases hx
    obtain ⟨r0, r1, r2⟩ := hinv i (by omega)
    have en : K - 1 - i = n := by omega
    have hrs : rp a K (i + 1) = if (rp a K i + 2 ^ n) * (rp a K i + 2 ^ n) ≤ a then rp a K i + 2 ^ n else rp a K i := by
      rw [rp, en]
    generalize rp a K i = r at *
    have hau := ha.2
    have hr : r < 340282366920938463463374607431768211456 := sq_bd _ r0 (by decide) (by omega)
    have hn2 : (2 : Int) ^ n ≤ 2 ^ 127 := by exact_mod_cast Nat.pow_le_pow_right (by omega) (by omega : n ≤ 127)
    have hn0 := pow_pos2 n
    have t0 : 0 ≤ r + 2 ^ n := by omega
    have t1 : r + 2 ^ n < 680564733841876926926749214863536422912 := by omega
    have szt : sz (r + 2 ^ n) = r + 2 ^ n := sz_pos t0 (Int.lt_trans t1 (by decide))
    have tt0 : 0 ≤ (r + 2 ^ n) * (r + 2 ^ n) := Int.mul_nonneg t0 t0
    have hmul : mulO (r + 2 ^ n) (r + 2 ^ n) = decide (¬ ((r + 2 ^ n) * (r + 2 ^ n) < 57896044618658097711785492504343953926634992332820282019728792003956564819968)) := by
      unfold mulO; rw [szt]; congr 1
      exact propext ⟨fun h1 h2 => h1 ⟨Int.le_trans (by decide) tt0, h2⟩, fun h1 h2 => h1 h2.2⟩
    have sza : sz a = a := wr_sz ha
    replace hC := hC1'
    replace hY := hY1
    simp only [hrs]
    generalize htt : (r + 2 ^ n) * (r + 2 ^ n) = T at *
    by_cases hov : T < 57896044618658097711785492504343953926634992332820282019728792003956564819968
    · have hm : mulO (r + 2 ^ n) (r + 2 ^ n) = false := by rw [hmul]; simp [hov]
      have szT : sz T = T := sz_pos tt0 hov
      by_cases hle : T ≤ a
      · have hcmp : cmpI (sz T) (sz a) ≤ 0 := by rw [szT, sza]; unfold cmpI; split <;> (try split) <;> omega
        rw [if_pos hle]
        unfold rfHp
        repeat' (first
          | refine GW_seq ?_
          | simp only [List.length_cons, List.length_nil, Nat.reduceAdd, Nat.reduceMul, thenG_normal, thenG_ret, thenG_exit, thenG_goto, thenG_panic, blockG_normal, blockG_ret, blockG_goto, blockG_panic, jumpG_normal, jumpG_ret, jumpG_exit, jumpG_panic]
          | (refine GW_region' [] (by kernel_rfl) ?_; intro Q hQ hP; simp [hC, hY, roundTs, rfTs]; (first | refine hQ _ _ _ _ ?_ | refine hP _ _ (fun _ => ?_)); clear hQ hP Q)
          | (refine GW_draw' [] follows (by kernel_rfl) (by kernel_rfl) ?_; intro Q hQ hP; simp [hC, hY, roundTs, rfTs]; (first | refine hQ _ _ _ _ (by kernel_rfl) ?_ | refine hP _ _ (by kernel_rfl) (fun _ => ?_)); clear hQ hP Q)
          | refine GW_block ?_
          | refine GW_ret ?_
          | refine GW_skip ?_
          | refine GW_exit ?_
          | refine GW_goto ?_
          | refine GW_label ?_
          | simp only [blockG_exit]
          | (refine GW_cond (by simp; rfl) ?_ ?_ <;> (intro hb; first | (exfalso; exact absurd hb (by decide)) | skip)))
        intro C2 hC2 hh2 hY2
        replace hC : C2.G = G0 := hC2.trans hCC
        replace hY := hY2
        repeat' (first
          | refine GW_seq ?_
          | simp only [List.length_cons, List.length_nil, Nat.reduceAdd, Nat.reduceMul, thenG_normal, thenG_ret, thenG_exit, thenG_goto, thenG_panic, blockG_normal, blockG_ret, blockG_goto, blockG_panic, jumpG_normal, jumpG_ret, jumpG_exit, jumpG_panic]
          | (refine GW_region' [] (by kernel_rfl) ?_; intro Q hQ hP; simp [hC, hY, roundTs, rfTs, wb, szt, htt, hm, hcmp]; (first | refine hQ _ _ _ _ ?_ | refine hP _ _ (fun _ => ?_)); clear hQ hP Q)
          | (refine GW_draw' [] follows (by kernel_rfl) (by kernel_rfl) ?_; intro Q hQ hP; simp [hC, hY, roundTs, rfTs, wb, szt, htt, hm, hcmp]; (first | refine hQ _ _ _ _ (by kernel_rfl) ?_ | refine hP _ _ (by kernel_rfl) (fun _ => ?_)); clear hQ hP Q)
          | refine GW_block ?_
          | refine GW_ret ?_
          | refine GW_skip ?_
          | refine GW_exit ?_
          | refine GW_goto ?_
          | refine GW_label ?_
          | simp only [blockG_exit]
          | (refine GW_cond (by simp; rfl) ?_ ?_ <;> (intro hb; first | (exfalso; exact absurd hb (by decide)) | skip)))
        refine weakL [] 300 hC1' G0F hh1 (by omega) ?_ ?_ ?_
        · simp
        · simp [wb]
        · simp [wb]
      · have hcmp : ¬ cmpI (sz T) (sz a) ≤ 0 := by rw [szT, sza]; unfold cmpI; split <;> (try split) <;> omega
        rw [if_neg hle]
        unfold rfHp
        repeat' (first
          | refine GW_seq ?_
          | simp only [List.length_cons, List.length_nil, Nat.reduceAdd, Nat.reduceMul, thenG_normal, thenG_ret, thenG_exit, thenG_goto, thenG_panic, blockG_normal, blockG_ret, blockG_goto, blockG_panic, jumpG_normal, jumpG_ret, jumpG_exit, jumpG_panic]
          | (refine GW_region' [] (by kernel_rfl) ?_; intro Q hQ hP; simp [hC, hY, roundTs, rfTs]; (first | refine hQ _ _ _ _ ?_ | refine hP _ _ (fun _ => ?_)); clear hQ hP Q)
          | (refine GW_draw' [] follows (by kernel_rfl) (by kernel_rfl) ?_; intro Q hQ hP; simp [hC, hY, roundTs, rfTs]; (first | refine hQ _ _ _ _ (by kernel_rfl) ?_ | refine hP _ _ (by kernel_rfl) (fun _ => ?_)); clear hQ hP Q)
          | refine GW_block ?_
          | refine GW_ret ?_
          | refine GW_skip ?_
          | refine GW_exit ?_
          | refine GW_goto ?_
          | refine GW_label ?_
          | simp only [blockG_exit]
          | (refine GW_cond (by simp; rfl) ?_ ?_ <;> (intro hb; first | (exfalso; exact absurd hb (by decide)) | skip)))
        intro C2 hC2 hh2 hY2
        replace hC : C2.G = G0 := hC2.trans hCC
        replace hY := hY2
        repeat' (first
          | refine GW_seq ?_
          | simp only [List.length_cons, List.length_nil, Nat.reduceAdd, Nat.reduceMul, thenG_normal, thenG_ret, thenG_exit, thenG_goto, thenG_panic, blockG_normal, blockG_ret, blockG_goto, blockG_panic, jumpG_normal, jumpG_ret, jumpG_exit, jumpG_panic]
          | (refine GW_region' [] (by kernel_rfl) ?_; intro Q hQ hP; simp [hC, hY, roundTs, rfTs, wb, szt, htt, hm, hcmp]; (first | refine hQ _ _ _ _ ?_ | refine hP _ _ (fun _ => ?_)); clear hQ hP Q)
          | (refine GW_draw' [] follows (by kernel_rfl) (by kernel_rfl) ?_; intro Q hQ hP; simp [hC, hY, roundTs, rfTs, wb, szt, htt, hm, hcmp]; (first | refine hQ _ _ _ _ (by kernel_rfl) ?_ | refine hP _ _ (by kernel_rfl) (fun _ => ?_)); clear hQ hP Q)
          | refine GW_block ?_
          | refine GW_ret ?_
          | refine GW_skip ?_
          | refine GW_exit ?_
          | refine GW_goto ?_
          | refine GW_label ?_
          | simp only [blockG_exit]
          | (refine GW_cond (by simp; rfl) ?_ ?_ <;> (intro hb; first | (exfalso; exact absurd hb (by decide)) | skip)))
        refine weakL [] 300 hC1' G0F hh1 (by omega) ?_ ?_ ?_
        · simp
        · simp [wb]
        · simp [wb]
    · have hm : mulO (r + 2 ^ n) (r + 2 ^ n) = true := by rw [hmul]; simp only [hov, not_false_eq_true, decide_true]
      have hle : ¬ T ≤ a := fun h => hov (Int.lt_of_le_of_lt h hau)
      rw [if_neg hle]
      unfold rfHp
      repeat' (first
        | refine GW_seq ?_
        | simp only [List.length_cons, List.length_nil, Nat.reduceAdd, Nat.reduceMul, thenG_normal, thenG_ret, thenG_exit, thenG_goto, thenG_panic, blockG_normal, blockG_ret, blockG_goto, blockG_panic, jumpG_normal, jumpG_ret, jumpG_exit, jumpG_panic]
        | (refine GW_region' [] (by kernel_rfl) ?_; intro Q hQ hP; simp [hC, hY, roundTs, rfTs]; (first | refine hQ _ _ _ _ ?_ | refine hP _ _ (fun _ => ?_)); clear hQ hP Q)
        | (refine GW_draw' [] follows (by kernel_rfl) (by kernel_rfl) ?_; intro Q hQ hP; simp [hC, hY, roundTs, rfTs]; (first | refine hQ _ _ _ _ (by kernel_rfl) ?_ | refine hP _ _ (by kernel_rfl) (fun _ => ?_)); clear hQ hP Q)
        | refine GW_block ?_
        | refine GW_ret ?_
        | refine GW_skip ?_
        | refine GW_exit ?_
        | refine GW_goto ?_
        | refine GW_label ?_
        | simp only [blockG_exit]
        | (refine GW_cond (by simp; rfl) ?_ ?_ <;> (intro hb; first | (exfalso; exact absurd hb (by decide)) | skip)))
      intro C2 hC2 hh2 hY2
      replace hC : C2.G = G0 := hC2.trans hCC
      replace hY := hY2
      repeat' (first
        | refine GW_seq ?_
        | simp only [List.length_cons, List.length_nil, Nat.reduceAdd, Nat.reduceMul, thenG_normal, thenG_ret, thenG_exit, thenG_goto, thenG_panic, blockG_normal, blockG_ret, blockG_goto, blockG_panic, jumpG_normal, jumpG_ret, jumpG_exit, jumpG_panic]
        | (refine GW_region' [] (by kernel_rfl) ?_; intro Q hQ hP; simp [hC, hY, roundTs, rfTs, wb, szt, htt, hm]; (first | refine hQ _ _ _ _ ?_ | refine hP _ _ (fun _ => ?_)); clear hQ hP Q)
        | (refine GW_draw' [] follows (by kernel_rfl) (by kernel_rfl) ?_; intro Q hQ hP; simp [hC, hY, roundTs, rfTs, wb, szt, htt, hm]; (first | refine hQ _ _ _ _ (by kernel_rfl) ?_ | refine hP _ _ (by kernel_rfl) (fun _ => ?_)); clear hQ hP Q)
        | refine GW_block ?_
        | refine GW_ret ?_
        | refine GW_skip ?_
        | refine GW_exit ?_
        | refine GW_goto ?_
        | refine GW_label ?_
        | simp only [blockG_exit]
        | (refine GW_cond (by simp; rfl) ?_ ?_ <;> (intro hb; first | (exfalso; exact absurd hb (by decide)) | skip)))
      refine weakL [] 300 hC1' G0F hh1 (by omega) ?_ ?_ ?_
      · simp
      · simp [wb]
      · simp [wb]
  · left
    refine ⟨by rw [allXs_len]; omega, ?_⟩
    rw [← hisq]
    unfold rfHp rfTs
    repeat' (first
      | refine GW_seq ?_
      | simp only [List.length_cons, List.length_nil, Nat.reduceAdd, Nat.reduceMul, thenG_normal, thenG_ret, thenG_exit, thenG_goto, thenG_panic, blockG_normal, blockG_ret, blockG_goto, blockG_panic, jumpG_normal, jumpG_ret, jumpG_exit, jumpG_panic]
      | (refine GW_region' [] (by kernel_rfl) ?_; intro Q hQ hP; simp [hC, hY, wb]; (first | refine hQ _ _ _ _ ?_ | refine hP _ _ (fun _ => ?_)); clear hQ hP Q)
      | (refine GW_draw' [] follows (by kernel_rfl) (by kernel_rfl) ?_; intro Q hQ hP; simp [hC, hY, wb]; (first | refine hQ _ _ _ _ (by kernel_rfl) ?_ | refine hP _ _ (by kernel_rfl) (fun _ => ?_)); clear hQ hP Q)
      | refine GW_block ?_
      | refine GW_ret ?_
      | refine GW_skip ?_
      | refine GW_exit ?_
      | refine GW_goto ?_
      | refine GW_label ?_
      | simp only [blockG_exit]
      | (refine GW_cond (by simp; rfl) ?_ ?_ <;> (intro hb; first | (exfalso; exact absurd hb (by decide)) | skip)))
    refine ⟨.inr trivial, ?_⟩
    simp [Tryd.results44]
@[simp] theorem rfloor (a : Int) (ha : wr a) (h0 : 0 ≤ a) (K : Value → Prop) : callK Tryd.prog G0 44 #[Value.agg #[.int .u64 (wi (a) 0), .int .u64 (wi (a) 1), .int .u64 (wi (a) 2), .int .u64 (wi (a) 3)]] K ↔ K (wd (isq a)) := callK_iff G0W (by kernel_rfl) (rfloor_ret a ha h0)
end Go.Gy
namespace Go.Gy
set_option linter.unusedSimpArgs false
set_option linter.unusedVariables false
open Go Go.RowKit Go.Proofs
theorem exact_ret (r a : Int) : Ret Tryd.prog G0 47 #[wd r, wd a] (.bool (decide (sz (sz r * sz r) = sz a))) := by
  refine ret_of G0F Tryd.func47 rfl Tryd.call47 rfl (by simp) (by simp [Tryd.ntmps47]) ?_
  intro C hC hC0 hY
  repeat' (first
    | refine GW_seq ?_
    | simp only [List.length_cons, List.length_nil, Nat.reduceAdd, Nat.reduceMul, thenG_normal, thenG_ret, thenG_exit, thenG_goto, thenG_panic, blockG_normal, blockG_ret, blockG_goto, blockG_panic, jumpG_normal, jumpG_ret, jumpG_exit, jumpG_panic]
    | (refine GW_region' [] (by kernel_rfl) ?_; intro Q hQ hP; simp [hC, hY]; (first | refine hQ _ _ _ _ ?_ | refine hP _ _ (fun _ => ?_)); clear hQ hP Q)
    | (refine GW_draw' [] follows (by kernel_rfl) (by kernel_rfl) ?_; intro Q hQ hP; simp [hC, hY]; (first | refine hQ _ _ _ _ (by kernel_rfl) ?_ | refine hP _ _ (by kernel_rfl) (fun _ => ?_)); clear hQ hP Q)
    | refine GW_block ?_
    | refine GW_ret ?_
    | refine GW_skip ?_
    | refine GW_exit ?_
    | refine GW_goto ?_
    | refine GW_label ?_
    | simp only [blockG_exit]
    | (refine GW_cond (by simp; rfl) ?_ ?_ <;> (intro hb; first | (exfalso; exact absurd hb (by decide)) | skip)))
  refine ⟨.inr trivial, ?_⟩
  simp [Tryd.results47]
  rw [weq]
@[simp] theorem rexact (r a : Int) (K : Value → Prop) : callK Tryd.prog G0 47 #[Value.agg #[.int .u64 (wi (r) 0), .int .u64 (wi (r) 1), .int .u64 (wi (r) 2), .int .u64 (wi (r) 3)], Value.agg #[.int .u64 (wi (a) 0), .int .u64 (wi (a) 1), .int .u64 (wi (a) 2), .int .u64 (wi (a) 3)]] K ↔ K (.bool (decide (sz (sz r * sz r) = sz a))) := callK_iff G0W (by kernel_rfl) (exact_ret r a)
theorem next_ret (a : Int) : Ret Tryd.prog G0 48 #[wd a] (wd (a + 1)) := by
  refine ret_of G0F Tryd.func48 rfl Tryd.call48 (by simp) (by simp) (by simp [Tryd.ntmps48]) ?_
  intro C hC hC0 hY
  have i1 := i64_1
  repeat' (first
    | refine GW_seq ?_
    | simp only [List.length_cons, List.length_nil, Nat.reduceAdd, Nat.reduceMul, thenG_normal, thenG_ret, thenG_exit, thenG_goto, thenG_panic, blockG_normal, blockG_ret, blockG_goto, blockG_panic, jumpG_normal, jumpG_ret, jumpG_exit, jumpG_panic]
    | (refine GW_region' [] (by kernel_rfl) ?_; intro Q hQ hP; simp [hC, hY, i1]; (first | refine hQ _ _ _ _ ?_ | refine hP _ _ (fun _ => ?_)); clear hQ hP Q)
    | (refine GW_draw' [] follows (by kernel_rfl) (by kernel_rfl) ?_; intro Q hQ hP; simp [hC, hY, i1]; (first | refine hQ _ _ _ _ (by kernel_rfl) ?_ | refine hP _ _ (by kernel_rfl) (fun _ => ?_)); clear hQ hP Q)
    | refine GW_block ?_
    | refine GW_ret ?_
    | refine GW_skip ?_
    | refine GW_exit ?_
    | refine GW_goto ?_
    | refine GW_label ?_
    | simp only [blockG_exit]
    | (refine GW_cond (by simp; rfl) ?_ ?_ <;> (intro hb; first | (exfalso; exact absurd hb (by decide)) | skip)))
  refine ⟨.inr trivial, ?_⟩
  simp [Tryd.results48]
@[simp] theorem rnext (a : Int) (K : Value → Prop) : callK Tryd.prog G0 48 #[Value.agg #[.int .u64 (wi (a) 0), .int .u64 (wi (a) 1), .int .u64 (wi (a) 2), .int .u64 (wi (a) 3)]] K ↔ K (wd (a + 1)) := callK_iff G0W (by kernel_rfl) (next_ret a)
def hp1 (a : Int) : Hp := hpL G0 [(200, wb a)]
theorem hp1_rst (a : Int) : rst (hp1 a) [200] = hp1 a := hpL_rst G0F (by simp)
theorem hp1_closed (a : Int) (D : Nat → Prop) (k : Nat) (c : Blk) (h : hp1 a k = some c) : c.ids D := by
  rcases hpL_mem h with h | h
  · simp at h
    rcases h with ⟨_, rfl⟩
    simp [wb]
  · exact G0_closed _ _ _ h
theorem hp1_free (a : Int) (x : Nat) (hx : 300 ≤ x) : hp1 a x = none := by
  simp [hp1, show ¬ x = 200 by omega, show 100 ≤ x by omega]
theorem rFloor1_p (a : Int) (ha : wr a) (h0 : 0 ≤ a) : Fun Tryd.prog G0 43 [.pointer (some ⟨200, 0, none⟩)].toArray (hp1 a) [200] (.ret (wd (isq a)) []) := by
  refine fun_of (B := 300) G0F (fun k hk => hpL_low (by simp) hk) Tryd.func43 rfl Tryd.call43 ?_ ?_ ⟨flatV_ids (by simp), by simp [keys], by simp, by simp⟩ (by simp [Tryd.ntmps43]) (by omega) ?_ ?_
  · rw [hp1_rst]; simp [hp1, dom]
  · rw [hp1_rst]; exact hp1_closed a _
  · rw [hp1_rst]; exact hp1_free a
  · intro C hC hC0 hY
    rw [hp1_rst] at hC0 ⊢
    repeat' (first
      | refine GW_seq ?_
      | simp only [List.length_cons, List.length_nil, Nat.reduceAdd, Nat.reduceMul, thenG_normal, thenG_ret, thenG_exit, thenG_goto, thenG_panic, blockG_normal, blockG_ret, blockG_goto, blockG_panic, jumpG_normal, jumpG_ret, jumpG_exit, jumpG_panic]
      | (refine GW_region' [] (by kernel_rfl) ?_; intro Q hQ hP; simp [hC, hY, hp1, wb, ha, h0]; (first | refine hQ _ _ _ _ ?_ | refine hP _ _ (fun _ => ?_)); clear hQ hP Q)
      | (refine GW_draw' [] follows (by kernel_rfl) (by kernel_rfl) ?_; intro Q hQ hP; simp [hC, hY, hp1, wb, ha, h0]; (first | refine hQ _ _ _ _ (by kernel_rfl) ?_ | refine hP _ _ (by kernel_rfl) (fun _ => ?_)); clear hQ hP Q)
      | refine GW_block ?_
      | refine GW_ret ?_
      | refine GW_skip ?_
      | refine GW_exit ?_
      | refine GW_goto ?_
      | refine GW_label ?_
      | simp only [blockG_exit]
      | (refine GW_cond (by simp; rfl) ?_ ?_ <;> (intro hb; first | (exfalso; exact absurd hb (by decide)) | skip)))
    refine ⟨.inr rfl, by simp [Tryd.results43], fun k hk => ?_⟩
    have hk3 : k < 300 := Classical.byContradiction fun h => hk (hp1_free a k (by omega))
    simp (disch := omega) only [upd_far]
    rfl
theorem rFloor1_n (a : Int) (ha : wr a) (h0 : a < 0) : Fun Tryd.prog G0 43 [.pointer (some ⟨200, 0, none⟩)].toArray (hp1 a) [200] (.pan (erV 2)) := by
  refine fun_of (B := 300) G0F (fun k hk => hpL_low (by simp) hk) Tryd.func43 rfl Tryd.call43 ?_ ?_ trivial (by simp [Tryd.ntmps43]) (by omega) ?_ ?_
  · rw [hp1_rst]; simp [hp1, dom]
  · rw [hp1_rst]; exact hp1_closed a _
  · rw [hp1_rst]; exact hp1_free a
  · intro C hC hC0 hY
    rw [hp1_rst] at hC0 ⊢
    repeat' (first
      | refine GW_seq ?_
      | simp only [List.length_cons, List.length_nil, Nat.reduceAdd, Nat.reduceMul, thenG_normal, thenG_ret, thenG_exit, thenG_goto, thenG_panic, blockG_normal, blockG_ret, blockG_goto, blockG_panic, jumpG_normal, jumpG_ret, jumpG_exit, jumpG_panic]
      | (refine GW_region' [1000044] (by kernel_rfl) ?_; intro Q hQ hP; simp [hC, hY, hp1, wb]; (repeat (first | ((refine callP_of (rfloor_neg a ha h0) ?_); try simp [hC, hY, hp1, wb]))); (first | refine hQ _ _ _ _ ?_ | refine hP _ _ (fun _ => ?_)); clear hQ hP Q)
      | (refine GW_draw' [1000044] follows (by kernel_rfl) (by kernel_rfl) ?_; intro Q hQ hP; simp [hC, hY, hp1, wb]; (repeat (first | ((refine callP_of (rfloor_neg a ha h0) ?_); try simp [hC, hY, hp1, wb]))); (first | refine hQ _ _ _ _ (by kernel_rfl) ?_ | refine hP _ _ (by kernel_rfl) (fun _ => ?_)); clear hQ hP Q)
      | refine GW_block ?_
      | refine GW_ret ?_
      | refine GW_skip ?_
      | refine GW_exit ?_
      | refine GW_goto ?_
      | refine GW_label ?_
      | simp only [blockG_exit]
      | (refine GW_cond (by simp; rfl) ?_ ?_ <;> (intro hb; first | (exfalso; exact absurd hb (by decide)) | skip)))
    refine ⟨rfl, fun k hk => ?_⟩
    have hk3 : k < 300 := Classical.byContradiction fun h => hk (hp1_free a k (by omega))
    simp (disch := omega) only [upd_far]
    rfl
theorem rFloor_p_ret (a : Int) (ha : wr a) (h0 : 0 ≤ a) : Ret Tryd.prog G0 12 #[wd a] (.tuple #[wd (isq a), .int .i64 0]) := by
  refine ret_of G0F Tryd.func12 rfl Tryd.call12 (by simp) (by simp) (by simp [Tryd.ntmps12]) ?_
  intro C hC hC0 hY
  repeat' (first
    | refine GW_seq ?_
    | simp only [List.length_cons, List.length_nil, Nat.reduceAdd, Nat.reduceMul, thenG_normal, thenG_ret, thenG_exit, thenG_goto, thenG_panic, blockG_normal, blockG_ret, blockG_goto, blockG_panic, jumpG_normal, jumpG_ret, jumpG_exit, jumpG_panic]
    | (refine GW_region' [42] (by kernel_rfl) ?_; intro Q hQ hP; simp [hC, hY]; (repeat (first | ((refine heapK_of (hp' := hp1 a) (rtold_ret (fun k hk => hpL_low (by simp) hk) (by simp) rfl (by simp) (rFloor1_p a ha h0)) (by simp [hp1, wb]) (fun k hk => hpL_low (by simp) hk) trivial ?_); try simp [hC, hY]))); (first | refine hQ _ _ _ _ ?_ | refine hP _ _ (fun _ => ?_)); clear hQ hP Q)
    | (refine GW_draw' [42] follows (by kernel_rfl) (by kernel_rfl) ?_; intro Q hQ hP; simp [hC, hY]; (repeat (first | ((refine heapK_of (hp' := hp1 a) (rtold_ret (fun k hk => hpL_low (by simp) hk) (by simp) rfl (by simp) (rFloor1_p a ha h0)) (by simp [hp1, wb]) (fun k hk => hpL_low (by simp) hk) trivial ?_); try simp [hC, hY]))); (first | refine hQ _ _ _ _ (by kernel_rfl) ?_ | refine hP _ _ (by kernel_rfl) (fun _ => ?_)); clear hQ hP Q)
    | refine GW_block ?_
    | refine GW_ret ?_
    | refine GW_skip ?_
    | refine GW_exit ?_
    | refine GW_goto ?_
    | refine GW_label ?_
    | simp only [blockG_exit]
    | (refine GW_cond (by simp; rfl) ?_ ?_ <;> (intro hb; first | (exfalso; exact absurd hb (by decide)) | skip)))
  refine ⟨.inr trivial, ?_⟩
  simp [Tryd.results12]
theorem rFloor_n_ret (a : Int) (ha : wr a) (h0 : a < 0) : Ret Tryd.prog G0 12 #[wd a] (.tuple #[wd 0, .int .i64 2]) := by
  refine ret_of G0F Tryd.func12 rfl Tryd.call12 (by simp) (by simp) (by simp [Tryd.ntmps12]) ?_
  intro C hC hC0 hY
  repeat' (first
    | refine GW_seq ?_
    | simp only [List.length_cons, List.length_nil, Nat.reduceAdd, Nat.reduceMul, thenG_normal, thenG_ret, thenG_exit, thenG_goto, thenG_panic, blockG_normal, blockG_ret, blockG_goto, blockG_panic, jumpG_normal, jumpG_ret, jumpG_exit, jumpG_panic]
    | (refine GW_region' [42] (by kernel_rfl) ?_; intro Q hQ hP; simp [hC, hY]; (repeat (first | ((refine heapK_of (hp' := hp1 a) (rtold_pan (fun k hk => hpL_low (by simp) hk) (by simp) rfl (by simp) (rFloor1_n a ha h0)) (by simp [hp1, wb]) (fun k hk => hpL_low (by simp) hk) trivial ?_); try simp [hC, hY]))); (first | refine hQ _ _ _ _ ?_ | refine hP _ _ (fun _ => ?_)); clear hQ hP Q)
    | (refine GW_draw' [42] follows (by kernel_rfl) (by kernel_rfl) ?_; intro Q hQ hP; simp [hC, hY]; (repeat (first | ((refine heapK_of (hp' := hp1 a) (rtold_pan (fun k hk => hpL_low (by simp) hk) (by simp) rfl (by simp) (rFloor1_n a ha h0)) (by simp [hp1, wb]) (fun k hk => hpL_low (by simp) hk) trivial ?_); try simp [hC, hY]))); (first | refine hQ _ _ _ _ (by kernel_rfl) ?_ | refine hP _ _ (by kernel_rfl) (fun _ => ?_)); clear hQ hP Q)
    | refine GW_block ?_
    | refine GW_ret ?_
    | refine GW_skip ?_
    | refine GW_exit ?_
    | refine GW_goto ?_
    | refine GW_label ?_
    | simp only [blockG_exit]
    | (refine GW_cond (by simp; rfl) ?_ ?_ <;> (intro hb; first | (exfalso; exact absurd hb (by decide)) | skip)))
  refine ⟨.inr trivial, ?_⟩
  simp [Tryd.results12, wi_zero]
@[simp] theorem rFloor_p (a : Int) (ha : wr a) (h0 : 0 ≤ a) (K : Value → Prop) : callK Tryd.prog G0 12 #[Value.agg #[.int .u64 (wi (a) 0), .int .u64 (wi (a) 1), .int .u64 (wi (a) 2), .int .u64 (wi (a) 3)]] K ↔ K (.tuple #[wd (isq a), .int .i64 0]) := callK_iff G0W (by kernel_rfl) (rFloor_p_ret a ha h0)
@[simp] theorem rFloor_n (a : Int) (ha : wr a) (h0 : a < 0) (K : Value → Prop) : callK Tryd.prog G0 12 #[Value.agg #[.int .u64 (wi (a) 0), .int .u64 (wi (a) 1), .int .u64 (wi (a) 2), .int .u64 (wi (a) 3)]] K ↔ K (.tuple #[wd 0, .int .i64 2]) := callK_iff G0W (by kernel_rfl) (rFloor_n_ret a ha h0)
/-- An upper root. -/
def isqU (a : Int) : Int := if isq a * isq a = a then isq a else isq a + 1
theorem isq_le (a : Int) (ha : wr a) (h0 : 0 ≤ a) : isq a < 340282366920938463463374607431768211456 ∧ wr (isq a) := by
  obtain ⟨h1, h2, h3⟩ := isq_spec a h0
  have hau := ha.2
  have h4 := sq_bd 340282366920938463463374607431768211456 h1 (by decide) (by omega)
  exact ⟨h4, Int.le_trans (by decide) h1, Int.lt_trans h4 (by decide)⟩
theorem isq_sq (a : Int) (ha : wr a) (h0 : 0 ≤ a) : decide (sz (sz (isq a) * sz (isq a)) = sz a) = decide (isq a * isq a = a) := by
  have h := isq_le a ha h0
  obtain ⟨h1, h2, h3⟩ := isq_spec a h0
  rw [wr_sz h.2, wr_sz ha, sz_pos (Int.mul_nonneg h1 h1) (Int.lt_of_le_of_lt h2 ha.2)]
theorem rCeil1_p (a : Int) (ha : wr a) (h0 : 0 ≤ a) : Fun Tryd.prog G0 46 [.pointer (some ⟨200, 0, none⟩)].toArray (hp1 a) [200] (.ret (wd (isqU a)) []) := by
  refine fun_of (B := 300) G0F (fun k hk => hpL_low (by simp) hk) Tryd.func46 rfl Tryd.call46 ?_ ?_ ⟨flatV_ids (by simp), by simp [keys], by simp, by simp⟩ (by simp [Tryd.ntmps46]) (by omega) ?_ ?_
  · rw [hp1_rst]; simp [hp1, dom]
  · rw [hp1_rst]; exact hp1_closed a _
  · rw [hp1_rst]; exact hp1_free a
  · intro C hC hC0 hY
    rw [hp1_rst] at hC0 ⊢
    have hq := isq_sq a ha h0
    by_cases hs : isq a * isq a = a
    · have hq' : sz (sz (isq a) * sz (isq a)) = sz a := by rw [decide_eq_decide] at hq; exact hq.2 hs
      have hu : isqU a = isq a := if_pos hs
      rw [hu]
      repeat' (first
        | refine GW_seq ?_
        | simp only [List.length_cons, List.length_nil, Nat.reduceAdd, Nat.reduceMul, thenG_normal, thenG_ret, thenG_exit, thenG_goto, thenG_panic, blockG_normal, blockG_ret, blockG_goto, blockG_panic, jumpG_normal, jumpG_ret, jumpG_exit, jumpG_panic]
        | (refine GW_region' [] (by kernel_rfl) ?_; intro Q hQ hP; simp [hC, hY, hp1, wb, ha, h0, hq']; (first | refine hQ _ _ _ _ ?_ | refine hP _ _ (fun _ => ?_)); clear hQ hP Q)
        | (refine GW_draw' [] follows (by kernel_rfl) (by kernel_rfl) ?_; intro Q hQ hP; simp [hC, hY, hp1, wb, ha, h0, hq']; (first | refine hQ _ _ _ _ (by kernel_rfl) ?_ | refine hP _ _ (by kernel_rfl) (fun _ => ?_)); clear hQ hP Q)
        | refine GW_block ?_
        | refine GW_ret ?_
        | refine GW_skip ?_
        | refine GW_exit ?_
        | refine GW_goto ?_
        | refine GW_label ?_
        | simp only [blockG_exit]
        | (refine GW_cond (by simp; rfl) ?_ ?_ <;> (intro hb; first | (exfalso; exact absurd hb (by decide)) | skip)))
      refine ⟨.inr rfl, by simp [Tryd.results46], fun k hk => ?_⟩
      have hk3 : k < 300 := Classical.byContradiction fun h => hk (hp1_free a k (by omega))
      simp (disch := omega) only [upd_far]
      rfl
    · have hq' : ¬ sz (sz (isq a) * sz (isq a)) = sz a := by rw [decide_eq_decide] at hq; exact fun h => hs (hq.1 h)
      have hu : isqU a = isq a + 1 := if_neg hs
      rw [hu]
      repeat' (first
        | refine GW_seq ?_
        | simp only [List.length_cons, List.length_nil, Nat.reduceAdd, Nat.reduceMul, thenG_normal, thenG_ret, thenG_exit, thenG_goto, thenG_panic, blockG_normal, blockG_ret, blockG_goto, blockG_panic, jumpG_normal, jumpG_ret, jumpG_exit, jumpG_panic]
        | (refine GW_region' [] (by kernel_rfl) ?_; intro Q hQ hP; simp [hC, hY, hp1, wb, ha, h0, hq']; (first | refine hQ _ _ _ _ ?_ | refine hP _ _ (fun _ => ?_)); clear hQ hP Q)
        | (refine GW_draw' [] follows (by kernel_rfl) (by kernel_rfl) ?_; intro Q hQ hP; simp [hC, hY, hp1, wb, ha, h0, hq']; (first | refine hQ _ _ _ _ (by kernel_rfl) ?_ | refine hP _ _ (by kernel_rfl) (fun _ => ?_)); clear hQ hP Q)
        | refine GW_block ?_
        | refine GW_ret ?_
        | refine GW_skip ?_
        | refine GW_exit ?_
        | refine GW_goto ?_
        | refine GW_label ?_
        | simp only [blockG_exit]
        | (refine GW_cond (by simp; rfl) ?_ ?_ <;> (intro hb; first | (exfalso; exact absurd hb (by decide)) | skip)))
      refine ⟨.inr rfl, by simp [Tryd.results46], fun k hk => ?_⟩
      have hk3 : k < 300 := Classical.byContradiction fun h => hk (hp1_free a k (by omega))
      simp (disch := omega) only [upd_far]
      rfl
theorem rCeil1_n (a : Int) (ha : wr a) (h0 : a < 0) : Fun Tryd.prog G0 46 [.pointer (some ⟨200, 0, none⟩)].toArray (hp1 a) [200] (.pan (erV 2)) := by
  refine fun_of (B := 300) G0F (fun k hk => hpL_low (by simp) hk) Tryd.func46 rfl Tryd.call46 ?_ ?_ trivial (by simp [Tryd.ntmps46]) (by omega) ?_ ?_
  · rw [hp1_rst]; simp [hp1, dom]
  · rw [hp1_rst]; exact hp1_closed a _
  · rw [hp1_rst]; exact hp1_free a
  · intro C hC hC0 hY
    rw [hp1_rst] at hC0 ⊢
    repeat' (first
      | refine GW_seq ?_
      | simp only [List.length_cons, List.length_nil, Nat.reduceAdd, Nat.reduceMul, thenG_normal, thenG_ret, thenG_exit, thenG_goto, thenG_panic, blockG_normal, blockG_ret, blockG_goto, blockG_panic, jumpG_normal, jumpG_ret, jumpG_exit, jumpG_panic]
      | (refine GW_region' [1000044] (by kernel_rfl) ?_; intro Q hQ hP; simp [hC, hY, hp1, wb]; (repeat (first | ((refine callP_of (rfloor_neg a ha h0) ?_); try simp [hC, hY, hp1, wb]))); (first | refine hQ _ _ _ _ ?_ | refine hP _ _ (fun _ => ?_)); clear hQ hP Q)
      | (refine GW_draw' [1000044] follows (by kernel_rfl) (by kernel_rfl) ?_; intro Q hQ hP; simp [hC, hY, hp1, wb]; (repeat (first | ((refine callP_of (rfloor_neg a ha h0) ?_); try simp [hC, hY, hp1, wb]))); (first | refine hQ _ _ _ _ (by kernel_rfl) ?_ | refine hP _ _ (by kernel_rfl) (fun _ => ?_)); clear hQ hP Q)
      | refine GW_block ?_
      | refine GW_ret ?_
      | refine GW_skip ?_
      | refine GW_exit ?_
      | refine GW_goto ?_
      | refine GW_label ?_
      | simp only [blockG_exit]
      | (refine GW_cond (by simp; rfl) ?_ ?_ <;> (intro hb; first | (exfalso; exact absurd hb (by decide)) | skip)))
    refine ⟨rfl, fun k hk => ?_⟩
    have hk3 : k < 300 := Classical.byContradiction fun h => hk (hp1_free a k (by omega))
    simp (disch := omega) only [upd_far]
    rfl
theorem rCeil_p_ret (a : Int) (ha : wr a) (h0 : 0 ≤ a) : Ret Tryd.prog G0 14 #[wd a] (.tuple #[wd (isqU a), .int .i64 0]) := by
  refine ret_of G0F Tryd.func14 rfl Tryd.call14 (by simp) (by simp) (by simp [Tryd.ntmps14]) ?_
  intro C hC hC0 hY
  repeat' (first
    | refine GW_seq ?_
    | simp only [List.length_cons, List.length_nil, Nat.reduceAdd, Nat.reduceMul, thenG_normal, thenG_ret, thenG_exit, thenG_goto, thenG_panic, blockG_normal, blockG_ret, blockG_goto, blockG_panic, jumpG_normal, jumpG_ret, jumpG_exit, jumpG_panic]
    | (refine GW_region' [42] (by kernel_rfl) ?_; intro Q hQ hP; simp [hC, hY]; (repeat (first | ((refine heapK_of (hp' := hp1 a) (rtold_ret (fun k hk => hpL_low (by simp) hk) (by simp) rfl (by simp) (rCeil1_p a ha h0)) (by simp [hp1, wb]) (fun k hk => hpL_low (by simp) hk) trivial ?_); try simp [hC, hY]))); (first | refine hQ _ _ _ _ ?_ | refine hP _ _ (fun _ => ?_)); clear hQ hP Q)
    | (refine GW_draw' [42] follows (by kernel_rfl) (by kernel_rfl) ?_; intro Q hQ hP; simp [hC, hY]; (repeat (first | ((refine heapK_of (hp' := hp1 a) (rtold_ret (fun k hk => hpL_low (by simp) hk) (by simp) rfl (by simp) (rCeil1_p a ha h0)) (by simp [hp1, wb]) (fun k hk => hpL_low (by simp) hk) trivial ?_); try simp [hC, hY]))); (first | refine hQ _ _ _ _ (by kernel_rfl) ?_ | refine hP _ _ (by kernel_rfl) (fun _ => ?_)); clear hQ hP Q)
    | refine GW_block ?_
    | refine GW_ret ?_
    | refine GW_skip ?_
    | refine GW_exit ?_
    | refine GW_goto ?_
    | refine GW_label ?_
    | simp only [blockG_exit]
    | (refine GW_cond (by simp; rfl) ?_ ?_ <;> (intro hb; first | (exfalso; exact absurd hb (by decide)) | skip)))
  refine ⟨.inr trivial, ?_⟩
  simp [Tryd.results14, wi_zero]
@[simp] theorem rCeil_p (a : Int) (ha : wr a) (h0 : 0 ≤ a) (K : Value → Prop) : callK Tryd.prog G0 14 #[Value.agg #[.int .u64 (wi (a) 0), .int .u64 (wi (a) 1), .int .u64 (wi (a) 2), .int .u64 (wi (a) 3)]] K ↔ K (.tuple #[wd (isqU a), .int .i64 0]) := callK_iff G0W (by kernel_rfl) (rCeil_p_ret a ha h0)
theorem rCeil_n_ret (a : Int) (ha : wr a) (h0 : a < 0) : Ret Tryd.prog G0 14 #[wd a] (.tuple #[wd 0, .int .i64 2]) := by
  refine ret_of G0F Tryd.func14 rfl Tryd.call14 (by simp) (by simp) (by simp [Tryd.ntmps14]) ?_
  intro C hC hC0 hY
  repeat' (first
    | refine GW_seq ?_
    | simp only [List.length_cons, List.length_nil, Nat.reduceAdd, Nat.reduceMul, thenG_normal, thenG_ret, thenG_exit, thenG_goto, thenG_panic, blockG_normal, blockG_ret, blockG_goto, blockG_panic, jumpG_normal, jumpG_ret, jumpG_exit, jumpG_panic]
    | (refine GW_region' [42] (by kernel_rfl) ?_; intro Q hQ hP; simp [hC, hY]; (repeat (first | ((refine heapK_of (hp' := hp1 a) (rtold_pan (fun k hk => hpL_low (by simp) hk) (by simp) rfl (by simp) (rCeil1_n a ha h0)) (by simp [hp1, wb]) (fun k hk => hpL_low (by simp) hk) trivial ?_); try simp [hC, hY]))); (first | refine hQ _ _ _ _ ?_ | refine hP _ _ (fun _ => ?_)); clear hQ hP Q)
    | (refine GW_draw' [42] follows (by kernel_rfl) (by kernel_rfl) ?_; intro Q hQ hP; simp [hC, hY]; (repeat (first | ((refine heapK_of (hp' := hp1 a) (rtold_pan (fun k hk => hpL_low (by simp) hk) (by simp) rfl (by simp) (rCeil1_n a ha h0)) (by simp [hp1, wb]) (fun k hk => hpL_low (by simp) hk) trivial ?_); try simp [hC, hY]))); (first | refine hQ _ _ _ _ (by kernel_rfl) ?_ | refine hP _ _ (by kernel_rfl) (fun _ => ?_)); clear hQ hP Q)
    | refine GW_block ?_
    | refine GW_ret ?_
    | refine GW_skip ?_
    | refine GW_exit ?_
    | refine GW_goto ?_
    | refine GW_label ?_
    | simp only [blockG_exit]
    | (refine GW_cond (by simp; rfl) ?_ ?_ <;> (intro hb; first | (exfalso; exact absurd hb (by decide)) | skip)))
  refine ⟨.inr trivial, ?_⟩
  simp [Tryd.results14, wi_zero]
@[simp] theorem rCeil_n (a : Int) (ha : wr a) (h0 : a < 0) (K : Value → Prop) : callK Tryd.prog G0 14 #[Value.agg #[.int .u64 (wi (a) 0), .int .u64 (wi (a) 1), .int .u64 (wi (a) 2), .int .u64 (wi (a) 3)]] K ↔ K (.tuple #[wd 0, .int .i64 2]) := callK_iff G0W (by kernel_rfl) (rCeil_n_ret a ha h0)
theorem rIs_p_ret (a : Int) (ha : wr a) (h0 : 0 ≤ a) : Ret Tryd.prog G0 22 #[wd a] (.bool (decide (isq a * isq a = a))) := by
  refine ret_of G0F Tryd.func22 rfl Tryd.call22 rfl (by simp) (by simp [Tryd.ntmps22]) ?_
  intro C hC hC0 hY
  repeat' (first
    | refine GW_seq ?_
    | simp only [List.length_cons, List.length_nil, Nat.reduceAdd, Nat.reduceMul, thenG_normal, thenG_ret, thenG_exit, thenG_goto, thenG_panic, blockG_normal, blockG_ret, blockG_goto, blockG_panic, jumpG_normal, jumpG_ret, jumpG_exit, jumpG_panic]
    | (refine GW_region' [] (by kernel_rfl) ?_; intro Q hQ hP; simp [hC, hY, ha, h0]; (first | refine hQ _ _ _ _ ?_ | refine hP _ _ (fun _ => ?_)); clear hQ hP Q)
    | (refine GW_draw' [] follows (by kernel_rfl) (by kernel_rfl) ?_; intro Q hQ hP; simp [hC, hY, ha, h0]; (first | refine hQ _ _ _ _ (by kernel_rfl) ?_ | refine hP _ _ (by kernel_rfl) (fun _ => ?_)); clear hQ hP Q)
    | refine GW_block ?_
    | refine GW_ret ?_
    | refine GW_skip ?_
    | refine GW_exit ?_
    | refine GW_goto ?_
    | refine GW_label ?_
    | simp only [blockG_exit]
    | (refine GW_cond (by simp; rfl) ?_ ?_ <;> (intro hb; first | (exfalso; exact absurd hb (by decide)) | skip)))
  refine ⟨.inr trivial, ?_⟩
  simp [Tryd.results22]
  have := isq_sq a ha h0
  rw [decide_eq_decide] at this
  exact this
theorem rIs_n_ret (a : Int) (ha : wr a) (h0 : a < 0) : Ret Tryd.prog G0 22 #[wd a] (.bool false) := by
  refine ret_of G0F Tryd.func22 rfl Tryd.call22 rfl (by simp) (by simp [Tryd.ntmps22]) ?_
  intro C hC hC0 hY
  repeat' (first
    | refine GW_seq ?_
    | simp only [List.length_cons, List.length_nil, Nat.reduceAdd, Nat.reduceMul, thenG_normal, thenG_ret, thenG_exit, thenG_goto, thenG_panic, blockG_normal, blockG_ret, blockG_goto, blockG_panic, jumpG_normal, jumpG_ret, jumpG_exit, jumpG_panic]
    | (refine GW_region' [] (by kernel_rfl) ?_; intro Q hQ hP; simp [hC, hY, ha, h0]; (first | refine hQ _ _ _ _ ?_ | refine hP _ _ (fun _ => ?_)); clear hQ hP Q)
    | (refine GW_draw' [] follows (by kernel_rfl) (by kernel_rfl) ?_; intro Q hQ hP; simp [hC, hY, ha, h0]; (first | refine hQ _ _ _ _ (by kernel_rfl) ?_ | refine hP _ _ (by kernel_rfl) (fun _ => ?_)); clear hQ hP Q)
    | refine GW_block ?_
    | refine GW_ret ?_
    | refine GW_skip ?_
    | refine GW_exit ?_
    | refine GW_goto ?_
    | refine GW_label ?_
    | simp only [blockG_exit]
    | (refine GW_cond (by simp; rfl) ?_ ?_ <;> (intro hb; first | (exfalso; exact absurd hb (by decide)) | skip)))
  refine ⟨.inr trivial, ?_⟩
  simp [Tryd.results22]
@[simp] theorem rIs_p (a : Int) (ha : wr a) (h0 : 0 ≤ a) (K : Value → Prop) : callK Tryd.prog G0 22 #[Value.agg #[.int .u64 (wi (a) 0), .int .u64 (wi (a) 1), .int .u64 (wi (a) 2), .int .u64 (wi (a) 3)]] K ↔ K (.bool (decide (isq a * isq a = a))) := callK_iff G0W (by kernel_rfl) (rIs_p_ret a ha h0)
@[simp] theorem rIs_n (a : Int) (ha : wr a) (h0 : a < 0) (K : Value → Prop) : callK Tryd.prog G0 22 #[Value.agg #[.int .u64 (wi (a) 0), .int .u64 (wi (a) 1), .int .u64 (wi (a) 2), .int .u64 (wi (a) 3)]] K ↔ K (.bool false) := callK_iff G0W (by kernel_rfl) (rIs_n_ret a ha h0)
theorem of_zero (a : Int) : RetP Tryd.prog G0 50 #[wd a, wd 0] (.pan (erV 30)) := by
  refine retp_of G0F Tryd.func50 rfl Tryd.call50 (fun v h => by cases h) (by simp) (by simp [Tryd.ntmps50]) ?_
  intro C hC hC0 hY
  repeat' (first
    | refine GW_seq ?_
    | simp only [List.length_cons, List.length_nil, Nat.reduceAdd, Nat.reduceMul, thenG_normal, thenG_ret, thenG_exit, thenG_goto, thenG_panic, blockG_normal, blockG_ret, blockG_goto, blockG_panic, jumpG_normal, jumpG_ret, jumpG_exit, jumpG_panic]
    | (refine GW_region' [1000055] (by kernel_rfl) ?_; intro Q hQ hP; simp [hC, hY, wi_zero]; (repeat (first | ((refine callP_of (rmust_f 30) ?_); try simp [hC, hY, wi_zero]))); (first | refine hQ _ _ _ _ ?_ | refine hP _ _ (fun _ => ?_)); clear hQ hP Q)
    | (refine GW_draw' [1000055] follows (by kernel_rfl) (by kernel_rfl) ?_; intro Q hQ hP; simp [hC, hY, wi_zero]; (repeat (first | ((refine callP_of (rmust_f 30) ?_); try simp [hC, hY, wi_zero]))); (first | refine hQ _ _ _ _ (by kernel_rfl) ?_ | refine hP _ _ (by kernel_rfl) (fun _ => ?_)); clear hQ hP Q)
    | refine GW_block ?_
    | refine GW_ret ?_
    | refine GW_skip ?_
    | refine GW_exit ?_
    | refine GW_goto ?_
    | refine GW_label ?_
    | simp only [blockG_exit]
    | (refine GW_cond (by simp; rfl) ?_ ?_ <;> (intro hb; first | (exfalso; exact absurd hb (by decide)) | skip)))
  rfl
theorem of_arg (a b : Int) (ha : wr a) (hb : wr b) (hb0 : b ≠ 0) (h : a < 0 ∨ b < 0) : RetP Tryd.prog G0 50 #[wd a, wd b] (.pan (erV 2)) := by
  refine retp_of G0F Tryd.func50 rfl Tryd.call50 (fun v h => by cases h) (by simp) (by simp [Tryd.ntmps50]) ?_
  intro C hC hC0 hY
  have hz := wr_ne hb hb0
  by_cases h0 : 0 ≤ a
  · have s1 : 0 ≤ cmpI (sz a) 0 := by rw [wr_sz ha]; unfold cmpI; split <;> (try split) <;> omega
    have s2 : ¬ 0 < cmpI (sz b) 0 := by rw [wr_sz hb]; unfold cmpI; split <;> (try split) <;> omega
    repeat' (first
      | refine GW_seq ?_
      | simp only [List.length_cons, List.length_nil, Nat.reduceAdd, Nat.reduceMul, thenG_normal, thenG_ret, thenG_exit, thenG_goto, thenG_panic, blockG_normal, blockG_ret, blockG_goto, blockG_panic, jumpG_normal, jumpG_ret, jumpG_exit, jumpG_panic]
      | (refine GW_region' [1000055] (by kernel_rfl) ?_; intro Q hQ hP; simp [hC, hY, hz, s1, s2]; (repeat (first | ((refine callP_of (rmust_t 30) ?_); try simp [hC, hY, hz, s1, s2]) | ((refine callP_of (rmust_f 2) ?_); try simp [hC, hY, hz, s1, s2]))); (first | refine hQ _ _ _ _ ?_ | refine hP _ _ (fun _ => ?_)); clear hQ hP Q)
      | (refine GW_draw' [1000055] follows (by kernel_rfl) (by kernel_rfl) ?_; intro Q hQ hP; simp [hC, hY, hz, s1, s2]; (repeat (first | ((refine callP_of (rmust_t 30) ?_); try simp [hC, hY, hz, s1, s2]) | ((refine callP_of (rmust_f 2) ?_); try simp [hC, hY, hz, s1, s2]))); (first | refine hQ _ _ _ _ (by kernel_rfl) ?_ | refine hP _ _ (by kernel_rfl) (fun _ => ?_)); clear hQ hP Q)
      | refine GW_block ?_
      | refine GW_ret ?_
      | refine GW_skip ?_
      | refine GW_exit ?_
      | refine GW_goto ?_
      | refine GW_label ?_
      | simp only [blockG_exit]
      | (refine GW_cond (by simp; rfl) ?_ ?_ <;> (intro hb; first | (exfalso; exact absurd hb (by decide)) | skip)))
    rfl
  · have s1 : ¬ 0 ≤ cmpI (sz a) 0 := by rw [wr_sz ha]; unfold cmpI; split <;> (try split) <;> omega
    repeat' (first
      | refine GW_seq ?_
      | simp only [List.length_cons, List.length_nil, Nat.reduceAdd, Nat.reduceMul, thenG_normal, thenG_ret, thenG_exit, thenG_goto, thenG_panic, blockG_normal, blockG_ret, blockG_goto, blockG_panic, jumpG_normal, jumpG_ret, jumpG_exit, jumpG_panic]
      | (refine GW_region' [1000055] (by kernel_rfl) ?_; intro Q hQ hP; simp [hC, hY, hz, s1]; (repeat (first | ((refine callP_of (rmust_t 30) ?_); try simp [hC, hY, hz, s1]) | ((refine callP_of (rmust_f 2) ?_); try simp [hC, hY, hz, s1]))); (first | refine hQ _ _ _ _ ?_ | refine hP _ _ (fun _ => ?_)); clear hQ hP Q)
      | (refine GW_draw' [1000055] follows (by kernel_rfl) (by kernel_rfl) ?_; intro Q hQ hP; simp [hC, hY, hz, s1]; (repeat (first | ((refine callP_of (rmust_t 30) ?_); try simp [hC, hY, hz, s1]) | ((refine callP_of (rmust_f 2) ?_); try simp [hC, hY, hz, s1]))); (first | refine hQ _ _ _ _ (by kernel_rfl) ?_ | refine hP _ _ (by kernel_rfl) (fun _ => ?_)); clear hQ hP Q)
      | refine GW_block ?_
      | refine GW_ret ?_
      | refine GW_skip ?_
      | refine GW_exit ?_
      | refine GW_goto ?_
      | refine GW_label ?_
      | simp only [blockG_exit]
      | (refine GW_cond (by simp; rfl) ?_ ?_ <;> (intro hb; first | (exfalso; exact absurd hb (by decide)) | skip)))
    rfl
theorem div_wr {a b : Int} (ha : wr a) (h0 : 0 ≤ a) (hb : 0 < b) : wr (a / b) ∧ 0 ≤ a / b := by
  have h1 : 0 ≤ a / b := Int.ediv_nonneg h0 (by omega)
  exact ⟨⟨Int.le_trans (by decide) h1, Int.lt_of_le_of_lt (Int.ediv_le_self b h0) ha.2⟩, h1⟩
theorem lst_ne {a : Int} (h0 : 0 ≤ a) : a ≠ lst := fun e => by rw [e] at h0; exact absurd h0 (by decide)
theorem of_ret (a b : Int) (ha : wr a) (hb : wr b) (h0 : 0 ≤ a) (hb0 : 0 < b) : Ret Tryd.prog G0 50 #[wd a, wd b] (wd (isq (a / b))) := by
  refine ret_of G0F Tryd.func50 rfl Tryd.call50 (by simp) (by simp) (by simp [Tryd.ntmps50]) ?_
  intro C hC hC0 hY
  have hz := wr_ne hb (by omega)
  have s1 : 0 ≤ cmpI (sz a) 0 := by rw [wr_sz ha]; unfold cmpI; split <;> (try split) <;> omega
  have s2 : 0 < cmpI (sz b) 0 := by rw [wr_sz hb]; unfold cmpI; split <;> (try split) <;> omega
  obtain ⟨d1, d2⟩ := div_wr ha h0 hb0
  have hl := lst_ne h0
  repeat' (first
    | refine GW_seq ?_
    | simp only [List.length_cons, List.length_nil, Nat.reduceAdd, Nat.reduceMul, thenG_normal, thenG_ret, thenG_exit, thenG_goto, thenG_panic, blockG_normal, blockG_ret, blockG_goto, blockG_panic, jumpG_normal, jumpG_ret, jumpG_exit, jumpG_panic]
    | (refine GW_region' [] (by kernel_rfl) ?_; intro Q hQ hP; simp [hC, hY, hz, s1, s2, ha, hb, hb0, hl, d1, d2]; (first | refine hQ _ _ _ _ ?_ | refine hP _ _ (fun _ => ?_)); clear hQ hP Q)
    | (refine GW_draw' [] follows (by kernel_rfl) (by kernel_rfl) ?_; intro Q hQ hP; simp [hC, hY, hz, s1, s2, ha, hb, hb0, hl, d1, d2]; (first | refine hQ _ _ _ _ (by kernel_rfl) ?_ | refine hP _ _ (by kernel_rfl) (fun _ => ?_)); clear hQ hP Q)
    | refine GW_block ?_
    | refine GW_ret ?_
    | refine GW_skip ?_
    | refine GW_exit ?_
    | refine GW_goto ?_
    | refine GW_label ?_
    | simp only [blockG_exit]
    | (refine GW_cond (by simp; rfl) ?_ ?_ <;> (intro hb; first | (exfalso; exact absurd hb (by decide)) | skip)))
  refine ⟨.inr trivial, ?_⟩
  simp [Tryd.results50]
@[simp] theorem rof (a b : Int) (ha : wr a) (hb : wr b) (h0 : 0 ≤ a) (hb0 : 0 < b) (K : Value → Prop) : callK Tryd.prog G0 50 #[Value.agg #[.int .u64 (wi (a) 0), .int .u64 (wi (a) 1), .int .u64 (wi (a) 2), .int .u64 (wi (a) 3)], Value.agg #[.int .u64 (wi (b) 0), .int .u64 (wi (b) 1), .int .u64 (wi (b) 2), .int .u64 (wi (b) 3)]] K ↔ K (wd (isq (a / b))) := callK_iff G0W (by kernel_rfl) (of_ret a b ha hb h0 hb0)
theorem rOf1_p (a b : Int) (ha : wr a) (hb : wr b) (h0 : 0 ≤ a) (hb0 : 0 < b) : Fun Tryd.prog G0 49 [.pointer (some ⟨200, 0, none⟩), .pointer (some ⟨208, 0, none⟩)].toArray (hp2 a b) [200, 208] (.ret (wd (isq (a / b))) []) := by
  refine fun_of (B := 300) G0F (fun k hk => hpL_low (by simp) hk) Tryd.func49 rfl Tryd.call49 ?_ ?_ ⟨flatV_ids (by simp), by simp [keys], by simp, by simp⟩ (by simp [Tryd.ntmps49]) (by omega) ?_ ?_
  · rw [hp2_rst]; simp [hp2, dom]
  · rw [hp2_rst]; exact hp2_closed a b _
  · rw [hp2_rst]; exact hp2_free a b
  · intro C hC hC0 hY
    rw [hp2_rst] at hC0 ⊢
    repeat' (first
      | refine GW_seq ?_
      | simp only [List.length_cons, List.length_nil, Nat.reduceAdd, Nat.reduceMul, thenG_normal, thenG_ret, thenG_exit, thenG_goto, thenG_panic, blockG_normal, blockG_ret, blockG_goto, blockG_panic, jumpG_normal, jumpG_ret, jumpG_exit, jumpG_panic]
      | (refine GW_region' [] (by kernel_rfl) ?_; intro Q hQ hP; simp [hC, hY, hp2, wb, ha, hb, h0, hb0]; (first | refine hQ _ _ _ _ ?_ | refine hP _ _ (fun _ => ?_)); clear hQ hP Q)
      | (refine GW_draw' [] follows (by kernel_rfl) (by kernel_rfl) ?_; intro Q hQ hP; simp [hC, hY, hp2, wb, ha, hb, h0, hb0]; (first | refine hQ _ _ _ _ (by kernel_rfl) ?_ | refine hP _ _ (by kernel_rfl) (fun _ => ?_)); clear hQ hP Q)
      | refine GW_block ?_
      | refine GW_ret ?_
      | refine GW_skip ?_
      | refine GW_exit ?_
      | refine GW_goto ?_
      | refine GW_label ?_
      | simp only [blockG_exit]
      | (refine GW_cond (by simp; rfl) ?_ ?_ <;> (intro hb; first | (exfalso; exact absurd hb (by decide)) | skip)))
    refine ⟨.inr rfl, by simp [Tryd.results49], fun k hk => ?_⟩
    have hk3 : k < 300 := Classical.byContradiction fun h => hk (hp2_free a _ k (by omega))
    simp (disch := omega) only [upd_far]
    rfl
theorem rOf1_a (a b : Int) (ha : wr a) (hb : wr b) (hb0 : b ≠ 0) (h : a < 0 ∨ b < 0) : Fun Tryd.prog G0 49 [.pointer (some ⟨200, 0, none⟩), .pointer (some ⟨208, 0, none⟩)].toArray (hp2 a b) [200, 208] (.pan (erV 2)) := by
  refine fun_of (B := 300) G0F (fun k hk => hpL_low (by simp) hk) Tryd.func49 rfl Tryd.call49 ?_ ?_ trivial (by simp [Tryd.ntmps49]) (by omega) ?_ ?_
  · rw [hp2_rst]; simp [hp2, dom]
  · rw [hp2_rst]; exact hp2_closed a b _
  · rw [hp2_rst]; exact hp2_free a b
  · intro C hC hC0 hY
    rw [hp2_rst] at hC0 ⊢
    repeat' (first
      | refine GW_seq ?_
      | simp only [List.length_cons, List.length_nil, Nat.reduceAdd, Nat.reduceMul, thenG_normal, thenG_ret, thenG_exit, thenG_goto, thenG_panic, blockG_normal, blockG_ret, blockG_goto, blockG_panic, jumpG_normal, jumpG_ret, jumpG_exit, jumpG_panic]
      | (refine GW_region' [1000050] (by kernel_rfl) ?_; intro Q hQ hP; simp [hC, hY, hp2, wb]; (repeat (first | ((refine callP_of (of_arg a b ha hb hb0 h) ?_); try simp [hC, hY, hp2, wb]))); (first | refine hQ _ _ _ _ ?_ | refine hP _ _ (fun _ => ?_)); clear hQ hP Q)
      | (refine GW_draw' [1000050] follows (by kernel_rfl) (by kernel_rfl) ?_; intro Q hQ hP; simp [hC, hY, hp2, wb]; (repeat (first | ((refine callP_of (of_arg a b ha hb hb0 h) ?_); try simp [hC, hY, hp2, wb]))); (first | refine hQ _ _ _ _ (by kernel_rfl) ?_ | refine hP _ _ (by kernel_rfl) (fun _ => ?_)); clear hQ hP Q)
      | refine GW_block ?_
      | refine GW_ret ?_
      | refine GW_skip ?_
      | refine GW_exit ?_
      | refine GW_goto ?_
      | refine GW_label ?_
      | simp only [blockG_exit]
      | (refine GW_cond (by simp; rfl) ?_ ?_ <;> (intro hb; first | (exfalso; exact absurd hb (by decide)) | skip)))
    refine ⟨rfl, fun k hk => ?_⟩
    have hk3 : k < 300 := Classical.byContradiction fun h => hk (hp2_free a _ k (by omega))
    simp (disch := omega) only [upd_far]
    rfl
theorem rOf1_z (a b : Int) (hz : b = 0) : Fun Tryd.prog G0 49 [.pointer (some ⟨200, 0, none⟩), .pointer (some ⟨208, 0, none⟩)].toArray (hp2 a b) [200, 208] (.pan (erV 30)) := by
  refine fun_of (B := 300) G0F (fun k hk => hpL_low (by simp) hk) Tryd.func49 rfl Tryd.call49 ?_ ?_ trivial (by simp [Tryd.ntmps49]) (by omega) ?_ ?_
  · rw [hp2_rst]; simp [hp2, dom]
  · rw [hp2_rst]; exact hp2_closed a b _
  · rw [hp2_rst]; exact hp2_free a b
  · intro C hC hC0 hY
    rw [hp2_rst] at hC0 ⊢
    subst hz
    repeat' (first
      | refine GW_seq ?_
      | simp only [List.length_cons, List.length_nil, Nat.reduceAdd, Nat.reduceMul, thenG_normal, thenG_ret, thenG_exit, thenG_goto, thenG_panic, blockG_normal, blockG_ret, blockG_goto, blockG_panic, jumpG_normal, jumpG_ret, jumpG_exit, jumpG_panic]
      | (refine GW_region' [1000050] (by kernel_rfl) ?_; intro Q hQ hP; simp [hC, hY, hp2, wb]; (repeat (first | ((refine callP_of (of_zero a) ?_); try simp [hC, hY, hp2, wb]))); (first | refine hQ _ _ _ _ ?_ | refine hP _ _ (fun _ => ?_)); clear hQ hP Q)
      | (refine GW_draw' [1000050] follows (by kernel_rfl) (by kernel_rfl) ?_; intro Q hQ hP; simp [hC, hY, hp2, wb]; (repeat (first | ((refine callP_of (of_zero a) ?_); try simp [hC, hY, hp2, wb]))); (first | refine hQ _ _ _ _ (by kernel_rfl) ?_ | refine hP _ _ (by kernel_rfl) (fun _ => ?_)); clear hQ hP Q)
      | refine GW_block ?_
      | refine GW_ret ?_
      | refine GW_skip ?_
      | refine GW_exit ?_
      | refine GW_goto ?_
      | refine GW_label ?_
      | simp only [blockG_exit]
      | (refine GW_cond (by simp; rfl) ?_ ?_ <;> (intro hb; first | (exfalso; exact absurd hb (by decide)) | skip)))
    refine ⟨rfl, fun k hk => ?_⟩
    have hk3 : k < 300 := Classical.byContradiction fun h => hk (hp2_free a _ k (by omega))
    simp (disch := omega) only [upd_far]
    rfl
theorem rOf_p_ret (a b : Int) (ha : wr a) (hb : wr b) (h0 : 0 ≤ a) (hb0 : 0 < b) : Ret Tryd.prog G0 16 #[wd a, wd b] (.tuple #[wd (isq (a / b)), .int .i64 0]) := by
  refine ret_of G0F Tryd.func16 rfl Tryd.call16 (by simp) (by simp) (by simp [Tryd.ntmps16]) ?_
  intro C hC hC0 hY
  repeat' (first
    | refine GW_seq ?_
    | simp only [List.length_cons, List.length_nil, Nat.reduceAdd, Nat.reduceMul, thenG_normal, thenG_ret, thenG_exit, thenG_goto, thenG_panic, blockG_normal, blockG_ret, blockG_goto, blockG_panic, jumpG_normal, jumpG_ret, jumpG_exit, jumpG_panic]
    | (refine GW_region' [42] (by kernel_rfl) ?_; intro Q hQ hP; simp [hC, hY]; (repeat (first | ((refine heapK_of (hp' := hp2 a b) (rtold_ret (fun k hk => hpL_low (by simp) hk) (by simp) rfl (by simp) (rOf1_p a b ha hb h0 hb0)) (by simp [hp2, wb]) (fun k hk => hpL_low (by simp) hk) trivial ?_); try simp [hC, hY]))); (first | refine hQ _ _ _ _ ?_ | refine hP _ _ (fun _ => ?_)); clear hQ hP Q)
    | (refine GW_draw' [42] follows (by kernel_rfl) (by kernel_rfl) ?_; intro Q hQ hP; simp [hC, hY]; (repeat (first | ((refine heapK_of (hp' := hp2 a b) (rtold_ret (fun k hk => hpL_low (by simp) hk) (by simp) rfl (by simp) (rOf1_p a b ha hb h0 hb0)) (by simp [hp2, wb]) (fun k hk => hpL_low (by simp) hk) trivial ?_); try simp [hC, hY]))); (first | refine hQ _ _ _ _ (by kernel_rfl) ?_ | refine hP _ _ (by kernel_rfl) (fun _ => ?_)); clear hQ hP Q)
    | refine GW_block ?_
    | refine GW_ret ?_
    | refine GW_skip ?_
    | refine GW_exit ?_
    | refine GW_goto ?_
    | refine GW_label ?_
    | simp only [blockG_exit]
    | (refine GW_cond (by simp; rfl) ?_ ?_ <;> (intro hb; first | (exfalso; exact absurd hb (by decide)) | skip)))
  refine ⟨.inr trivial, ?_⟩
  simp [Tryd.results16, wi_zero]
@[simp] theorem rOf_p (a b : Int) (ha : wr a) (hb : wr b) (h0 : 0 ≤ a) (hb0 : 0 < b) (K : Value → Prop) : callK Tryd.prog G0 16 #[Value.agg #[.int .u64 (wi (a) 0), .int .u64 (wi (a) 1), .int .u64 (wi (a) 2), .int .u64 (wi (a) 3)], Value.agg #[.int .u64 (wi (b) 0), .int .u64 (wi (b) 1), .int .u64 (wi (b) 2), .int .u64 (wi (b) 3)]] K ↔ K (.tuple #[wd (isq (a / b)), .int .i64 0]) := callK_iff G0W (by kernel_rfl) (rOf_p_ret a b ha hb h0 hb0)
theorem rOf_a_ret (a b : Int) (ha : wr a) (hb : wr b) (hb0 : b ≠ 0) (h : a < 0 ∨ b < 0) : Ret Tryd.prog G0 16 #[wd a, wd b] (.tuple #[wd 0, .int .i64 2]) := by
  refine ret_of G0F Tryd.func16 rfl Tryd.call16 (by simp) (by simp) (by simp [Tryd.ntmps16]) ?_
  intro C hC hC0 hY
  repeat' (first
    | refine GW_seq ?_
    | simp only [List.length_cons, List.length_nil, Nat.reduceAdd, Nat.reduceMul, thenG_normal, thenG_ret, thenG_exit, thenG_goto, thenG_panic, blockG_normal, blockG_ret, blockG_goto, blockG_panic, jumpG_normal, jumpG_ret, jumpG_exit, jumpG_panic]
    | (refine GW_region' [42] (by kernel_rfl) ?_; intro Q hQ hP; simp [hC, hY]; (repeat (first | ((refine heapK_of (hp' := hp2 a b) (rtold_pan (fun k hk => hpL_low (by simp) hk) (by simp) rfl (by simp) (rOf1_a a b ha hb hb0 h)) (by simp [hp2, wb]) (fun k hk => hpL_low (by simp) hk) trivial ?_); try simp [hC, hY]))); (first | refine hQ _ _ _ _ ?_ | refine hP _ _ (fun _ => ?_)); clear hQ hP Q)
    | (refine GW_draw' [42] follows (by kernel_rfl) (by kernel_rfl) ?_; intro Q hQ hP; simp [hC, hY]; (repeat (first | ((refine heapK_of (hp' := hp2 a b) (rtold_pan (fun k hk => hpL_low (by simp) hk) (by simp) rfl (by simp) (rOf1_a a b ha hb hb0 h)) (by simp [hp2, wb]) (fun k hk => hpL_low (by simp) hk) trivial ?_); try simp [hC, hY]))); (first | refine hQ _ _ _ _ (by kernel_rfl) ?_ | refine hP _ _ (by kernel_rfl) (fun _ => ?_)); clear hQ hP Q)
    | refine GW_block ?_
    | refine GW_ret ?_
    | refine GW_skip ?_
    | refine GW_exit ?_
    | refine GW_goto ?_
    | refine GW_label ?_
    | simp only [blockG_exit]
    | (refine GW_cond (by simp; rfl) ?_ ?_ <;> (intro hb; first | (exfalso; exact absurd hb (by decide)) | skip)))
  refine ⟨.inr trivial, ?_⟩
  simp [Tryd.results16, wi_zero]
@[simp] theorem rOf_a (a b : Int) (ha : wr a) (hb : wr b) (hb0 : b ≠ 0) (h : a < 0 ∨ b < 0) (K : Value → Prop) : callK Tryd.prog G0 16 #[Value.agg #[.int .u64 (wi (a) 0), .int .u64 (wi (a) 1), .int .u64 (wi (a) 2), .int .u64 (wi (a) 3)], Value.agg #[.int .u64 (wi (b) 0), .int .u64 (wi (b) 1), .int .u64 (wi (b) 2), .int .u64 (wi (b) 3)]] K ↔ K (.tuple #[wd 0, .int .i64 2]) := callK_iff G0W (by kernel_rfl) (rOf_a_ret a b ha hb hb0 h)
theorem rOf_z_ret (a b : Int) (hz : b = 0) : Ret Tryd.prog G0 16 #[wd a, wd b] (.tuple #[wd 0, .int .i64 30]) := by
  refine ret_of G0F Tryd.func16 rfl Tryd.call16 (by simp) (by simp) (by simp [Tryd.ntmps16]) ?_
  intro C hC hC0 hY
  repeat' (first
    | refine GW_seq ?_
    | simp only [List.length_cons, List.length_nil, Nat.reduceAdd, Nat.reduceMul, thenG_normal, thenG_ret, thenG_exit, thenG_goto, thenG_panic, blockG_normal, blockG_ret, blockG_goto, blockG_panic, jumpG_normal, jumpG_ret, jumpG_exit, jumpG_panic]
    | (refine GW_region' [42] (by kernel_rfl) ?_; intro Q hQ hP; simp [hC, hY]; (repeat (first | ((refine heapK_of (hp' := hp2 a b) (rtold_pan (fun k hk => hpL_low (by simp) hk) (by simp) rfl (by simp) (rOf1_z a b hz)) (by simp [hp2, wb]) (fun k hk => hpL_low (by simp) hk) trivial ?_); try simp [hC, hY]))); (first | refine hQ _ _ _ _ ?_ | refine hP _ _ (fun _ => ?_)); clear hQ hP Q)
    | (refine GW_draw' [42] follows (by kernel_rfl) (by kernel_rfl) ?_; intro Q hQ hP; simp [hC, hY]; (repeat (first | ((refine heapK_of (hp' := hp2 a b) (rtold_pan (fun k hk => hpL_low (by simp) hk) (by simp) rfl (by simp) (rOf1_z a b hz)) (by simp [hp2, wb]) (fun k hk => hpL_low (by simp) hk) trivial ?_); try simp [hC, hY]))); (first | refine hQ _ _ _ _ (by kernel_rfl) ?_ | refine hP _ _ (by kernel_rfl) (fun _ => ?_)); clear hQ hP Q)
    | refine GW_block ?_
    | refine GW_ret ?_
    | refine GW_skip ?_
    | refine GW_exit ?_
    | refine GW_goto ?_
    | refine GW_label ?_
    | simp only [blockG_exit]
    | (refine GW_cond (by simp; rfl) ?_ ?_ <;> (intro hb; first | (exfalso; exact absurd hb (by decide)) | skip)))
  refine ⟨.inr trivial, ?_⟩
  simp [Tryd.results16, wi_zero]
@[simp] theorem rOf_z (a b : Int) (hz : b = 0) (K : Value → Prop) : callK Tryd.prog G0 16 #[Value.agg #[.int .u64 (wi (a) 0), .int .u64 (wi (a) 1), .int .u64 (wi (a) 2), .int .u64 (wi (a) 3)], Value.agg #[.int .u64 (wi (b) 0), .int .u64 (wi (b) 1), .int .u64 (wi (b) 2), .int .u64 (wi (b) 3)]] K ↔ K (.tuple #[wd 0, .int .i64 30]) := callK_iff G0W (by kernel_rfl) (rOf_z_ret a b hz)
theorem rHalf1_p (a b : Int) (ha : wr a) (hb : wr b) (h0 : 0 ≤ a) (hb0 : 0 < b) : Fun Tryd.prog G0 52 [.pointer (some ⟨200, 0, none⟩), .pointer (some ⟨208, 0, none⟩)].toArray (hp2 a b) [200, 208] (.ret (wd ((isq (a / b) + 1) / 2)) []) := by
  refine fun_of (B := 300) G0F (fun k hk => hpL_low (by simp) hk) Tryd.func52 rfl Tryd.call52 ?_ ?_ ⟨flatV_ids (by simp), by simp [keys], by simp, by simp⟩ (by simp [Tryd.ntmps52]) (by omega) ?_ ?_
  · rw [hp2_rst]; simp [hp2, dom]
  · rw [hp2_rst]; exact hp2_closed a b _
  · rw [hp2_rst]; exact hp2_free a b
  · intro C hC hC0 hY
    rw [hp2_rst] at hC0 ⊢
    obtain ⟨d1, d2⟩ := div_wr ha h0 hb0
    obtain ⟨q0, q1⟩ := isq_le _ d1 d2
    have q2 := (isq_spec _ d2).1
    have w2 : wr 2 := by unfold wr; omega
    have w1 : wr (isq (a / b) + 1) := ⟨Int.le_trans (by decide) (by omega : 0 ≤ isq (a / b) + 1), by omega⟩
    have wl : isq (a / b) + 1 ≠ lst := lst_ne (by omega)
    have i2 : i64 2 := by decide
    repeat' (first
      | refine GW_seq ?_
      | simp only [List.length_cons, List.length_nil, Nat.reduceAdd, Nat.reduceMul, thenG_normal, thenG_ret, thenG_exit, thenG_goto, thenG_panic, blockG_normal, blockG_ret, blockG_goto, blockG_panic, jumpG_normal, jumpG_ret, jumpG_exit, jumpG_panic]
      | (refine GW_region' [] (by kernel_rfl) ?_; intro Q hQ hP; simp [hC, hY, hp2, wb, ha, hb, h0, hb0, w1, wl, w2, i2]; (first | refine hQ _ _ _ _ ?_ | refine hP _ _ (fun _ => ?_)); clear hQ hP Q)
      | (refine GW_draw' [] follows (by kernel_rfl) (by kernel_rfl) ?_; intro Q hQ hP; simp [hC, hY, hp2, wb, ha, hb, h0, hb0, w1, wl, w2, i2]; (first | refine hQ _ _ _ _ (by kernel_rfl) ?_ | refine hP _ _ (by kernel_rfl) (fun _ => ?_)); clear hQ hP Q)
      | refine GW_block ?_
      | refine GW_ret ?_
      | refine GW_skip ?_
      | refine GW_exit ?_
      | refine GW_goto ?_
      | refine GW_label ?_
      | simp only [blockG_exit]
      | (refine GW_cond (by simp; rfl) ?_ ?_ <;> (intro hb; first | (exfalso; exact absurd hb (by decide)) | skip)))
    refine ⟨.inr rfl, by simp [Tryd.results52], fun k hk => ?_⟩
    have hk3 : k < 300 := Classical.byContradiction fun h => hk (hp2_free a _ k (by omega))
    simp (disch := omega) only [upd_far]
    rfl
theorem rHalf1_a (a b : Int) (ha : wr a) (hb : wr b) (hb0 : b ≠ 0) (h : a < 0 ∨ b < 0) : Fun Tryd.prog G0 52 [.pointer (some ⟨200, 0, none⟩), .pointer (some ⟨208, 0, none⟩)].toArray (hp2 a b) [200, 208] (.pan (erV 2)) := by
  refine fun_of (B := 300) G0F (fun k hk => hpL_low (by simp) hk) Tryd.func52 rfl Tryd.call52 ?_ ?_ trivial (by simp [Tryd.ntmps52]) (by omega) ?_ ?_
  · rw [hp2_rst]; simp [hp2, dom]
  · rw [hp2_rst]; exact hp2_closed a b _
  · rw [hp2_rst]; exact hp2_free a b
  · intro C hC hC0 hY
    rw [hp2_rst] at hC0 ⊢
    repeat' (first
      | refine GW_seq ?_
      | simp only [List.length_cons, List.length_nil, Nat.reduceAdd, Nat.reduceMul, thenG_normal, thenG_ret, thenG_exit, thenG_goto, thenG_panic, blockG_normal, blockG_ret, blockG_goto, blockG_panic, jumpG_normal, jumpG_ret, jumpG_exit, jumpG_panic]
      | (refine GW_region' [1000050] (by kernel_rfl) ?_; intro Q hQ hP; simp [hC, hY, hp2, wb]; (repeat (first | ((refine callP_of (of_arg a b ha hb hb0 h) ?_); try simp [hC, hY, hp2, wb]))); (first | refine hQ _ _ _ _ ?_ | refine hP _ _ (fun _ => ?_)); clear hQ hP Q)
      | (refine GW_draw' [1000050] follows (by kernel_rfl) (by kernel_rfl) ?_; intro Q hQ hP; simp [hC, hY, hp2, wb]; (repeat (first | ((refine callP_of (of_arg a b ha hb hb0 h) ?_); try simp [hC, hY, hp2, wb]))); (first | refine hQ _ _ _ _ (by kernel_rfl) ?_ | refine hP _ _ (by kernel_rfl) (fun _ => ?_)); clear hQ hP Q)
      | refine GW_block ?_
      | refine GW_ret ?_
      | refine GW_skip ?_
      | refine GW_exit ?_
      | refine GW_goto ?_
      | refine GW_label ?_
      | simp only [blockG_exit]
      | (refine GW_cond (by simp; rfl) ?_ ?_ <;> (intro hb; first | (exfalso; exact absurd hb (by decide)) | skip)))
    refine ⟨rfl, fun k hk => ?_⟩
    have hk3 : k < 300 := Classical.byContradiction fun h => hk (hp2_free a _ k (by omega))
    simp (disch := omega) only [upd_far]
    rfl
theorem rHalf1_z (a b : Int) (hz : b = 0) : Fun Tryd.prog G0 52 [.pointer (some ⟨200, 0, none⟩), .pointer (some ⟨208, 0, none⟩)].toArray (hp2 a b) [200, 208] (.pan (erV 30)) := by
  refine fun_of (B := 300) G0F (fun k hk => hpL_low (by simp) hk) Tryd.func52 rfl Tryd.call52 ?_ ?_ trivial (by simp [Tryd.ntmps52]) (by omega) ?_ ?_
  · rw [hp2_rst]; simp [hp2, dom]
  · rw [hp2_rst]; exact hp2_closed a b _
  · rw [hp2_rst]; exact hp2_free a b
  · intro C hC hC0 hY
    rw [hp2_rst] at hC0 ⊢
    subst hz
    repeat' (first
      | refine GW_seq ?_
      | simp only [List.length_cons, List.length_nil, Nat.reduceAdd, Nat.reduceMul, thenG_normal, thenG_ret, thenG_exit, thenG_goto, thenG_panic, blockG_normal, blockG_ret, blockG_goto, blockG_panic, jumpG_normal, jumpG_ret, jumpG_exit, jumpG_panic]
      | (refine GW_region' [1000050] (by kernel_rfl) ?_; intro Q hQ hP; simp [hC, hY, hp2, wb]; (repeat (first | ((refine callP_of (of_zero a) ?_); try simp [hC, hY, hp2, wb]))); (first | refine hQ _ _ _ _ ?_ | refine hP _ _ (fun _ => ?_)); clear hQ hP Q)
      | (refine GW_draw' [1000050] follows (by kernel_rfl) (by kernel_rfl) ?_; intro Q hQ hP; simp [hC, hY, hp2, wb]; (repeat (first | ((refine callP_of (of_zero a) ?_); try simp [hC, hY, hp2, wb]))); (first | refine hQ _ _ _ _ (by kernel_rfl) ?_ | refine hP _ _ (by kernel_rfl) (fun _ => ?_)); clear hQ hP Q)
      | refine GW_block ?_
      | refine GW_ret ?_
      | refine GW_skip ?_
      | refine GW_exit ?_
      | refine GW_goto ?_
      | refine GW_label ?_
      | simp only [blockG_exit]
      | (refine GW_cond (by simp; rfl) ?_ ?_ <;> (intro hb; first | (exfalso; exact absurd hb (by decide)) | skip)))
    refine ⟨rfl, fun k hk => ?_⟩
    have hk3 : k < 300 := Classical.byContradiction fun h => hk (hp2_free a _ k (by omega))
    simp (disch := omega) only [upd_far]
    rfl
theorem rHalf_p_ret (a b : Int) (ha : wr a) (hb : wr b) (h0 : 0 ≤ a) (hb0 : 0 < b) : Ret Tryd.prog G0 18 #[wd a, wd b] (.tuple #[wd ((isq (a / b) + 1) / 2), .int .i64 0]) := by
  refine ret_of G0F Tryd.func18 rfl Tryd.call18 (by simp) (by simp) (by simp [Tryd.ntmps18]) ?_
  intro C hC hC0 hY
  repeat' (first
    | refine GW_seq ?_
    | simp only [List.length_cons, List.length_nil, Nat.reduceAdd, Nat.reduceMul, thenG_normal, thenG_ret, thenG_exit, thenG_goto, thenG_panic, blockG_normal, blockG_ret, blockG_goto, blockG_panic, jumpG_normal, jumpG_ret, jumpG_exit, jumpG_panic]
    | (refine GW_region' [42] (by kernel_rfl) ?_; intro Q hQ hP; simp [hC, hY]; (repeat (first | ((refine heapK_of (hp' := hp2 a b) (rtold_ret (fun k hk => hpL_low (by simp) hk) (by simp) rfl (by simp) (rHalf1_p a b ha hb h0 hb0)) (by simp [hp2, wb]) (fun k hk => hpL_low (by simp) hk) trivial ?_); try simp [hC, hY]))); (first | refine hQ _ _ _ _ ?_ | refine hP _ _ (fun _ => ?_)); clear hQ hP Q)
    | (refine GW_draw' [42] follows (by kernel_rfl) (by kernel_rfl) ?_; intro Q hQ hP; simp [hC, hY]; (repeat (first | ((refine heapK_of (hp' := hp2 a b) (rtold_ret (fun k hk => hpL_low (by simp) hk) (by simp) rfl (by simp) (rHalf1_p a b ha hb h0 hb0)) (by simp [hp2, wb]) (fun k hk => hpL_low (by simp) hk) trivial ?_); try simp [hC, hY]))); (first | refine hQ _ _ _ _ (by kernel_rfl) ?_ | refine hP _ _ (by kernel_rfl) (fun _ => ?_)); clear hQ hP Q)
    | refine GW_block ?_
    | refine GW_ret ?_
    | refine GW_skip ?_
    | refine GW_exit ?_
    | refine GW_goto ?_
    | refine GW_label ?_
    | simp only [blockG_exit]
    | (refine GW_cond (by simp; rfl) ?_ ?_ <;> (intro hb; first | (exfalso; exact absurd hb (by decide)) | skip)))
  refine ⟨.inr trivial, ?_⟩
  simp [Tryd.results18, wi_zero]
@[simp] theorem rHalf_p (a b : Int) (ha : wr a) (hb : wr b) (h0 : 0 ≤ a) (hb0 : 0 < b) (K : Value → Prop) : callK Tryd.prog G0 18 #[Value.agg #[.int .u64 (wi (a) 0), .int .u64 (wi (a) 1), .int .u64 (wi (a) 2), .int .u64 (wi (a) 3)], Value.agg #[.int .u64 (wi (b) 0), .int .u64 (wi (b) 1), .int .u64 (wi (b) 2), .int .u64 (wi (b) 3)]] K ↔ K (.tuple #[wd ((isq (a / b) + 1) / 2), .int .i64 0]) := callK_iff G0W (by kernel_rfl) (rHalf_p_ret a b ha hb h0 hb0)
theorem rHalf_a_ret (a b : Int) (ha : wr a) (hb : wr b) (hb0 : b ≠ 0) (h : a < 0 ∨ b < 0) : Ret Tryd.prog G0 18 #[wd a, wd b] (.tuple #[wd 0, .int .i64 2]) := by
  refine ret_of G0F Tryd.func18 rfl Tryd.call18 (by simp) (by simp) (by simp [Tryd.ntmps18]) ?_
  intro C hC hC0 hY
  repeat' (first
    | refine GW_seq ?_
    | simp only [List.length_cons, List.length_nil, Nat.reduceAdd, Nat.reduceMul, thenG_normal, thenG_ret, thenG_exit, thenG_goto, thenG_panic, blockG_normal, blockG_ret, blockG_goto, blockG_panic, jumpG_normal, jumpG_ret, jumpG_exit, jumpG_panic]
    | (refine GW_region' [42] (by kernel_rfl) ?_; intro Q hQ hP; simp [hC, hY]; (repeat (first | ((refine heapK_of (hp' := hp2 a b) (rtold_pan (fun k hk => hpL_low (by simp) hk) (by simp) rfl (by simp) (rHalf1_a a b ha hb hb0 h)) (by simp [hp2, wb]) (fun k hk => hpL_low (by simp) hk) trivial ?_); try simp [hC, hY]))); (first | refine hQ _ _ _ _ ?_ | refine hP _ _ (fun _ => ?_)); clear hQ hP Q)
    | (refine GW_draw' [42] follows (by kernel_rfl) (by kernel_rfl) ?_; intro Q hQ hP; simp [hC, hY]; (repeat (first | ((refine heapK_of (hp' := hp2 a b) (rtold_pan (fun k hk => hpL_low (by simp) hk) (by simp) rfl (by simp) (rHalf1_a a b ha hb hb0 h)) (by simp [hp2, wb]) (fun k hk => hpL_low (by simp) hk) trivial ?_); try simp [hC, hY]))); (first | refine hQ _ _ _ _ (by kernel_rfl) ?_ | refine hP _ _ (by kernel_rfl) (fun _ => ?_)); clear hQ hP Q)
    | refine GW_block ?_
    | refine GW_ret ?_
    | refine GW_skip ?_
    | refine GW_exit ?_
    | refine GW_goto ?_
    | refine GW_label ?_
    | simp only [blockG_exit]
    | (refine GW_cond (by simp; rfl) ?_ ?_ <;> (intro hb; first | (exfalso; exact absurd hb (by decide)) | skip)))
  refine ⟨.inr trivial, ?_⟩
  simp [Tryd.results18, wi_zero]
@[simp] theorem rHalf_a (a b : Int) (ha : wr a) (hb : wr b) (hb0 : b ≠ 0) (h : a < 0 ∨ b < 0) (K : Value → Prop) : callK Tryd.prog G0 18 #[Value.agg #[.int .u64 (wi (a) 0), .int .u64 (wi (a) 1), .int .u64 (wi (a) 2), .int .u64 (wi (a) 3)], Value.agg #[.int .u64 (wi (b) 0), .int .u64 (wi (b) 1), .int .u64 (wi (b) 2), .int .u64 (wi (b) 3)]] K ↔ K (.tuple #[wd 0, .int .i64 2]) := callK_iff G0W (by kernel_rfl) (rHalf_a_ret a b ha hb hb0 h)
theorem rHalf_z_ret (a b : Int) (hz : b = 0) : Ret Tryd.prog G0 18 #[wd a, wd b] (.tuple #[wd 0, .int .i64 30]) := by
  refine ret_of G0F Tryd.func18 rfl Tryd.call18 (by simp) (by simp) (by simp [Tryd.ntmps18]) ?_
  intro C hC hC0 hY
  repeat' (first
    | refine GW_seq ?_
    | simp only [List.length_cons, List.length_nil, Nat.reduceAdd, Nat.reduceMul, thenG_normal, thenG_ret, thenG_exit, thenG_goto, thenG_panic, blockG_normal, blockG_ret, blockG_goto, blockG_panic, jumpG_normal, jumpG_ret, jumpG_exit, jumpG_panic]
    | (refine GW_region' [42] (by kernel_rfl) ?_; intro Q hQ hP; simp [hC, hY]; (repeat (first | ((refine heapK_of (hp' := hp2 a b) (rtold_pan (fun k hk => hpL_low (by simp) hk) (by simp) rfl (by simp) (rHalf1_z a b hz)) (by simp [hp2, wb]) (fun k hk => hpL_low (by simp) hk) trivial ?_); try simp [hC, hY]))); (first | refine hQ _ _ _ _ ?_ | refine hP _ _ (fun _ => ?_)); clear hQ hP Q)
    | (refine GW_draw' [42] follows (by kernel_rfl) (by kernel_rfl) ?_; intro Q hQ hP; simp [hC, hY]; (repeat (first | ((refine heapK_of (hp' := hp2 a b) (rtold_pan (fun k hk => hpL_low (by simp) hk) (by simp) rfl (by simp) (rHalf1_z a b hz)) (by simp [hp2, wb]) (fun k hk => hpL_low (by simp) hk) trivial ?_); try simp [hC, hY]))); (first | refine hQ _ _ _ _ (by kernel_rfl) ?_ | refine hP _ _ (by kernel_rfl) (fun _ => ?_)); clear hQ hP Q)
    | refine GW_block ?_
    | refine GW_ret ?_
    | refine GW_skip ?_
    | refine GW_exit ?_
    | refine GW_goto ?_
    | refine GW_label ?_
    | simp only [blockG_exit]
    | (refine GW_cond (by simp; rfl) ?_ ?_ <;> (intro hb; first | (exfalso; exact absurd hb (by decide)) | skip)))
  refine ⟨.inr trivial, ?_⟩
  simp [Tryd.results18, wi_zero]
@[simp] theorem rHalf_z (a b : Int) (hz : b = 0) (K : Value → Prop) : callK Tryd.prog G0 18 #[Value.agg #[.int .u64 (wi (a) 0), .int .u64 (wi (a) 1), .int .u64 (wi (a) 2), .int .u64 (wi (a) 3)], Value.agg #[.int .u64 (wi (b) 0), .int .u64 (wi (b) 1), .int .u64 (wi (b) 2), .int .u64 (wi (b) 3)]] K ↔ K (.tuple #[wd 0, .int .i64 30]) := callK_iff G0W (by kernel_rfl) (rHalf_z_ret a b hz)
theorem wInt_z_ret : Ret Tryd.prog G0 56 #[.agg #[.int .u64 0, .int .u64 0, .int .u64 0, .int .u64 0]] (.tuple #[.int .i64 0, .bool true]) := by
  have h := wint_ret 0
  have e : sz 0 = 0 := by decide
  have i0 : i64 0 := by decide
  simpa [e, i0, wi_zero] using h
@[simp] theorem wIntz (K : Value → Prop) : callK Tryd.prog G0 56 #[.agg #[.int .u64 0, .int .u64 0, .int .u64 0, .int .u64 0]] K ↔ K (.tuple #[.int .i64 0, .bool true]) := callK_iff G0W (by kernel_rfl) wInt_z_ret
theorem i64_wr {n : Int} (h : i64 n) : wr n := by unfold i64 at h; unfold wr; omega
theorem rInt_p_ret (n : Int) (h : i64 n) (h0 : 0 ≤ n) : Ret Tryd.prog G0 20 #[.int .i64 n] (.tuple #[.int .i64 (isq n), .int .i64 0]) := by
  refine ret_of G0F Tryd.func20 rfl Tryd.call20 (by simp) (by simp) (by simp [Tryd.ntmps20]) ?_
  intro C hC hC0 hY
  have hw := i64_wr h
  have hs := isq_spec n h0
  have hi : i64 (sz (isq n)) := by
    rw [wr_sz (isq_le n hw h0).2]
    unfold i64 at h ⊢
    have := sq_bd (x := isq n) 9223372036854775808 hs.1 (by decide) (by omega)
    omega
  have hz : sz (isq n) = isq n := wr_sz (isq_le n hw h0).2
  rw [hz] at hi
  repeat' (first
    | refine GW_seq ?_
    | simp only [List.length_cons, List.length_nil, Nat.reduceAdd, Nat.reduceMul, thenG_normal, thenG_ret, thenG_exit, thenG_goto, thenG_panic, blockG_normal, blockG_ret, blockG_goto, blockG_panic, jumpG_normal, jumpG_ret, jumpG_exit, jumpG_panic]
    | (refine GW_region' [] (by kernel_rfl) ?_; intro Q hQ hP; simp [hC, hY, h, hw, h0, hi, hz]; (first | refine hQ _ _ _ _ ?_ | refine hP _ _ (fun _ => ?_)); clear hQ hP Q)
    | (refine GW_draw' [] follows (by kernel_rfl) (by kernel_rfl) ?_; intro Q hQ hP; simp [hC, hY, h, hw, h0, hi, hz]; (first | refine hQ _ _ _ _ (by kernel_rfl) ?_ | refine hP _ _ (by kernel_rfl) (fun _ => ?_)); clear hQ hP Q)
    | refine GW_block ?_
    | refine GW_ret ?_
    | refine GW_skip ?_
    | refine GW_exit ?_
    | refine GW_goto ?_
    | refine GW_label ?_
    | simp only [blockG_exit]
    | (refine GW_cond (by simp; rfl) ?_ ?_ <;> (intro hb; first | (exfalso; exact absurd hb (by decide)) | skip)))
  refine ⟨.inr trivial, ?_⟩
  simp [Tryd.results20]
theorem rInt_n_ret (n : Int) (h : i64 n) (h0 : n < 0) : Ret Tryd.prog G0 20 #[.int .i64 n] (.tuple #[.int .i64 0, .int .i64 2]) := by
  refine ret_of G0F Tryd.func20 rfl Tryd.call20 (by simp) (by simp) (by simp [Tryd.ntmps20]) ?_
  intro C hC hC0 hY
  have hw := i64_wr h
  have e : sz 0 = 0 := by decide
  have i0 : i64 0 := by decide
  repeat' (first
    | refine GW_seq ?_
    | simp only [List.length_cons, List.length_nil, Nat.reduceAdd, Nat.reduceMul, thenG_normal, thenG_ret, thenG_exit, thenG_goto, thenG_panic, blockG_normal, blockG_ret, blockG_goto, blockG_panic, jumpG_normal, jumpG_ret, jumpG_exit, jumpG_panic]
    | (refine GW_region' [] (by kernel_rfl) ?_; intro Q hQ hP; simp [hC, hY, h, hw, h0, e, i0]; (first | refine hQ _ _ _ _ ?_ | refine hP _ _ (fun _ => ?_)); clear hQ hP Q)
    | (refine GW_draw' [] follows (by kernel_rfl) (by kernel_rfl) ?_; intro Q hQ hP; simp [hC, hY, h, hw, h0, e, i0]; (first | refine hQ _ _ _ _ (by kernel_rfl) ?_ | refine hP _ _ (by kernel_rfl) (fun _ => ?_)); clear hQ hP Q)
    | refine GW_block ?_
    | refine GW_ret ?_
    | refine GW_skip ?_
    | refine GW_exit ?_
    | refine GW_goto ?_
    | refine GW_label ?_
    | simp only [blockG_exit]
    | (refine GW_cond (by simp; rfl) ?_ ?_ <;> (intro hb; first | (exfalso; exact absurd hb (by decide)) | skip)))
  refine ⟨.inr trivial, ?_⟩
  simp [Tryd.results20]
@[simp] theorem rInt_p (n : Int) (h : i64 n) (h0 : 0 ≤ n) (K : Value → Prop) : callK Tryd.prog G0 20 #[.int .i64 n] K ↔ K (.tuple #[.int .i64 (isq n), .int .i64 0]) := callK_iff G0W (by kernel_rfl) (rInt_p_ret n h h0)
@[simp] theorem rInt_n (n : Int) (h : i64 n) (h0 : n < 0) (K : Value → Prop) : callK Tryd.prog G0 20 #[.int .i64 n] K ↔ K (.tuple #[.int .i64 0, .int .i64 2]) := callK_iff G0W (by kernel_rfl) (rInt_n_ret n h h0)
end Go.Gy
namespace Go.Gy
set_option linter.unusedSimpArgs false
set_option linter.unusedVariables false
open Go Go.RowKit Go.Proofs
theorem wr_small {n : Int} (h1 : -9223372036854775808 ≤ n) (h2 : n < 9223372036854775808) : wr n := by unfold wr; omega
theorem i64_small {n : Int} (h1 : -9223372036854775808 ≤ n) (h2 : n < 9223372036854775808) : i64 n := ⟨h1, h2⟩
@[simp] theorem rOf_zz (a : Int) (K : Value → Prop) : callK Tryd.prog G0 16 #[Value.agg #[.int .u64 (wi (a) 0), .int .u64 (wi (a) 1), .int .u64 (wi (a) 2), .int .u64 (wi (a) 3)], .agg #[.int .u64 0, .int .u64 0, .int .u64 0, .int .u64 0]] K ↔ K (.tuple #[wd 0, .int .i64 30]) := by
  have := rOf_z a 0 rfl K
  simpa [wi_zero] using this
theorem isqU_1 {a r : Int} (h0 : 0 ≤ r) (h1 : r * r < a) (h2 : a < (r + 1) * (r + 1)) : isqU a = r + 1 := by
  have e := isq_unique h0 (Int.le_of_lt h1) h2
  unfold isqU; rw [e, if_neg (by omega)]
set_option maxHeartbeats 2000000 in
set_option maxRecDepth 100000 in
theorem wakes4_ret : Ret Tryd.prog G0 24 #[] (.bool true) := by
  refine ret_of G0F Tryd.func24 rfl Tryd.call24 rfl (by simp) (by simp [Tryd.ntmps24]) ?_
  intro C hC hC0 hY
  have e1 : isq 99 = 9 := isq_unique (by decide) (by decide) (by decide)
  have e2 : isqU 99 = 10 := isqU_1 (r := 9) (by decide) (by decide) (by decide)
  have e3 : isq 8 = 2 := isq_unique (by decide) (by decide) (by decide)
  have e4 : isq 100 = 10 := isq_unique (by decide) (by decide) (by decide)
  have e5 : isq 25 = 5 := isq_unique (by decide) (by decide) (by decide)
  have hw : wr 99 ∧ wr 8 ∧ wr 1 ∧ wr (-1) ∧ wr 101 ∧ wr 4 ∧ wr 100 ∧ wr (-4) := by unfold wr; omega
  have hi : i64 99 ∧ i64 8 ∧ i64 1 ∧ i64 (-1) ∧ i64 101 ∧ i64 4 ∧ i64 100 ∧ i64 (-4) ∧ i64 9 ∧ i64 10 ∧ i64 5 := by unfold i64; omega
  repeat' (first
    | refine GW_seq ?_
    | simp only [List.length_cons, List.length_nil, Nat.reduceAdd, Nat.reduceMul, thenG_normal, thenG_ret, thenG_exit, thenG_goto, thenG_panic, blockG_normal, blockG_ret, blockG_goto, blockG_panic, jumpG_normal, jumpG_ret, jumpG_exit, jumpG_panic]
    | (refine GW_region' [] (by kernel_rfl) ?_; intro Q hQ hP; simp [hC, hY, e1, e2, e3, e4, e5, hw, hi]; (first | refine hQ _ _ _ _ ?_ | refine hP _ _ (fun _ => ?_)); clear hQ hP Q)
    | (refine GW_draw' [] follows (by kernel_rfl) (by kernel_rfl) ?_; intro Q hQ hP; simp [hC, hY, e1, e2, e3, e4, e5, hw, hi]; (first | refine hQ _ _ _ _ (by kernel_rfl) ?_ | refine hP _ _ (by kernel_rfl) (fun _ => ?_)); clear hQ hP Q)
    | refine GW_block ?_
    | refine GW_ret ?_
    | refine GW_skip ?_
    | refine GW_exit ?_
    | refine GW_goto ?_
    | refine GW_label ?_
    | simp only [blockG_exit]
    | (refine GW_cond (by simp; rfl) ?_ ?_ <;> (intro hb; first | (exfalso; exact absurd hb (by decide)) | skip)))
  refine ⟨.inr trivial, ?_⟩
  simp [Tryd.results24]
@[simp] theorem wakes4 (K : Value → Prop) : callK Tryd.prog G0 24 #[] K ↔ K (.bool true) := callK_iff G0W (by kernel_rfl) wakes4_ret
theorem sg_n {a : Int} (ha : wr a) (h : a < 0) : cmpI (sz a) 0 < 0 := by rw [wr_sz ha]; unfold cmpI; split <;> (try split) <;> omega
theorem sg_p {a : Int} (ha : wr a) (h : 0 ≤ a) : ¬ cmpI (sz a) 0 < 0 := by rw [wr_sz ha]; unfold cmpI; split <;> (try split) <;> omega
theorem isq_mono {a b : Int} (h0 : 0 ≤ a) (h : a ≤ b) : isq a ≤ isq b := by
  obtain ⟨a0, a1, a2⟩ := isq_spec a h0
  obtain ⟨b0, b1, b2⟩ := isq_spec b (by omega)
  have := sq_lt (x := isq a) (y := isq b + 1) a0 (by omega) (by omega)
  omega
theorem cmp_prod {a b x y : Int} (h1 : a < b → x ≤ y) (h2 : b < a → y ≤ x) : 0 ≤ cmpI a b * cmpI x y ∧ cmpI a b * cmpI x y ≤ 1 := by
  unfold cmpI
  (repeat' split) <;> first | omega | (simp; done)
set_option maxHeartbeats 1000000 in
theorem RootRises_ret (a b n : Int) (ha : wr a) (hbw : wr b) (hn : i64 n) : Ret Tryd.prog G0 4 #[wd a, wd b, .int .i64 n] (.bool true) := by
  refine ret_of G0F Tryd.func4 rfl Tryd.call4 rfl (by simp) (by simp [Tryd.ntmps4]) ?_
  intro C hC hC0 hY
  by_cases ha0 : a < 0
  · have s1 := sg_n ha ha0
    repeat' (first
      | refine GW_seq ?_
      | simp only [List.length_cons, List.length_nil, Nat.reduceAdd, Nat.reduceMul, thenG_normal, thenG_ret, thenG_exit, thenG_goto, thenG_panic, blockG_normal, blockG_ret, blockG_goto, blockG_panic, jumpG_normal, jumpG_ret, jumpG_exit, jumpG_panic]
      | (refine GW_region' [] (by kernel_rfl) ?_; intro Q hQ hP; simp [hC, hY, s1]; (first | refine hQ _ _ _ _ ?_ | refine hP _ _ (fun _ => ?_)); clear hQ hP Q)
      | (refine GW_draw' [] follows (by kernel_rfl) (by kernel_rfl) ?_; intro Q hQ hP; simp [hC, hY, s1]; (first | refine hQ _ _ _ _ (by kernel_rfl) ?_ | refine hP _ _ (by kernel_rfl) (fun _ => ?_)); clear hQ hP Q)
      | refine GW_block ?_
      | refine GW_ret ?_
      | refine GW_skip ?_
      | refine GW_exit ?_
      | refine GW_goto ?_
      | refine GW_label ?_
      | simp only [blockG_exit]
      | (refine GW_cond (by simp; rfl) ?_ ?_ <;> (intro hb; first | (exfalso; exact absurd hb (by decide)) | skip)))
    refine ⟨.inr trivial, ?_⟩
    simp [Tryd.results4]
  have s1 := sg_p ha (by omega)
  by_cases hb0 : b < 0
  · have s2 := sg_n hbw hb0
    repeat' (first
      | refine GW_seq ?_
      | simp only [List.length_cons, List.length_nil, Nat.reduceAdd, Nat.reduceMul, thenG_normal, thenG_ret, thenG_exit, thenG_goto, thenG_panic, blockG_normal, blockG_ret, blockG_goto, blockG_panic, jumpG_normal, jumpG_ret, jumpG_exit, jumpG_panic]
      | (refine GW_region' [] (by kernel_rfl) ?_; intro Q hQ hP; simp [hC, hY, s1, s2]; (first | refine hQ _ _ _ _ ?_ | refine hP _ _ (fun _ => ?_)); clear hQ hP Q)
      | (refine GW_draw' [] follows (by kernel_rfl) (by kernel_rfl) ?_; intro Q hQ hP; simp [hC, hY, s1, s2]; (first | refine hQ _ _ _ _ (by kernel_rfl) ?_ | refine hP _ _ (by kernel_rfl) (fun _ => ?_)); clear hQ hP Q)
      | refine GW_block ?_
      | refine GW_ret ?_
      | refine GW_skip ?_
      | refine GW_exit ?_
      | refine GW_goto ?_
      | refine GW_label ?_
      | simp only [blockG_exit]
      | (refine GW_cond (by simp; rfl) ?_ ?_ <;> (intro hb; first | (exfalso; exact absurd hb (by decide)) | skip)))
    refine ⟨.inr trivial, ?_⟩
    simp [Tryd.results4]
  have s2 := sg_p hbw (by omega)
  by_cases hn0 : n < 0
  ·
    repeat' (first
      | refine GW_seq ?_
      | simp only [List.length_cons, List.length_nil, Nat.reduceAdd, Nat.reduceMul, thenG_normal, thenG_ret, thenG_exit, thenG_goto, thenG_panic, blockG_normal, blockG_ret, blockG_goto, blockG_panic, jumpG_normal, jumpG_ret, jumpG_exit, jumpG_panic]
      | (refine GW_region' [] (by kernel_rfl) ?_; intro Q hQ hP; simp [hC, hY, s1, s2, hn0]; (first | refine hQ _ _ _ _ ?_ | refine hP _ _ (fun _ => ?_)); clear hQ hP Q)
      | (refine GW_draw' [] follows (by kernel_rfl) (by kernel_rfl) ?_; intro Q hQ hP; simp [hC, hY, s1, s2, hn0]; (first | refine hQ _ _ _ _ (by kernel_rfl) ?_ | refine hP _ _ (by kernel_rfl) (fun _ => ?_)); clear hQ hP Q)
      | refine GW_block ?_
      | refine GW_ret ?_
      | refine GW_skip ?_
      | refine GW_exit ?_
      | refine GW_goto ?_
      | refine GW_label ?_
      | simp only [blockG_exit]
      | (refine GW_cond (by simp; rfl) ?_ ?_ <;> (intro hb; first | (exfalso; exact absurd hb (by decide)) | skip)))
    refine ⟨.inr trivial, ?_⟩
    simp [Tryd.results4]
  have hn1 : 0 ≤ n := by omega
  have ha1 : 0 ≤ a := by omega
  have hb1 : 0 ≤ b := by omega
  have hwn := i64_wr hn
  have szn : sz n = n := wr_sz hwn
  have hnn : n * n < 85070591730234615865843651857942052864 + 1 := by
    have h1 := hn.2
    have : n * n ≤ 9223372036854775808 * 9223372036854775808 := Int.mul_le_mul (by omega) (by omega) hn1 (by omega)
    omega
  have hnn0 : 0 ≤ n * n := Int.mul_nonneg hn1 hn1
  have hwnn : wr (n * n) := ⟨Int.le_trans (by decide) hnn0, Int.lt_trans hnn (by decide)⟩
  have hov : mulO n n = false := by unfold mulO; rw [szn]; simp only [decide_eq_false_iff_not, Classical.not_not]; exact hwnn
  have hr : isq (n * n) = n := isq_unique hn1 (Int.le_refl _) (by rw [Int.mul_add, Int.add_mul]; omega)
  obtain ⟨i0, i1, i2⟩ := isq_spec n hn1
  have hi : isq n < 3037000500 := sq_bd 3037000500 i0 (by decide) (by have := hn.2; omega)
  have b1 : ¬ isq n < 0 := by omega
  have b2 : ¬ 4294967296 < isq n := by omega
  have b3 : Int.bmod (isq n * isq n) 18446744073709551616 = isq n * isq n := bm (by have := Int.mul_nonneg i0 i0; omega) (by have := hn.2; omega)
  have b4 : ¬ n < isq n * isq n := by omega
  have b5 : Int.bmod (isq n + 1) 18446744073709551616 = isq n + 1 := bm (by omega) (by omega)
  have hc := cmp_prod (a := a) (b := b) (x := isq a) (y := isq b) (fun h => isq_mono ha1 (by omega)) (fun h => isq_mono hb1 (by omega))
  have sa := wr_sz ha
  have sb := wr_sz hbw
  rw [sa] at s1
  rw [sb] at s2
  have sx := wr_sz (isq_le a ha ha1).2
  have sy := wr_sz (isq_le b hbw hb1).2
  have c1 : Int.bmod (cmpI a b * cmpI (isq a) (isq b)) 18446744073709551616 = cmpI a b * cmpI (isq a) (isq b) := bm (by omega) (by omega)
  have c2 := hc.1
  by_cases hm : isq n = 3037000499
  · have b8 : ¬ n < 9223372030926249001 := by rw [hm] at b4; omega
    have b9 : -9223372036709301616 ≤ n := by omega
    repeat' (first
      | refine GW_seq ?_
      | simp only [List.length_cons, List.length_nil, Nat.reduceAdd, Nat.reduceMul, thenG_normal, thenG_ret, thenG_exit, thenG_goto, thenG_panic, blockG_normal, blockG_ret, blockG_goto, blockG_panic, jumpG_normal, jumpG_ret, jumpG_exit, jumpG_panic]
      | (refine GW_region' [] (by kernel_rfl) ?_; intro Q hQ hP; simp [hC, hY, s1, s2, hn0, hn1, ha1, hb1, ha, hbw, hn, hwn, hwnn, hnn0, szn, hov, hr, hm, b8, b9, sa, sb, sx, sy, c1, c2, b3, b4]; (first | refine hQ _ _ _ _ ?_ | refine hP _ _ (fun _ => ?_)); clear hQ hP Q)
      | (refine GW_draw' [] follows (by kernel_rfl) (by kernel_rfl) ?_; intro Q hQ hP; simp [hC, hY, s1, s2, hn0, hn1, ha1, hb1, ha, hbw, hn, hwn, hwnn, hnn0, szn, hov, hr, hm, b8, b9, sa, sb, sx, sy, c1, c2, b3, b4]; (first | refine hQ _ _ _ _ (by kernel_rfl) ?_ | refine hP _ _ (by kernel_rfl) (fun _ => ?_)); clear hQ hP Q)
      | refine GW_block ?_
      | refine GW_ret ?_
      | refine GW_skip ?_
      | refine GW_exit ?_
      | refine GW_goto ?_
      | refine GW_label ?_
      | simp only [blockG_exit]
      | (refine GW_cond (by simp; rfl) ?_ ?_ <;> (intro hb; first | (exfalso; exact absurd hb (by decide)) | skip)))
    refine ⟨.inr trivial, ?_⟩
    simp [Tryd.results4]
  · have h1 : isq n < 3037000499 := by omega
    have h2 : (isq n + 1) * (isq n + 1) ≤ 3037000499 * 3037000499 := Int.mul_le_mul (by omega) (by omega) (by omega) (by omega)
    have b6 : Int.bmod ((isq n + 1) * (isq n + 1)) 18446744073709551616 = (isq n + 1) * (isq n + 1) := bm (by omega) (by omega)
    have b7 : ¬ (isq n + 1) * (isq n + 1) ≤ n := by omega
    repeat' (first
      | refine GW_seq ?_
      | simp only [List.length_cons, List.length_nil, Nat.reduceAdd, Nat.reduceMul, thenG_normal, thenG_ret, thenG_exit, thenG_goto, thenG_panic, blockG_normal, blockG_ret, blockG_goto, blockG_panic, jumpG_normal, jumpG_ret, jumpG_exit, jumpG_panic]
      | (refine GW_region' [] (by kernel_rfl) ?_; intro Q hQ hP; simp [hC, hY, s1, s2, hn0, hn1, ha1, hb1, ha, hbw, hn, hwn, hwnn, hnn0, szn, hov, hr, b1, b2, b3, b4, b5, b6, b7, h1, sa, sb, sx, sy, c1, c2]; (first | refine hQ _ _ _ _ ?_ | refine hP _ _ (fun _ => ?_)); clear hQ hP Q)
      | (refine GW_draw' [] follows (by kernel_rfl) (by kernel_rfl) ?_; intro Q hQ hP; simp [hC, hY, s1, s2, hn0, hn1, ha1, hb1, ha, hbw, hn, hwn, hwnn, hnn0, szn, hov, hr, b1, b2, b3, b4, b5, b6, b7, h1, sa, sb, sx, sy, c1, c2]; (first | refine hQ _ _ _ _ (by kernel_rfl) ?_ | refine hP _ _ (by kernel_rfl) (fun _ => ?_)); clear hQ hP Q)
      | refine GW_block ?_
      | refine GW_ret ?_
      | refine GW_skip ?_
      | refine GW_exit ?_
      | refine GW_goto ?_
      | refine GW_label ?_
      | simp only [blockG_exit]
      | (refine GW_cond (by simp; rfl) ?_ ?_ <;> (intro hb; first | (exfalso; exact absurd hb (by decide)) | skip)))
    refine ⟨.inr trivial, ?_⟩
    simp [Tryd.results4]
end Go.Gy
namespace Go.Gy
set_option linter.unusedSimpArgs false
set_option linter.unusedVariables false
set_option maxRecDepth 100000
open Go Go.RowKit Go.Proofs Go.ChangeShapes Go.WideShapes Go.ChangeAt

section
variable {H : Type} {enc : TypeId × Value → H} {P : Program}
theorem post_of_below {f : Func} {s : ChangeSpec} {apart fresh handsOn again : Bool} {W W' : World} {args : Array Value} {v : Value} {ds gs : List (DataW H)} {before pa pv : List MemPlace}
    (hW : DataW.Whole enc P f.params.toList s.vars apart W args.toList ds gs before)
    (hres : ∀ (b : Nat) (sp : Nat → Bool) (hd : Bool), DataW.TrodAll enc P W' b sp hd f.resultTypes.toList (v.resultList f.resultTypes.size) (s.fn H (ds ++ gs)).results [])
    (hargs : ∀ sp : Nat → Bool, (∀ p ∈ before, sp p.block = true) → DataW.TrodAll enc P W' 0 sp true f.params.toList args.toList (s.fn H (ds ++ gs)).args pa)
    (hvars : ∀ sp : Nat → Bool, (∀ p ∈ before, sp p.block = true) → DataW.TrodVars enc P W' sp s.vars (s.fn H (ds ++ gs)).vars pv)
    (hps : before = pa ++ pv) (hb : Below W.heap.size W W')
    (hok : ∀ (j : Nat) (t : TypeId) (r : Value), f.resultTypes[j]? = some t → (v.resultList f.resultTypes.size)[j]? = some r → Value.okWide P W' .any 0 t r) :
    s.post enc P f apart fresh handsOn again W args v W' := by
  have hlt : ∀ p ∈ before, p.block < W.heap.size := fun p hp => hW.lt p hp
  have hold : ∀ p ∈ before, (fun b => decide (b < W.heap.size)) p.block = true := fun p hp => by simpa using hlt p hp
  refine ⟨ds, gs, before, [], pa, pv, hW, hres _ _ _, hargs _ hold, hvars _ hold, World.keptBut_mono (fun p hp => ⟨hp, ?_⟩) (hb.frame (· ∈ before)), fun _ => ?_⟩
  · rw [hps, List.mem_append] at hp
    exact Or.inr hp
  · obtain ⟨_, _, _, _, _, hz, hn⟩ := hW
    refine ⟨hok, _, _, ([] ++ pa) ++ pv, ⟨[] ++ pa, pv, trodAll_append (hargs _ (fun _ _ => rfl)) (hres _ _ _), hvars _ (fun _ _ => rfl), rfl, ?_, ?_⟩, ?_⟩
    · intro b off hp
      have hin : MemPlace.cell b off ∈ before := by rw [hps]; simpa using hp
      rw [hb.frozen (hlt _ hin)]
      exact hz b off hin
    · intro ha
      have := hn ha
      rw [hps] at this
      simpa using this
    · intro p hp _
      rw [hps]
      simpa using hp
/-- An array of integers, opened. -/
theorem open_ia {w : World} {base b0 : Nat} {spare : Nat → Bool} {held : Bool} {r : Reach} {t e : TypeId} {n : Nat} {q : IntKind} {v : Value} {d : DataW H} {p : List MemPlace} (ht : P.underlying t = some (.array n e)) (he : P.underlying e = some (.int q)) (hce : P.cellsOf e = 1) (hct : P.cellsOf t = n)
    (hv : Value.okWide P w r b0 t v) (h : DataW.Trod enc P w base spare held t v d p) :
    ∃ zs : List Int, zs.length = n ∧ v = .agg (zs.map (.int q)).toArray ∧ d = .agg (zs.map fun z => .lit (.int q z)) ∧ p = [] ∧ ∀ z ∈ zs, (Lit.int q z).wf = true := by
  simp only [Value.okWide, ht] at hv
  obtain ⟨cs, rfl, hsz, _⟩ := hv
  obtain ⟨fuel, hf⟩ := h
  cases fuel with
  | zero => simp [DataW.trod] at hf
  | succ fuel =>
    simp only [DataW.trod, ht, hce, hct, Nat.mul_one, Value.cells] at hf
    split at hf
    · rename_i hl
      obtain ⟨xs, hm, hx⟩ := Option.map_eq_some_iff.1 hf
      have key : ∀ (l : List Nat) (xs : List (DataW H × List MemPlace)), l.mapM (fun i => DataW.trod enc P w base spare held fuel e ((cs.toList.drop i).take 1)) = some xs →
          ∃ zs : List Int, zs.length = l.length ∧ (∀ j i, l[j]? = some i → ((cs.toList.drop i).take 1) = [Value.int q (zs.getD j 0)]) ∧ xs = zs.map (fun z => (.lit (.int q z), [])) ∧ ∀ z ∈ zs, (Lit.int q z).wf = true := by
        intro l
        induction l with
        | nil => intro xs h; simp at h; subst h; exact ⟨[], rfl, by simp, rfl, by simp⟩
        | cons i l ih =>
          intro xs h
          rw [List.mapM_cons] at h
          simp only [bind, Option.bind_eq_some_iff, pure, Option.some.injEq] at h
          obtain ⟨y, hy, ys, hys, rfl⟩ := h
          obtain ⟨zs, h1, h2, rfl, h4⟩ := ih ys hys
          obtain ⟨z, hz, rfl, hw⟩ := DataW.trod_int he hy
          refine ⟨z :: zs, by simp [h1], fun j i' hj => ?_, rfl, fun x hx => ?_⟩
          · cases j with
            | zero => simp at hj; subst hj; simpa using hz
            | succ j => simp at hj; simpa using h2 j i' hj
          · rcases List.mem_cons.1 hx with rfl | hx
            · exact hw
            · exact h4 x hx
      obtain ⟨zs, h1, h2, rfl, h4⟩ := key _ _ hm
      have hzn : zs.length = n := by simpa using h1
      simp only [Prod.mk.injEq] at hx
      refine ⟨zs, hzn, ?_, by rw [← hx.1]; simp [Function.comp_def], by rw [← hx.2]; simp [List.flatMap_eq_nil_iff], h4⟩
      congr 1
      apply Array.ext'
      simp only
      apply List.ext_getElem?
      intro i
      by_cases hi : i < n
      · have h3 := h2 i i (by simp [hi])
        have h5 : cs.toList[i]? = some (.int q (zs.getD i 0)) := by
          have := congrArg (·[0]?) h3
          simpa [List.getElem?_take, List.getElem?_drop] using this
        have e1 : zs[i]? = some (zs.getD i 0) := by simp [List.getD, List.getElem?_eq_getElem (show i < zs.length by omega)]
        rw [h5, List.getElem?_map, e1]
        rfl
      · rw [List.getElem?_eq_none (by omega), List.getElem?_eq_none (by simp; omega)]
    · cases hf
theorem shut_ia {w : World} {base : Nat} {spare : Nat → Bool} {held : Bool} {t e : TypeId} {n : Nat} {q : IntKind} {zs : List Int} (ht : P.underlying t = some (.array n e)) (he : P.underlying e = some (.int q)) (hce : P.cellsOf e = 1) (hct : P.cellsOf t = n)
    (hl : zs.length = n) (hw : ∀ z ∈ zs, (Lit.int q z).wf = true) : DataW.Trod enc P w base spare held t (.agg (zs.map (.int q)).toArray) (.agg (zs.map fun z => .lit (.int q z))) [] := by
  refine ⟨2, ?_⟩
  have e1 : ∀ fuel, DataW.trod enc P w base spare held (fuel + 1) t ((Value.agg (zs.map (.int q)).toArray).cells.toList) = ((List.range n).mapM fun i => DataW.trod enc P w base spare held fuel e (((zs.map (Value.int q)).drop i).take 1)).map fun xs => (.agg (xs.map (·.1)), xs.flatMap (·.2)) := fun fuel => by
    simp only [DataW.trod, ht, hce, hct, Nat.mul_one, Value.cells]
    rw [if_pos (by simpa using hl)]
  rw [e1]
  have key : ∀ (l : List Nat), (∀ i ∈ l, i < n) → (l.mapM fun i => DataW.trod enc P w base spare held 1 e (((zs.map (Value.int q)).drop i).take 1)) = some (l.map fun i => (.lit (.int q (zs.getD i 0)), [])) := by
    intro l
    induction l with
    | nil => intro _; rfl
    | cons i l ih =>
      intro h
      have hi : i < zs.length := by have := h i (by simp); omega
      have hd : ((zs.map (Value.int q)).drop i).take 1 = [.int q (zs.getD i 0)] := by
        rw [List.drop_eq_getElem_cons (by simpa using hi)]
        simp [List.getD, List.getElem?_eq_getElem hi]
      have hwf := hw (zs.getD i 0) (by simp [List.getD, List.getElem?_eq_getElem hi])
      rw [List.mapM_cons, hd, ih fun x hx => h x (List.mem_cons_of_mem _ hx)]
      simp only [DataW.trod, he, hwf]
      simp
  rw [key _ (fun i hi => by simpa using hi)]
  have hr : (List.range n).map (fun i => zs.getD i 0) = zs := by
    apply List.ext_getElem?
    intro i
    by_cases hi : i < n
    · simp [hi, List.getD, List.getElem?_eq_getElem (show i < zs.length by omega)]
    · rw [List.getElem?_eq_none (by simp; omega), List.getElem?_eq_none (by omega)]
  simp only [Option.map_some, Option.some.injEq, Prod.mk.injEq, List.map_map]
  refine ⟨?_, by simp [List.flatMap_eq_nil_iff]⟩
  congr 1
  conv => rhs; rw [← hr]
  simp [Function.comp_def]
end

/-! A wide number, an int, a point. -/
theorem cells_u64 : Tryd.prog.cellsOf 22 = 1 := by kernel_rfl
theorem cells_wide : Tryd.prog.cellsOf 24 = 4 := by kernel_rfl
def wideD {H : Type} (z : Int) : DataW H := .agg [.lit (.int .u64 (wi z 0)), .lit (.int .u64 (wi z 1)), .lit (.int .u64 (wi z 2)), .lit (.int .u64 (wi z 3))]
theorem mm_u64 : IntKind.u64.min = 0 ∧ IntKind.u64.max = 18446744073709551615 := by decide
theorem mm_i64 : IntKind.i64.min = -9223372036854775808 ∧ IntKind.i64.max = 9223372036854775807 := by decide
theorem wf_u64 {z : Int} (h : (Lit.int .u64 z).wf = true) : 0 ≤ z ∧ z < 18446744073709551616 := by
  simp only [Lit.wf, Bool.and_eq_true, decide_eq_true_eq, mm_u64.1, mm_u64.2] at h; omega
theorem wf_i64 {z : Int} (h : (Lit.int .i64 z).wf = true) : i64 z := by
  simp only [Lit.wf, Bool.and_eq_true, decide_eq_true_eq, mm_i64.1, mm_i64.2] at h; unfold i64; omega
theorem wi_wf (z : Int) (k : Nat) : (Lit.int .u64 (wi z k)).wf = true := by
  have := wi_ge z k; have := wi_lt z k
  simp only [Lit.wf, Bool.and_eq_true, decide_eq_true_eq, mm_u64.1, mm_u64.2]; omega
theorem words_of (w0 w1 w2 w3 : Int) (h0 : 0 ≤ w0 ∧ w0 < 18446744073709551616) (h1 : 0 ≤ w1 ∧ w1 < 18446744073709551616) (h2 : 0 ≤ w2 ∧ w2 < 18446744073709551616) (h3 : 0 ≤ w3 ∧ w3 < 18446744073709551616) :
    ∃ z, wr z ∧ wi z 0 = w0 ∧ wi z 1 = w1 ∧ wi z 2 = w2 ∧ wi z 3 = w3 := by
  refine ⟨w0 + 18446744073709551616 * w1 + 340282366920938463463374607431768211456 * w2 + 6277101735386680763835789423207666416102355444464034512896 * (if w3 < 9223372036854775808 then w3 else w3 - 18446744073709551616), ?_, ?_, ?_, ?_, ?_⟩
  · unfold wr; split <;> omega
  all_goals (simp only [wi]; split <;> omega)
section
variable {H : Type} {enc : TypeId × Value → H} {w : World}
theorem open_wide {base b0 : Nat} {spare : Nat → Bool} {held : Bool} {r : Reach} {v : Value} {d : DataW H} {p : List MemPlace} (hv : Value.okWide Tryd.prog w r b0 24 v) (h : DataW.Trod enc Tryd.prog w base spare held 24 v d p) :
    ∃ z, wr z ∧ v = wd z ∧ d = wideD z ∧ p = [] := by
  obtain ⟨zs, hl, rfl, rfl, rfl, hw⟩ := open_ia Tryd.underlying24 Tryd.underlying22 cells_u64 cells_wide hv h
  match zs, hl with
  | [w0, w1, w2, w3], _ =>
    obtain ⟨z, hz, e0, e1, e2, e3⟩ := words_of w0 w1 w2 w3 (wf_u64 (hw _ (by simp))) (wf_u64 (hw _ (by simp))) (wf_u64 (hw _ (by simp))) (wf_u64 (hw _ (by simp)))
    exact ⟨z, hz, by simp [e0, e1, e2, e3], by simp [wideD, e0, e1, e2, e3], rfl⟩
theorem shut_wide {base : Nat} {spare : Nat → Bool} {held : Bool} (z : Int) : DataW.Trod enc Tryd.prog w base spare held 24 (wd z) (wideD z) [] :=
  shut_ia (zs := [wi z 0, wi z 1, wi z 2, wi z 3]) Tryd.underlying24 Tryd.underlying22 cells_u64 cells_wide rfl (by simp [wi_wf])
end

/-! What the rows' lists give. -/
theorem own : ownKnob Tryd.prog.godebug = none := by kernel_rfl
theorem gLeast : Tryd.prog.globalNamed "gyre/quot.least" = some 1 := by kernel_rfl
theorem gLeastType : (Tryd.prog.globals[1]?).map (·.type) = some 24 := by kernel_rfl
theorem gLeastRow : ((begin Tryd.prog (fun _ _ => 0) default).world.heap[1]?).bind Obj.row? = some (#[.int .u64 0, .int .u64 0, .int .u64 0, .int .u64 0], 24) := by kernel_rfl
theorem heap_of_var {P : Program} {W : World} {name : String} {g : Nat} {cs : Array Value} {z : Array Value} {T : TypeId} (hg : P.globalNamed name = some g) (hlt : g < P.globals.size) (hrow : ((begin P (fun _ _ => 0) default).world.heap[g]?).bind Obj.row? = some (z, T))
    (hS : W.ShapedOpen P) (hv : W.var? P name = some cs) : W.heap[g]? = some (.cells cs T (0, 0)) := by
  obtain ⟨c, h1, _⟩ := hS.1 g z T hlt hrow
  unfold World.var? at hv
  rw [hg] at hv
  simp only [Option.bind_some, h1, Option.some.injEq] at hv
  rw [h1, hv]
theorem gok_least {W : World} (hS : W.ShapedOpen Tryd.prog) (hv : W.var? Tryd.prog "gyre/quot.least" = some lsB.c) : GOK G0 W := fun k b hk => by
  have h := G0_mem hk
  simp [G0L] at h
  obtain ⟨rfl, rfl⟩ := h
  exact heap_of_var gLeast (of_decide_eq_true (by kernel_rfl)) gLeastRow hS hv
theorem least_of {W : World} {rest : List (String × DataW Unit)} (h : laidMet Tryd.prog (("gyre/quot.least", Proofs.YtggidgaeggekhaaDoor.Rows.laid_gyre_quot_least) :: rest) W) : W.var? Tryd.prog "gyre/quot.least" = some lsB.c :=
  Lib.tabIs_of_head (zs := [0, 0, 0, 9223372036854775808]) gLeast gLeastType Tryd.underlying24 Tryd.underlying22 cells_u64 cells_wide h
end Go.Gy
namespace Go.Gy
set_option linter.unusedSimpArgs false
set_option linter.unusedVariables false
open Go Go.RowKit Go.Proofs
/-- How many bits the words ahead of i have. -/
def bt (z : Int) : Nat → Int
  | 0 => 0
  | i + 1 => if wi z i = 0 then bt z i else 64 * i + nbits (wi z i)
theorem bt_4 (z : Int) : bt z 4 = nbits (uz z) := by
  simp only [bt]
  by_cases h3 : wi z 3 = 0
  · by_cases h2 : wi z 2 = 0
    · by_cases h1 : wi z 1 = 0
      · rw [size_0 z h3 h2 h1]
        by_cases h0 : wi z 0 = 0
        · simp [h0, h1, h2, h3]; rfl
        · simp [h0, h1, h2, h3]
      · rw [size_1 z h3 h2 h1]; simp [h1, h2, h3]
    · rw [size_2 z h3 h2]; simp [h2, h3]
  · rw [size_3 z h3]; simp [h3]
theorem bt_bd (z : Int) : ∀ i : Nat, i ≤ 4 → 0 ≤ bt z i ∧ bt z i ≤ 64 * i
  | 0, _ => by simp [bt]
  | i + 1, h => by
    have := bt_bd z i (by omega)
    have := nb_word z i
    simp only [bt]
    split <;> omega
theorem bt_b (i j : Nat) (hi : i < 4) (hj : j < 64) : Int.bmod (64 * (i : Int) + (1 + j)) 18446744073709551616 = 64 * (i : Int) + (1 + j) := bm (by omega) (by omega)
def btSt (z : Int) (i : Nat) : GS :=
  ⟨tsL [(1, .pointer (some ⟨200, 0, none⟩)), (3, .int .i64 (bt z i)), (4, .int .i64 i)], hpL G0 [(200, ⟨fa 4 .u64 (wi z), 24⟩)], 300, 0⟩
def btSt2 (z : Int) (i j : Nat) : GS :=
  ⟨tsL [(1, .pointer (some ⟨200, 0, none⟩)), (3, .int .i64 (if j = 0 then bt z i else 64 * i + j)), (4, .int .i64 i), (5, .int .u64 (wi z i / 2 ^ j)), (6, .int .i64 (1 + j))], hpL G0 [(200, ⟨fa 4 .u64 (wi z), 24⟩)], 300, 0⟩
theorem nbits_0 : nbits 0 = 0 := rfl
theorem halves (x : Int) (h0 : 0 ≤ x) : (∀ j : Nat, j < (nbits x).toNat → 0 < x / 2 ^ j) ∧ x / 2 ^ (nbits x).toNat = 0 := by
  by_cases h : x = 0
  · subst h
    rw [nbits_0]; simp
  · obtain ⟨k, hk, k1, k2⟩ := nbits_pos (x := x) (by omega)
    have e : (nbits x).toNat = k + 1 := by omega
    rw [e]
    have hp := Int.pow_pos (n := 2) (m := k + 1) (by decide)
    refine ⟨fun j hj => ?_, Int.ediv_eq_zero_of_lt h0 k2⟩
    have h3 : (2 : Int) ^ j ≤ 2 ^ k := by exact_mod_cast Nat.pow_le_pow_right (by omega) (by omega : j ≤ k)
    have hpj := Int.pow_pos (n := 2) (m := j) (by decide)
    have : 1 ≤ x / 2 ^ j := by
      rw [Int.le_ediv_iff_mul_le hpj]; omega
    omega
theorem bits_ret (z : Int) : Ret Tryd.prog G0 45 #[wd z] (.int .i64 (nbits (uz z))) := by
  refine ret_of G0F Tryd.func45 rfl Tryd.call45 rfl (by simp) (by simp [Tryd.ntmps45]) ?_
  intro C hC hC0 hY
  repeat' (first
    | refine GW_seq ?_
    | simp only [List.length_cons, List.length_nil, Nat.reduceAdd, Nat.reduceMul, thenG_normal, thenG_ret, thenG_exit, thenG_goto, thenG_panic, blockG_normal, blockG_ret, blockG_goto, blockG_panic, jumpG_normal, jumpG_ret, jumpG_exit, jumpG_panic]
    | (refine GW_region' [] (by kernel_rfl) ?_; intro Q hQ hP; simp [hC, hY]; (first | refine hQ _ _ _ _ ?_ | refine hP _ _ (fun _ => ?_)); clear hQ hP Q)
    | (refine GW_draw' [] follows (by kernel_rfl) (by kernel_rfl) ?_; intro Q hQ hP; simp [hC, hY]; (first | refine hQ _ _ _ _ (by kernel_rfl) ?_ | refine hP _ _ (by kernel_rfl) (fun _ => ?_)); clear hQ hP Q)
    | refine GW_block ?_
    | refine GW_ret ?_
    | refine GW_skip ?_
    | refine GW_exit ?_
    | refine GW_goto ?_
    | refine GW_label ?_
    | simp only [blockG_exit]
    | (refine GW_cond (by simp; rfl) ?_ ?_ <;> (intro hb; first | (exfalso; exact absurd hb (by decide)) | skip)))
  refine GW_for 4 (btSt z) ?_ ?_ ?_
  · refine weakL _ 300 hC G0F (m0 := []) hC0 (by omega) ?_ ?_ ?_
    · simp [idsV, idsA, idsF, ids0, dom, bt]
    · simp [Blk.ids, idsF, ids0, fa_4]
    · simp
  · intro i hi
    have hi' : (i : Int) < 4 := by omega
    have hz : (0 : Int) ≤ i := by omega
    have hs : Int.bmod ((i : Int) + 1) 18446744073709551616 = ((i + 1 : Nat) : Int) := by rw [bm (by omega) (by omega)]; rfl
    unfold btSt
    repeat' (first
      | refine GW_seq ?_
      | simp only [List.length_cons, List.length_nil, Nat.reduceAdd, Nat.reduceMul, thenG_normal, thenG_ret, thenG_exit, thenG_goto, thenG_panic, blockG_normal, blockG_ret, blockG_goto, blockG_panic, jumpG_normal, jumpG_ret, jumpG_exit, jumpG_panic]
      | (refine GW_region' [] (by kernel_rfl) ?_; intro Q hQ hP; simp [hC, hY, hi, hi', hz, hs, fa_get]; (first | refine hQ _ _ _ _ ?_ | refine hP _ _ (fun _ => ?_)); clear hQ hP Q)
      | (refine GW_draw' [] follows (by kernel_rfl) (by kernel_rfl) ?_; intro Q hQ hP; simp [hC, hY, hi, hi', hz, hs, fa_get]; (first | refine hQ _ _ _ _ (by kernel_rfl) ?_ | refine hP _ _ (by kernel_rfl) (fun _ => ?_)); clear hQ hP Q)
      | refine GW_block ?_
      | refine GW_ret ?_
      | refine GW_skip ?_
      | refine GW_exit ?_
      | refine GW_goto ?_
      | refine GW_label ?_
      | simp only [blockG_exit]
      | (refine GW_cond (by simp; rfl) ?_ ?_ <;> (intro hb; first | (exfalso; exact absurd hb (by decide)) | skip)))
    have w0 := wi_ge z i
    have w1 := wi_lt z i
    have hN := nb_word z i
    obtain ⟨hh, hhN⟩ := halves (wi z i) w0
    have hn0 : (nbits (wi z i)).toNat = 0 ↔ wi z i = 0 := by
      refine ⟨fun h => ?_, fun h => by rw [h, nbits_0]; rfl⟩
      rw [h] at hhN; simpa using hhN
    have hbt : bt z (i + 1) = if (nbits (wi z i)).toNat = 0 then bt z i else 64 * i + ((nbits (wi z i)).toNat : Int) := by
      simp only [bt]
      by_cases h : wi z i = 0
      · rw [if_pos h, if_pos (hn0.2 h)]
      · rw [if_neg h, if_neg (fun h' => h (hn0.1 h'))]; omega
    generalize (nbits (wi z i)).toNat = N at *
    have hN64 : N ≤ 64 := by
      refine Classical.byContradiction fun hc => ?_
      have := hh 64 (by omega)
      rw [Int.ediv_eq_zero_of_lt w0 (by omega)] at this
      omega
    refine GW_for N (btSt2 z i) ?_ ?_ ?_
    · refine weakL _ 300 hC G0F (m0 := []) hC0 (by omega) ?_ ?_ ?_
      · simp [idsV, idsA, idsF, ids0, dom]
      · simp [fa_ids]
      · simp
    · intro j hj
      have hpos := hh j hj
      have hw : wi z i / 2 ^ j < 18446744073709551616 := Int.lt_of_le_of_lt (Int.ediv_le_self _ w0) w1
      have hs2 : Int.bmod (1 + (j : Int) + 1) 18446744073709551616 = 1 + ((j + 1 : Nat) : Int) := by rw [bm (by omega) (by omega)]; omega
      have hs3 : Int.bmod (64 * (i : Int)) 18446744073709551616 = 64 * (i : Int) := bm (by omega) (by omega)
      have hs4 : Int.bmod (64 * (i : Int) + (1 + j)) 18446744073709551616 = 64 * (i : Int) + (1 + j) := bt_b i j hi (Nat.lt_of_lt_of_le hj hN64)
      have hd : (wi z i / 2 ^ j).tdiv 2 = wi z i / 2 ^ (j + 1) := by
        rw [Int.tdiv_eq_ediv_of_nonneg (by omega), Int.ediv_ediv_of_nonneg (Int.le_of_lt (Int.pow_pos (by decide))), Int.pow_succ]
      have hd1 : wi z i / 2 ^ (j + 1) % 18446744073709551616 = wi z i / 2 ^ (j + 1) := by
        rw [← hd, Int.tdiv_eq_ediv_of_nonneg (by omega)]; omega
      unfold btSt2
      repeat' (first
        | refine GW_seq ?_
        | simp only [List.length_cons, List.length_nil, Nat.reduceAdd, Nat.reduceMul, thenG_normal, thenG_ret, thenG_exit, thenG_goto, thenG_panic, blockG_normal, blockG_ret, blockG_goto, blockG_panic, jumpG_normal, jumpG_ret, jumpG_exit, jumpG_panic]
        | (refine GW_region' [] (by kernel_rfl) ?_; intro Q hQ hP; simp [hC, hY, hpos, hs2, hs3, hs4, hd, hd1]; (first | refine hQ _ _ _ _ ?_ | refine hP _ _ (fun _ => ?_)); clear hQ hP Q)
        | (refine GW_draw' [] follows (by kernel_rfl) (by kernel_rfl) ?_; intro Q hQ hP; simp [hC, hY, hpos, hs2, hs3, hs4, hd, hd1]; (first | refine hQ _ _ _ _ (by kernel_rfl) ?_ | refine hP _ _ (by kernel_rfl) (fun _ => ?_)); clear hQ hP Q)
        | refine GW_block ?_
        | refine GW_ret ?_
        | refine GW_skip ?_
        | refine GW_exit ?_
        | refine GW_goto ?_
        | refine GW_label ?_
        | simp only [blockG_exit]
        | (refine GW_cond (by simp; rfl) ?_ ?_ <;> (intro hb; first | (exfalso; exact absurd hb (by decide)) | skip)))
      refine weakL _ 300 hC G0F (m0 := []) hC0 (by omega) ?_ ?_ ?_
      · simp [idsV, idsA, idsF, ids0, dom]; omega
      · simp [fa_ids]
      · simp
    · unfold btSt2
      repeat' (first
        | refine GW_seq ?_
        | simp only [List.length_cons, List.length_nil, Nat.reduceAdd, Nat.reduceMul, thenG_normal, thenG_ret, thenG_exit, thenG_goto, thenG_panic, blockG_normal, blockG_ret, blockG_goto, blockG_panic, jumpG_normal, jumpG_ret, jumpG_exit, jumpG_panic]
        | (refine GW_region' [] (by kernel_rfl) ?_; intro Q hQ hP; simp [hC, hY, hhN, hs]; (first | refine hQ _ _ _ _ ?_ | refine hP _ _ (fun _ => ?_)); clear hQ hP Q)
        | (refine GW_draw' [] follows (by kernel_rfl) (by kernel_rfl) ?_; intro Q hQ hP; simp [hC, hY, hhN, hs]; (first | refine hQ _ _ _ _ (by kernel_rfl) ?_ | refine hP _ _ (by kernel_rfl) (fun _ => ?_)); clear hQ hP Q)
        | refine GW_block ?_
        | refine GW_ret ?_
        | refine GW_skip ?_
        | refine GW_exit ?_
        | refine GW_goto ?_
        | refine GW_label ?_
        | simp only [blockG_exit]
        | (refine GW_cond (by simp; rfl) ?_ ?_ <;> (intro hb; first | (exfalso; exact absurd hb (by decide)) | skip)))
      refine weakL _ 300 hC G0F (m0 := []) hC0 (by omega) ?_ ?_ ?_
      · simp [idsV, idsA, idsF, ids0, dom, hbt, hs]
      · simp [fa_ids]
      · simp
  · unfold btSt
    repeat' (first
      | refine GW_seq ?_
      | simp only [List.length_cons, List.length_nil, Nat.reduceAdd, Nat.reduceMul, thenG_normal, thenG_ret, thenG_exit, thenG_goto, thenG_panic, blockG_normal, blockG_ret, blockG_goto, blockG_panic, jumpG_normal, jumpG_ret, jumpG_exit, jumpG_panic]
      | (refine GW_region' [] (by kernel_rfl) ?_; intro Q hQ hP; simp [hC, hY, bt_4]; (first | refine hQ _ _ _ _ ?_ | refine hP _ _ (fun _ => ?_)); clear hQ hP Q)
      | (refine GW_draw' [] follows (by kernel_rfl) (by kernel_rfl) ?_; intro Q hQ hP; simp [hC, hY, bt_4]; (first | refine hQ _ _ _ _ (by kernel_rfl) ?_ | refine hP _ _ (by kernel_rfl) (fun _ => ?_)); clear hQ hP Q)
      | refine GW_block ?_
      | refine GW_ret ?_
      | refine GW_skip ?_
      | refine GW_exit ?_
      | refine GW_goto ?_
      | refine GW_label ?_
      | simp only [blockG_exit]
      | (refine GW_cond (by simp; rfl) ?_ ?_ <;> (intro hb; first | (exfalso; exact absurd hb (by decide)) | skip)))
    refine ⟨.inr trivial, ?_⟩
    simp [Tryd.results45, bt_4]
@[simp] theorem r4bits (z : Int) (K : Value → Prop) : callK Tryd.prog G0 45 #[Value.agg #[.int .u64 (wi (z) 0), .int .u64 (wi (z) 1), .int .u64 (wi (z) 2), .int .u64 (wi (z) 3)]] K ↔ K (.int .i64 (nbits (uz z))) := callK_iff G0W (by kernel_rfl) (bits_ret z)
end Go.Gy
namespace Go.Gy
set_option linter.unusedSimpArgs false
set_option linter.unusedVariables false
open Go Go.RowKit Go.Proofs
theorem rp_dvd (a : Int) (K : Nat) : ∀ i, i ≤ K → ∃ c, rp a K i = c * 2 ^ (K - i)
  | 0, _ => ⟨0, by simp [rp]⟩
  | i + 1, h => by
    obtain ⟨c, hc⟩ := rp_dvd a K i (by omega)
    have e : K - i = (K - (i + 1)) + 1 := by omega
    have e2 : K - 1 - i = K - (i + 1) := by omega
    rw [e, Int.pow_succ, Int.mul_comm _ 2, ← Int.mul_assoc] at hc
    unfold rp
    rw [e2]
    split
    · exact ⟨c * 2 + 1, by rw [hc, Int.add_mul, Int.one_mul]⟩
    · exact ⟨c * 2, hc⟩
theorem or_bit (c : Int) (t r : Nat) (hr : r < 64) (ht : t < 4) : fa 4 .u64 (upd (wi (c * 2 ^ (64 * t + r + 1))) t (bitI .or .u64 (wi (c * 2 ^ (64 * t + r + 1)) t) (2 ^ r))) = fa 4 .u64 (wi (c * 2 ^ (64 * t + r + 1) + 2 ^ (64 * t + r))) := by
  refine fa_congr fun j hj => ?_
  by_cases h : j = t
  · subst h; rw [upd_same, wi_bit c j r hr]
  · rw [upd_other _ _ h, wi_other c t r j hr h]
def r4St (a r : Int) (m : Int) : GS :=
  ⟨tsL [(1, .pointer (some ⟨200, 0, none⟩)), (2, .pointer (some ⟨208, 0, none⟩)), (3, .int .i64 0), (4, .pointer (some ⟨248, 0, none⟩)), (5, .int .i64 m)],
   hpL G0 [(200, wb a), (208, wb 0), (248, ⟨fa 4 .u64 (wi r), 24⟩)], 400, 0⟩
theorem r4floor_neg (a : Int) (ha : wr a) (h0 : a < 0) : Ret Tryd.prog G0 13 #[wd a] (.tuple #[wd 0, .int .i64 2]) := by
  refine ret_of G0F Tryd.func13 rfl Tryd.call13 (by simp) (by simp) (by simp [Tryd.ntmps13]) ?_
  intro C hC hC0 hY
  have s1 : cmpI (sz a) 0 < 0 := by rw [wr_sz ha]; unfold cmpI; split <;> (try split) <;> omega
  repeat' (first
    | refine GW_seq ?_
    | simp only [List.length_cons, List.length_nil, Nat.reduceAdd, Nat.reduceMul, thenG_normal, thenG_ret, thenG_exit, thenG_goto, thenG_panic, blockG_normal, blockG_ret, blockG_goto, blockG_panic, jumpG_normal, jumpG_ret, jumpG_exit, jumpG_panic]
    | (refine GW_region' [] (by kernel_rfl) ?_; intro Q hQ hP; simp [hC, hY, s1]; (first | refine hQ _ _ _ _ ?_ | refine hP _ _ (fun _ => ?_)); clear hQ hP Q)
    | (refine GW_draw' [] follows (by kernel_rfl) (by kernel_rfl) ?_; intro Q hQ hP; simp [hC, hY, s1]; (first | refine hQ _ _ _ _ (by kernel_rfl) ?_ | refine hP _ _ (by kernel_rfl) (fun _ => ?_)); clear hQ hP Q)
    | refine GW_block ?_
    | refine GW_ret ?_
    | refine GW_skip ?_
    | refine GW_exit ?_
    | refine GW_goto ?_
    | refine GW_label ?_
    | simp only [blockG_exit]
    | (refine GW_cond (by simp; rfl) ?_ ?_ <;> (intro hb; first | (exfalso; exact absurd hb (by decide)) | skip)))
  refine ⟨.inr trivial, ?_⟩
  simp [Tryd.results13, wi_zero]
set_option maxHeartbeats 1000000 in
theorem r4floor_ret (a : Int) (ha : wr a) (h0 : 0 ≤ a) : Ret Tryd.prog G0 13 #[wd a] (.tuple #[wd (isq a), .int .i64 0]) := by
  refine ret_of G0F Tryd.func13 rfl Tryd.call13 (by simp) (by simp) (by simp [Tryd.ntmps13]) ?_
  intro C hC hC0 hY
  have s1 : ¬ cmpI (sz a) 0 < 0 := by rw [wr_sz ha]; unfold cmpI; split <;> (try split) <;> omega
  have hnb := nbits_bd 255 ha.2
  have eu : uz a = a := by unfold uz; have := ha.2; omega
  have hinv := rp_inv a (nbits a / 2 + 1).toNat h0 (isq_bits a h0)
  have hdv := rp_dvd a (nbits a / 2 + 1).toNat
  have hisq : isq a = rp a (nbits a / 2 + 1).toNat (nbits a / 2 + 1).toNat := rfl
  have hM : 0 ≤ nbits a / 2 ∧ nbits a / 2 ≤ 127 := by omega
  have td : (nbits a).tdiv 2 = nbits a / 2 := Int.tdiv_eq_ediv_of_nonneg (by omega)
  have tb : Int.bmod (nbits a / 2) 18446744073709551616 = nbits a / 2 := bm (by omega) (by omega)
  repeat' (first
    | refine GW_seq ?_
    | simp only [List.length_cons, List.length_nil, Nat.reduceAdd, Nat.reduceMul, thenG_normal, thenG_ret, thenG_exit, thenG_goto, thenG_panic, blockG_normal, blockG_ret, blockG_goto, blockG_panic, jumpG_normal, jumpG_ret, jumpG_exit, jumpG_panic]
    | (refine GW_region' [] (by kernel_rfl) ?_; intro Q hQ hP; simp [hC, hY, s1, eu, td, tb]; (first | refine hQ _ _ _ _ ?_ | refine hP _ _ (fun _ => ?_)); clear hQ hP Q)
    | (refine GW_draw' [] follows (by kernel_rfl) (by kernel_rfl) ?_; intro Q hQ hP; simp [hC, hY, s1, eu, td, tb]; (first | refine hQ _ _ _ _ (by kernel_rfl) ?_ | refine hP _ _ (by kernel_rfl) (fun _ => ?_)); clear hQ hP Q)
    | refine GW_block ?_
    | refine GW_ret ?_
    | refine GW_skip ?_
    | refine GW_exit ?_
    | refine GW_goto ?_
    | refine GW_label ?_
    | simp only [blockG_exit]
    | (refine GW_cond (by simp; rfl) ?_ ?_ <;> (intro hb; first | (exfalso; exact absurd hb (by decide)) | skip)))
  clear td tb
  generalize nbits a / 2 = M at *
  generalize hK : (M + 1).toNat = K at *
  refine GW_for K (fun i => r4St a (rp a K i) (M - i)) ?_ ?_ ?_
  · refine weakL _ 400 hC G0F (m0 := []) hC0 (by omega) ?_ ?_ ?_
    · simp [idsV, idsA, idsF, ids0, dom]
    · simp [Blk.ids, idsF, ids0, fa_4, wb, rp, wi_zero]
    · simp
  · intro i hi
    obtain ⟨n, hn⟩ : ∃ n : Nat, M - (i : Int) = n := ⟨(M - i).toNat, by omega⟩
    obtain ⟨r0, r1, r2⟩ := hinv i (by omega)
    obtain ⟨c, hc⟩ := hdv i (by omega)
    have en : K - 1 - i = n := by omega
    have en1 : K - i = n + 1 := by omega
    have hrs : rp a K (i + 1) = if (rp a K i + 2 ^ n) * (rp a K i + 2 ^ n) ≤ a then rp a K i + 2 ^ n else rp a K i := by
      rw [rp, en]
    rw [en1] at hc
    generalize rp a K i = r at *
    have hau := ha.2
    have hr : r < 340282366920938463463374607431768211456 := sq_bd _ r0 (by decide) (by omega)
    have hn2 : (2 : Int) ^ n ≤ 2 ^ 127 := by exact_mod_cast Nat.pow_le_pow_right (by omega) (by omega : n ≤ 127)
    have hn0 := pow_pos2 n
    have t0 : 0 ≤ r + 2 ^ n := by omega
    have t1 : r + 2 ^ n < 680564733841876926926749214863536422912 := by omega
    have szt : sz (r + 2 ^ n) = r + 2 ^ n := sz_pos t0 (Int.lt_trans t1 (by decide))
    have tt0 : 0 ≤ (r + 2 ^ n) * (r + 2 ^ n) := Int.mul_nonneg t0 t0
    have hmul : mulO (r + 2 ^ n) (r + 2 ^ n) = decide (¬ ((r + 2 ^ n) * (r + 2 ^ n) < 57896044618658097711785492504343953926634992332820282019728792003956564819968)) := by
      unfold mulO; rw [szt]; congr 1
      exact propext ⟨fun h1 h2 => h1 ⟨Int.le_trans (by decide) tt0, h2⟩, fun h1 h2 => h1 h2.2⟩
    have sza : sz a = a := wr_sz ha
    obtain ⟨t, q, hq, hn'⟩ : ∃ t q, q < 64 ∧ n = 64 * t + q := ⟨n / 64, n % 64, by omega, by omega⟩
    have g1 : (0 : Int) ≤ n := by omega
    have g4 : Int.bmod ((n : Int) - 1) 18446744073709551616 = M - ((i + 1 : Nat) : Int) := by rw [bm (by omega) (by omega)]; omega
    have tq : ((n : Int)).tdiv 64 = t := by rw [Int.tdiv_eq_ediv_of_nonneg (by omega)]; omega
    have tm : ((n : Int)).tmod 64 = q := by rw [Int.tmod_eq_emod_of_nonneg (by omega)]; omega
    have t4 : t < 4 := by omega
    have t4' : (t : Int) < 4 := by omega
    have t00 : (0 : Int) ≤ t := by omega
    have tb : Int.bmod (t : Int) 18446744073709551616 = t := bm (by omega) (by omega)
    have t3 : t ≤ 3 := Nat.le_of_lt_succ t4
    have m1 : min q 64 = q := by omega
    have m2 : (2 : Int) ^ q % 18446744073709551616 = 2 ^ q := Int.emod_eq_of_lt (Int.le_of_lt (pow_pos2 _)) (by
      have : (2 : Int) ^ q < 2 ^ 64 := by exact_mod_cast Nat.pow_lt_pow_right (by omega) hq
      exact this)
    have hset := or_bit c t q hq t4
    rw [← hn', ← hc] at hset
    rw [fa_4 .u64 (wi (r + 2 ^ n))] at hset
    simp only [hrs]
    generalize htt : (r + 2 ^ n) * (r + 2 ^ n) = T at *
    by_cases hov : T < 57896044618658097711785492504343953926634992332820282019728792003956564819968
    · have hm : mulO (r + 2 ^ n) (r + 2 ^ n) = false := by rw [hmul]; simp [hov]
      have szT : sz T = T := sz_pos tt0 hov
      by_cases hle : T ≤ a
      · have hcmp : cmpI (sz T) (sz a) ≤ 0 := by rw [szT, sza]; unfold cmpI; split <;> (try split) <;> omega
        rw [if_pos hle]
        unfold r4St
        repeat' (first
          | refine GW_seq ?_
          | simp only [List.length_cons, List.length_nil, Nat.reduceAdd, Nat.reduceMul, thenG_normal, thenG_ret, thenG_exit, thenG_goto, thenG_panic, blockG_normal, blockG_ret, blockG_goto, blockG_panic, jumpG_normal, jumpG_ret, jumpG_exit, jumpG_panic]
          | (refine GW_region' [] (by kernel_rfl) ?_; intro Q hQ hP; simp [hC, hY, hn, g1, g4, tq, tm, t4, t4', t00, tb, t3, m1, m2, fa_get, fa_set, hset, wb, szt, htt, hm, hcmp]; (first | refine hQ _ _ _ _ ?_ | refine hP _ _ (fun _ => ?_)); clear hQ hP Q)
          | (refine GW_draw' [] follows (by kernel_rfl) (by kernel_rfl) ?_; intro Q hQ hP; simp [hC, hY, hn, g1, g4, tq, tm, t4, t4', t00, tb, t3, m1, m2, fa_get, fa_set, hset, wb, szt, htt, hm, hcmp]; (first | refine hQ _ _ _ _ (by kernel_rfl) ?_ | refine hP _ _ (by kernel_rfl) (fun _ => ?_)); clear hQ hP Q)
          | refine GW_block ?_
          | refine GW_ret ?_
          | refine GW_skip ?_
          | refine GW_exit ?_
          | refine GW_goto ?_
          | refine GW_label ?_
          | simp only [blockG_exit]
          | (refine GW_cond (by simp; rfl) ?_ ?_ <;> (intro hb; first | (exfalso; exact absurd hb (by decide)) | skip)))
        refine weakL _ 400 hC G0F (m0 := []) hC0 (by omega) ?_ ?_ ?_
        · simp [dom]
        · simp [wb, fa_4]
        · simp [wb]
      · have hcmp : ¬ cmpI (sz T) (sz a) ≤ 0 := by rw [szT, sza]; unfold cmpI; split <;> (try split) <;> omega
        rw [if_neg hle]
        unfold r4St
        repeat' (first
          | refine GW_seq ?_
          | simp only [List.length_cons, List.length_nil, Nat.reduceAdd, Nat.reduceMul, thenG_normal, thenG_ret, thenG_exit, thenG_goto, thenG_panic, blockG_normal, blockG_ret, blockG_goto, blockG_panic, jumpG_normal, jumpG_ret, jumpG_exit, jumpG_panic]
          | (refine GW_region' [] (by kernel_rfl) ?_; intro Q hQ hP; simp [hC, hY, hn, g1, g4, tq, tm, t4, t4', t00, tb, t3, m1, m2, fa_get, fa_set, hset, wb, szt, htt, hm, hcmp]; (first | refine hQ _ _ _ _ ?_ | refine hP _ _ (fun _ => ?_)); clear hQ hP Q)
          | (refine GW_draw' [] follows (by kernel_rfl) (by kernel_rfl) ?_; intro Q hQ hP; simp [hC, hY, hn, g1, g4, tq, tm, t4, t4', t00, tb, t3, m1, m2, fa_get, fa_set, hset, wb, szt, htt, hm, hcmp]; (first | refine hQ _ _ _ _ (by kernel_rfl) ?_ | refine hP _ _ (by kernel_rfl) (fun _ => ?_)); clear hQ hP Q)
          | refine GW_block ?_
          | refine GW_ret ?_
          | refine GW_skip ?_
          | refine GW_exit ?_
          | refine GW_goto ?_
          | refine GW_label ?_
          | simp only [blockG_exit]
          | (refine GW_cond (by simp; rfl) ?_ ?_ <;> (intro hb; first | (exfalso; exact absurd hb (by decide)) | skip)))
        refine weakL _ 400 hC G0F (m0 := []) hC0 (by omega) ?_ ?_ ?_
        · simp [dom]
        · simp [wb, fa_4]
        · simp [wb]
    · have hm : mulO (r + 2 ^ n) (r + 2 ^ n) = true := by rw [hmul]; simp only [hov, not_false_eq_true, decide_true]
      have hle : ¬ T ≤ a := fun h => hov (Int.lt_of_le_of_lt h hau)
      rw [if_neg hle]
      unfold r4St
      repeat' (first
        | refine GW_seq ?_
        | simp only [List.length_cons, List.length_nil, Nat.reduceAdd, Nat.reduceMul, thenG_normal, thenG_ret, thenG_exit, thenG_goto, thenG_panic, blockG_normal, blockG_ret, blockG_goto, blockG_panic, jumpG_normal, jumpG_ret, jumpG_exit, jumpG_panic]
        | (refine GW_region' [] (by kernel_rfl) ?_; intro Q hQ hP; simp [hC, hY, hn, g1, g4, tq, tm, t4, t4', t00, tb, t3, m1, m2, fa_get, fa_set, hset, wb, szt, htt, hm]; (first | refine hQ _ _ _ _ ?_ | refine hP _ _ (fun _ => ?_)); clear hQ hP Q)
        | (refine GW_draw' [] follows (by kernel_rfl) (by kernel_rfl) ?_; intro Q hQ hP; simp [hC, hY, hn, g1, g4, tq, tm, t4, t4', t00, tb, t3, m1, m2, fa_get, fa_set, hset, wb, szt, htt, hm]; (first | refine hQ _ _ _ _ (by kernel_rfl) ?_ | refine hP _ _ (by kernel_rfl) (fun _ => ?_)); clear hQ hP Q)
        | refine GW_block ?_
        | refine GW_ret ?_
        | refine GW_skip ?_
        | refine GW_exit ?_
        | refine GW_goto ?_
        | refine GW_label ?_
        | simp only [blockG_exit]
        | (refine GW_cond (by simp; rfl) ?_ ?_ <;> (intro hb; first | (exfalso; exact absurd hb (by decide)) | skip)))
      refine weakL _ 400 hC G0F (m0 := []) hC0 (by omega) ?_ ?_ ?_
      · simp [dom]
      · simp [wb, fa_4]
      · simp [wb]
  · have g1 : ¬ (K : Int) ≤ M := by omega
    unfold r4St
    repeat' (first
      | refine GW_seq ?_
      | simp only [List.length_cons, List.length_nil, Nat.reduceAdd, Nat.reduceMul, thenG_normal, thenG_ret, thenG_exit, thenG_goto, thenG_panic, blockG_normal, blockG_ret, blockG_goto, blockG_panic, jumpG_normal, jumpG_ret, jumpG_exit, jumpG_panic]
      | (refine GW_region' [] (by kernel_rfl) ?_; intro Q hQ hP; simp [hC, hY, wb, g1, fa_4]; (first | refine hQ _ _ _ _ ?_ | refine hP _ _ (fun _ => ?_)); clear hQ hP Q)
      | (refine GW_draw' [] follows (by kernel_rfl) (by kernel_rfl) ?_; intro Q hQ hP; simp [hC, hY, wb, g1, fa_4]; (first | refine hQ _ _ _ _ (by kernel_rfl) ?_ | refine hP _ _ (by kernel_rfl) (fun _ => ?_)); clear hQ hP Q)
      | refine GW_block ?_
      | refine GW_ret ?_
      | refine GW_skip ?_
      | refine GW_exit ?_
      | refine GW_goto ?_
      | refine GW_label ?_
      | simp only [blockG_exit]
      | (refine GW_cond (by simp; rfl) ?_ ?_ <;> (intro hb; first | (exfalso; exact absurd hb (by decide)) | skip)))
    refine ⟨.inr trivial, ?_⟩
    simp [Tryd.results13, hisq]
@[simp] theorem r4floor (a : Int) (ha : wr a) (h0 : 0 ≤ a) (K : Value → Prop) : callK Tryd.prog G0 13 #[Value.agg #[.int .u64 (wi (a) 0), .int .u64 (wi (a) 1), .int .u64 (wi (a) 2), .int .u64 (wi (a) 3)]] K ↔ K (.tuple #[wd (isq a), .int .i64 0]) := callK_iff G0W (by kernel_rfl) (r4floor_ret a ha h0)
@[simp] theorem r4floor_n (a : Int) (ha : wr a) (h0 : a < 0) (K : Value → Prop) : callK Tryd.prog G0 13 #[Value.agg #[.int .u64 (wi (a) 0), .int .u64 (wi (a) 1), .int .u64 (wi (a) 2), .int .u64 (wi (a) 3)]] K ↔ K (.tuple #[wd 0, .int .i64 2]) := callK_iff G0W (by kernel_rfl) (r4floor_neg a ha h0)
end Go.Gy
namespace Go.Gy
set_option linter.unusedSimpArgs false
set_option linter.unusedVariables false
open Go Go.RowKit Go.Proofs
theorem r3add_ret (a b : Int) : Ret Tryd.prog G0 122 #[wd a, wd b] (wd (a + b)) := by
  refine ret_of G0F Tryd.func122 rfl Tryd.call122 (by simp) (by simp) (by simp [Tryd.ntmps122]) ?_
  intro C hC hC0 hY
  repeat' (first
    | refine GW_seq ?_
    | simp only [List.length_cons, List.length_nil, Nat.reduceAdd, Nat.reduceMul, thenG_normal, thenG_ret, thenG_exit, thenG_goto, thenG_panic, blockG_normal, blockG_ret, blockG_goto, blockG_panic, jumpG_normal, jumpG_ret, jumpG_exit, jumpG_panic]
    | (refine GW_region' [] (by kernel_rfl) ?_; intro Q hQ hP; simp [hC, hY]; (first | refine hQ _ _ _ _ ?_ | refine hP _ _ (fun _ => ?_)); clear hQ hP Q)
    | (refine GW_draw' [] follows (by kernel_rfl) (by kernel_rfl) ?_; intro Q hQ hP; simp [hC, hY]; (first | refine hQ _ _ _ _ (by kernel_rfl) ?_ | refine hP _ _ (by kernel_rfl) (fun _ => ?_)); clear hQ hP Q)
    | refine GW_block ?_
    | refine GW_ret ?_
    | refine GW_skip ?_
    | refine GW_exit ?_
    | refine GW_goto ?_
    | refine GW_label ?_
    | simp only [blockG_exit]
    | (refine GW_cond (by simp; rfl) ?_ ?_ <;> (intro hb; first | (exfalso; exact absurd hb (by decide)) | skip)))
  refine ⟨.inr trivial, ?_⟩
  simp [Tryd.results122]
@[simp] theorem r3add (a b : Int) (K : Value → Prop) : callK Tryd.prog G0 122 #[Value.agg #[.int .u64 (wi (a) 0), .int .u64 (wi (a) 1), .int .u64 (wi (a) 2), .int .u64 (wi (a) 3)], Value.agg #[.int .u64 (wi (b) 0), .int .u64 (wi (b) 1), .int .u64 (wi (b) 2), .int .u64 (wi (b) 3)]] K ↔ K (wd (a + b)) := callK_iff G0W (by kernel_rfl) (r3add_ret a b)
theorem r3sub_ret (a b : Int) : Ret Tryd.prog G0 117 #[wd a, wd b] (wd (a - b)) := by
  refine ret_of G0F Tryd.func117 rfl Tryd.call117 (by simp) (by simp) (by simp [Tryd.ntmps117]) ?_
  intro C hC hC0 hY
  repeat' (first
    | refine GW_seq ?_
    | simp only [List.length_cons, List.length_nil, Nat.reduceAdd, Nat.reduceMul, thenG_normal, thenG_ret, thenG_exit, thenG_goto, thenG_panic, blockG_normal, blockG_ret, blockG_goto, blockG_panic, jumpG_normal, jumpG_ret, jumpG_exit, jumpG_panic]
    | (refine GW_region' [] (by kernel_rfl) ?_; intro Q hQ hP; simp [hC, hY]; (first | refine hQ _ _ _ _ ?_ | refine hP _ _ (fun _ => ?_)); clear hQ hP Q)
    | (refine GW_draw' [] follows (by kernel_rfl) (by kernel_rfl) ?_; intro Q hQ hP; simp [hC, hY]; (first | refine hQ _ _ _ _ (by kernel_rfl) ?_ | refine hP _ _ (by kernel_rfl) (fun _ => ?_)); clear hQ hP Q)
    | refine GW_block ?_
    | refine GW_ret ?_
    | refine GW_skip ?_
    | refine GW_exit ?_
    | refine GW_goto ?_
    | refine GW_label ?_
    | simp only [blockG_exit]
    | (refine GW_cond (by simp; rfl) ?_ ?_ <;> (intro hb; first | (exfalso; exact absurd hb (by decide)) | skip)))
  refine ⟨.inr trivial, ?_⟩
  simp [Tryd.results117]
@[simp] theorem r3sub (a b : Int) (K : Value → Prop) : callK Tryd.prog G0 117 #[Value.agg #[.int .u64 (wi (a) 0), .int .u64 (wi (a) 1), .int .u64 (wi (a) 2), .int .u64 (wi (a) 3)], Value.agg #[.int .u64 (wi (b) 0), .int .u64 (wi (b) 1), .int .u64 (wi (b) 2), .int .u64 (wi (b) 3)]] K ↔ K (wd (a - b)) := callK_iff G0W (by kernel_rfl) (r3sub_ret a b)
theorem r3neg_ret (a : Int) : Ret Tryd.prog G0 106 #[wd a] (wd (-a)) := by
  refine ret_of G0F Tryd.func106 rfl Tryd.call106 (by simp) (by simp) (by simp [Tryd.ntmps106]) ?_
  intro C hC hC0 hY
  repeat' (first
    | refine GW_seq ?_
    | simp only [List.length_cons, List.length_nil, Nat.reduceAdd, Nat.reduceMul, thenG_normal, thenG_ret, thenG_exit, thenG_goto, thenG_panic, blockG_normal, blockG_ret, blockG_goto, blockG_panic, jumpG_normal, jumpG_ret, jumpG_exit, jumpG_panic]
    | (refine GW_region' [] (by kernel_rfl) ?_; intro Q hQ hP; simp [hC, hY]; (first | refine hQ _ _ _ _ ?_ | refine hP _ _ (fun _ => ?_)); clear hQ hP Q)
    | (refine GW_draw' [] follows (by kernel_rfl) (by kernel_rfl) ?_; intro Q hQ hP; simp [hC, hY]; (first | refine hQ _ _ _ _ (by kernel_rfl) ?_ | refine hP _ _ (by kernel_rfl) (fun _ => ?_)); clear hQ hP Q)
    | refine GW_block ?_
    | refine GW_ret ?_
    | refine GW_skip ?_
    | refine GW_exit ?_
    | refine GW_goto ?_
    | refine GW_label ?_
    | simp only [blockG_exit]
    | (refine GW_cond (by simp; rfl) ?_ ?_ <;> (intro hb; first | (exfalso; exact absurd hb (by decide)) | skip)))
  refine ⟨.inr trivial, ?_⟩
  simp [Tryd.results106]
@[simp] theorem r3neg (a : Int) (K : Value → Prop) : callK Tryd.prog G0 106 #[Value.agg #[.int .u64 (wi (a) 0), .int .u64 (wi (a) 1), .int .u64 (wi (a) 2), .int .u64 (wi (a) 3)]] K ↔ K (wd (-a)) := callK_iff G0W (by kernel_rfl) (r3neg_ret a)
theorem r3one_ret : Ret Tryd.prog G0 118 #[] (wd 1) := by
  refine ret_of G0F Tryd.func118 rfl Tryd.call118 (by simp) (by simp) (by simp [Tryd.ntmps118]) ?_
  intro C hC hC0 hY
  have i1 := i64_1
  repeat' (first
    | refine GW_seq ?_
    | simp only [List.length_cons, List.length_nil, Nat.reduceAdd, Nat.reduceMul, thenG_normal, thenG_ret, thenG_exit, thenG_goto, thenG_panic, blockG_normal, blockG_ret, blockG_goto, blockG_panic, jumpG_normal, jumpG_ret, jumpG_exit, jumpG_panic]
    | (refine GW_region' [] (by kernel_rfl) ?_; intro Q hQ hP; simp [hC, hY, i1]; (first | refine hQ _ _ _ _ ?_ | refine hP _ _ (fun _ => ?_)); clear hQ hP Q)
    | (refine GW_draw' [] follows (by kernel_rfl) (by kernel_rfl) ?_; intro Q hQ hP; simp [hC, hY, i1]; (first | refine hQ _ _ _ _ (by kernel_rfl) ?_ | refine hP _ _ (by kernel_rfl) (fun _ => ?_)); clear hQ hP Q)
    | refine GW_block ?_
    | refine GW_ret ?_
    | refine GW_skip ?_
    | refine GW_exit ?_
    | refine GW_goto ?_
    | refine GW_label ?_
    | simp only [blockG_exit]
    | (refine GW_cond (by simp; rfl) ?_ ?_ <;> (intro hb; first | (exfalso; exact absurd hb (by decide)) | skip)))
  refine ⟨.inr trivial, ?_⟩
  simp [Tryd.results118]
@[simp] theorem r3one (K : Value → Prop) : callK Tryd.prog G0 118 #[] K ↔ K (wd 1) := callK_iff G0W (by kernel_rfl) r3one_ret
theorem r3least_ret : Ret Tryd.prog G0 104 #[] (.agg #[.int .u64 0, .int .u64 0, .int .u64 0, .int .u64 9223372036854775808]) := by
  refine ret_of G0F Tryd.func104 rfl Tryd.call104 (by simp) (by simp) (by simp [Tryd.ntmps104]) ?_
  intro C hC hC0 hY
  repeat' (first
    | refine GW_seq ?_
    | simp only [List.length_cons, List.length_nil, Nat.reduceAdd, Nat.reduceMul, thenG_normal, thenG_ret, thenG_exit, thenG_goto, thenG_panic, blockG_normal, blockG_ret, blockG_goto, blockG_panic, jumpG_normal, jumpG_ret, jumpG_exit, jumpG_panic]
    | (refine GW_region' [] (by kernel_rfl) ?_; intro Q hQ hP; simp [hC, hY]; (first | refine hQ _ _ _ _ ?_ | refine hP _ _ (fun _ => ?_)); clear hQ hP Q)
    | (refine GW_draw' [] follows (by kernel_rfl) (by kernel_rfl) ?_; intro Q hQ hP; simp [hC, hY]; (first | refine hQ _ _ _ _ (by kernel_rfl) ?_ | refine hP _ _ (by kernel_rfl) (fun _ => ?_)); clear hQ hP Q)
    | refine GW_block ?_
    | refine GW_ret ?_
    | refine GW_skip ?_
    | refine GW_exit ?_
    | refine GW_goto ?_
    | refine GW_label ?_
    | simp only [blockG_exit]
    | (refine GW_cond (by simp; rfl) ?_ ?_ <;> (intro hb; first | (exfalso; exact absurd hb (by decide)) | skip)))
  refine ⟨.inr trivial, ?_⟩
  simp [Tryd.results104]
@[simp] theorem r3least (K : Value → Prop) : callK Tryd.prog G0 104 #[] K ↔ K (.agg #[.int .u64 0, .int .u64 0, .int .u64 0, .int .u64 9223372036854775808]) := callK_iff G0W (by kernel_rfl) r3least_ret
theorem r4square_ret (a : Int) : Ret Tryd.prog G0 58 #[wd a] (wd (sz a * sz a)) := by
  refine ret_of G0F Tryd.func58 rfl Tryd.call58 (by simp) (by simp) (by simp [Tryd.ntmps58]) ?_
  intro C hC hC0 hY
  repeat' (first
    | refine GW_seq ?_
    | simp only [List.length_cons, List.length_nil, Nat.reduceAdd, Nat.reduceMul, thenG_normal, thenG_ret, thenG_exit, thenG_goto, thenG_panic, blockG_normal, blockG_ret, blockG_goto, blockG_panic, jumpG_normal, jumpG_ret, jumpG_exit, jumpG_panic]
    | (refine GW_region' [] (by kernel_rfl) ?_; intro Q hQ hP; simp [hC, hY]; (first | refine hQ _ _ _ _ ?_ | refine hP _ _ (fun _ => ?_)); clear hQ hP Q)
    | (refine GW_draw' [] follows (by kernel_rfl) (by kernel_rfl) ?_; intro Q hQ hP; simp [hC, hY]; (first | refine hQ _ _ _ _ (by kernel_rfl) ?_ | refine hP _ _ (by kernel_rfl) (fun _ => ?_)); clear hQ hP Q)
    | refine GW_block ?_
    | refine GW_ret ?_
    | refine GW_skip ?_
    | refine GW_exit ?_
    | refine GW_goto ?_
    | refine GW_label ?_
    | simp only [blockG_exit]
    | (refine GW_cond (by simp; rfl) ?_ ?_ <;> (intro hb; first | (exfalso; exact absurd hb (by decide)) | skip)))
  refine ⟨.inr trivial, ?_⟩
  simp [Tryd.results58]
@[simp] theorem r4square (a : Int) (K : Value → Prop) : callK Tryd.prog G0 58 #[Value.agg #[.int .u64 (wi (a) 0), .int .u64 (wi (a) 1), .int .u64 (wi (a) 2), .int .u64 (wi (a) 3)]] K ↔ K (wd (sz a * sz a)) := callK_iff G0W (by kernel_rfl) (r4square_ret a)
end Go.Gy
namespace Go.Gy
set_option linter.unusedSimpArgs false
set_option linter.unusedVariables false
open Go Go.RowKit Go.Proofs
def wl (z : Int) : List Value := [.int .u64 (wi z 0), .int .u64 (wi z 1), .int .u64 (wi z 2), .int .u64 (wi z 3)]
@[simp] theorem wl_len (z : Int) : (wl z).length = 4 := rfl
def lc (b : Int) : Nat → List Value
  | 0 => []
  | k + 1 => lc b k ++ wl (b * 2 ^ k)
@[simp] theorem lc_len (b : Int) (k : Nat) : (lc b k).length = 4 * k := by
  induction k with
  | zero => rfl
  | succ k ih => simp [lc, ih]; omega
theorem lc_flat (b : Int) (k : Nat) : ∀ x ∈ lc b k, flatF x = true := by
  induction k with
  | zero => simp [lc]
  | succ k ih =>
    intro x hx
    simp only [lc, List.mem_append] at hx
    rcases hx with hx | hx
    · exact ih x hx
    · simp [wl] at hx
      rcases hx with rfl | rfl | rfl | rfl <;> simp
theorem lc_take (b : Int) : ∀ (k j : Nat) (rest : List Value), j < k → ((lc b k ++ rest).drop (4 * j)).take 4 = wl (b * 2 ^ j)
  | 0, j, rest, h => by omega
  | k + 1, j, rest, h => by
    by_cases hj : j < k
    · rw [lc, List.append_assoc]
      exact lc_take b k j _ hj
    · obtain rfl : j = k := by omega
      rw [lc, List.append_assoc, show 4 * j = (lc b j).length by simp, List.drop_left, show (4 : Nat) = (wl (b * 2 ^ j)).length from rfl, List.take_left]
theorem lc_ext (b : Int) (k j : Nat) (rest : List Value) (h : j < k) : (lc b k ++ rest).toArray.extract (4 * j) (4 * j + 4) = (wl (b * 2 ^ j)).toArray := by
  apply Array.ext'
  rw [Array.toList_extract, List.extract_eq_take_drop]
  simp only [Nat.add_sub_cancel_left]
  exact lc_take b k j rest h
/-- The floor by doublings: what is left, from above. -/
theorem halve {a b : Int} (hb : 0 < b) (i : Nat) : (a % (b * 2 ^ (i + 1)) < b * 2 ^ i ∧ a / (b * 2 ^ i) = 2 * (a / (b * 2 ^ (i + 1))) ∧ a % (b * 2 ^ i) = a % (b * 2 ^ (i + 1))) ∨
    (b * 2 ^ i ≤ a % (b * 2 ^ (i + 1)) ∧ a / (b * 2 ^ i) = 2 * (a / (b * 2 ^ (i + 1))) + 1 ∧ a % (b * 2 ^ i) = a % (b * 2 ^ (i + 1)) - b * 2 ^ i) := by
  have e : b * 2 ^ (i + 1) = 2 * (b * 2 ^ i) := by rw [Int.pow_succ]; ac_rfl
  rw [e]
  have hm : 0 < b * 2 ^ i := Int.mul_pos hb (Int.pow_pos (by decide))
  generalize b * 2 ^ i = m at *
  have h1 := Int.emod_lt_of_pos a (show 0 < 2 * m by omega)
  have h2 := Int.emod_nonneg a (show (2 * m) ≠ 0 by omega)
  have h3 := Int.mul_ediv_add_emod a (2 * m)
  generalize a / (2 * m) = q at *
  generalize a % (2 * m) = s at *
  have ea : a = m * (2 * q) + s := by rw [← h3, Int.mul_comm 2 m, Int.mul_assoc]
  by_cases hs : s < m
  · left
    refine ⟨hs, ?_, ?_⟩
    · rw [ea, Int.mul_add_ediv_left _ _ (by omega), Int.ediv_eq_zero_of_lt h2 hs, Int.add_zero]
    · rw [ea, Int.mul_add_emod_self_left, Int.emod_eq_of_lt h2 hs]
  · right
    have es : a = m * (2 * q + 1) + (s - m) := by rw [ea, Int.mul_add, Int.mul_one]; omega
    refine ⟨by omega, ?_, ?_⟩
    · rw [es, Int.mul_add_ediv_left _ _ (by omega), Int.ediv_eq_zero_of_lt (by omega) (by omega), Int.add_zero]
    · rw [es, Int.mul_add_emod_self_left, Int.emod_eq_of_lt (by omega) (by omega)]
end Go.Gy
