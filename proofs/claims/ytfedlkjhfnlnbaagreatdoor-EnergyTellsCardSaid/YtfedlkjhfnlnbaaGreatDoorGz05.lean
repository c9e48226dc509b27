/-
  Lemmas of this claim, in their order (GyRE, GyRA, GyRB, GyRC, GyRF, GyRG, GyDA, GyVA, GyDM, GyQA, GyVB, GyVC, GyVD, GyQB, GyDB, GyDC, GyWA, GyWB, GyLB, GyWC, GyWD, GyWE, GyWK, GyEE, GyWF, GyWG, GyWH, GyLC, GyWL, GyWM, GyCA, GyLD).
  Conditions: those of each theorem.
-/
import Derived.Test.YtfedlkjhfnlnbaaGreatDoorGz04
namespace Go.Gy
set_option linter.unusedSimpArgs false
set_option linter.unusedVariables false
open Go Go.RowKit Go.Proofs
theorem rp_dvd (a : Int) (K : Nat) : ∀ i, i ≤ K → ∃ c, rp a K i = c * 2 ^ (K - i)
 | 0, _ => ⟨0, by simp [rp]⟩
 | i + 1, h => by
  obtain ⟨c, hc⟩ := rp_dvd a K i (by omega)
  have e : K - i = (K - (i + 1)) + 1 := by omega
  have e2 : K - 1 - i = K - (i + 1) := by omega
  rw [e, Int.pow_succ, Int.mul_comm _ 2, ← Int.mul_assoc] at hc
  unfold rp
  rw [e2]
  split
  ·exact ⟨c * 2 + 1, by rw [hc, Int.add_mul, Int.one_mul]⟩
  ·exact ⟨c * 2, hc⟩
theorem or_bit (c : Int) (t r : Nat) (hr : r < 64) (ht : t < 4) : fa 4 .u64 (upd (wi (c * 2 ^ (64 * t + r + 1))) t (bitI .or .u64 (wi (c * 2 ^ (64 * t + r + 1)) t) (2 ^ r))) = fa 4 .u64 (wi (c * 2 ^ (64 * t + r + 1) + 2 ^ (64 * t + r))) := by
 refine fa_congr fun j hj => ?_
 by_cases h : j = t
 ·subst h; rw [upd_same, wi_bit c j r hr]
 ·rw [upd_other _ _ h, wi_other c t r j hr h]
def r4St (a r : Int) (m : Int) : GS :=
 ⟨tsL [(1, .pointer (some ⟨200, 0, none⟩)), (2, .pointer (some ⟨208, 0, none⟩)), (3, .int .i64 0), (4, .pointer (some ⟨248, 0, none⟩)), (5, .int .i64 m)],
 hpL G0 [(200, wb a), (208, wb 0), (248, ⟨fa 4 .u64 (wi r), .ty 30⟩)], 400, 0⟩
theorem r4floor_neg (a : Int) (ha : wr a) (h0 : a < 0) : Ret Tryz.prog G0 64 #[wd a] (.tuple #[wd 0, .int .i64 2]) := by
 refine ret_of G0F Tryz.func64 rfl Tryz.call64 (by simp) (by simp) (by simp [Tryz.ntmps64]) ?_
 intro C hC hC0 hY
 have s1 : cmpI (sz a) 0 < 0 := by rw [wr_sz ha]; unfold cmpI; split <;> (try split) <;> omega
 repeat' (first | refine gwA ?_ | ((first | refine gwR [] ?_ | refine gwD [] ?_); intro Q hQ hP; simp [hC, hY, s1]; refine hQ _ _ _ _ (by kernel_rfl) ?_; clear hQ hP Q) | (refine gwC ?_ ?_ <;> (intro hb; first | (cases hb; done) | skip)))
 refine ⟨.inr trivial, ?_⟩
 simp [Tryz.results64, wi_zero]
set_option maxHeartbeats 1000000 in
theorem r4floor_ret (a : Int) (ha : wr a) (h0 : 0 ≤ a) : Ret Tryz.prog G0 64 #[wd a] (.tuple #[wd (isq a), .int .i64 0]) := by
 refine ret_of G0F Tryz.func64 rfl Tryz.call64 (by simp) (by simp) (by simp [Tryz.ntmps64]) ?_
 intro C hC hC0 hY
 have s1 : ¬ cmpI (sz a) 0 < 0 := by rw [wr_sz ha]; unfold cmpI; split <;> (try split) <;> omega
 have hnb := nbits_bd 255 ha.2
 have eu : uz a = a := by unfold uz; have := ha.2; omega
 have hinv := rp_inv a (nbits a / 2 + 1).toNat h0 (isq_bits a h0)
 have hdv := rp_dvd a (nbits a / 2 + 1).toNat
 have hisq : isq a = rp a (nbits a / 2 + 1).toNat (nbits a / 2 + 1).toNat := rfl
 have hM : 0 ≤ nbits a / 2 ∧ nbits a / 2 ≤ 127 := by omega
 have td : (nbits a).tdiv 2 = nbits a / 2 := Int.tdiv_eq_ediv_of_nonneg (by omega)
 have tb : Int.bmod (nbits a / 2) 18446744073709551616 = nbits a / 2 := bm (by omega) (by omega)
 repeat' (first | refine gwA ?_ | ((first | refine gwR [] ?_ | refine gwD [] ?_); intro Q hQ hP; simp [hC, hY, s1, eu, td, tb]; refine hQ _ _ _ _ (by kernel_rfl) ?_; clear hQ hP Q) | (refine gwC ?_ ?_ <;> (intro hb; first | (cases hb; done) | skip)))
 clear td tb
 generalize nbits a / 2 = M at *
 generalize hK : (M + 1).toNat = K at *
 refine GW_for K (fun i => r4St a (rp a K i) (M - i)) ?_ ?_ ?_
 ·refine weakL _ 400 hC G0F (m0 := []) hC0 (by omega) ?_ ?_ ?_
  ·simp [idsV, idsA, idsF, ids0, dom]
  ·simp [Blk.ids, idsF, ids0, fa_4, wb, rp, wi_zero]
  ·simp
 ·intro i hi
  obtain ⟨n, hn⟩ : ∃ n : Nat, M - (i : Int) = n := ⟨(M - i).toNat, by omega⟩
  obtain ⟨r0, r1, r2⟩ := hinv i (by omega)
  obtain ⟨c, hc⟩ := hdv i (by omega)
  have en : K - 1 - i = n := by omega
  have en1 : K - i = n + 1 := by omega
  have hrs : rp a K (i + 1) = if (rp a K i + 2 ^ n) * (rp a K i + 2 ^ n) ≤ a then rp a K i + 2 ^ n else rp a K i := by
   rw [rp, en]
  rw [en1] at hc
  generalize rp a K i = r at *
  have hau := ha.2
  have hr : r < 340282366920938463463374607431768211456 := sq_bd _ r0 (by decide) (by omega)
  have hn2 : (2 : Int) ^ n ≤ 2 ^ 127 := by exact_mod_cast Nat.pow_le_pow_right (by omega) (by omega : n ≤ 127)
  have hn0 := pow_pos2 n
  have t0 : 0 ≤ r + 2 ^ n := by omega
  have t1 : r + 2 ^ n < 680564733841876926926749214863536422912 := by omega
  have szt : sz (r + 2 ^ n) = r + 2 ^ n := sz_pos t0 (Int.lt_trans t1 (by decide))
  have tt0 : 0 ≤ (r + 2 ^ n) * (r + 2 ^ n) := Int.mul_nonneg t0 t0
  have hmul : mulO (r + 2 ^ n) (r + 2 ^ n) = decide (¬ ((r + 2 ^ n) * (r + 2 ^ n) < 57896044618658097711785492504343953926634992332820282019728792003956564819968)) := by
   unfold mulO; rw [szt]; congr 1
   exact propext ⟨fun h1 h2 => h1 ⟨Int.le_trans (by decide) tt0, h2⟩, fun h1 h2 => h1 h2.2⟩
  have sza : sz a = a := wr_sz ha
  obtain ⟨t, q, hq, hn'⟩ : ∃ t q, q < 64 ∧ n = 64 * t + q := ⟨n / 64, n % 64, by omega, by omega⟩
  have g1 : (0 : Int) ≤ n := by omega
  have g4 : Int.bmod ((n : Int) - 1) 18446744073709551616 = M - ((i + 1 : Nat) : Int) := by rw [bm (by omega) (by omega)]; omega
  have tq : ((n : Int)).tdiv 64 = t := by rw [Int.tdiv_eq_ediv_of_nonneg (by omega)]; omega
  have tm : ((n : Int)).tmod 64 = q := by rw [Int.tmod_eq_emod_of_nonneg (by omega)]; omega
  have t4 : t < 4 := by omega
  have t4' : (t : Int) < 4 := by omega
  have t00 : (0 : Int) ≤ t := by omega
  have tb : Int.bmod (t : Int) 18446744073709551616 = t := bm (by omega) (by omega)
  have t3 : t ≤ 3 := Nat.le_of_lt_succ t4
  have m1 : min q 64 = q := by omega
  have m2 : (2 : Int) ^ q % 18446744073709551616 = 2 ^ q := Int.emod_eq_of_lt (Int.le_of_lt (pow_pos2 _)) (by
   have : (2 : Int) ^ q < 2 ^ 64 := by exact_mod_cast Nat.pow_lt_pow_right (by omega) hq
   exact this)
  have hset := or_bit c t q hq t4
  rw [← hn', ← hc] at hset
  rw [fa_4 .u64 (wi (r + 2 ^ n))] at hset
  simp only [hrs]
  generalize htt : (r + 2 ^ n) * (r + 2 ^ n) = T at *
  by_cases hov : T < 57896044618658097711785492504343953926634992332820282019728792003956564819968
  ·have hm : mulO (r + 2 ^ n) (r + 2 ^ n) = false := by rw [hmul]; simp [hov]
   have szT : sz T = T := sz_pos tt0 hov
   by_cases hle : T ≤ a
   ·have hcmp : cmpI (sz T) (sz a) ≤ 0 := by rw [szT, sza]; unfold cmpI; split <;> (try split) <;> omega
    rw [if_pos hle]
    unfold r4St
    repeat' (first | refine gwA ?_ | ((first | refine gwR [] ?_ | refine gwD [] ?_); intro Q hQ hP; simp [hC, hY, hn, g1, g4, tq, tm, t4, t4', t00, tb, t3, m1, m2, fa_get, fa_set, hset, wb, szt, htt, hm, hcmp]; refine hQ _ _ _ _ (by kernel_rfl) ?_; clear hQ hP Q) | (refine gwC ?_ ?_ <;> (intro hb; first | (cases hb; done) | skip)))
    refine weakL _ 400 hC G0F (m0 := []) hC0 (by omega) ?_ ?_ ?_
    ·simp [dom]
    ·simp [wb, fa_4]
    ·simp [wb]
   ·have hcmp : ¬ cmpI (sz T) (sz a) ≤ 0 := by rw [szT, sza]; unfold cmpI; split <;> (try split) <;> omega
    rw [if_neg hle]
    unfold r4St
    repeat' (first | refine gwA ?_ | ((first | refine gwR [] ?_ | refine gwD [] ?_); intro Q hQ hP; simp [hC, hY, hn, g1, g4, tq, tm, t4, t4', t00, tb, t3, m1, m2, fa_get, fa_set, hset, wb, szt, htt, hm, hcmp]; refine hQ _ _ _ _ (by kernel_rfl) ?_; clear hQ hP Q) | (refine gwC ?_ ?_ <;> (intro hb; first | (cases hb; done) | skip)))
    refine weakL _ 400 hC G0F (m0 := []) hC0 (by omega) ?_ ?_ ?_
    ·simp [dom]
    ·simp [wb, fa_4]
    ·simp [wb]
  ·have hm : mulO (r + 2 ^ n) (r + 2 ^ n) = true := by rw [hmul]; simp only [hov, not_false_eq_true, decide_true]
   have hle : ¬ T ≤ a := fun h => hov (Int.lt_of_le_of_lt h hau)
   rw [if_neg hle]
   unfold r4St
   repeat' (first | refine gwA ?_ | ((first | refine gwR [] ?_ | refine gwD [] ?_); intro Q hQ hP; simp [hC, hY, hn, g1, g4, tq, tm, t4, t4', t00, tb, t3, m1, m2, fa_get, fa_set, hset, wb, szt, htt, hm]; refine hQ _ _ _ _ (by kernel_rfl) ?_; clear hQ hP Q) | (refine gwC ?_ ?_ <;> (intro hb; first | (cases hb; done) | skip)))
   refine weakL _ 400 hC G0F (m0 := []) hC0 (by omega) ?_ ?_ ?_
   ·simp [dom]
   ·simp [wb, fa_4]
   ·simp [wb]
 ·have g1 : ¬ (K : Int) ≤ M := by omega
  unfold r4St
  repeat' (first | refine gwA ?_ | ((first | refine gwR [] ?_ | refine gwD [] ?_); intro Q hQ hP; simp [hC, hY, wb, g1, fa_4]; refine hQ _ _ _ _ (by kernel_rfl) ?_; clear hQ hP Q) | (refine gwC ?_ ?_ <;> (intro hb; first | (cases hb; done) | skip)))
  refine ⟨.inr trivial, ?_⟩
  simp [Tryz.results64, hisq]
@[simp] theorem r4floor (a : Int) (ha : wr a) (h0 : 0 ≤ a) (K : Value → Prop) : callK Tryz.prog G0 64 #[Value.agg #[.int .u64 (wi (a) 0), .int .u64 (wi (a) 1), .int .u64 (wi (a) 2), .int .u64 (wi (a) 3)]] K ↔ K (.tuple #[wd (isq a), .int .i64 0]) := callK_iff G0W (by kernel_rfl) (r4floor_ret a ha h0)
theorem r3add_ret (a b : Int) : Ret Tryz.prog G0 132 #[wd a, wd b] (wd (a + b)) := by
 refine ret_of G0F Tryz.func132 rfl Tryz.call132 (by simp) (by simp) (by simp [Tryz.ntmps132]) ?_
 intro C hC hC0 hY
 repeat' (first | refine gwA ?_ | ((first | refine gwR [] ?_ | refine gwD [] ?_); intro Q hQ hP; simp [hC, hY]; refine hQ _ _ _ _ (by kernel_rfl) ?_; clear hQ hP Q) | (refine gwC ?_ ?_ <;> (intro hb; first | (cases hb; done) | skip)))
 refine ⟨.inr trivial, ?_⟩
 simp [Tryz.results132]
@[simp] theorem r3add (a b : Int) (K : Value → Prop) : callK Tryz.prog G0 132 #[Value.agg #[.int .u64 (wi (a) 0), .int .u64 (wi (a) 1), .int .u64 (wi (a) 2), .int .u64 (wi (a) 3)], Value.agg #[.int .u64 (wi (b) 0), .int .u64 (wi (b) 1), .int .u64 (wi (b) 2), .int .u64 (wi (b) 3)]] K ↔ K (wd (a + b)) := callK_iff G0W (by kernel_rfl) (r3add_ret a b)
theorem r3sub_ret (a b : Int) : Ret Tryz.prog G0 120 #[wd a, wd b] (wd (a - b)) := by
 refine ret_of G0F Tryz.func120 rfl Tryz.call120 (by simp) (by simp) (by simp [Tryz.ntmps120]) ?_
 intro C hC hC0 hY
 repeat' (first | refine gwA ?_ | ((first | refine gwR [] ?_ | refine gwD [] ?_); intro Q hQ hP; simp [hC, hY]; refine hQ _ _ _ _ (by kernel_rfl) ?_; clear hQ hP Q) | (refine gwC ?_ ?_ <;> (intro hb; first | (cases hb; done) | skip)))
 refine ⟨.inr trivial, ?_⟩
 simp [Tryz.results120]
@[simp] theorem r3sub (a b : Int) (K : Value → Prop) : callK Tryz.prog G0 120 #[Value.agg #[.int .u64 (wi (a) 0), .int .u64 (wi (a) 1), .int .u64 (wi (a) 2), .int .u64 (wi (a) 3)], Value.agg #[.int .u64 (wi (b) 0), .int .u64 (wi (b) 1), .int .u64 (wi (b) 2), .int .u64 (wi (b) 3)]] K ↔ K (wd (a - b)) := callK_iff G0W (by kernel_rfl) (r3sub_ret a b)
theorem r3one_ret : Ret Tryz.prog G0 121 #[] (wd 1) := by
 refine ret_of G0F Tryz.func121 rfl Tryz.call121 (by simp) (by simp) (by simp [Tryz.ntmps121]) ?_
 intro C hC hC0 hY
 have i1 := i64_1
 repeat' (first | refine gwA ?_ | ((first | refine gwR [] ?_ | refine gwD [] ?_); intro Q hQ hP; simp [hC, hY, i1]; refine hQ _ _ _ _ (by kernel_rfl) ?_; clear hQ hP Q) | (refine gwC ?_ ?_ <;> (intro hb; first | (cases hb; done) | skip)))
 refine ⟨.inr trivial, ?_⟩
 simp [Tryz.results121]
@[simp] theorem r3one (K : Value → Prop) : callK Tryz.prog G0 121 #[] K ↔ K (wd 1) := callK_iff G0W (by kernel_rfl) r3one_ret
theorem r3least_ret : Ret Tryz.prog G0 102 #[] (.agg #[.int .u64 0, .int .u64 0, .int .u64 0, .int .u64 9223372036854775808]) := by
 refine ret_of G0F Tryz.func102 rfl Tryz.call102 (by simp) (by simp) (by simp [Tryz.ntmps102]) ?_
 intro C hC hC0 hY
 repeat' (first | refine gwA ?_ | ((first | refine gwR [] ?_ | refine gwD [] ?_); intro Q hQ hP; simp [hC, hY]; refine hQ _ _ _ _ (by kernel_rfl) ?_; clear hQ hP Q) | (refine gwC ?_ ?_ <;> (intro hb; first | (cases hb; done) | skip)))
 refine ⟨.inr trivial, ?_⟩
 simp [Tryz.results102]
@[simp] theorem r3least (K : Value → Prop) : callK Tryz.prog G0 102 #[] K ↔ K (.agg #[.int .u64 0, .int .u64 0, .int .u64 0, .int .u64 9223372036854775808]) := callK_iff G0W (by kernel_rfl) r3least_ret
def wl (z : Int) : List Value := [.int .u64 (wi z 0), .int .u64 (wi z 1), .int .u64 (wi z 2), .int .u64 (wi z 3)]
@[simp] theorem wl_len (z : Int) : (wl z).length = 4 := rfl
def lc (b : Int) : Nat → List Value
 | 0 => []
 | k + 1 => lc b k ++ wl (b * 2 ^ k)
@[simp] theorem lc_len (b : Int) (k : Nat) : (lc b k).length = 4 * k := by
 induction k with
 | zero => rfl
 | succ k ih => simp [lc, ih]; omega
theorem lc_flat (b : Int) (k : Nat) : ∀ x ∈ lc b k, flatF x = true := by
 induction k with
 | zero => simp [lc]
 | succ k ih =>
  intro x hx
  simp only [lc, List.mem_append] at hx
  rcases hx with hx | hx
  ·exact ih x hx
  ·simp [wl] at hx
   rcases hx with rfl | rfl | rfl | rfl <;> simp
theorem lc_take (b : Int) : ∀ (k j : Nat) (rest : List Value), j < k → ((lc b k ++ rest).drop (4 * j)).take 4 = wl (b * 2 ^ j)
 | 0, j, rest, h => by omega
 | k + 1, j, rest, h => by
  by_cases hj : j < k
  ·rw [lc, List.append_assoc]
   exact lc_take b k j _ hj
  ·obtain rfl : j = k := by omega
   rw [lc, List.append_assoc, show 4 * j = (lc b j).length by simp, List.drop_left, show (4 : Nat) = (wl (b * 2 ^ j)).length from rfl, List.take_left]
theorem halve {a b : Int} (hb : 0 < b) (i : Nat) : (a % (b * 2 ^ (i + 1)) < b * 2 ^ i ∧ a / (b * 2 ^ i) = 2 * (a / (b * 2 ^ (i + 1))) ∧ a % (b * 2 ^ i) = a % (b * 2 ^ (i + 1))) ∨
  (b * 2 ^ i ≤ a % (b * 2 ^ (i + 1)) ∧ a / (b * 2 ^ i) = 2 * (a / (b * 2 ^ (i + 1))) + 1 ∧ a % (b * 2 ^ i) = a % (b * 2 ^ (i + 1)) - b * 2 ^ i) := by
 have e : b * 2 ^ (i + 1) = 2 * (b * 2 ^ i) := by rw [Int.pow_succ]; ac_rfl
 rw [e]
 have hm : 0 < b * 2 ^ i := Int.mul_pos hb (Int.pow_pos (by decide))
 generalize b * 2 ^ i = m at *
 have h1 := Int.emod_lt_of_pos a (show 0 < 2 * m by omega)
 have h2 := Int.emod_nonneg a (show (2 * m) ≠ 0 by omega)
 have h3 := Int.mul_ediv_add_emod a (2 * m)
 generalize a / (2 * m) = q at *
 generalize a % (2 * m) = s at *
 have ea : a = m * (2 * q) + s := by rw [← h3, Int.mul_comm 2 m, Int.mul_assoc]
 by_cases hs : s < m
 ·left
  refine ⟨hs, ?_, ?_⟩
  ·rw [ea, Int.mul_add_ediv_left _ _ (by omega), Int.ediv_eq_zero_of_lt h2 hs, Int.add_zero]
  ·rw [ea, Int.mul_add_emod_self_left, Int.emod_eq_of_lt h2 hs]
 ·right
  have es : a = m * (2 * q + 1) + (s - m) := by rw [ea, Int.mul_add, Int.mul_one]; omega
  refine ⟨by omega, ?_, ?_⟩
  ·rw [es, Int.mul_add_ediv_left _ _ (by omega), Int.ediv_eq_zero_of_lt (by omega) (by omega), Int.add_zero]
  ·rw [es, Int.mul_add_emod_self_left, Int.emod_eq_of_lt (by omega) (by omega)]
def plHp3 (a b : Int) (i : Nat) (rest : List Value) : Hp := hpL G0 [(200, wb a), (208, wb b), (216, wb 0), (224, wb 0), (240, ⟨(lc b (i + 1) ++ rest).toArray, .ty 30⟩)]
def plTs3 (i cap : Nat) : Nat → Value := tsL [(2, .pointer (some ⟨200, 0, none⟩)), (3, .pointer (some ⟨208, 0, none⟩)), (4, .pointer (some ⟨216, 0, none⟩)), (5, .pointer (some ⟨224, 0, none⟩)), (6, .slice (some ⟨240, 0, none⟩) (i + 1) cap)]
def plS (b : Int) (i cap : Nat) (rest : List Value) : Prop := i ≤ 255 ∧ i + 1 ≤ cap ∧ (lc b (i + 1) ++ rest).length = 4 * cap ∧ ∀ x ∈ rest, flatF x = true
def plI (a b : Int) (N m : Nat) (s : GS) : Prop := ∃ i cap rest, i + m = N ∧ s = ⟨plTs3 i cap, plHp3 a b i rest, 256, 0⟩ ∧ plS b i cap rest ∧ (0 < i → b * 2 ^ i ≤ a)
def plJ (C : Ctx) (a b : Int) (s : GS) : Prop := ∃ i cap rest, Weak C s ⟨plTs3 i cap, plHp3 a b i rest, 256, 0⟩ ∧ plS b i cap rest ∧ (0 < i → b * 2 ^ i ≤ a) ∧ a < b * 2 ^ (i + 1)
def plSt2 (a b : Int) (i cap : Nat) (rest : List Value) (j : Nat) : GS :=
 ⟨tsL [(2, .pointer (some ⟨200, 0, none⟩)), (3, .pointer (some ⟨208, 0, none⟩)), (4, .pointer (some ⟨216, 0, none⟩)), (5, .pointer (some ⟨224, 0, none⟩)), (6, .slice (some ⟨240, 0, none⟩) (i + 1) cap), (9, .pointer (some ⟨256, 0, none⟩)), (10, .int .i64 (i - j))],
 hpL G0 [(200, wb (a % (b * 2 ^ (i + 1 - j)))), (208, wb b), (216, wb 0), (224, wb 0), (240, ⟨(lc b (i + 1) ++ rest).toArray, .ty 30⟩), (256, wb (a / (b * 2 ^ (i + 1 - j))))], 400, 0⟩
theorem dbl_bd {b : Int} (hb0 : 0 < b) (i : Nat) (h : b * 2 ^ i < 57896044618658097711785492504343953926634992332820282019728792003956564819968) : i < 255 := by
 refine Classical.byContradiction fun hc => ?_
 have h1 : (2 : Int) ^ 255 ≤ 2 ^ i := by exact_mod_cast Nat.pow_le_pow_right (by omega) (by omega : 255 ≤ i)
 have h2 : (1 : Int) * 2 ^ i ≤ b * 2 ^ i := Int.mul_le_mul_of_nonneg_right (by omega) (Int.le_of_lt (pow_pos2 i))
 have h3 : (2 : Int) ^ 255 = 57896044618658097711785492504343953926634992332820282019728792003956564819968 := rfl
 omega
theorem dbl_succ (b : Int) (i : Nat) : b * 2 ^ (i + 1) = b * 2 ^ i + b * 2 ^ i := by rw [Int.pow_succ, ← Int.mul_assoc, Int.mul_comm, Int.two_mul]
theorem ng_small {z : Int} (h0 : 0 ≤ z) (h1 : z < 57896044618658097711785492504343953926634992332820282019728792003956564819968) : ng z = false := by
 rw [ng_sz, sz_pos h0 h1]; simp; exact h0
theorem ng_large {z : Int} (h0 : 57896044618658097711785492504343953926634992332820282019728792003956564819968 ≤ z) (h1 : z < 115792089237316195423570985008687907853269984665640564039457584007913129639936) : ng z = true := by
 rw [ng_sz]; simp
 unfold sz; rw [Int.bmod_def]; split <;> omega
theorem flat_z4 {x : Value} (h : x ∈ (Value.agg #[.int .u64 0, .int .u64 0, .int .u64 0, .int .u64 0]).cells) : flatF x = true := by
 simp [Value.cells] at h; subst h; rfl
theorem lcr_ids {b : Int} {k : Nat} {rest : List Value} {T : TypeId} {D : Nat → Prop} (h : ∀ x ∈ rest, flatF x = true) : (Blk.mk (lc b k ++ rest).toArray T).ids D := fun x hx => by
 simp only [List.mem_toArray, List.mem_append] at hx
 rcases hx with hx | hx
 ·exact flatF_ids (lc_flat b k x hx)
 ·exact flatF_ids (h x hx)
theorem emod_le {a m : Int} (h0 : 0 ≤ a) (hm : 0 < m) : a % m ≤ a := by
 have h1 := Int.mul_ediv_add_emod a m
 have h2 := Int.ediv_nonneg h0 (Int.le_of_lt hm)
 have h3 := Int.mul_nonneg (Int.le_of_lt hm) h2
 omega
theorem lc_take' (b : Int) (i : Nat) (rest : List Value) : (lc b (i + 1) ++ rest).take ((i + 1) * 4) = lc b (i + 1) := by
 rw [show (i + 1) * 4 = (lc b (i + 1)).length by simp; omega, List.take_left]
theorem lc_room {b Y : Int} (i : Nat) (rest : List Value) (h : b * 2 ^ (i + 1) = Y) : (lc b (i + 1) ++ rest).take ((i + 1) * 4) ++ wl Y ++ (lc b (i + 1) ++ rest).drop ((i + 1) * 4 + (wl Y).length) = lc b (i + 2) ++ rest.drop 4 := by
 rw [lc_take', wl_len, show (i + 1) * 4 + 4 = (lc b (i + 1)).length + 4 by simp; omega, List.drop_append]
 simp only [Nat.add_sub_cancel_left]
 rw [List.drop_eq_nil_of_le (by omega), List.nil_append, ← h]
 rfl
theorem lc_grow {b Y : Int} (i : Nat) (rest tl : List Value) (h : b * 2 ^ (i + 1) = Y) : (lc b (i + 1) ++ rest).take ((i + 1) * 4) ++ wl Y ++ tl = lc b (i + 2) ++ tl := by
 rw [lc_take', ← h]; rfl
theorem lcr_rn {b : Int} {k : Nat} {rest : List Value} {T : TypeId} {ρ : Nat → Nat} (h : ∀ x ∈ rest, flatF x = true) : (Blk.mk (lc b k ++ rest).toArray T).rn ρ = ⟨(lc b k ++ rest).toArray, T⟩ := by
 unfold Blk.rn
 rw [map_eq_self]
 intro x hx
 simp only [List.mem_toArray, List.mem_append] at hx
 rcases hx with hx | hx
 ·exact flatF_ren (lc_flat b k x hx)
 ·exact flatF_ren (h x hx)
theorem w4_rn (a b c d : Int) (T : TypeId) (ρ : Nat → Nat) : (Blk.mk #[.int .u64 a, .int .u64 b, .int .u64 c, .int .u64 d] T).rn ρ = ⟨#[.int .u64 a, .int .u64 b, .int .u64 c, .int .u64 d], T⟩ := by simp [Blk.rn, renF, ren0]
set_option maxRecDepth 8000 in
set_option maxHeartbeats 1000000 in
theorem plain_t (a b : Int) (ha : wr a) (h0 : 0 ≤ a) (hb : wr b) (hb0 : 0 < b) : Ret Tryz.prog G0 119 #[wd a, wd b] (.tuple #[wd (a / b), wd (a % b)]) := by
 refine ret_of G0F Tryz.func119 rfl Tryz.call119 (by simp) (by simp) (by simp [Tryz.ntmps119]) ?_
 intro C hC hC0 hY
 repeat' (first | refine gwA ?_ | ((first | refine gwR [] ?_ | refine gwD [] ?_); intro Q hQ hP; simp [hC, hY]; refine hQ _ _ _ _ (by kernel_rfl) ?_; clear hQ hP Q) | (refine gwC ?_ ?_ <;> (intro hb; first | (cases hb; done) | skip)))
 refine GW_viaB (plJ C a b) ?_ ?_
 ·refine GW_loopR (plI a b 255) (m0 := 255) (s0 := ⟨plTs3 0 1, plHp3 a b 0 [], 256, 0⟩) ?_ ⟨0, 1, [], by omega, rfl, ⟨by omega, by omega, rfl, by simp⟩, by omega⟩ ?_
  ·refine weakL _ 256 hC G0F (m0 := []) hC0 (by omega) ?_ ?_ ?_
   ·simp [idsV, idsA, idsF, ids0, dom]
   ·simp [ids_lit, idsF, ids0, wb, lc, wl, wi_zero]
   ·simp
  ·rintro m _ ⟨i, cap, rest, him, rfl, ⟨hi255, hcap, hlen, hrf⟩, hle⟩
   have bi : Int.bmod (i : Int) 18446744073709551616 = i := bm (by omega) (by omega)
   have fit : i * 4 + 4 ≤ 4 * (i + 1) + rest.length := by omega
   have rd : List.take 4 (List.drop (i * 4) (lc b (i + 1) ++ rest)) = [.int .u64 (wi (b * 2 ^ i) 0), .int .u64 (wi (b * 2 ^ i) 1), .int .u64 (wi (b * 2 ^ i) 2), .int .u64 (wi (b * 2 ^ i) 3)] := by
    rw [Nat.mul_comm]; exact lc_take b (i + 1) i rest (by omega)
   have i0 : (0 : Int) ≤ i := by omega
   have i1 : (i : Int) < i + 1 := by omega
   have hau := ha.2
   have hbu := hb.2
   have hX0 : 0 < b * 2 ^ i := Int.mul_pos hb0 (pow_pos2 i)
   have hX1 : b * 2 ^ i < 57896044618658097711785492504343953926634992332820282019728792003956564819968 := by
    by_cases hi0 : i = 0
    ·subst hi0; simpa using hbu
    ·exact Int.lt_of_le_of_lt (hle (by omega)) hau
   have sza : sz a = a := wr_sz ha
   have hd := dbl_succ b i
   have n1 : ng (b * 2 ^ i) = false := ng_small (Int.le_of_lt hX0) hX1
   have hi254 := dbl_bd hb0 i hX1
   generalize hX : b * 2 ^ i = X at *
   by_cases hov : X + X < 57896044618658097711785492504343953926634992332820282019728792003956564819968
   ·have n2 : ng (X + X) = false := ng_small (by omega) hov
    have szd : sz (X + X) = X + X := sz_pos (by omega) hov
    by_cases hle2 : X + X ≤ a
    ·have hcmp : ¬ 0 < cmpI (sz (X + X)) (sz a) := by rw [szd, sza]; unfold cmpI; split <;> (try split) <;> omega
     unfold plTs3 plHp3
     repeat' (first | refine gwA ?_ | ((first | refine gwR [] ?_ | refine gwD [] ?_); intro Q hQ hP; simp [hC, hY, wb, bi, fit, rd, i0, i1, n1, n2, hcmp]; refine hQ _ _ _ _ (by kernel_rfl) ?_; clear hQ hP Q) | (refine gwC ?_ ?_ <;> (intro hb; first | (cases hb; done) | skip)))
     refine GW_app 3 rfl [] rfl (by kernel_rfl) ?_
     intro q hq
     simp [hC, hY]
     refine appX_mk (c := lc b (i + 1) ++ rest) (c2 := wl (X + X)) (k := 240) (j := 480) (m := 1) (m' := 1) (sl := i + 1) (cap := cap) (e := 30) (T2 := .ty 30) (sz := 4) (by' := 32) (z := .agg #[.int .u64 0, .int .u64 0, .int .u64 0, .int .u64 0]) rfl (by simp) (by simp) (by simp) (by kernel_rfl) (by simp) (by omega) (by simp) ?_ (by simp) (by simp [wl]) ?_ ?_ ?_ ?_ ?_ ?_ ?_ ?_ ?_ ?_
     ·exact fun x hx => (List.mem_append.1 hx).elim (lc_flat b _ x) (hrf x)
     ·simp [wl]
     ·simp [wl, Value.oneCell']
     ·exact fun q x hx => flat_z4 (zc_mem hx)
     ·simp
     ·rw [hlen]; omega
     ·exact hcap
     ·unfold maxLen; omega
     ·omega
     ·intro hr
      rw [lc_room i rest hd]
      simp [appC, putT]
      refine hq _ _ _ _ ?_
      simp only [blockG_normal, thenG_normal]
      refine ⟨_, _, m - 1, weakRL (fun k => k) _ 256 hC G0F (m0 := []) hC0 (by omega) ?_ ?_ ?_ ?_ ?_, ⟨i + 1, cap, rest.drop 4, by omega, rfl, ⟨by omega, hr, ?_, fun x hx => hrf x (List.mem_of_mem_drop hx)⟩, fun _ => by rw [hd]; exact hle2⟩, by omega⟩
      ·simp [dom, junk, ren, renA, renF, ren0]
      ·simp [w4_rn, lcr_rn (fun x hx => hrf x (List.mem_of_mem_drop hx) : ∀ x ∈ rest.drop 4, flatF x = true), lcr_ids (fun x hx => hrf x (List.mem_of_mem_drop hx) : ∀ x ∈ rest.drop 4, flatF x = true), wb]
      ·simp
      ·exact fun k _ => rfl
      ·simp
      ·simp at hlen ⊢; omega
     ·intro hr cap' hc'
      rw [lc_grow i rest _ hd]
      have hzl : (Builtin.zeroCells (Value.agg #[.int .u64 0, .int .u64 0, .int .u64 0, .int .u64 0]).cells (cap' - (i + 1 + 1))).toList.length = (cap' - (i + 1 + 1)) * 4 := by simp [zc_size, Value.cells]
      have hzf : ∀ x ∈ (Builtin.zeroCells (Value.agg #[.int .u64 0, .int .u64 0, .int .u64 0, .int .u64 0]).cells (cap' - (i + 1 + 1))).toList, flatF x = true := fun x hx => flat_z4 (zc_mem (by simpa using hx))
      generalize (Builtin.zeroCells (Value.agg #[.int .u64 0, .int .u64 0, .int .u64 0, .int .u64 0]).cells (cap' - (i + 1 + 1))).toList = tl at *
      simp [appC, putT]
      refine hq _ _ _ _ ?_
      simp only [blockG_normal, thenG_normal]
      refine ⟨_, _, m - 1, weakRL (fun k => if k = 240 then 488 else k) _ 256 hC G0F (m0 := []) hC0 (by omega) ?_ ?_ ?_ ?_ ?_, ⟨i + 1, cap', tl, by omega, rfl, ⟨by omega, hc', ?_, hzf⟩, fun _ => by rw [hd]; exact hle2⟩, by omega⟩
      ·simp [dom, junk, ren, renA, renF, ren0]
      ·simp [w4_rn, lcr_rn hzf, lcr_ids hzf, wb]
      ·simp
      ·intro k hk; simp; omega
      ·simp
      ·simp [hzl]; omega
    ·have hcmp : 0 < cmpI (sz (X + X)) (sz a) := by rw [szd, sza]; unfold cmpI; split <;> (try split) <;> omega
     unfold plTs3 plHp3
     repeat' (first | refine gwA ?_ | ((first | refine gwR [] ?_ | refine gwD [] ?_); intro Q hQ hP; simp [hC, hY, wb, bi, fit, rd, i0, i1, n1, n2, hcmp]; refine hQ _ _ _ _ (by kernel_rfl) ?_; clear hQ hP Q) | (refine gwC ?_ ?_ <;> (intro hb; first | (cases hb; done) | skip)))
     rw [if_neg (by decide), if_pos trivial, onlyN_normal]
     refine ⟨i, cap, rest, ?_, ⟨hi255, hcap, hlen, hrf⟩, by rw [hX]; exact hle, by rw [hd]; omega⟩
     refine weakL _ 256 hC G0F (m0 := []) hC0 (by omega) ?_ ?_ ?_
     ·simp [dom]
     ·simp [wb, lcr_ids hrf]
     ·simp
   ·have n2 : ng (X + X) = true := ng_large (by omega) (by omega)
    unfold plTs3 plHp3
    repeat' (first | refine gwA ?_ | ((first | refine gwR [] ?_ | refine gwD [] ?_); intro Q hQ hP; simp [hC, hY, bi, fit, rd, i0, i1, n1, n2]; refine hQ _ _ _ _ (by kernel_rfl) ?_; clear hQ hP Q) | (refine gwC ?_ ?_ <;> (intro hb; first | (cases hb; done) | skip)))
    rw [if_neg (by decide), if_pos trivial, onlyN_normal]
    refine ⟨i, cap, rest, ?_, ⟨hi255, hcap, hlen, hrf⟩, by rw [hX]; exact hle, by rw [hd]; omega⟩
    refine weakL _ 256 hC G0F (m0 := []) hC0 (by omega) ?_ ?_ ?_
    ·simp [dom]
    ·simp [wb, lcr_ids hrf]
    ·simp
 ·rintro s' ⟨i, cap, rest, hw, ⟨hi255, hcap, hlen, hrf⟩, hle, hlt⟩
  refine GW_weak hw ?_
  clear hw
  have bi : Int.bmod (i : Int) 18446744073709551616 = i := bm (by omega) (by omega)
  have hau := ha.2
  have hbu := hb.2
  have sza : sz a = a := wr_sz ha
  have hlt0 := Int.emod_eq_of_lt h0 hlt
  have hlt1 := Int.ediv_eq_zero_of_lt h0 hlt
  unfold plTs3 plHp3
  repeat' (first | refine gwA ?_ | ((first | refine gwR [] ?_ | refine gwD [] ?_); intro Q hQ hP; simp [hC, hY, wb, bi]; refine hQ _ _ _ _ (by kernel_rfl) ?_; clear hQ hP Q) | (refine gwC ?_ ?_ <;> (intro hb; first | (cases hb; done) | skip)))
  refine GW_for (i + 1) (plSt2 a b i cap rest) ?_ ?_ ?_
  ·refine weakL _ 400 hC G0F (m0 := []) hC0 (by omega) ?_ ?_ ?_
   ·simp [dom]
   ·simp [wb, lcr_ids hrf, hlt0, hlt1, wi_zero]
   ·simp
  ·intro j hj
   obtain ⟨n, hn⟩ : ∃ n : Nat, n + j = i := ⟨i - j, by omega⟩
   have e1 : i + 1 - j = n + 1 := by omega
   have e2 : i + 1 - (j + 1) = n := by omega
   have e3 : (i : Int) - (j : Int) = n := by omega
   have e4 : Int.bmod ((n : Int) - 1) 18446744073709551616 = (i : Int) - ((j + 1 : Nat) : Int) := by rw [bm (by omega) (by omega)]; omega
   have hX0 : 0 < b * 2 ^ n := Int.mul_pos hb0 (pow_pos2 n)
   have hX1 : b * 2 ^ n < 57896044618658097711785492504343953926634992332820282019728792003956564819968 := by
    by_cases hi0 : i = 0
    ·obtain rfl : n = 0 := by omega
     simpa using hbu
    ·have h2 : (2 : Int) ^ n ≤ 2 ^ i := by exact_mod_cast Nat.pow_le_pow_right (by omega) (by omega : n ≤ i)
     exact Int.lt_of_le_of_lt (Int.le_trans (Int.mul_le_mul_of_nonneg_left h2 (Int.le_of_lt hb0)) (hle (by omega))) hau
   have fit : n * 4 + 4 ≤ 4 * (i + 1) + rest.length := by omega
   have rd : List.take 4 (List.drop (n * 4) (lc b (i + 1) ++ rest)) = [.int .u64 (wi (b * 2 ^ n) 0), .int .u64 (wi (b * 2 ^ n) 1), .int .u64 (wi (b * 2 ^ n) 2), .int .u64 (wi (b * 2 ^ n) 3)] := by
    rw [Nat.mul_comm]; exact lc_take b (i + 1) n rest (by omega)
   have i0 : (0 : Int) ≤ n := by omega
   have i1 : (n : Int) < i + 1 := by omega
   have hm0 := Int.emod_nonneg a (show b * 2 ^ (n + 1) ≠ 0 by have := Int.mul_pos hb0 (pow_pos2 (n + 1)); omega)
   have hm1 : a % (b * 2 ^ (n + 1)) ≤ a := emod_le h0 (Int.mul_pos hb0 (pow_pos2 (n + 1)))
   have hh := halve (a := a) hb0 n
   unfold plSt2
   rw [e1, e2, e3]
   have szX : sz (b * 2 ^ n) = b * 2 ^ n := sz_pos (Int.le_of_lt hX0) hX1
   have szR : sz (a % (b * 2 ^ (n + 1))) = a % (b * 2 ^ (n + 1)) := sz_pos hm0 (Int.lt_of_le_of_lt hm1 hau)
   rcases hh with ⟨g1, g2, g3⟩ | ⟨g1, g2, g3⟩
   ·rw [g2, g3, Int.two_mul]
    have hcmp : ¬ cmpI (sz (b * 2 ^ n)) (sz (a % (b * 2 ^ (n + 1)))) ≤ 0 := by rw [szX, szR]; unfold cmpI; split <;> (try split) <;> omega
    clear g1 g2 g3 hm0 hm1 szX szR hlt0 hlt1
    generalize a % (b * 2 ^ (n + 1)) = R at *
    generalize a / (b * 2 ^ (n + 1)) = q at *
    generalize b * 2 ^ n = X at *
    repeat' (first | refine gwA ?_ | ((first | refine gwR [] ?_ | refine gwD [] ?_); intro Q hQ hP; simp [hC, hY, wb, bi, fit, rd, i0, i1, hcmp, e4]; refine hQ _ _ _ _ (by kernel_rfl) ?_; clear hQ hP Q) | (refine gwC ?_ ?_ <;> (intro hb; first | (cases hb; done) | skip)))
    refine weakL _ 400 hC G0F (m0 := []) hC0 (by omega) ?_ ?_ ?_
    ·simp [dom]
    ·simp [wb, lcr_ids hrf]
    ·simp
   ·rw [g2, g3, Int.two_mul]
    have hcmp : cmpI (sz (b * 2 ^ n)) (sz (a % (b * 2 ^ (n + 1)))) ≤ 0 := by rw [szX, szR]; unfold cmpI; split <;> (try split) <;> omega
    clear g1 g2 g3 hm0 hm1 szX szR hlt0 hlt1
    generalize a % (b * 2 ^ (n + 1)) = R at *
    generalize a / (b * 2 ^ (n + 1)) = q at *
    generalize b * 2 ^ n = X at *
    repeat' (first | refine gwA ?_ | ((first | refine gwR [] ?_ | refine gwD [] ?_); intro Q hQ hP; simp [hC, hY, wb, bi, fit, rd, i0, i1, hcmp, e4]; refine hQ _ _ _ _ (by kernel_rfl) ?_; clear hQ hP Q) | (refine gwC ?_ ?_ <;> (intro hb; first | (cases hb; done) | skip)))
    refine weakL _ 400 hC G0F (m0 := []) hC0 (by omega) ?_ ?_ ?_
    ·simp [dom]
    ·simp [wb, lcr_ids hrf]
    ·simp
  ·have e1 : i + 1 - (i + 1) = 0 := by omega
   have e3 : ¬ (0 : Int) ≤ (i : Int) - ((i + 1 : Nat) : Int) := by omega
   unfold plSt2
   rw [e1, Int.pow_zero, Int.mul_one]
   generalize (i : Int) - ((i + 1 : Nat) : Int) = z at *
   repeat' (first | refine gwA ?_ | ((first | refine gwR [] ?_ | refine gwD [] ?_); intro Q hQ hP; simp [hC, hY, wb, e3]; refine hQ _ _ _ _ (by kernel_rfl) ?_; clear hQ hP Q) | (refine gwC ?_ ?_ <;> (intro hb; first | (cases hb; done) | skip)))
   refine ⟨.inr trivial, ?_⟩
   simp [Tryz.results119]
@[simp] theorem r3plain (a b : Int) (ha : wr a) (h0 : 0 ≤ a) (hB : wr b) (hb0 : 0 < b) (K : Value → Prop) : callK Tryz.prog G0 119 #[Value.agg #[.int .u64 (wi (a) 0), .int .u64 (wi (a) 1), .int .u64 (wi (a) 2), .int .u64 (wi (a) 3)], Value.agg #[.int .u64 (wi (b) 0), .int .u64 (wi (b) 1), .int .u64 (wi (b) 2), .int .u64 (wi (b) 3)]] K ↔ K (.tuple #[wd (a / b), wd (a % b)]) := callK_iff G0W (by kernel_rfl) (plain_t a b ha h0 hB hb0)
theorem above_ret (a b : Int) (ha : wr a) (h0 : 0 ≤ a) (hB : wr b) (hb0 : 0 < b) : Ret Tryz.prog G0 103 #[wd a, wd b] (.tuple #[wd (a / b), wd (a % b)]) := by
 refine ret_of G0F Tryz.func103 rfl Tryz.call103 (by simp) (by simp) (by simp [Tryz.ntmps103]) ?_
 intro C hC hC0 hY
 have s1 : 0 ≤ cmpI (sz a) 0 := by rw [wr_sz ha]; unfold cmpI; split <;> (try split) <;> omega
 repeat' (first | refine gwA ?_ | ((first | refine gwR [] ?_ | refine gwD [] ?_); intro Q hQ hP; simp [hC, hY, s1, ha, h0, hB, hb0]; refine hQ _ _ _ _ (by kernel_rfl) ?_; clear hQ hP Q) | (refine gwC ?_ ?_ <;> (intro hb; first | (cases hb; done) | skip)))
 refine ⟨.inr trivial, ?_⟩
 simp [Tryz.results103]
@[simp] theorem r3above (a b : Int) (ha : wr a) (h0 : 0 ≤ a) (hB : wr b) (hb0 : 0 < b) (K : Value → Prop) : callK Tryz.prog G0 103 #[Value.agg #[.int .u64 (wi (a) 0), .int .u64 (wi (a) 1), .int .u64 (wi (a) 2), .int .u64 (wi (a) 3)], Value.agg #[.int .u64 (wi (b) 0), .int .u64 (wi (b) 1), .int .u64 (wi (b) 2), .int .u64 (wi (b) 3)]] K ↔ K (.tuple #[wd (a / b), wd (a % b)]) := callK_iff G0W (by kernel_rfl) (above_ret a b ha h0 hB hb0)
theorem and4_of {p q r s : Bool} (h : (!p || (!q || (!r || !s))) = true) : (p && (q && (r && s))) = false := by cases p <;> cases q <;> cases r <;> cases s <;> simp_all
theorem floor3_ret (a b : Int) (ha : wr a) (h0 : 0 ≤ a) (hB : wr b) (hb0 : 0 < b) : Ret Tryz.prog G0 86 #[wd a, wd b] (.tuple #[wd (a / b), wd (a % b), .int .i64 0]) := by
 refine ret_of G0F Tryz.func86 rfl Tryz.call86 (by simp) (by simp) (by simp [Tryz.ntmps86]) ?_
 intro C hC hC0 hY
 have s1 : 0 < cmpI (sz b) 0 := by rw [wr_sz hB]; unfold cmpI; split <;> (try split) <;> omega
 have z1 := and4_of (wr_ne hB (by omega))
 have l1 := and4_of <| least_ne a ha (fun e => by rw [e] at h0; exact absurd h0 (by decide))
 have l2 := and4_of <| least_ne b hB (fun e => by rw [e] at hb0; exact absurd hb0 (by decide))
 repeat' (first | refine gwA ?_ | ((first | refine gwR [] ?_ | refine gwD [] ?_); intro Q hQ hP; simp [hC, hY, s1, ha, h0, hB, hb0, z1, l1, l2]; refine hQ _ _ _ _ (by kernel_rfl) ?_; clear hQ hP Q) | (refine gwC ?_ ?_ <;> (intro hb; first | (cases hb; done) | skip)))
 refine ⟨.inr trivial, ?_⟩
 simp [Tryz.results86]
@[simp] theorem r3floor (a b : Int) (ha : wr a) (h0 : 0 ≤ a) (hB : wr b) (hb0 : 0 < b) (K : Value → Prop) : callK Tryz.prog G0 86 #[Value.agg #[.int .u64 (wi (a) 0), .int .u64 (wi (a) 1), .int .u64 (wi (a) 2), .int .u64 (wi (a) 3)], Value.agg #[.int .u64 (wi (b) 0), .int .u64 (wi (b) 1), .int .u64 (wi (b) 2), .int .u64 (wi (b) 3)]] K ↔ K (.tuple #[wd (a / b), wd (a % b), .int .i64 0]) := callK_iff G0W (by kernel_rfl) (floor3_ret a b ha h0 hB hb0)
theorem Floor3_ret (a b : Int) (ha : wr a) (h0 : 0 ≤ a) (hB : wr b) (hb0 : 0 < b) : Ret Tryz.prog G0 63 #[wd a, wd b] (.tuple #[wd (a / b), .int .i64 0]) := by
 refine ret_of G0F Tryz.func63 rfl Tryz.call63 (by simp) (by simp) (by simp [Tryz.ntmps63]) ?_
 intro C hC hC0 hY
 repeat' (first | refine gwA ?_ | ((first | refine gwR [] ?_ | refine gwD [] ?_); intro Q hQ hP; simp [hC, hY, ha, h0, hB, hb0]; refine hQ _ _ _ _ (by kernel_rfl) ?_; clear hQ hP Q) | (refine gwC ?_ ?_ <;> (intro hb; first | (cases hb; done) | skip)))
 refine ⟨.inr trivial, ?_⟩
 simp [Tryz.results63]
@[simp] theorem r3Floor (a b : Int) (ha : wr a) (h0 : 0 ≤ a) (hB : wr b) (hb0 : 0 < b) (K : Value → Prop) : callK Tryz.prog G0 63 #[Value.agg #[.int .u64 (wi (a) 0), .int .u64 (wi (a) 1), .int .u64 (wi (a) 2), .int .u64 (wi (a) 3)], Value.agg #[.int .u64 (wi (b) 0), .int .u64 (wi (b) 1), .int .u64 (wi (b) 2), .int .u64 (wi (b) 3)]] K ↔ K (.tuple #[wd (a / b), .int .i64 0]) := callK_iff G0W (by kernel_rfl) (Floor3_ret a b ha h0 hB hb0)
theorem r4Of_p_ret (a b : Int) (ha : wr a) (hB : wr b) (h0 : 0 ≤ a) (hb0 : 0 < b) : Ret Tryz.prog G0 32 #[wd a, wd b] (.tuple #[wd (isq (a / b)), .int .i64 0]) := by
 refine ret_of G0F Tryz.func32 rfl Tryz.call32 (by simp) (by simp) (by simp [Tryz.ntmps32]) ?_
 intro C hC hC0 hY
 have s1 : ¬ cmpI (sz a) 0 < 0 := by rw [wr_sz ha]; unfold cmpI; split <;> (try split) <;> omega
 have s2 : ¬ cmpI (sz b) 0 < 0 := by rw [wr_sz hB]; unfold cmpI; split <;> (try split) <;> omega
 have z1 := and4_of (wr_ne hB (by omega))
 have hd := div_wr ha h0 hb0
 have hd1 := hd.1
 have hd2 := hd.2
 repeat' (first | refine gwA ?_ | ((first | refine gwR [] ?_ | refine gwD [] ?_); intro Q hQ hP; simp [hC, hY, s1, s2, z1, ha, h0, hB, hb0, hd1, hd2]; refine hQ _ _ _ _ (by kernel_rfl) ?_; clear hQ hP Q) | (refine gwC ?_ ?_ <;> (intro hb; first | (cases hb; done) | skip)))
 refine ⟨.inr trivial, ?_⟩
 simp [Tryz.results32]
theorem r4Of_z_ret (a b : Int) (hz : b = 0) : Ret Tryz.prog G0 32 #[wd a, wd b] (.tuple #[wd 0, .int .i64 30]) := by
 subst hz
 refine ret_of G0F Tryz.func32 rfl Tryz.call32 (by simp) (by simp) (by simp [Tryz.ntmps32]) ?_
 intro C hC hC0 hY
 repeat' (first | refine gwA ?_ | ((first | refine gwR [] ?_ | refine gwD [] ?_); intro Q hQ hP; simp [hC, hY, wi_zero]; refine hQ _ _ _ _ (by kernel_rfl) ?_; clear hQ hP Q) | (refine gwC ?_ ?_ <;> (intro hb; first | (cases hb; done) | skip)))
 refine ⟨.inr trivial, ?_⟩
 simp [Tryz.results32, wi_zero]
@[simp] theorem r4Of_z (a b : Int) (hz : b = 0) (K : Value → Prop) : callK Tryz.prog G0 32 #[Value.agg #[.int .u64 (wi (a) 0), .int .u64 (wi (a) 1), .int .u64 (wi (a) 2), .int .u64 (wi (a) 3)], Value.agg #[.int .u64 (wi (b) 0), .int .u64 (wi (b) 1), .int .u64 (wi (b) 2), .int .u64 (wi (b) 3)]] K ↔ K (.tuple #[wd 0, .int .i64 30]) := callK_iff G0W (by kernel_rfl) (r4Of_z_ret a b hz)
@[simp] theorem r4Of_zz (a : Int) (K : Value → Prop) : callK Tryz.prog G0 32 #[Value.agg #[.int .u64 (wi (a) 0), .int .u64 (wi (a) 1), .int .u64 (wi (a) 2), .int .u64 (wi (a) 3)], .agg #[.int .u64 0, .int .u64 0, .int .u64 0, .int .u64 0]] K ↔ K (.tuple #[wd 0, .int .i64 30]) := by
 have := r4Of_z a 0 rfl K
 simpa [wi_zero] using this
end Go.Gy
namespace Go.Gy
set_option linter.unusedSimpArgs false
set_option linter.unusedVariables false
open Go Go.RowKit
section
variable {P : Program}
def rdI (b : Blk) (off N : Nat) (f : Nat → Int) : Prop := ∀ j, j < N → b.c[off + j]? = some (.int .i64 (f j))
theorem rdI.le {b : Blk} {off N M : Nat} {f : Nat → Int} (h : rdI b off N f) (hm : M ≤ N) : rdI b off M f := fun j hj => h j (by omega)
theorem loadK_of {T : TypeId} {b : Blk} {off : Nat} {v : Value} (h : loadB P T b.c off = some v) (hf : flatV v = true) (hrd : b.T.rd = true := by first | rfl | assumption) : loadK P T b off = some v := by
 obtain ⟨c, t⟩ := b
 cases t with
 | ty t => exact h
 | raw t fr => simp only [loadK]; simp only at h; rw [h]; simp [hf]
 | mp => cases hrd
theorem fa_flatV (m : Nat) (k : IntKind) (f : Nat → Int) : flatV (.agg (fa m k f)) = true := by
 simp [flatV, flatA]
theorem loadK_rd {T : TypeId} {m : Nat} (h1 : tyAgg P T = some true) (h2 : tySize P T = some m) (hm : 0 < m) {b : Blk} {off N j : Nat} {f : Nat → Int} (h : rdI b off N f) (hj : j + m ≤ N) (hrd : b.T.rd = true := by first | rfl | assumption) : loadK P T b (off + j) = some (.agg (fa m .i64 fun q => f (j + q))) := by
 have hsz : off + j + m ≤ b.c.size := by
  have := h (j + m - 1) (by omega)
  have := (Array.getElem?_eq_some_iff.1 this).1
  omega
 have he : b.c.extract (off + j) (off + j + m) = fa m .i64 fun q => f (j + q) := by
  apply Array.ext_getElem?
  intro q
  rw [Array.getElem?_extract]
  by_cases hq : q < m
  ·rw [if_pos (by omega), fa_get _ _ _ _ hq, Nat.add_assoc, h (j + q) (by omega)]
  ·rw [if_neg (by omega)]
   simp [fa]; omega
 refine loadK_of ?_ (fa_flatV _ _ _)
 simp only [loadB, h1, h2, if_pos hsz, he]
theorem loadK_rd1 {T : TypeId} (h1 : tyAgg P T = some false) {b : Blk} {off N j : Nat} {f : Nat → Int} (h : rdI b off N f) (hj : j < N) (hrd : b.T.rd = true := by first | rfl | assumption) : loadK P T b (off + j) = some (.int .i64 (f j)) := by
 refine loadK_of ?_ (by simp [flatV, flatA, flatF, flat0])
 simp only [loadB, h1, h j hj]
 rfl
theorem fa_6 (k : IntKind) (f : Nat → Int) : fa 6 k f = #[.int k (f 0), .int k (f 1), .int k (f 2), .int k (f 3), .int k (f 4), .int k (f 5)] := by
 apply Array.ext'
 simp [fa, Array.toList_ofFn, List.ofFn_succ]
def put3 (f : Nat → Int) (o : Nat) (a b c : Int) : Nat → Int := fun j => if j = o then a else if j = o + 1 then b else if j = o + 2 then c else f j
theorem splice_3 (N : Nat) (k : IntKind) (f : Nat → Int) (o : Nat) (a b c : Int) (h : o + 3 ≤ N) : splice (fa N k f) o [.int k a, .int k b, .int k c] = fa N k (put3 f o a b c) := by
 apply Array.ext_getElem?
 intro j
 rw [splice_get]
 by_cases hj : j < N
 ·rw [fa_get _ _ _ _ hj, fa_get _ _ _ _ hj]
  unfold put3
  by_cases h0 : j = o
  ·subst h0; simp [hj]
  ·by_cases h1 : j = o + 1
   ·subst h1; simp [hj]
   ·by_cases h2 : j = o + 2
    ·subst h2; simp [hj]
    ·rw [if_neg (by simp; omega), if_neg h0, if_neg h1, if_neg h2]
 ·rw [if_neg (by simp; omega)]
  have h1 : (fa N k f)[j]? = none := by simp [fa]; omega
  have h2 : (fa N k (put3 f o a b c))[j]? = none := by simp [fa]; omega
  rw [h1, h2]
def putN (f : Nat → Int) (a m : Nat) (g : Nat → Int) : Nat → Int := fun j => if a ≤ j ∧ j < a + m then g (j - a) else f j
def catN (f : Nat → Int) (a m : Nat) (g : Nat → Int) : Nat → Int := fun j => if j < a then f j else if j < a + m then g (j - a) else 0
theorem list_fa {l : List Value} {N : Nat} {k : IntKind} {g : Nat → Int} (hl : l.length = N) (h : ∀ j, j < N → l[j]? = some (.int k (g j))) : l.toArray = fa N k g := by
 apply Array.ext_getElem?
 intro j
 by_cases hj : j < N
 ·rw [fa_get _ _ _ _ hj, List.getElem?_toArray, h j hj]
 ·have h1 : (fa N k g)[j]? = none := by simp [fa]; omega
  rw [h1, List.getElem?_toArray, List.getElem?_eq_none (by omega)]
theorem fa_toList_get {N : Nat} {k : IntKind} {f : Nat → Int} {j : Nat} (h : j < N) : (fa N k f).toList[j]? = some (.int k (f j)) := by
 rw [Array.getElem?_toList]; exact fa_get _ _ _ _ h
theorem fa_toList_len (N : Nat) (k : IntKind) (f : Nat → Int) : (fa N k f).toList.length = N := by simp
theorem app_room {N a m : Nat} {k : IntKind} {f g : Nat → Int} (h : a + m ≤ N) : ((fa N k f).toList.take a ++ (fa m k g).toList ++ (fa N k f).toList.drop (a + (fa m k g).toList.length)).toArray = fa N k (putN f a m g) := by
 refine list_fa (by simp; omega) fun j hj => ?_
 rw [fa_toList_len]
 have hta : ((fa N k f).toList.take a).length = a := by simp; omega
 unfold putN
 by_cases h1 : j < a
 ·rw [List.append_assoc, List.getElem?_append_left (by omega), List.getElem?_take, if_pos h1, fa_toList_get (by omega), if_neg (by omega)]
 ·rw [List.append_assoc, List.getElem?_append_right (by omega), hta]
  by_cases h2 : j < a + m
  ·rw [List.getElem?_append_left (by simp; omega), fa_toList_get (by omega), if_pos (by omega)]
  ·rw [List.getElem?_append_right (by simp; omega), fa_toList_len, List.getElem?_drop, if_neg (by omega), show a + m + (j - a - m) = j by omega, fa_toList_get hj]
theorem zeros_fa {z : Array Value} {k : IntKind} (hz : ∀ x ∈ z, x = .int k 0) (q : Nat) : (Builtin.zeroCells z q).toList = (fa (q * z.size) k fun _ => 0).toList := by
 have e : (Builtin.zeroCells z q).toList.toArray = fa (q * z.size) k fun _ => 0 := list_fa (by simp [zc_size]) fun j hj => by
  have hj' : j < (Builtin.zeroCells z q).size := by rw [zc_size]; exact hj
  rw [Array.getElem?_toList, Array.getElem?_eq_getElem hj']
  exact congrArg some (hz _ (zc_mem (Array.getElem_mem hj')))
 rw [← e]
theorem app_grow {N a m q : Nat} {k : IntKind} {f g : Nat → Int} (h : a ≤ N) : ((fa N k f).toList.take a ++ (fa m k g).toList ++ (fa q k fun _ => 0).toList).toArray = fa (a + m + q) k (catN f a m g) := by
 refine list_fa (by simp; omega) fun j hj => ?_
 have hta : ((fa N k f).toList.take a).length = a := by simp; omega
 unfold catN
 by_cases h1 : j < a
 ·rw [List.append_assoc, List.getElem?_append_left (by omega), List.getElem?_take, if_pos h1, fa_toList_get (by omega), if_pos h1]
 ·rw [List.append_assoc, List.getElem?_append_right (by omega), hta, if_neg h1]
  by_cases h2 : j < a + m
  ·rw [List.getElem?_append_left (by simp; omega), fa_toList_get (by omega), if_pos h2]
  ·rw [List.getElem?_append_right (by simp; omega), fa_toList_len, fa_toList_get (by omega), if_neg h2]
theorem app_new {m q : Nat} {k : IntKind} {g : Nat → Int} : ((fa m k g).toList ++ (fa q k fun _ => 0).toList).toArray = fa (m + q) k (catN g m 0 g) := by
 refine list_fa (by simp) fun j hj => ?_
 unfold catN
 by_cases h1 : j < m
 ·rw [List.getElem?_append_left (by simp; omega), fa_toList_get h1, if_pos h1]
 ·rw [List.getElem?_append_right (by simp; omega), fa_toList_len, fa_toList_get (by omega), if_neg h1, if_neg (by omega)]
theorem fa_list_flat {N : Nat} {k : IntKind} {f : Nat → Int} : ∀ x ∈ (fa N k f).toList, flatF x = true := fun x hx => by
 obtain ⟨m, rfl⟩ := fa_mem (Array.mem_toList_iff.1 hx)
 rfl
theorem fa_list_one {N : Nat} {k : IntKind} {f : Nat → Int} : ∀ x ∈ (fa N k f).toList, x.oneCell' = true := fun x hx => by
 obtain ⟨m, rfl⟩ := fa_mem (Array.mem_toList_iff.1 hx)
 rfl
end
end Go.Gy
namespace Go.Gy
set_option linter.unusedSimpArgs false
set_option linter.unusedVariables false
open Go Go.RowKit Go.Proofs
def vf (x0 x1 x2 : Int) : Nat → Int
 | 0 => x0
 | 1 => x1
 | _ => x2
def vf2 (x0 x1 x2 y0 y1 y2 : Int) : Nat → Int
 | 0 => x0
 | 1 => x1
 | 2 => x2
 | 3 => y0
 | 4 => y1
 | _ => y2
def xsV (N : Nat) (f : Nat → Int) : List (Array Value) := (List.range N).map fun j => #[.int .i64 ((j % 3 : Nat) : Int), .int .i64 (f j)]
theorem xsV_at (N : Nat) (f : Nat → Int) (i : Nat) (h : i < N) : (xsV N f)[i]? = some #[.int .i64 ((i % 3 : Nat) : Int), .int .i64 (f i)] := by simp [xsV, h]
theorem vparts_new (b k m c : Nat) (cs : Array Value) (hcs : ∀ x ∈ cs, flatF x = true) (hb : 100 ≤ b) (hb2 : b < 100000) (hk : 100 ≤ k) (hbk : b ≠ k) : Fun Tryz.prog G0 68 #[.slice (some ⟨b, 0, none⟩) m c] (hpL G0 [(b, ⟨cs, .ty 51⟩)]) [b] (.new (.func (.func 90) #[] #[.pointer (some ⟨k, 0, none⟩)]) [(k, ⟨#[.slice (some ⟨b, 0, none⟩) m c], .ty 108⟩)]) := by
 have e0 : rst (hpL G0 [(b, ⟨cs, .ty 51⟩)]) [b] = hpL G0 [(b, ⟨cs, .ty 51⟩)] := hpL_rst G0F (by simp)
 have hdom : ∀ j, dom (hpL G0 [(b, ⟨cs, .ty 51⟩)]) j → j = b ∨ j < 100 := fun j hj => by
  unfold dom at hj
  cases hq : hpL G0 [(b, ⟨cs, .ty 51⟩)] j with
  | none => exact absurd hq hj
  | some q =>
   rcases hpL_mem hq with h | h
   ·simp at h; exact .inl h.1
   ·exact .inr (G0F j q h).1
 have hdb : dom (hpL G0 [(b, ⟨cs, .ty 51⟩)]) b := by unfold dom; simp
 refine new_of (B := 100000) (fun j => if j = k then 100000 else j) G0F (fun j hj => hpL_low (by simp; omega) hj) Tryz.func68 rfl Tryz.call68 ?_ ?_ ?_ (by simp [Tryz.ntmps68]) (by omega) ?_ (fun j hj => ?_) ?_ ?_ ?_ ?_
 ·rw [e0]; simp [idsV, idsA, idsF, ids0]; exact hdb
 ·rw [e0]
  intro j q hq
  rcases hpL_mem hq with h | h
  ·simp at h; rw [h.2]; exact Blk.flat_ids hcs
  ·exact G0_closed _ _ _ h
 ·refine ⟨by simp [idsV, idsA, idsF, ids0, extD, keys], by simp [keys]; omega, fun q b c h1 h2 => ?_⟩
  simp at h1 h2
  rw [h1.2, h2.2]
 ·rw [e0]
  intro x hx
  simp [show ¬ x = b by omega, show 100 ≤ x by omega]
 ·rw [e0] at hj
  rcases hdom j hj with h | h
  ·rw [if_neg (by omega)]
  ·rw [if_neg (by omega)]
 ·rw [e0]
  intro p hp
  simp at hp
  subst hp
  refine ⟨fun h => ?_, by simp⟩
  rcases hdom _ h with h | h <;> simp at h <;> omega
 ·simp
 ·rw [e0]; simp [idsF, ids0]; exact hdb
 ·intro C hC hC0 hY
  rw [e0]
  have hbB : ¬ b = 100000 := by omega
  have hBb : ¬ 100000 = b := by omega
  repeat' (first | refine gwA ?_ | ((first | refine gwR [] ?_ | refine gwD [] ?_); intro Q hQ hP; simp [hC, hY, hbB, hBb, hbk]; refine hQ _ _ _ _ (by kernel_rfl) ?_; clear hQ hP Q) | (refine gwC ?_ ?_ <;> (intro hb; first | (cases hb; done) | skip)))
  refine ⟨.inr trivial, ?_⟩
  simp [Tryz.results68, ren, renA, renF, ren0]
  intro j hj
  rcases hdom j hj with h | h
  ·have : ¬ j = 100000 := by omega
   simp [this]
  ·have : ¬ j = 100000 := by omega
   simp [this]
def pvL1 (x0 x1 x2 : Int) : List (Nat × Blk) := [(100, ⟨#[.slice (some ⟨108, 0, none⟩) 1 1], .ty 108⟩), (108, ⟨#[.int .i64 x0, .int .i64 x1, .int .i64 x2], .ty 51⟩)]
abbrev pv1 (x0 x1 x2 : Int) : Hp := hpL G0 (pvL1 x0 x1 x2)
theorem vparts1_itk (x0 x1 x2 : Int) : IterK Tryz.prog G0 90 #[.pointer (some ⟨100, 0, none⟩)] (pv1 x0 x1 x2) [100, 108] (xsV 3 (vf x0 x1 x2)) := by
 have hL : LOk (pvL1 x0 x1 x2) 200 := ⟨by simp [pvL1], by simp [pvL1, keys], by simp [pvL1, ids_lit, idsF, ids0, keys]⟩
 have hlt : ∀ k, dom (hpL G0 (pvL1 x0 x1 x2)) k → k < 200 := fun k hk => Classical.byContradiction fun h1 => hk (hL.free G0F (by omega) k (by omega))
 refine iterk_ofL (m := pvL1 x0 x1 x2) (B := 200) (v := .tuple #[]) G0F Tryz.func90 rfl Tryz.call90 hL ?_ (by simp [Tryz.ntmps90]) (by omega) ?_
 ·simp [idsV, idsA, idsF, ids0, pvL1, keys]
 ·intro C l stop hC hC0 hY
  have exs : xsV 3 (vf x0 x1 x2) = [#[.int .i64 0, .int .i64 x0], #[.int .i64 1, .int .i64 x1], #[.int .i64 2, .int .i64 x2]] := rfl
  rw [exs] at hY ⊢
  by_cases h3 : 3 ≤ stop
  ·have q0 : (0 != stop) = true := by simp; omega
   have q1 : (1 != stop) = true := by simp; omega
   have q2 : (2 != stop) = true := by simp; omega
   have l1 : 1 ≤ stop := by omega
   have l2 : 2 ≤ stop := by omega
   repeat' (first | refine GWL_start ?_ | refine GWL_step ?_ | refine gwA ?_ | ((first | refine gwR [] ?_ | refine gwD [] ?_); intro Q hQ hP; simp [hC, hY, pvL1, q0, q1, q2, l1, l2, h3]; refine hQ _ _ _ _ (by kernel_rfl) ?_; clear hQ hP Q) | (refine gwC ?_ ?_ <;> (intro hb; first | (cases hb; done) | skip)))
   refine ⟨by simp, by simp [Tryz.results90], by first | (simp; omega) | omega, fun k hk => ?_⟩
   have hk := hlt k hk
   simp (disch := omega) only [upd_other]
   rfl
  ·have : stop = 0 ∨ stop = 1 ∨ stop = 2 := by omega
   rcases this with rfl | rfl | rfl
   all_goals
    repeat' (first | refine GWL_start ?_ | refine GWL_step ?_ | refine gwA ?_ | ((first | refine gwR [] ?_ | refine gwD [] ?_); intro Q hQ hP; simp [hC, hY, pvL1]; refine hQ _ _ _ _ (by kernel_rfl) ?_; clear hQ hP Q) | (refine gwC ?_ ?_ <;> (intro hb; first | (cases hb; done) | skip)))
   all_goals
    refine ⟨by simp, by simp [Tryz.results90], by simp, fun k hk => ?_⟩
    have hk := hlt k hk
    simp (disch := omega) only [upd_other]
    rfl
theorem vparts1_it (x0 x1 x2 : Int) : IterG Tryz.prog G0 90 #[.pointer (some ⟨100, 0, none⟩)] (pv1 x0 x1 x2) [100, 108] (xsV 3 (vf x0 x1 x2)) := (vparts1_itk x0 x1 x2).g
def pvL2 (x0 x1 x2 y0 y1 y2 : Int) : List (Nat × Blk) := [(100, ⟨#[.slice (some ⟨108, 0, none⟩) 2 2], .ty 108⟩), (108, ⟨#[.int .i64 x0, .int .i64 x1, .int .i64 x2, .int .i64 y0, .int .i64 y1, .int .i64 y2], .ty 51⟩)]
abbrev pv2 (x0 x1 x2 y0 y1 y2 : Int) : Hp := hpL G0 (pvL2 x0 x1 x2 y0 y1 y2)
set_option maxRecDepth 20000 in
set_option maxHeartbeats 4000000 in
theorem vparts2_itk (x0 x1 x2 y0 y1 y2 : Int) : IterK Tryz.prog G0 90 #[.pointer (some ⟨100, 0, none⟩)] (pv2 x0 x1 x2 y0 y1 y2) [100, 108] (xsV 6 (vf2 x0 x1 x2 y0 y1 y2)) := by
 have hL : LOk (pvL2 x0 x1 x2 y0 y1 y2) 200 := ⟨by simp [pvL2], by simp [pvL2, keys], by simp [pvL2, ids_lit, idsF, ids0, keys]⟩
 have hlt : ∀ k, dom (hpL G0 (pvL2 x0 x1 x2 y0 y1 y2)) k → k < 200 := fun k hk => Classical.byContradiction fun h1 => hk (hL.free G0F (by omega) k (by omega))
 refine iterk_ofL (m := pvL2 x0 x1 x2 y0 y1 y2) (B := 200) (v := .tuple #[]) G0F Tryz.func90 rfl Tryz.call90 hL ?_ (by simp [Tryz.ntmps90]) (by omega) ?_
 ·simp [idsV, idsA, idsF, ids0, pvL2, keys]
 ·intro C l stop hC hC0 hY
  have exs : xsV 6 (vf2 x0 x1 x2 y0 y1 y2) = [#[.int .i64 0, .int .i64 x0], #[.int .i64 1, .int .i64 x1], #[.int .i64 2, .int .i64 x2], #[.int .i64 0, .int .i64 y0], #[.int .i64 1, .int .i64 y1], #[.int .i64 2, .int .i64 y2]] := rfl
  rw [exs] at hY ⊢
  by_cases h6 : 6 ≤ stop
  ·have q0 : (0 != stop) = true := by simp; omega
   have q1 : (1 != stop) = true := by simp; omega
   have q2 : (2 != stop) = true := by simp; omega
   have q3 : (3 != stop) = true := by simp; omega
   have q4 : (4 != stop) = true := by simp; omega
   have q5 : (5 != stop) = true := by simp; omega
   have l1 : 1 ≤ stop := by omega
   have l2 : 2 ≤ stop := by omega
   have l3 : 3 ≤ stop := by omega
   have l4 : 4 ≤ stop := by omega
   have l5 : 5 ≤ stop := by omega
   repeat' (first | refine GWL_start ?_ | refine GWL_step ?_ | refine gwA ?_ | ((first | refine gwR [] ?_ | refine gwD [] ?_); intro Q hQ hP; simp [hC, hY, pvL2, q0, q1, q2, q3, q4, q5, l1, l2, l3, l4, l5, h6]; refine hQ _ _ _ _ (by kernel_rfl) ?_; clear hQ hP Q) | (refine gwC ?_ ?_ <;> (intro hb; first | (cases hb; done) | skip)))
   refine ⟨by simp, by simp [Tryz.results90], by first | (simp; omega) | omega, fun k hk => ?_⟩
   have hk := hlt k hk
   simp (disch := omega) only [upd_other]
   rfl
  ·have : stop = 0 ∨ stop = 1 ∨ stop = 2 ∨ stop = 3 ∨ stop = 4 ∨ stop = 5 := by omega
   rcases this with rfl | rfl | rfl | rfl | rfl | rfl
   all_goals
    repeat' (first | refine GWL_start ?_ | refine GWL_step ?_ | refine gwA ?_ | ((first | refine gwR [] ?_ | refine gwD [] ?_); intro Q hQ hP; simp [hC, hY, pvL2]; refine hQ _ _ _ _ (by kernel_rfl) ?_; clear hQ hP Q) | (refine gwC ?_ ?_ <;> (intro hb; first | (cases hb; done) | skip)))
   all_goals
    refine ⟨by simp, by simp [Tryz.results90], by simp, fun k hk => ?_⟩
    have hk := hlt k hk
    simp (disch := omega) only [upd_other]
    rfl
end Go.Gy
namespace Go.Gy
set_option linter.unusedSimpArgs false
set_option linter.unusedVariables false
end Go.Gy
namespace Go.Gy
set_option linter.unusedSimpArgs false
set_option linter.unusedVariables false
open Go Go.RowKit Go.Proofs
def sm (z : Int) : Prop := -1329227995784915872903807060280344576 ≤ z ∧ z ≤ 1329227995784915872903807060280344576
theorem sm.wr {z : Int} (h : sm z) : wr z := ⟨Int.le_trans (by decide) h.1, Int.lt_of_le_of_lt h.2 (by decide)⟩
theorem sm.up {z : Int} (h : sm z) : Gy.wr (z + 1) := ⟨Int.le_trans (by decide) (Int.le_trans h.1 (Int.le_add_one (Int.le_refl _))), Int.lt_of_le_of_lt (Int.add_le_add_right h.2 1) (by decide)⟩
def jb (n : Int) : Blk := ⟨#[.int .i64 n], .ty 3⟩
theorem lead (p : Nat → Prop) (m : Nat) : ∃ N, N ≤ m ∧ (∀ i, i < N → p i) ∧ (N = m ∨ ¬ p N) := by
 induction m with
 | zero => exact ⟨0, Nat.le_refl _, fun i hi => absurd hi (Nat.not_lt_zero i), .inl rfl⟩
 | succ m ih =>
  obtain ⟨N, h1, h2, h3⟩ := ih
  rcases h3 with rfl | h3
  ·by_cases hp : p N
   ·exact ⟨N + 1, Nat.le_refl _, fun i hi => by
     by_cases e : i = N
     ·subst e; exact hp
     ·exact h2 i (by omega), .inl rfl⟩
   ·exact ⟨N, by omega, h2, .inr hp⟩
  ·exact ⟨N, by omega, h2, .inr h3⟩
def inW (m x : Int) : Prop := 0 ≤ m ∧ -m ≤ x ∧ x ≤ m
instance inWdec (m x : Int) : Decidable (inW m x) := by unfold inW; infer_instance
theorem neg_in {m : Int} (h : i64 m) (h0 : 0 ≤ m) : Int.bmod (-m) 18446744073709551616 = -m := by
 have := h.1; have := h.2
 rw [Int.bmod_def]; omega
def wiHp (x0 x1 x2 m : Int) : Hp := hpL G0 [(200, ⟨#[.int .i64 x0, .int .i64 x1, .int .i64 x2], .ty 51⟩), (208, jb m), (216, ⟨#[.bool false], .ty 4⟩)]
def wiTs : Nat → Value := tsL [(3, .pointer (some ⟨208, 0, none⟩)), (4, .pointer (some ⟨216, 0, none⟩))]
set_option maxRecDepth 8000 in
theorem within_ret (x0 x1 x2 m : Int) (hm : i64 m) (h0 : i64 x0) (h1 : i64 x1) (h2 : i64 x2) : Ret Tryz.prog G0 108 #[.agg #[.int .i64 x0, .int .i64 x1, .int .i64 x2], .int .i64 m] (.bool (decide (inW m x0 ∧ inW m x1 ∧ inW m x2))) := by
 refine ret_of G0F Tryz.func108 rfl Tryz.call108 (by simp) (by simp) (by simp [Tryz.ntmps108]) ?_
 intro C hC hC0 hY
 obtain ⟨N, hN, hlt, hend⟩ := lead (fun i => inW m (vf x0 x1 x2 i)) 3
 repeat' (first | refine gwA ?_ | ((first | refine gwR [68] ?_ | refine gwD [68] ?_); intro Q hQ hP; simp [hC, hY, jb]; (repeat ((first | (refine heapK_of (vparts_new 232 240 1 1 #[.int .i64 x0, .int .i64 x1, .int .i64 x2] (by simp) (by omega) (by omega) (by omega) (by omega)) (by simp) (fun k hk => hpL_low (by simp) hk) (by simp [Res.at, keys]) ?_)); try simp [hC, hY, jb])); refine hQ _ _ _ _ (by kernel_rfl) ?_; clear hQ hP Q) | (refine gwC ?_ ?_ <;> (intro hb; first | (cases hb; done) | skip)))
 have hT : m < 0 ∨ 0 ≤ m := by omega
 refine GW_range (f := 90) (rs := [240, 232]) (xs := xsV 3 (vf x0 x1 x2)) (caps := #[.pointer (some ⟨240, 0, none⟩)]) (by simp) ?_ (by simp [xsV]) (by simp [Tryz.ntmps108]) wiTs (fun _ => wiHp x0 x1 x2 m) 300 N (by simp [xsV]; omega) ?_ ?_ ?_ ?_ ?_
 ·rw [hC]
  refine IterG.cast (IterX.rn (fun k => if k = 100 then 240 else if k = 108 then 232 else k) G0F (fun k hk => hpL_low (by simp [pvL1]) hk) (rs := [100, 108]) ?_ (vparts1_it x0 x1 x2)) (by simp [ren0]) (by simp)
  refine ⟨fun k hk => ?_, ?_, ?_, ?_⟩
  ·have h1 : ¬ k = 100 := by omega
   have h2 : ¬ k = 108 := by omega
   have h3 : ¬ k = 200 := by omega
   have h4 : ¬ k = 208 := by omega
   have h5 : ¬ k = 216 := by omega
   have h8 : ¬ k = 232 := by omega
   have h9 : ¬ k = 240 := by omega
   simp [h1, h2, h3, h4, h5, h8, h9, pv1, pvL1]
  ·simp
  ·simp [pvL1, Blk.rn, renF, ren0]
  ·simp
 ·refine weakL _ 300 hC G0F (m0 := []) hC0 (by omega) ?_ ?_ ?_
  ·simp [idsV, idsA, idsF, ids0, dom]
  ·simp [ids_lit, idsF, ids0, jb]
  ·simp
 ·simp [wiHp, dom]
 ·intro i hi t
  refine tsL_ids ?_ t
  simp [idsV, idsA, idsF, ids0, dom, wiHp]
 ·intro i x hi hx C1 l hC1 hh1 hY1
  have hCC := hC
  have hC1' : C1.G = G0 := hC1.trans hC
  obtain ⟨g0, g1, g2⟩ := hlt i hi
  replace hC := hC1'
  replace hY := hY1
  have : i = 0 ∨ i = 1 ∨ i = 2 := by omega
  rcases this with rfl | rfl | rfl
  all_goals
   rw [xsV_at _ _ _ (by omega)] at hx
   simp only [Option.some.injEq] at hx
   subst hx
   simp only [vf] at *
   unfold wiHp
  all_goals
   repeat' (first | refine gwA ?_ | ((first | refine gwR [] ?_ | refine gwD [] ?_); intro Q hQ hP; simp [hC, hY, roundTs, wiTs, jb]; refine hQ _ _ _ _ (by kernel_rfl) ?_; clear hQ hP Q) | (refine gwC ?_ ?_ <;> (intro hb; first | (cases hb; done) | skip)))
  all_goals
   intro C2 hC2 hh2 hY2
   replace hC : C2.G = G0 := hC2.trans hCC
   replace hY := hY2
   have q0 : ¬ m < 0 := by omega
   have q1 := Int.not_lt.2 g1
   have q2 := Int.not_lt.2 g2
   have hbm := neg_in hm g0
   repeat' (first | refine gwA ?_ | ((first | refine gwR [] ?_ | refine gwD [] ?_); intro Q hQ hP; simp [hC, hY, roundTs, wiTs, jb, hbm, q0, q1, q2]; refine hQ _ _ _ _ (by kernel_rfl) ?_; clear hQ hP Q) | (refine gwC ?_ ?_ <;> (intro hb; first | (cases hb; done) | skip)))
  all_goals
   refine weakL [] 300 hC1' G0F hh1 (by omega) ?_ ?_ ?_
   ·simp
   ·simp [ids_lit, idsF, ids0, jb]
   ·simp [jb]
 ·by_cases hend' : N = 3
  ·subst hend'
   left
   refine ⟨by simp [xsV], ?_⟩
   have e : (inW m x0 ∧ inW m x1 ∧ inW m x2) = True := by
    simp only [eq_iff_iff, iff_true]
    exact ⟨hlt 0 (by omega), hlt 1 (by omega), hlt 2 (by omega)⟩
   simp only [e]
   unfold wiHp wiTs jb
   repeat' (first | refine gwA ?_ | ((first | refine gwR [] ?_ | refine gwD [] ?_); intro Q hQ hP; simp [hC, hY]; refine hQ _ _ _ _ (by kernel_rfl) ?_; clear hQ hP Q) | (refine gwC ?_ ?_ <;> (intro hb; first | (cases hb; done) | skip)))
   refine ⟨.inr trivial, ?_⟩
   simp [Tryz.results108]
  ·right
   have hN3 : N < 3 := by omega
   replace hend := hend.resolve_left hend'
   refine ⟨_, xsV_at _ _ _ hN3, ?_⟩
   have e : (inW m x0 ∧ inW m x1 ∧ inW m x2) = False := by
    simp only [eq_iff_iff, iff_false]
    rintro ⟨a0, a1, a2⟩
    have : N = 0 ∨ N = 1 ∨ N = 2 := by omega
    rcases this with rfl | rfl | rfl <;> contradiction
   simp only [e]
   have hor : m < 0 ∨ (¬ m < 0 ∧ vf x0 x1 x2 N < -m) ∨ (¬ m < 0 ∧ ¬ vf x0 x1 x2 N < -m ∧ m < vf x0 x1 x2 N) := by
    unfold inW at hend; omega
   intro C1 l hC1 hh1 hY1
   have hCC := hC
   replace hC := hC1.trans hC
   replace hY := hY1
   clear hlt hN
   have : N = 0 ∨ N = 1 ∨ N = 2 := by omega
   rcases this with rfl | rfl | rfl
   all_goals
    simp only [vf] at hor ⊢
    unfold wiHp
   all_goals
    repeat' (first | refine gwA ?_ | ((first | refine gwR [] ?_ | refine gwD [] ?_); intro Q hQ hP; simp [hC, hY, roundTs, wiTs, jb]; refine hQ _ _ _ _ (by kernel_rfl) ?_; clear hQ hP Q) | (refine gwC ?_ ?_ <;> (intro hb; first | (cases hb; done) | skip)))
   all_goals
    intro C2 hC2 hh2 hY2
    replace hC : C2.G = G0 := hC2.trans hCC
    replace hY := hY2
    rcases hor with q0 | ⟨q0, q1⟩ | ⟨q0, q1, q2⟩
    ·
     repeat' (first | refine gwA ?_ | ((first | refine gwR [] ?_ | refine gwD [] ?_); intro Q hQ hP; simp [hC, hY, roundTs, wiTs, jb, q0]; refine hQ _ _ _ _ (by kernel_rfl) ?_; clear hQ hP Q) | (refine gwC ?_ ?_ <;> (intro hb; first | (cases hb; done) | skip)))
     refine ⟨by simp [outCode], fun t => tsL_ids (by simp [idsV, idsA, idsF, ids0, dom]) t, .inr trivial, ?_⟩
     simp [Tryz.results108, wiTs]
    ·have hbm := neg_in hm (Int.not_lt.1 q0)
     repeat' (first | refine gwA ?_ | ((first | refine gwR [] ?_ | refine gwD [] ?_); intro Q hQ hP; simp [hC, hY, roundTs, wiTs, jb, hbm, q0, q1]; refine hQ _ _ _ _ (by kernel_rfl) ?_; clear hQ hP Q) | (refine gwC ?_ ?_ <;> (intro hb; first | (cases hb; done) | skip)))
     refine ⟨by simp [outCode], fun t => tsL_ids (by simp [idsV, idsA, idsF, ids0, dom]) t, .inr trivial, ?_⟩
     simp [Tryz.results108, wiTs]
    ·have hbm := neg_in hm (Int.not_lt.1 q0)
     repeat' (first | refine gwA ?_ | ((first | refine gwR [] ?_ | refine gwD [] ?_); intro Q hQ hP; simp [hC, hY, roundTs, wiTs, jb, hbm, q0, q1, q2]; refine hQ _ _ _ _ (by kernel_rfl) ?_; clear hQ hP Q) | (refine gwC ?_ ?_ <;> (intro hb; first | (cases hb; done) | skip)))
     refine ⟨by simp [outCode], fun t => tsL_ids (by simp [idsV, idsA, idsF, ids0, dom]) t, .inr trivial, ?_⟩
     simp [Tryz.results108, wiTs]
def inV (m x0 x1 x2 : Int) : Bool := decide (inW m x0 ∧ inW m x1 ∧ inW m x2)
@[simp] theorem vwithin (x0 x1 x2 m : Int) (hm : i64 m) (h0 : i64 x0) (h1 : i64 x1) (h2 : i64 x2) (K : Value → Prop) : callK Tryz.prog G0 108 #[.agg #[.int .i64 x0, .int .i64 x1, .int .i64 x2], .int .i64 m] K ↔ K (.bool (inV m x0 x1 x2)) := callK_iff G0W (by kernel_rfl) (within_ret x0 x1 x2 m hm h0 h1 h2)
def fnI (x : Int) : Prop := -536870912 ≤ x ∧ x ≤ 536870912
instance fnIdec (x : Int) : Decidable (fnI x) := by unfold fnI; infer_instance
theorem fine_fun (M m : Nat) (v : Bool) (cs : Array Value) (hcs : ∀ x ∈ cs, flatF x = true) (f : Nat → Int) (hit : IterK Tryz.prog G0 90 #[.pointer (some ⟨100, 0, none⟩)] (hpL G0 [(100, ⟨#[.slice (some ⟨108, 0, none⟩) m m], .ty 108⟩), (108, ⟨cs, .ty 51⟩)]) (keys [(100, ⟨#[.slice (some ⟨108, 0, none⟩) m m], .ty 108⟩), (108, ⟨cs, .ty 51⟩)]) (xsV M f)) (hv : v = true ↔ ∀ j, j < M → fnI (f j)) :
  Fun Tryz.prog G0 67 #[.slice (some ⟨100, 0, none⟩) m m] (hpL G0 [(100, ⟨cs, .ty 51⟩)]) [100] (.ret (.bool v) []) := by
 have hfx : Blk.fx (Blk.mk cs (.ty 51)) := hcs
 have hfi : ∀ D, (Blk.mk cs (.ty 51)).ids D := fun D => Blk.fx_ids hfx D
 refine fun_ofL (m := [(100, ⟨cs, .ty 51⟩)]) (B := 200) G0F Tryz.func67 rfl Tryz.call67 ⟨by simp, by simp [keys], by simp only [List.mem_singleton, forall_eq]; exact hfi _⟩ ?_ (by simp) (by simp) (by simp) (by simp [Tryz.ntmps67]) (by omega) ?_
 ·simp [idsV, idsA, idsF, ids0, keys]
 intro C hC hC0 hY
 obtain ⟨N, hN, hlt, hend⟩ := lead (fun i => fnI (f i)) M
 repeat' (first | refine gwA ?_ | ((first | refine gwR [68] ?_ | refine gwD [68] ?_); intro Q hQ hP; simp [hC, hY, jb]; (repeat ((first | (refine heapK_of (vparts_new 100 216 m m cs hcs (by omega) (by omega) (by omega) (by omega)) (by simp) (fun k hk => hpL_low (by simp) hk) (by simp [Res.at, keys]) ?_)); try simp [hC, hY, jb])); refine hQ _ _ _ _ (by kernel_rfl) ?_; clear hQ hP Q) | (refine gwC ?_ ?_ <;> (intro hb; first | (cases hb; done) | skip)))
 refine GW_rangeKL (G := G0) (f := 90) (rs := [216, 100]) (xs := xsV M f) (caps := #[.pointer (some ⟨216, 0, none⟩)]) (m0 := [(100, ⟨cs, .ty 51⟩)]) [216, 100] G0F hC hC0 hY (by simp) ?_ (by simp [xsV]) (by simp [Tryz.ntmps67]) [(2, .pointer (some ⟨200, 0, none⟩))] [] (fun _ => [(200, ⟨#[.bool false], .ty 4⟩)]) 300 N (by simp [xsV]; omega) (by omega) (by simp) (by simp [dom]) ?_ (by simp) (by simp) (by simp) ?_ (by simp) ?_ ?_
 ·refine iterk_mv (m := [(100, ⟨#[.slice (some ⟨108, 0, none⟩) m m], .ty 108⟩), (108, ⟨cs, .ty 51⟩)]) (B := 200) hit G0F ⟨by simp, by simp [keys], ?_⟩ (fun k => if k = 100 then 216 else if k = 108 then 100 else k) (fun k hk => ?_) (by simp [ren0]) (by simp [keys]) (by (intro k hk; first | rfl | (simp (disch := omega) only [addB, List.mem_cons, List.not_mem_nil, or_false, upd_other, hpL_cons, hpL_nil, if_neg, updL] <;> done))) ?_ ?_
  ·simp only [List.mem_cons, List.not_mem_nil, or_false, forall_eq_or_imp, forall_eq]
   exact ⟨by simp [ids_lit, idsF, ids0, keys], hfi _⟩
  ·rw [if_neg (by omega), if_neg (by omega)]
  ·have hr := fun ρ => fx_map hcs ρ
   simp [hr, Blk.rn, renF, ren0]
  ·simp [keys]
 ·intro k hk b hb
  simp only [List.mem_cons, List.not_mem_nil, or_false] at hk
  rcases hk with rfl | rfl
  ·simp at hb; subst hb; simp [ids_lit, idsF, ids0]
  ·simp at hb; subst hb; exact hfi _
 ·intro i hi
  simp [idsV, idsA, idsF, ids0, dom, ids_lit]
 ·intro i x hi hx C1 l hC1 hh1 hY1
  rw [xsV_at _ _ _ (by omega)] at hx
  simp only [Option.some.injEq] at hx
  subst hx
  obtain ⟨g1, g2⟩ := hlt i hi
  have q1 := Int.not_lt.2 g1
  have q2 := Int.not_lt.2 g2
  clear hC hY
  have hC := hC1
  have hY := hY1
  repeat' (first | refine gwA ?_ | ((first | refine gwR [] ?_ | refine gwD [] ?_); intro Q hQ hP; simp [hC, hY, roundTs]; refine hQ _ _ _ _ (by kernel_rfl) ?_; clear hQ hP Q) | (refine gwC ?_ ?_ <;> (intro hb; first | (cases hb; done) | skip)))
  intro C2 hC2 hh2 hY2
  clear hC hY
  have hC := hC2
  have hY := hY2
  repeat' (first | refine gwA ?_ | ((first | refine gwR [] ?_ | refine gwD [] ?_); intro Q hQ hP; simp [hC, hY, roundTs, q1, q2]; refine hQ _ _ _ _ (by kernel_rfl) ?_; clear hQ hP Q) | (refine gwC ?_ ?_ <;> (intro hb; first | (cases hb; done) | skip)))
  simp
 ·by_cases hend' : N = M
  ·subst hend'
   left
   refine ⟨by simp [xsV], ?_⟩
   have e := hv.2 hlt
   subst e
   repeat' (first | refine gwA ?_ | ((first | refine gwR [] ?_ | refine gwD [] ?_); intro Q hQ hP; simp [hC, hY, addB, List.cons_append, List.nil_append]; refine hQ _ _ _ _ (by kernel_rfl) ?_; clear hQ hP Q) | (refine gwC ?_ ?_ <;> (intro hb; first | (cases hb; done) | skip)))
   refine ⟨.inr rfl, by simp [Tryz.results67], keep_of G0F (by simp [addB]) (by (intro k hk; first | rfl | (simp (disch := omega) only [addB, List.mem_cons, List.not_mem_nil, or_false, upd_other, hpL_cons, hpL_nil, if_neg, updL] <;> done)))⟩
  ·right
   have hN3 : N < M := by omega
   replace hend := hend.resolve_left hend'
   refine ⟨_, xsV_at _ _ _ hN3, ?_⟩
   have e : v = false := by
    cases v
    ·rfl
    ·exact absurd (hv.1 rfl N hN3) hend
   subst e
   have hor : f N < -536870912 ∨ (¬ f N < -536870912 ∧ 536870912 < f N) := by
    unfold fnI at hend; omega
   intro C1 l hC1 hh1 hY1
   clear hC hY
   have hC := hC1
   have hY := hY1
   repeat' (first | refine gwA ?_ | ((first | refine gwR [] ?_ | refine gwD [] ?_); intro Q hQ hP; simp [hC, hY, roundTs]; refine hQ _ _ _ _ (by kernel_rfl) ?_; clear hQ hP Q) | (refine gwC ?_ ?_ <;> (intro hb; first | (cases hb; done) | skip)))
   intro C2 hC2 hh2 hY2
   clear hC hY
   have hC := hC2
   have hY := hY2
   rcases hor with q1 | ⟨q1, q2⟩
   ·
    repeat' (first | refine gwA ?_ | ((first | refine gwR [] ?_ | refine gwD [] ?_); intro Q hQ hP; simp [hC, hY, roundTs, q1]; refine hQ _ _ _ _ (by kernel_rfl) ?_; clear hQ hP Q) | (refine gwC ?_ ?_ <;> (intro hb; first | (cases hb; done) | skip)))
    refine ⟨by simp [outCode], by simp [idsV, idsA, idsF, ids0, dom], by simp, .inr rfl, by simp [Tryz.results67, addB], keep_of G0F (by simp [addB]) (by (intro k hk; first | rfl | (simp (disch := omega) only [addB, List.mem_cons, List.not_mem_nil, or_false, upd_other, hpL_cons, hpL_nil, if_neg, updL] <;> done)))⟩
   ·
    repeat' (first | refine gwA ?_ | ((first | refine gwR [] ?_ | refine gwD [] ?_); intro Q hQ hP; simp [hC, hY, roundTs, q1, q2]; refine hQ _ _ _ _ (by kernel_rfl) ?_; clear hQ hP Q) | (refine gwC ?_ ?_ <;> (intro hb; first | (cases hb; done) | skip)))
    refine ⟨by simp [outCode], by simp [idsV, idsA, idsF, ids0, dom], by simp, .inr rfl, by simp [Tryz.results67, addB], keep_of G0F (by simp [addB]) (by (intro k hk; first | rfl | (simp (disch := omega) only [addB, List.mem_cons, List.not_mem_nil, or_false, upd_other, hpL_cons, hpL_nil, if_neg, updL] <;> done)))⟩

theorem fine1_fun (x0 x1 x2 : Int) (v : Bool) (hv : v = true ↔ fnI x0 ∧ fnI x1 ∧ fnI x2) : Fun Tryz.prog G0 67 #[.slice (some ⟨100, 0, none⟩) 1 1] (hpL G0 [(100, ⟨#[.int .i64 x0, .int .i64 x1, .int .i64 x2], .ty 51⟩)]) [100] (.ret (.bool v) []) := by
 refine fine_fun 3 1 _ _ (by simp) _ (vparts1_itk x0 x1 x2) ?_
 rw [hv]
 refine ⟨fun ⟨h0, h1, h2⟩ j hj => ?_, fun h => ⟨h 0 (by omega), h 1 (by omega), h 2 (by omega)⟩⟩
 have : j = 0 ∨ j = 1 ∨ j = 2 := by omega
 rcases this with rfl | rfl | rfl <;> assumption
theorem fine2_fun (x0 x1 x2 y0 y1 y2 : Int) (v : Bool) (hv : v = true ↔ (fnI x0 ∧ fnI x1 ∧ fnI x2) ∧ fnI y0 ∧ fnI y1 ∧ fnI y2) : Fun Tryz.prog G0 67 #[.slice (some ⟨100, 0, none⟩) 2 2] (hpL G0 [(100, ⟨#[.int .i64 x0, .int .i64 x1, .int .i64 x2, .int .i64 y0, .int .i64 y1, .int .i64 y2], .ty 51⟩)]) [100] (.ret (.bool v) []) := by
 refine fine_fun 6 2 _ _ (by simp) _ (vparts2_itk x0 x1 x2 y0 y1 y2) ?_
 rw [hv]
 refine ⟨fun ⟨⟨h0, h1, h2⟩, h3, h4, h5⟩ j hj => ?_, fun h => ⟨⟨h 0 (by omega), h 1 (by omega), h 2 (by omega)⟩, h 3 (by omega), h 4 (by omega), h 5 (by omega)⟩⟩
 have : j = 0 ∨ j = 1 ∨ j = 2 ∨ j = 3 ∨ j = 4 ∨ j = 5 := by omega
 rcases this with rfl | rfl | rfl | rfl | rfl | rfl <;> assumption
@[simp] theorem flatV_fn0 (f : Fn) : flatV (.func f #[] #[]) = true := by simp [flatV, flatA, flatF, Array.all]
def eaE (op : Int → Int → Int) (a0 a1 a2 b0 b1 b2 : Int) : Int := if ((fnI a0 ∧ fnI a1 ∧ fnI a2) ∧ fnI b0 ∧ fnI b1 ∧ fnI b2) ∧ fnI (op a0 b0) ∧ fnI (op a1 b1) ∧ fnI (op a2 b2) then 0 else 20
def eaV (e v : Int) : Int := if e = 0 then v else 0
def eaL (g : FuncId) (op : Int → Int → Int) (a0 a1 a2 b0 b1 b2 : Int) (i : Nat) : List (Nat × Blk) := [(200, ⟨#[.int .i64 a0, .int .i64 a1, .int .i64 a2], .ty 51⟩), (208, ⟨#[.int .i64 b0, .int .i64 b1, .int .i64 b2], .ty 51⟩), (216, ⟨#[.func (.func g) #[] #[]], .ty 128⟩),
 (224, ⟨#[.int .i64 (if 0 < i then op a0 b0 else 0), .int .i64 (if 1 < i then op a1 b1 else 0), .int .i64 (if 2 < i then op a2 b2 else 0)], .ty 51⟩)]
set_option maxRecDepth 8000 in
theorem each_ret (g : FuncId) (op : Int → Int → Int) (hop : ∀ x y K, fnI x → fnI y → (callK Tryz.prog G0 g #[.int .i64 x, .int .i64 y] K ↔ K (.int .i64 (op x y)))) (a0 a1 a2 b0 b1 b2 : Int) : Ret Tryz.prog G0 109 #[.agg #[.int .i64 a0, .int .i64 a1, .int .i64 a2], .agg #[.int .i64 b0, .int .i64 b1, .int .i64 b2], .func (.func g) #[] #[]]
  (.tuple #[.agg #[.int .i64 (eaV (eaE op a0 a1 a2 b0 b1 b2) (op a0 b0)), .int .i64 (eaV (eaE op a0 a1 a2 b0 b1 b2) (op a1 b1)), .int .i64 (eaV (eaE op a0 a1 a2 b0 b1 b2) (op a2 b2))], .int .i64 (eaE op a0 a1 a2 b0 b1 b2)]) := by
 refine ret_of G0F Tryz.func109 rfl Tryz.call109 (by simp) (by simp) (by simp [Tryz.ntmps109]) ?_
 intro C hC hC0 hY
 obtain ⟨v, hv⟩ : ∃ v : Bool, v = true ↔ (fnI a0 ∧ fnI a1 ∧ fnI a2) ∧ fnI b0 ∧ fnI b1 ∧ fnI b2 := ⟨decide _, decide_eq_true_iff⟩
 cases v with
 | false =>
  have e : eaE op a0 a1 a2 b0 b1 b2 = 20 := by unfold eaE; rw [if_neg]; intro h; exact absurd (hv.2 h.1) (by simp)
  rw [e]
  repeat' (first | refine gwA ?_ | ((first | refine gwR [67] ?_ | refine gwD [67] ?_); intro Q hQ hP; simp [hC, hY]; (repeat ((first | (refine heapK_mv (fine2_fun a0 a1 a2 b0 b1 b2 _ hv) G0F (B := 200) ⟨by simp, by simp [keys], by simp [ids_lit, idsF, ids0]⟩ (fun k => if k = 100 then 256 else k) (fun k hk => if_neg (by omega)) (by simp [ren, renA, renF, ren0]) (by simp) (by simp [Blk.rn, renF, ren0]) (by simp [keys]) (by simp [keys]; rfl) ?_)); try simp [hC, hY])); refine hQ _ _ _ _ (by kernel_rfl) ?_; clear hQ hP Q) | (refine gwC ?_ ?_ <;> (intro hb; first | (cases hb; done) | skip)))
  refine ⟨.inr trivial, ?_⟩
  simp [Tryz.results109, eaV]
 | true =>
  repeat' (first | refine gwA ?_ | ((first | refine gwR [67,68] ?_ | refine gwD [67,68] ?_); intro Q hQ hP; simp [hC, hY]; (repeat ((first | (first | (refine heapK_mv (fine2_fun a0 a1 a2 b0 b1 b2 _ hv) G0F (B := 200) ⟨by simp, by simp [keys], by simp [ids_lit, idsF, ids0]⟩ (fun k => if k = 100 then 256 else k) (fun k hk => if_neg (by omega)) (by simp [ren, renA, renF, ren0]) (by simp) (by simp [Blk.rn, renF, ren0]) (by simp [keys]) (by simp [keys]; rfl) ?_) | refine heapK_of (vparts_new 288 296 1 1 #[.int .i64 a0, .int .i64 a1, .int .i64 a2] (by simp) (by omega) (by omega) (by omega) (by omega)) (by simp) (fun k hk => hpL_low (by simp) hk) (by simp [Res.at, keys]) ?_)); try simp [hC, hY])); refine hQ _ _ _ _ (by kernel_rfl) ?_; clear hQ hP Q) | (refine gwC ?_ ?_ <;> (intro hb; first | (cases hb; done) | skip)))
  obtain ⟨⟨f0, f1, f2⟩, g0, g1, g2⟩ := hv.1 rfl
  have s0 := fun K => hop a0 b0 K f0 g0
  have s1 := fun K => hop a1 b1 K f1 g1
  have s2 := fun K => hop a2 b2 K f2 g2
  refine GW_rangeKL (G := G0) (f := 90) (rs := [296, 288]) (xs := xsV 3 (vf a0 a1 a2)) (caps := #[.pointer (some ⟨296, 0, none⟩)]) (m0 := []) [296, 288] G0F hC hC0 hY (by simp) ?_ (by simp [xsV]) (by simp [Tryz.ntmps109]) [(3, .pointer (some ⟨200, 0, none⟩)), (4, .pointer (some ⟨208, 0, none⟩)), (5, .pointer (some ⟨216, 0, none⟩)), (6, .pointer (some ⟨224, 0, none⟩)), (7, .int .i64 0)] [] (eaL g op a0 a1 a2 b0 b1 b2) 400 3 (by simp [xsV]) (by omega) (by simp) (by simp [dom]) ?_ (by simp) (by simp) (by simp [eaL]) ?_ (by simp) ?_ ?_
  ·refine iterk_mv (m := pvL1 a0 a1 a2) (B := 200) (vparts1_itk a0 a1 a2) G0F ⟨by simp [pvL1], by simp [pvL1, keys], by simp [pvL1, ids_lit, idsF, ids0, keys]⟩ (fun k => if k = 100 then 296 else if k = 108 then 288 else k) (fun k hk => ?_) (by simp [ren0]) (by simp [pvL1, keys]) (by (intro k hk; first | rfl | (simp (disch := omega) only [addB, List.mem_cons, List.not_mem_nil, or_false, upd_other, hpL_cons, hpL_nil, if_neg, updL] <;> done))) ?_ ?_
   ·rw [if_neg (by omega), if_neg (by omega)]
   ·simp [pvL1, Blk.rn, renF, ren0]
   ·simp [pvL1, keys]
  ·intro k hk b hb
   simp only [List.mem_cons, List.not_mem_nil, or_false] at hk
   rcases hk with rfl | rfl
   ·simp at hb; subst hb; simp [ids_lit, idsF, ids0]
   ·simp at hb; subst hb; simp [ids_lit, idsF, ids0]
  ·intro i hi
   simp [eaL, idsV, idsA, idsF, ids0, dom, ids_lit]
  ·intro i x hi hx C1 l hC1 hh1 hY1
   rw [xsV_at _ _ _ (by omega)] at hx
   simp only [Option.some.injEq] at hx
   subst hx
   clear hC hY
   have hC := hC1
   have hY := hY1
   have : i = 0 ∨ i = 1 ∨ i = 2 := by omega
   rcases this with rfl | rfl | rfl
   all_goals
    simp only [vf]
    unfold eaL
   all_goals
    repeat' (first | refine gwA ?_ | ((first | refine gwR [] ?_ | refine gwD [] ?_); intro Q hQ hP; simp [hC, hY, roundTs]; refine hQ _ _ _ _ (by kernel_rfl) ?_; clear hQ hP Q) | (refine gwC ?_ ?_ <;> (intro hb; first | (cases hb; done) | skip)))
   all_goals
    intro C2 hC2 hh2 hY2
    clear hC hY
    have hC := hC2
    have hY := hY2
    repeat' (first | refine gwA ?_ | ((first | refine gwR [] ?_ | refine gwD [] ?_); intro Q hQ hP; simp [hC, hY, roundTs, s0, s1, s2]; refine hQ _ _ _ _ (by kernel_rfl) ?_; clear hQ hP Q) | (refine gwC ?_ ?_ <;> (intro hb; first | (cases hb; done) | skip)))
   all_goals simp
  ·left
   refine ⟨by simp [xsV], ?_⟩
   obtain ⟨w, hw⟩ : ∃ w : Bool, w = true ↔ fnI (op a0 b0) ∧ fnI (op a1 b1) ∧ fnI (op a2 b2) := ⟨decide _, decide_eq_true_iff⟩
   cases w with
   | false =>
    have e : eaE op a0 a1 a2 b0 b1 b2 = 20 := by unfold eaE; rw [if_neg]; intro h; exact absurd (hw.2 h.2) (by simp)
    rw [e]
    unfold eaL
    repeat' (first | refine gwA ?_ | ((first | refine gwR [67] ?_ | refine gwD [67] ?_); intro Q hQ hP; simp [hC, hY, addB, List.cons_append, List.nil_append]; (repeat ((first | (refine heapK_mv (fine1_fun (op a0 b0) (op a1 b1) (op a2 b2) _ hw) G0F (B := 200) ⟨by simp, by simp [keys], by simp [ids_lit, idsF, ids0]⟩ (fun k => if k = 100 then 408 else k) (fun k hk => if_neg (by omega)) (by simp [ren, renA, renF, ren0]) (by simp) (by simp [Blk.rn, renF, ren0]) (by simp [keys]) (by simp [keys]; rfl) ?_)); try simp [hC, hY, addB, List.cons_append, List.nil_append])); refine hQ _ _ _ _ (by kernel_rfl) ?_; clear hQ hP Q) | (refine gwC ?_ ?_ <;> (intro hb; first | (cases hb; done) | skip)))
    refine ⟨.inr trivial, ?_⟩
    simp [Tryz.results109, eaV]
   | true =>
    have e : eaE op a0 a1 a2 b0 b1 b2 = 0 := by unfold eaE; rw [if_pos]; exact ⟨hv.1 rfl, hw.1 rfl⟩
    rw [e]
    unfold eaL
    repeat' (first | refine gwA ?_ | ((first | refine gwR [67] ?_ | refine gwD [67] ?_); intro Q hQ hP; simp [hC, hY, addB, List.cons_append, List.nil_append]; (repeat ((first | (refine heapK_mv (fine1_fun (op a0 b0) (op a1 b1) (op a2 b2) _ hw) G0F (B := 200) ⟨by simp, by simp [keys], by simp [ids_lit, idsF, ids0]⟩ (fun k => if k = 100 then 408 else k) (fun k hk => if_neg (by omega)) (by simp [ren, renA, renF, ren0]) (by simp) (by simp [Blk.rn, renF, ren0]) (by simp [keys]) (by simp [keys]; rfl) ?_)); try simp [hC, hY, addB, List.cons_append, List.nil_append])); refine hQ _ _ _ _ (by kernel_rfl) ?_; clear hQ hP Q) | (refine gwC ?_ ?_ <;> (intro hb; first | (cases hb; done) | skip)))
    refine ⟨.inr trivial, ?_⟩
    simp [Tryz.results109, eaV]
theorem veach (g : FuncId) (op : Int → Int → Int) (hop : ∀ x y K, fnI x → fnI y → (callK Tryz.prog G0 g #[.int .i64 x, .int .i64 y] K ↔ K (.int .i64 (op x y)))) (a0 a1 a2 b0 b1 b2 : Int) (K : Value → Prop) : callK Tryz.prog G0 109 #[.agg #[.int .i64 a0, .int .i64 a1, .int .i64 a2], .agg #[.int .i64 b0, .int .i64 b1, .int .i64 b2], .func (.func g) #[] #[]] K ↔
  K (.tuple #[.agg #[.int .i64 (eaV (eaE op a0 a1 a2 b0 b1 b2) (op a0 b0)), .int .i64 (eaV (eaE op a0 a1 a2 b0 b1 b2) (op a1 b1)), .int .i64 (eaV (eaE op a0 a1 a2 b0 b1 b2) (op a2 b2))], .int .i64 (eaE op a0 a1 a2 b0 b1 b2)]) := callK_iff G0W (by kernel_rfl) (each_ret g op hop a0 a1 a2 b0 b1 b2)
end Go.Gy
namespace Go.Gy
set_option linter.unusedSimpArgs false
set_option linter.unusedVariables false
open Go Go.RowKit Go.Proofs
end Go.Gy
namespace Go.Gy
set_option linter.unusedSimpArgs false
set_option linter.unusedVariables false
open Go Go.RowKit Go.Proofs
structure SB (b : Blk) (off n : Nat) (f : Nat → Int) : Prop where
 rd : rdI b off (6 * n) f
 fx : b.fx
 i6 : ∀ j, j < 6 * n → i64 (f j)
 nn : n ≤ 2932031007402
def inB (bx tp : Int) (f : Nat → Int) (i : Nat) : Bool := inV bx (f (6 * i)) (f (6 * i + 1)) (f (6 * i + 2)) && inV tp (f (6 * i + 3)) (f (6 * i + 4)) (f (6 * i + 5))
theorem SB.body {b : Blk} {off n : Nat} {f : Nat → Int} (h : SB b off n f) {i : Nat} (hi : i < n) : loadK Tryz.prog 53 b (off + i * 6) = some (.agg #[.int .i64 (f (6 * i)), .int .i64 (f (6 * i + 1)), .int .i64 (f (6 * i + 2)), .int .i64 (f (6 * i + 3)), .int .i64 (f (6 * i + 4)), .int .i64 (f (6 * i + 5))]) := by
 have hbrd := Blk.fx_rd h.fx
 have := loadK_rd (P := Tryz.prog) (T := 53) (m := 6) (j := 6 * i) (tyAgg_of Tryz.isAgg53) (tySize_of Tryz.sizeOf53) (by omega) h.rd (by omega)
 rw [show off + i * 6 = off + 6 * i by omega, this, fa_6]
 rfl
theorem SB.i {b : Blk} {off n : Nat} {f : Nat → Int} (h : SB b off n f) {i : Nat} (hi : i < n) (q : Nat) (hq : q < 6) : i64 (f (6 * i + q)) := h.i6 _ (by omega)
theorem wi1_fun (bx tp x0 x1 x2 v0 v1 v2 : Int) (hbx : i64 bx) (htp : i64 tp) (h0 : i64 x0) (h1 : i64 x1) (h2 : i64 x2) (h3 : i64 v0) (h4 : i64 v1) (h5 : i64 v2) :
  Fun Tryz.prog G0 107 #[.agg #[.int .i64 x0, .int .i64 x1, .int .i64 x2, .int .i64 v0, .int .i64 v1, .int .i64 v2], .pointer (some ⟨100, 0, none⟩), .pointer (some ⟨108, 0, none⟩)] (hpL G0 [(100, jb bx), (108, jb tp)]) (keys [(100, jb bx), (108, jb tp)]) (.ret (.bool !(inV bx x0 x1 x2 && inV tp v0 v1 v2)) []) := by
 refine fun_ofL (B := 200) G0F Tryz.func107 rfl Tryz.call107 ⟨by simp, by simp [keys], by simp [jb, ids_lit, idsF, ids0]⟩ ?_ (by simp) (by simp) (by simp) (by simp [Tryz.ntmps107]) (by omega) ?_
 ·simp [idsV, idsA, idsF, ids0, keys]
 intro C hC hC0 hY
 cases c0 : inV bx x0 x1 x2 with
 | true =>
  cases c1 : inV tp v0 v1 v2 with
  | true =>
   repeat' (first | refine gwA ?_ | ((first | refine gwR [] ?_ | refine gwD [] ?_); intro Q hQ hP; simp [hC, hY, jb, hbx, htp, h0, h1, h2, h3, h4, h5, c0, c1]; refine hQ _ _ _ _ (by kernel_rfl) ?_; clear hQ hP Q) | (refine gwC ?_ ?_ <;> (intro hb; first | (cases hb; done) | skip)))
   refine ⟨.inr rfl, by simp [Tryz.results107], keep_of G0F (by simp [jb]) (by (intro k hk; first | rfl | (simp (disch := omega) only [addB, List.mem_cons, List.not_mem_nil, or_false, upd_other, hpL_cons, hpL_nil, if_neg, updL] <;> done)))⟩
  | false =>
   repeat' (first | refine gwA ?_ | ((first | refine gwR [] ?_ | refine gwD [] ?_); intro Q hQ hP; simp [hC, hY, jb, hbx, htp, h0, h1, h2, h3, h4, h5, c0, c1]; refine hQ _ _ _ _ (by kernel_rfl) ?_; clear hQ hP Q) | (refine gwC ?_ ?_ <;> (intro hb; first | (cases hb; done) | skip)))
   refine ⟨.inr rfl, by simp [Tryz.results107], keep_of G0F (by simp [jb]) (by (intro k hk; first | rfl | (simp (disch := omega) only [addB, List.mem_cons, List.not_mem_nil, or_false, upd_other, hpL_cons, hpL_nil, if_neg, updL] <;> done)))⟩
 | false =>
  repeat' (first | refine gwA ?_ | ((first | refine gwR [] ?_ | refine gwD [] ?_); intro Q hQ hP; simp [hC, hY, jb, hbx, htp, h0, h1, h2, h3, h4, h5, c0]; refine hQ _ _ _ _ (by kernel_rfl) ?_; clear hQ hP Q) | (refine gwC ?_ ?_ <;> (intro hb; first | (cases hb; done) | skip)))
  refine ⟨.inr rfl, by simp [Tryz.results107], keep_of G0F (by simp [jb]) (by (intro k hk; first | rfl | (simp (disch := omega) only [addB, List.mem_cons, List.not_mem_nil, or_false, upd_other, hpL_cons, hpL_nil, if_neg, updL] <;> done)))⟩
theorem jb_rn {m : Int} {ρ : Nat → Nat} : (jb m).rn ρ = jb m := by simp [jb, Blk.rn, renF, ren0]
def ixSt (b : Blk) (off n cap : Nat) (bx tp : Int) (i : Nat) : GS :=
 ⟨tsL [(0, .slice (some ⟨100, off, none⟩) n cap), (1, .func (.func 107) #[] #[.pointer (some ⟨108, 0, none⟩), .pointer (some ⟨116, 0, none⟩)]), (7, .int .i64 n), (8, .int .i64 i)],
 hpL G0 [(100, b), (108, jb bx), (116, jb tp)], 300, 0⟩
def ixL (b : Blk) (bx tp : Int) : List (Nat × Blk) := [(100, b), (108, jb bx), (116, jb tp)]
theorem ixL_ok {b : Blk} (hb : b.fx) (bx tp : Int) : LOk (ixL b bx tp) 200 := ⟨by simp [ixL], by simp [ixL, keys], by
 simp only [ixL, List.mem_cons, List.not_mem_nil, or_false, forall_eq_or_imp, forall_eq]
 exact ⟨Blk.fx_ids hb _, by simp [jb, ids_lit, idsF, ids0], by simp [jb, ids_lit, idsF, ids0]⟩⟩
theorem ix_fun (b : Blk) (off n cap : Nat) (f : Nat → Int) (h : SB b off n f) (bx tp : Int) (hbx : i64 bx) (htp : i64 tp) (N : Nat) (hN : N ≤ n) (hlt : ∀ i, i < N → inB bx tp f i = true) (hend : N = n ∨ inB bx tp f N = false) :
  Fun Tryz.prog G0 129 #[.slice (some ⟨100, off, none⟩) n cap, .func (.func 107) #[] #[.pointer (some ⟨108, 0, none⟩), .pointer (some ⟨116, 0, none⟩)]] (hpL G0 (ixL b bx tp)) (keys (ixL b bx tp)) (.ret (.int .i64 (if N = n then -1 else N)) []) := by
 refine fun_ofL (B := 200) G0F Tryz.func129 rfl Tryz.call129 (ixL_ok h.fx bx tp) ?_ (by simp) (by simp) (by simp) (by simp [Tryz.ntmps129]) (by omega) ?_
 ·simp [idsV, idsA, idsF, ids0, keys, ixL]
 intro C hC hC0 hY
 have hnn := h.nn
 unfold ixL
 repeat' (first | refine gwA ?_ | ((first | refine gwR [] ?_ | refine gwD [] ?_); intro Q hQ hP; simp [hC, hY]; refine hQ _ _ _ _ (by kernel_rfl) ?_; clear hQ hP Q) | (refine gwC ?_ ?_ <;> (intro hb; first | (cases hb; done) | skip)))
 refine GW_for N (ixSt b off n cap bx tp) ?_ ?_ ?_
 ·refine weakL _ 300 hC G0F (m0 := [(100, b), (108, jb bx), (116, jb tp)]) hC0 (by omega) ?_ ?_ ?_
  ·simp [idsV, idsA, idsF, ids0, dom]
  ·have hi := fun D => Blk.fx_ids h.fx D
   simp [ids_lit, idsF, ids0, jb, hi]
  ·simp
 ·intro i hi
  have hin : i < n := by omega
  have hi' : (i : Int) < n := by omega
  have hz : (0 : Int) ≤ i := by omega
  have hs : Int.bmod ((i : Int) + 1) 18446744073709551616 = ((i + 1 : Nat) : Int) := by rw [bm (by omega) (by omega)]; rfl
  have hld := h.body hin
  have hq := hlt i hi
  unfold inB at hq
  rw [Bool.and_eq_true] at hq
  obtain ⟨q1, q2⟩ := hq
  unfold ixSt
  repeat' (first | refine gwA ?_ | ((first | refine gwR [107] ?_ | refine gwD [107] ?_); intro Q hQ hP; simp [hC, hY, hi, hi', hz, hs, hld, q1, q2, jb]; (repeat ((first | (refine heapK_mv (wi1_fun bx tp _ _ _ _ _ _ hbx htp (h.i hin 0 (by omega)) (h.i hin 1 (by omega)) (h.i hin 2 (by omega)) (h.i hin 3 (by omega)) (h.i hin 4 (by omega)) (h.i hin 5 (by omega))) G0F (B := 200) ⟨by simp, by simp [keys], by simp [jb, ids_lit, idsF, ids0]⟩ (fun k => if k = 100 then 108 else if k = 108 then 116 else k) (fun k hk => (if_neg (by omega)).trans (if_neg (by omega))) (by simp [ren, renA, renF, ren0]) (by simp) (by simp [jb, Blk.rn, renF, ren0]) (by simp [keys]) (by simp [keys]; rfl) ?_)); try simp [hC, hY, hi, hi', hz, hs, hld, q1, q2, jb])); refine hQ _ _ _ _ (by kernel_rfl) ?_; clear hQ hP Q) | (refine gwC ?_ ?_ <;> (intro hb; first | (cases hb; done) | skip)))
  refine weakL _ 300 hC G0F (m0 := [(100, b), (108, jb bx), (116, jb tp)]) hC0 (by omega) ?_ ?_ ?_
  ·simp [idsV, idsA, idsF, ids0, dom, hs]
  ·have hi := fun D => Blk.fx_ids h.fx D
   simp [ids_lit, idsF, ids0, jb, hi]
  ·simp [jb]
 ·by_cases hNn : N = n
  ·subst hNn
   simp only [if_true]
   unfold ixSt
   repeat' (first | refine gwA ?_ | ((first | refine gwR [] ?_ | refine gwD [] ?_); intro Q hQ hP; simp [hC, hY]; refine hQ _ _ _ _ (by kernel_rfl) ?_; clear hQ hP Q) | (refine gwC ?_ ?_ <;> (intro hb; first | (cases hb; done) | skip)))
   refine ⟨.inr rfl, by simp [Tryz.results129], kpS G0F⟩
  ·have hin : N < n := by omega
   have hi' : (N : Int) < n := by omega
   have hz : (0 : Int) ≤ N := by omega
   have hld := h.body hin
   have hq := hend.resolve_left hNn
   unfold inB at hq
   rw [if_neg hNn]
   unfold ixSt
   cases q1 : inV bx (f (6 * N)) (f (6 * N + 1)) (f (6 * N + 2)) with
   | false =>
    repeat' (first | refine gwA ?_ | ((first | refine gwR [107] ?_ | refine gwD [107] ?_); intro Q hQ hP; simp [hC, hY, hin, hi', hz, hld, q1, jb]; (repeat ((first | (refine heapK_mv (wi1_fun bx tp _ _ _ _ _ _ hbx htp (h.i hin 0 (by omega)) (h.i hin 1 (by omega)) (h.i hin 2 (by omega)) (h.i hin 3 (by omega)) (h.i hin 4 (by omega)) (h.i hin 5 (by omega))) G0F (B := 200) ⟨by simp, by simp [keys], by simp [jb, ids_lit, idsF, ids0]⟩ (fun k => if k = 100 then 108 else if k = 108 then 116 else k) (fun k hk => (if_neg (by omega)).trans (if_neg (by omega))) (by simp [ren, renA, renF, ren0]) (by simp) (by simp [jb, Blk.rn, renF, ren0]) (by simp [keys]) (by simp [keys]; rfl) ?_)); try simp [hC, hY, hin, hi', hz, hld, q1, jb])); refine hQ _ _ _ _ (by kernel_rfl) ?_; clear hQ hP Q) | (refine gwC ?_ ?_ <;> (intro hb; first | (cases hb; done) | skip)))
    refine ⟨.inr rfl, by simp [Tryz.results129], keep_of G0F (by simp [jb]) (by (intro k hk; first | rfl | (simp (disch := omega) only [addB, List.mem_cons, List.not_mem_nil, or_false, upd_other, hpL_cons, hpL_nil, if_neg, updL] <;> done)))⟩
   | true =>
    have q2 : inV tp (f (6 * N + 3)) (f (6 * N + 4)) (f (6 * N + 5)) = false := by rw [q1] at hq; simpa using hq
    repeat' (first | refine gwA ?_ | ((first | refine gwR [107] ?_ | refine gwD [107] ?_); intro Q hQ hP; simp [hC, hY, hin, hi', hz, hld, q1, q2, jb]; (repeat ((first | (refine heapK_mv (wi1_fun bx tp _ _ _ _ _ _ hbx htp (h.i hin 0 (by omega)) (h.i hin 1 (by omega)) (h.i hin 2 (by omega)) (h.i hin 3 (by omega)) (h.i hin 4 (by omega)) (h.i hin 5 (by omega))) G0F (B := 200) ⟨by simp, by simp [keys], by simp [jb, ids_lit, idsF, ids0]⟩ (fun k => if k = 100 then 108 else if k = 108 then 116 else k) (fun k hk => (if_neg (by omega)).trans (if_neg (by omega))) (by simp [ren, renA, renF, ren0]) (by simp) (by simp [jb, Blk.rn, renF, ren0]) (by simp [keys]) (by simp [keys]; rfl) ?_)); try simp [hC, hY, hin, hi', hz, hld, q1, q2, jb])); refine hQ _ _ _ _ (by kernel_rfl) ?_; clear hQ hP Q) | (refine gwC ?_ ?_ <;> (intro hb; first | (cases hb; done) | skip)))
    refine ⟨.inr rfl, by simp [Tryz.results129], keep_of G0F (by simp [jb]) (by (intro k hk; first | rfl | (simp (disch := omega) only [addB, List.mem_cons, List.not_mem_nil, or_false, upd_other, hpL_cons, hpL_nil, if_neg, updL] <;> done)))⟩
def allB (bx tp : Int) (f : Nat → Int) (n : Nat) : Bool := (List.range n).all (inB bx tp f)
theorem allB_iff {bx tp : Int} {f : Nat → Int} {n : Nat} : allB bx tp f n = true ↔ ∀ i, i < n → inB bx tp f i = true := by simp [allB]
theorem allB_lead {bx tp : Int} {f : Nat → Int} {n N : Nat} (hN : N ≤ n) (hlt : ∀ i, i < N → inB bx tp f i = true) (hend : N = n ∨ inB bx tp f N = false) : allB bx tp f n = decide (N = n) := by
 by_cases h : N = n
 ·subst h; rw [decide_eq_true rfl]; exact allB_iff.2 hlt
 ·rw [decide_eq_false h]
  cases hb : allB bx tp f n with
  | false => rfl
  | true => have := allB_iff.1 hb N (by omega); rw [hend.resolve_left h] at this; cases this
theorem leadB (p : Nat → Bool) (m : Nat) : ∃ N, N ≤ m ∧ (∀ i, i < N → p i = true) ∧ (N = m ∨ p N = false) := by
 obtain ⟨N, h1, h2, h3⟩ := lead (fun i => p i = true) m
 exact ⟨N, h1, h2, h3.imp id (fun h => by simpa using h)⟩
theorem cf_fun (b : Blk) (off n cap : Nat) (f : Nat → Int) (h : SB b off n f) (bx tp : Int) (hbx : i64 bx) (htp : i64 tp) :
  Fun Tryz.prog G0 106 #[.slice (some ⟨100, off, none⟩) n cap, .func (.func 107) #[] #[.pointer (some ⟨108, 0, none⟩), .pointer (some ⟨116, 0, none⟩)]] (hpL G0 (ixL b bx tp)) (keys (ixL b bx tp)) (.ret (.bool !(allB bx tp f n)) []) := by
 refine fun_ofL (B := 200) G0F Tryz.func106 rfl Tryz.call106 (ixL_ok h.fx bx tp) ?_ (by simp) (by simp) (by simp) (by simp [Tryz.ntmps106]) (by omega) ?_
 ·simp [idsV, idsA, idsF, ids0, keys, ixL]
 intro C hC hC0 hY
 obtain ⟨N, hN, hlt, hend⟩ := leadB (inB bx tp f) n
 rw [allB_lead hN hlt hend]
 have hr := fun ρ => Blk.fx_rn h.fx ρ
 unfold ixL
 by_cases hNn : N = n
 ·have hNn' : (decide (N = n)) = true := decide_eq_true hNn
  rw [hNn']
  repeat' (first | refine gwA ?_ | ((first | refine gwR [129] ?_ | refine gwD [129] ?_); intro Q hQ hP; simp [hC, hY, hNn]; (repeat ((first | (refine heapK_mv (ix_fun b off n cap f h bx tp hbx htp N hN hlt hend) G0F (B := 200) (ixL_ok h.fx bx tp) (fun k => k) (fun k hk => rfl) (by simp [ren, renA, renF, ren0]) (by simp) (by simp [ixL, jb, Blk.rn_id]) (by simp [keys]) (by simp [keys, ixL]; rfl) ?_)); try simp [hC, hY, hNn])); refine hQ _ _ _ _ (by kernel_rfl) ?_; clear hQ hP Q) | (refine gwC ?_ ?_ <;> (intro hb; first | (cases hb; done) | skip)))
  refine ⟨.inr rfl, by simp [Tryz.results106], keep_of G0F (by simp [jb]) (by (intro k hk; first | rfl | (simp (disch := omega) only [addB, List.mem_cons, List.not_mem_nil, or_false, upd_other, hpL_cons, hpL_nil, if_neg, updL] <;> done)))⟩
 ·have hNn' : (decide (N = n)) = false := decide_eq_false hNn
  have hz : (0 : Int) ≤ N := by omega
  rw [hNn']
  repeat' (first | refine gwA ?_ | ((first | refine gwR [129] ?_ | refine gwD [129] ?_); intro Q hQ hP; simp [hC, hY, hNn, hz]; (repeat ((first | (refine heapK_mv (ix_fun b off n cap f h bx tp hbx htp N hN hlt hend) G0F (B := 200) (ixL_ok h.fx bx tp) (fun k => k) (fun k hk => rfl) (by simp [ren, renA, renF, ren0]) (by simp) (by simp [ixL, jb, Blk.rn_id]) (by simp [keys]) (by simp [keys, ixL]; rfl) ?_)); try simp [hC, hY, hNn, hz])); refine hQ _ _ _ _ (by kernel_rfl) ?_; clear hQ hP Q) | (refine gwC ?_ ?_ <;> (intro hb; first | (cases hb; done) | skip)))
  refine ⟨.inr rfl, by simp [Tryz.results106], keep_of G0F (by simp [jb]) (by (intro k hk; first | rfl | (simp (disch := omega) only [addB, List.mem_cons, List.not_mem_nil, or_false, upd_other, hpL_cons, hpL_nil, if_neg, updL] <;> done)))⟩
theorem oneL_ok {b : Blk} (hb : b.fx) : LOk [(100, b)] 200 := ⟨by simp, by simp [keys], by
 simp only [List.mem_singleton, forall_eq]
 exact Blk.fx_ids hb _⟩
theorem swi_fun (b : Blk) (off n cap : Nat) (f : Nat → Int) (h : SB b off n f) (st bx tp : Int) (hbx : i64 bx) (htp : i64 tp) :
  Fun Tryz.prog G0 89 #[.agg #[.int .i64 st, .slice (some ⟨100, off, none⟩) n cap], .int .i64 bx, .int .i64 tp] (hpL G0 [(100, b)]) (keys [(100, b)]) (.ret (.bool (allB bx tp f n)) []) := by
 refine fun_ofL (B := 200) G0F Tryz.func89 rfl Tryz.call89 (oneL_ok h.fx) ?_ (by simp) (by simp) (by simp) (by simp [Tryz.ntmps89]) (by omega) ?_
 ·simp [idsV, idsA, idsF, ids0, keys]
 intro C hC hC0 hY
 have hr := fun ρ => Blk.fx_rn h.fx ρ
 repeat' (first | refine gwA ?_ | ((first | refine gwR [106] ?_ | refine gwD [106] ?_); intro Q hQ hP; simp [hC, hY]; (repeat ((first | (refine heapK_mv (cf_fun b off n cap f h bx tp hbx htp) G0F (B := 200) (ixL_ok h.fx bx tp) (fun k => if k = 108 then 208 else if k = 116 then 216 else k) (fun k hk => (if_neg (by omega)).trans (if_neg (by omega))) (by simp [ren, renA, renF, ren0]) (by simp) (by simp [ixL, hr, jb_rn]; simp [jb]) (by simp [keys, ixL]) (by simp [keys, ixL]; rfl) ?_)); try simp [hC, hY])); refine hQ _ _ _ _ (by kernel_rfl) ?_; clear hQ hP Q) | (refine gwC ?_ ?_ <;> (intro hb; first | (cases hb; done) | skip)))
 refine ⟨.inr rfl, by simp [Tryz.results89], keep_of G0F (by simp [jb]) (by (intro k hk; first | rfl | (simp (disch := omega) only [addB, List.mem_cons, List.not_mem_nil, or_false, upd_other, hpL_cons, hpL_nil, if_neg, updL] <;> done)))⟩
def stB (st : Int) : Bool := decide (-1073741824 ≤ st ∧ st ≤ 1073741824)
theorem stB_max (st : Int) (hs : i64 st) : stB st = (decide ((if st < Int.bmod (-st) 18446744073709551616 then Int.bmod (-st) 18446744073709551616 else st) ≤ 1073741824) && decide (-1073741824 ≤ st)) := by
 have h1 := hs.1
 have h2 := hs.2
 unfold stB
 rw [Bool.eq_iff_iff]
 simp only [Bool.and_eq_true, decide_eq_true_eq]
 rw [Int.bmod_def]
 split <;> split <;> omega
def rightB (st : Int) (f : Nat → Int) (n : Nat) : Bool := stB st && decide (1 ≤ n ∧ n ≤ 4) && allB 1048576 65536 f n
theorem i64_box : i64 1048576 := by unfold i64; omega
theorem i64_top : i64 65536 := by unfold i64; omega
theorem rig_fun (b : Blk) (off n cap : Nat) (f : Nat → Int) (h : SB b off n f) (st : Int) (hs : i64 st) :
  Fun Tryz.prog G0 66 #[.agg #[.int .i64 st, .slice (some ⟨100, off, none⟩) n cap]] (hpL G0 [(100, b)]) (keys [(100, b)]) (.ret (.bool (rightB st f n)) []) := by
 refine fun_ofL (B := 200) G0F Tryz.func66 rfl Tryz.call66 (oneL_ok h.fx) ?_ (by simp) (by simp) (by simp) (by simp [Tryz.ntmps66]) (by omega) ?_
 ·simp [idsV, idsA, idsF, ids0, keys]
 intro C hC hC0 hY
 have hr := fun ρ => Blk.fx_rn h.fx ρ
 obtain ⟨m, hm⟩ : ∃ m, (if st < Int.bmod (-st) 18446744073709551616 then Int.bmod (-st) 18446744073709551616 else st) = m := ⟨_, rfl⟩
 have key := stB_max st hs
 rw [hm] at key
 unfold rightB
 rw [key]
 by_cases c0 : m ≤ 1073741824
 ·by_cases c1 : -1073741824 ≤ st
  ·by_cases c2 : 0 < n
   ·by_cases c3 : n ≤ 4
    ·have c4 : (n : Int) ≤ 4 := by omega
     have e : decide (1 ≤ n ∧ n ≤ 4) = true := decide_eq_true (by omega)
     rw [decide_eq_true c0, decide_eq_true c1, e]
     repeat' (first | refine gwA ?_ | ((first | refine gwR [89] ?_ | refine gwD [89] ?_); intro Q hQ hP; simp [hC, hY, hm, c0, c1, c2, c3, c4]; (repeat ((first | (refine heapK_mv (swi_fun b off n cap f h st 1048576 65536 i64_box i64_top) G0F (B := 200) (oneL_ok h.fx) (fun k => k) (fun k hk => rfl) (by simp [ren, renA, renF, ren0]) (by simp) (by simp [hr]) (by simp [keys]) (by simp [keys]; rfl) ?_)); try simp [hC, hY, hm, c0, c1, c2, c3, c4])); refine hQ _ _ _ _ (by kernel_rfl) ?_; clear hQ hP Q) | (refine gwC ?_ ?_ <;> (intro hb; first | (cases hb; done) | skip)))
     refine ⟨.inr rfl, by simp [Tryz.results66], kpS G0F⟩
    ·have c4 : ¬ (n : Int) ≤ 4 := by omega
     have e : decide (1 ≤ n ∧ n ≤ 4) = false := decide_eq_false (by omega)
     rw [decide_eq_true c0, decide_eq_true c1, e]
     repeat' (first | refine gwA ?_ | ((first | refine gwR [] ?_ | refine gwD [] ?_); intro Q hQ hP; simp [hC, hY, hm, c0, c1, c2, c3, c4]; refine hQ _ _ _ _ (by kernel_rfl) ?_; clear hQ hP Q) | (refine gwC ?_ ?_ <;> (intro hb; first | (cases hb; done) | skip)))
     refine ⟨.inr rfl, by simp [Tryz.results66], kpS G0F⟩
   ·have e : decide (1 ≤ n ∧ n ≤ 4) = false := decide_eq_false (by omega)
    rw [decide_eq_true c0, decide_eq_true c1, e]
    repeat' (first | refine gwA ?_ | ((first | refine gwR [] ?_ | refine gwD [] ?_); intro Q hQ hP; simp [hC, hY, hm, c0, c1, c2]; refine hQ _ _ _ _ (by kernel_rfl) ?_; clear hQ hP Q) | (refine gwC ?_ ?_ <;> (intro hb; first | (cases hb; done) | skip)))
    refine ⟨.inr rfl, by simp [Tryz.results66], kpS G0F⟩
  ·rw [decide_eq_true c0, decide_eq_false c1]
   repeat' (first | refine gwA ?_ | ((first | refine gwR [] ?_ | refine gwD [] ?_); intro Q hQ hP; simp [hC, hY, hm, c0, c1]; refine hQ _ _ _ _ (by kernel_rfl) ?_; clear hQ hP Q) | (refine gwC ?_ ?_ <;> (intro hb; first | (cases hb; done) | skip)))
   refine ⟨.inr rfl, by simp [Tryz.results66], kpS G0F⟩
 ·rw [decide_eq_false c0]
  repeat' (first | refine gwA ?_ | ((first | refine gwR [] ?_ | refine gwD [] ?_); intro Q hQ hP; simp [hC, hY, hm, c0]; refine hQ _ _ _ _ (by kernel_rfl) ?_; clear hQ hP Q) | (refine gwC ?_ ?_ <;> (intro hb; first | (cases hb; done) | skip)))
  refine ⟨.inr rfl, by simp [Tryz.results66], kpS G0F⟩
theorem SB.int {b : Blk} {off n : Nat} {f : Nat → Int} (h : SB b off n f) {i : Nat} (hi : i < n) {q : Nat} (hq : q < 6) : loadK Tryz.prog 3 b (off + i * 6 + q) = some (.int .i64 (f (6 * i + q))) := by
 have hbrd := Blk.fx_rd h.fx
 have := loadK_rd1 (P := Tryz.prog) (T := 3) (j := 6 * i + q) (tyAgg_of Tryz.isAgg3) h.rd (by omega)
 rw [show off + i * 6 + q = off + (6 * i + q) by omega, this]
def w10St (b : Blk) (off n cap : Nat) (st : Int) (i : Nat) : GS :=
 ⟨tsL [(1, .int .i64 1048576), (2, .int .i64 65536), (3, .pointer (some ⟨200, 0, none⟩)), (7, .int .i64 i)],
 hpL G0 [(200, ⟨#[.int .i64 st, .slice (some ⟨100, off, none⟩) n cap], .ty 27⟩), (100, b)], 400, 0⟩
theorem inB_cases {f : Nat → Int} {i : Nat} : inB 1048576 65536 f i = true ↔ ((-1048576 ≤ f (6 * i) ∧ f (6 * i) ≤ 1048576) ∧ (-1048576 ≤ f (6 * i + 1) ∧ f (6 * i + 1) ≤ 1048576) ∧ (-1048576 ≤ f (6 * i + 2) ∧ f (6 * i + 2) ≤ 1048576)) ∧ (-65536 ≤ f (6 * i + 3) ∧ f (6 * i + 3) ≤ 65536) ∧ (-65536 ≤ f (6 * i + 4) ∧ f (6 * i + 4) ≤ 65536) ∧ (-65536 ≤ f (6 * i + 5) ∧ f (6 * i + 5) ≤ 65536) := by
 unfold inB inV inW
 simp only [Bool.and_eq_true, decide_eq_true_eq]
 omega
set_option maxHeartbeats 4000000 in
set_option maxRecDepth 20000 in
theorem w10_fun (b : Blk) (off n cap : Nat) (f : Nat → Int) (h : SB b off n f) (st : Int) :
  Fun Tryz.prog G0 78 #[.agg #[.int .i64 st, .slice (some ⟨100, off, none⟩) n cap], .int .i64 1048576, .int .i64 65536] (hpL G0 [(100, b)]) (keys [(100, b)]) (.ret (.bool (allB 1048576 65536 f n)) []) := by
 refine fun_ofL (B := 200) G0F Tryz.func78 rfl Tryz.call78 (oneL_ok h.fx) ?_ (by simp) (by simp) (by simp) (by simp [Tryz.ntmps78]) (by omega) ?_
 ·simp [idsV, idsA, idsF, ids0, keys]
 intro C hC hC0 hY
 obtain ⟨N, hN, hlt, hend⟩ := leadB (inB 1048576 65536 f) n
 have hnn := h.nn
 rw [allB_lead hN hlt hend]
 repeat' (first | refine gwA ?_ | ((first | refine gwR [] ?_ | refine gwD [] ?_); intro Q hQ hP; simp [hC, hY]; refine hQ _ _ _ _ (by kernel_rfl) ?_; clear hQ hP Q) | (refine gwC ?_ ?_ <;> (intro hb; first | (cases hb; done) | skip)))
 refine GW_for N (w10St b off n cap st) ?_ ?_ ?_
 ·refine weakL _ 400 hC G0F (m0 := [(100, b)]) hC0 (by omega) ?_ ?_ ?_
  ·simp [idsV, idsA, idsF, ids0, dom]
  ·have hi := fun D => Blk.fx_ids h.fx D
   simp [ids_lit, idsF, ids0, hi, dom]
  ·simp
 ·intro i hi
  have hin : i < n := by omega
  have hi' : (i : Int) < n := by omega
  have hz : (0 : Int) ≤ i := by omega
  have hs : Int.bmod ((i : Int) + 1) 18446744073709551616 = ((i + 1 : Nat) : Int) := by rw [bm (by omega) (by omega)]; rfl
  have l0 := h.int hin (q := 0) (by omega)
  have l1 := h.int hin (q := 1) (by omega)
  have l2 := h.int hin (q := 2) (by omega)
  have l3 := h.int hin (q := 3) (by omega)
  have l4 := h.int hin (q := 4) (by omega)
  have l5 := h.int hin (q := 5) (by omega)
  simp only [Nat.add_zero] at l0
  obtain ⟨⟨⟨a0, b0⟩, ⟨a1, b1⟩, ⟨a2, b2⟩⟩, ⟨a3, b3⟩, ⟨a4, b4⟩, ⟨a5, b5⟩⟩ := inB_cases.1 (hlt i hi)
  replace a0 := Int.not_lt.2 a0
  replace a1 := Int.not_lt.2 a1
  replace a2 := Int.not_lt.2 a2
  replace a3 := Int.not_lt.2 a3
  replace a4 := Int.not_lt.2 a4
  replace a5 := Int.not_lt.2 a5
  replace b0 := Int.not_lt.2 b0
  replace b1 := Int.not_lt.2 b1
  replace b2 := Int.not_lt.2 b2
  replace b3 := Int.not_lt.2 b3
  replace b4 := Int.not_lt.2 b4
  replace b5 := Int.not_lt.2 b5
  unfold w10St
  repeat' (first | refine GWL_start ?_ | refine GWL_step ?_ | refine gwA ?_ | ((first | refine gwR [] ?_ | refine gwD [] ?_); intro Q hQ hP; simp [hC, hY, hi, hin, hi', hz, hs, l0, l1, l2, l3, l4, l5, a0, a1, a2, a3, a4, a5, b0, b1, b2, b3, b4, b5]; refine hQ _ _ _ _ (by kernel_rfl) ?_; clear hQ hP Q) | (refine gwC ?_ ?_ <;> (intro hb; first | (cases hb; done) | skip)))
  refine weakL _ 400 hC G0F (m0 := [(100, b)]) hC0 (by omega) ?_ ?_ ?_
  ·simp [idsV, idsA, idsF, ids0, dom, hs]
  ·have hi := fun D => Blk.fx_ids h.fx D
   simp [ids_lit, idsF, ids0, hi, dom]
  ·simp
 ·by_cases hNn : N = n
  ·rw [decide_eq_true hNn]
   subst hNn
   unfold w10St
   repeat' (first | refine gwA ?_ | ((first | refine gwR [] ?_ | refine gwD [] ?_); intro Q hQ hP; simp [hC, hY]; refine hQ _ _ _ _ (by kernel_rfl) ?_; clear hQ hP Q) | (refine gwC ?_ ?_ <;> (intro hb; first | (cases hb; done) | skip)))
   refine ⟨.inr rfl, by simp [Tryz.results78], kpS G0F⟩
  ·rw [decide_eq_false hNn]
   have hin : N < n := by omega
   have hi' : (N : Int) < n := by omega
   have hz : (0 : Int) ≤ N := by omega
   have l0 := h.int hin (q := 0) (by omega)
   have l1 := h.int hin (q := 1) (by omega)
   have l2 := h.int hin (q := 2) (by omega)
   have l3 := h.int hin (q := 3) (by omega)
   have l4 := h.int hin (q := 4) (by omega)
   have l5 := h.int hin (q := 5) (by omega)
   simp only [Nat.add_zero] at l0
   have hbad : ¬ inB 1048576 65536 f N = true := by rw [hend.resolve_left hNn]; simp
   rw [inB_cases] at hbad
   unfold w10St
   by_cases a0 : f (6 * N) < -1048576
   ·
    repeat' (first | refine GWL_start ?_ | refine GWL_step ?_ | refine gwA ?_ | ((first | refine gwR [] ?_ | refine gwD [] ?_); intro Q hQ hP; simp [hC, hY, hin, hi', hz, l0, l1, l2, l3, l4, l5, a0]; refine hQ _ _ _ _ (by kernel_rfl) ?_; clear hQ hP Q) | (refine gwC ?_ ?_ <;> (intro hb; first | (cases hb; done) | skip)))
    refine ⟨.inr rfl, by simp [Tryz.results78], kpS G0F⟩
   by_cases b0 : 1048576 < f (6 * N)
   ·
    repeat' (first | refine GWL_start ?_ | refine GWL_step ?_ | refine gwA ?_ | ((first | refine gwR [] ?_ | refine gwD [] ?_); intro Q hQ hP; simp [hC, hY, hin, hi', hz, l0, l1, l2, l3, l4, l5, a0, b0]; refine hQ _ _ _ _ (by kernel_rfl) ?_; clear hQ hP Q) | (refine gwC ?_ ?_ <;> (intro hb; first | (cases hb; done) | skip)))
    refine ⟨.inr rfl, by simp [Tryz.results78], kpS G0F⟩
   by_cases a3 : f (6 * N + 3) < -65536
   ·
    repeat' (first | refine GWL_start ?_ | refine GWL_step ?_ | refine gwA ?_ | ((first | refine gwR [] ?_ | refine gwD [] ?_); intro Q hQ hP; simp [hC, hY, hin, hi', hz, l0, l1, l2, l3, l4, l5, a0, b0, a3]; refine hQ _ _ _ _ (by kernel_rfl) ?_; clear hQ hP Q) | (refine gwC ?_ ?_ <;> (intro hb; first | (cases hb; done) | skip)))
    refine ⟨.inr rfl, by simp [Tryz.results78], kpS G0F⟩
   by_cases b3 : 65536 < f (6 * N + 3)
   ·
    repeat' (first | refine GWL_start ?_ | refine GWL_step ?_ | refine gwA ?_ | ((first | refine gwR [] ?_ | refine gwD [] ?_); intro Q hQ hP; simp [hC, hY, hin, hi', hz, l0, l1, l2, l3, l4, l5, a0, b0, a3, b3]; refine hQ _ _ _ _ (by kernel_rfl) ?_; clear hQ hP Q) | (refine gwC ?_ ?_ <;> (intro hb; first | (cases hb; done) | skip)))
    refine ⟨.inr rfl, by simp [Tryz.results78], kpS G0F⟩
   by_cases a1 : f (6 * N + 1) < -1048576
   ·
    repeat' (first | refine GWL_start ?_ | refine GWL_step ?_ | refine gwA ?_ | ((first | refine gwR [] ?_ | refine gwD [] ?_); intro Q hQ hP; simp [hC, hY, hin, hi', hz, l0, l1, l2, l3, l4, l5, a0, b0, a3, b3, a1]; refine hQ _ _ _ _ (by kernel_rfl) ?_; clear hQ hP Q) | (refine gwC ?_ ?_ <;> (intro hb; first | (cases hb; done) | skip)))
    refine ⟨.inr rfl, by simp [Tryz.results78], kpS G0F⟩
   by_cases b1 : 1048576 < f (6 * N + 1)
   ·
    repeat' (first | refine GWL_start ?_ | refine GWL_step ?_ | refine gwA ?_ | ((first | refine gwR [] ?_ | refine gwD [] ?_); intro Q hQ hP; simp [hC, hY, hin, hi', hz, l0, l1, l2, l3, l4, l5, a0, b0, a3, b3, a1, b1]; refine hQ _ _ _ _ (by kernel_rfl) ?_; clear hQ hP Q) | (refine gwC ?_ ?_ <;> (intro hb; first | (cases hb; done) | skip)))
    refine ⟨.inr rfl, by simp [Tryz.results78], kpS G0F⟩
   by_cases a4 : f (6 * N + 4) < -65536
   ·
    repeat' (first | refine GWL_start ?_ | refine GWL_step ?_ | refine gwA ?_ | ((first | refine gwR [] ?_ | refine gwD [] ?_); intro Q hQ hP; simp [hC, hY, hin, hi', hz, l0, l1, l2, l3, l4, l5, a0, b0, a3, b3, a1, b1, a4]; refine hQ _ _ _ _ (by kernel_rfl) ?_; clear hQ hP Q) | (refine gwC ?_ ?_ <;> (intro hb; first | (cases hb; done) | skip)))
    refine ⟨.inr rfl, by simp [Tryz.results78], kpS G0F⟩
   by_cases b4 : 65536 < f (6 * N + 4)
   ·
    repeat' (first | refine GWL_start ?_ | refine GWL_step ?_ | refine gwA ?_ | ((first | refine gwR [] ?_ | refine gwD [] ?_); intro Q hQ hP; simp [hC, hY, hin, hi', hz, l0, l1, l2, l3, l4, l5, a0, b0, a3, b3, a1, b1, a4, b4]; refine hQ _ _ _ _ (by kernel_rfl) ?_; clear hQ hP Q) | (refine gwC ?_ ?_ <;> (intro hb; first | (cases hb; done) | skip)))
    refine ⟨.inr rfl, by simp [Tryz.results78], kpS G0F⟩
   by_cases a2 : f (6 * N + 2) < -1048576
   ·
    repeat' (first | refine GWL_start ?_ | refine GWL_step ?_ | refine gwA ?_ | ((first | refine gwR [] ?_ | refine gwD [] ?_); intro Q hQ hP; simp [hC, hY, hin, hi', hz, l0, l1, l2, l3, l4, l5, a0, b0, a3, b3, a1, b1, a4, b4, a2]; refine hQ _ _ _ _ (by kernel_rfl) ?_; clear hQ hP Q) | (refine gwC ?_ ?_ <;> (intro hb; first | (cases hb; done) | skip)))
    refine ⟨.inr rfl, by simp [Tryz.results78], kpS G0F⟩
   by_cases b2 : 1048576 < f (6 * N + 2)
   ·
    repeat' (first | refine GWL_start ?_ | refine GWL_step ?_ | refine gwA ?_ | ((first | refine gwR [] ?_ | refine gwD [] ?_); intro Q hQ hP; simp [hC, hY, hin, hi', hz, l0, l1, l2, l3, l4, l5, a0, b0, a3, b3, a1, b1, a4, b4, a2, b2]; refine hQ _ _ _ _ (by kernel_rfl) ?_; clear hQ hP Q) | (refine gwC ?_ ?_ <;> (intro hb; first | (cases hb; done) | skip)))
    refine ⟨.inr rfl, by simp [Tryz.results78], kpS G0F⟩
   by_cases a5 : f (6 * N + 5) < -65536
   ·
    repeat' (first | refine GWL_start ?_ | refine GWL_step ?_ | refine gwA ?_ | ((first | refine gwR [] ?_ | refine gwD [] ?_); intro Q hQ hP; simp [hC, hY, hin, hi', hz, l0, l1, l2, l3, l4, l5, a0, b0, a3, b3, a1, b1, a4, b4, a2, b2, a5]; refine hQ _ _ _ _ (by kernel_rfl) ?_; clear hQ hP Q) | (refine gwC ?_ ?_ <;> (intro hb; first | (cases hb; done) | skip)))
    refine ⟨.inr rfl, by simp [Tryz.results78], kpS G0F⟩
   by_cases b5 : 65536 < f (6 * N + 5)
   ·
    repeat' (first | refine GWL_start ?_ | refine GWL_step ?_ | refine gwA ?_ | ((first | refine gwR [] ?_ | refine gwD [] ?_); intro Q hQ hP; simp [hC, hY, hin, hi', hz, l0, l1, l2, l3, l4, l5, a0, b0, a3, b3, a1, b1, a4, b4, a2, b2, a5, b5]; refine hQ _ _ _ _ (by kernel_rfl) ?_; clear hQ hP Q) | (refine gwC ?_ ?_ <;> (intro hb; first | (cases hb; done) | skip)))
    refine ⟨.inr rfl, by simp [Tryz.results78], kpS G0F⟩
   exfalso
   omega
theorem rig10_fun (b : Blk) (off n cap : Nat) (f : Nat → Int) (h : SB b off n f) (st : Int) :
  Fun Tryz.prog G0 47 #[.agg #[.int .i64 st, .slice (some ⟨100, off, none⟩) n cap]] (hpL G0 [(100, b)]) (keys [(100, b)]) (.ret (.bool (rightB st f n)) []) := by
 refine fun_ofL (B := 200) G0F Tryz.func47 rfl Tryz.call47 (oneL_ok h.fx) ?_ (by simp) (by simp) (by simp) (by simp [Tryz.ntmps47]) (by omega) ?_
 ·simp [idsV, idsA, idsF, ids0, keys]
 intro C hC hC0 hY
 have hr := fun ρ => Blk.fx_rn h.fx ρ
 unfold rightB
 by_cases c0 : -1073741824 ≤ st
 ·by_cases c1 : st ≤ 1073741824
  ·have es : stB st = true := decide_eq_true ⟨c0, c1⟩
   rw [es]
   by_cases c2 : 1 ≤ n
   ·have c2' : (1 : Int) ≤ n := by omega
    have c2'' : 0 < n := by omega
    by_cases c3 : n ≤ 4
    ·have c4 : (n : Int) ≤ 4 := by omega
     have e : decide (1 ≤ n ∧ n ≤ 4) = true := decide_eq_true (by omega)
     rw [e]
     repeat' (first | refine gwA ?_ | ((first | refine gwR [78] ?_ | refine gwD [78] ?_); intro Q hQ hP; simp [hC, hY, c0, c1, c2, c2', c2'', c3, c4]; (repeat ((first | (refine heapK_mv (w10_fun b off n cap f h st) G0F (B := 200) (oneL_ok h.fx) (fun k => k) (fun k hk => rfl) (by simp [ren, renA, renF, ren0]) (by simp) (by simp [hr]) (by simp [keys]) (by simp [keys]; rfl) ?_)); try simp [hC, hY, c0, c1, c2, c2', c2'', c3, c4])); refine hQ _ _ _ _ (by kernel_rfl) ?_; clear hQ hP Q) | (refine gwC ?_ ?_ <;> (intro hb; first | (cases hb; done) | skip)))
     refine ⟨.inr rfl, by simp [Tryz.results47], kpS G0F⟩
    ·have c4 : ¬ (n : Int) ≤ 4 := by omega
     have e : decide (1 ≤ n ∧ n ≤ 4) = false := decide_eq_false (by omega)
     rw [e]
     repeat' (first | refine gwA ?_ | ((first | refine gwR [] ?_ | refine gwD [] ?_); intro Q hQ hP; simp [hC, hY, c0, c1, c2, c2', c2'', c3, c4]; refine hQ _ _ _ _ (by kernel_rfl) ?_; clear hQ hP Q) | (refine gwC ?_ ?_ <;> (intro hb; first | (cases hb; done) | skip)))
     refine ⟨.inr rfl, by simp [Tryz.results47], kpS G0F⟩
   ·have c2' : ¬ (1 : Int) ≤ n := by omega
    have c2'' : ¬ 0 < n := by omega
    have c2''' : n = 0 := by omega
    have e : decide (1 ≤ n ∧ n ≤ 4) = false := decide_eq_false (by omega)
    rw [e]
    repeat' (first | refine gwA ?_ | ((first | refine gwR [] ?_ | refine gwD [] ?_); intro Q hQ hP; simp [hC, hY, c0, c1, c2, c2', c2'', c2''']; refine hQ _ _ _ _ (by kernel_rfl) ?_; clear hQ hP Q) | (refine gwC ?_ ?_ <;> (intro hb; first | (cases hb; done) | skip)))
    refine ⟨.inr rfl, by simp [Tryz.results47], kpS G0F⟩
  ·have es : stB st = false := decide_eq_false (by omega)
   rw [es]
   repeat' (first | refine gwA ?_ | ((first | refine gwR [] ?_ | refine gwD [] ?_); intro Q hQ hP; simp [hC, hY, c0, c1]; refine hQ _ _ _ _ (by kernel_rfl) ?_; clear hQ hP Q) | (refine gwC ?_ ?_ <;> (intro hb; first | (cases hb; done) | skip)))
   refine ⟨.inr rfl, by simp [Tryz.results47], kpS G0F⟩
 ·have es : stB st = false := decide_eq_false (by omega)
  rw [es]
  repeat' (first | refine gwA ?_ | ((first | refine gwR [] ?_ | refine gwD [] ?_); intro Q hQ hP; simp [hC, hY, c0]; refine hQ _ _ _ _ (by kernel_rfl) ?_; clear hQ hP Q) | (refine gwC ?_ ?_ <;> (intro hb; first | (cases hb; done) | skip)))
  refine ⟨.inr rfl, by simp [Tryz.results47], kpS G0F⟩
theorem rig10_nil (st : Int) : Ret Tryz.prog G0 47 #[.agg #[.int .i64 st, .slice none 0 0]] (.bool false) := by
 refine ret_of G0F Tryz.func47 rfl Tryz.call47 rfl (by simp) (by simp [Tryz.ntmps47]) ?_
 intro C hC hC0 hY
 by_cases c0 : -1073741824 ≤ st
 ·by_cases c1 : st ≤ 1073741824
  ·(repeat' (first | refine gwA ?_ | ((first | refine gwR [] ?_ | refine gwD [] ?_); intro Q hQ hP; simp [hC, hY, c0, c1]; refine hQ _ _ _ _ (by kernel_rfl) ?_; clear hQ hP Q) | (refine gwC ?_ ?_ <;> (intro hb; first | (cases hb; done) | skip))))
   refine ⟨.inr trivial, ?_⟩
   simp [Tryz.results47]
  ·(repeat' (first | refine gwA ?_ | ((first | refine gwR [] ?_ | refine gwD [] ?_); intro Q hQ hP; simp [hC, hY, c0, c1]; refine hQ _ _ _ _ (by kernel_rfl) ?_; clear hQ hP Q) | (refine gwC ?_ ?_ <;> (intro hb; first | (cases hb; done) | skip))))
   refine ⟨.inr trivial, ?_⟩
   simp [Tryz.results47]
 ·(repeat' (first | refine gwA ?_ | ((first | refine gwR [] ?_ | refine gwD [] ?_); intro Q hQ hP; simp [hC, hY, c0]; refine hQ _ _ _ _ (by kernel_rfl) ?_; clear hQ hP Q) | (refine gwC ?_ ?_ <;> (intro hb; first | (cases hb; done) | skip))))
  refine ⟨.inr trivial, ?_⟩
  simp [Tryz.results47]
@[simp] theorem rig10N (st : Int) (K : Value → Prop) : callK Tryz.prog G0 47 #[.agg #[.int .i64 st, .slice none 0 0]] K ↔ K (.bool false) := callK_iff G0W (by kernel_rfl) (rig10_nil st)
end Go.Gy
namespace Go.Gy
set_option linter.unusedSimpArgs false
open Go Go.RowKit
section
variable {P : Program} {C : Ctx} {n : Nat} {d : List Deferred} {ro : Option Nat} {s : GS} {K : Exit → GS → Prop}
def RowAtK (κ : IntKind) (m i : Nat) (G : Nat → Int) (e : TypeId) (hp : Hp) (sl : Value) : Prop := (i = 0 ∧ sl = .slice none 0 0) ∨ ∃ (k c : Nat) (g : Nat → Int), 100 ≤ k ∧ sl = .slice (some ⟨k, 0, none⟩) i c ∧ hp k = some ⟨fa (m * c) κ g, .ty e⟩ ∧ i ≤ c ∧ ∀ j, j < m * i → g j = G j
theorem GL_pushK (κ : IntKind) {ops : Array Oper} {o : Oper} {post : List Oper} {base k : Nat} {ts : Nat → Value} {hp : Hp} {yc : Nat} {tx ty : Tmp} {t e : TypeId} {m i j by' : Nat} {z : Value} {T2 : BTy} {G ev : Nat → Int} (hg : o.guard = none) (hd : ∀ dd, o.dst = some dd → dd < n)
  (ho : o.op = .call { callee := .builtin .append, args := #[.tmp tx, .tmp ty], argTypes := #[t, t] }) (ht : P.underlying t = some (.slice e)) (hs : tySize P e = some m) (hz : tyZero P e = some z) (hby : tyBytes P e = some by') (hb8 : by' ≤ 8 * m)
  (hzz : ∀ x ∈ z.cells, x = .int κ 0) (hzs : z.cells.size = m) (hm0 : 0 < m) (hm1 : m ≤ 1024) (hx : RowAtK κ m i G e hp (ts tx)) (hy : ts ty = .slice (some ⟨j, 0, none⟩) 1 1) (hb2 : hp j = some ⟨fa m κ ev, T2⟩) (hev : ∀ q, q < m → ev q = G (m * i + q)) (hi20 : (i + 1) * (8 * m) ≤ 140737488355328)
  (h : ∀ k' c' g', (k' = base + 8 * k ∨ ∃ c, ts tx = .slice (some ⟨k', 0, none⟩) i c) → 100 ≤ k' → i + 1 ≤ c' → (∀ q, q < m * (i + 1) → g' q = G q) →
   GL P C n d ro ops base (k + 1) post (putT ts o.dst (.slice (some ⟨k', 0, none⟩) (i + 1) c')) (upd hp k' (some ⟨fa (m * c') κ g', .ty e⟩)) yc K) (hrd : T2.rd = true := by first | rfl | assumption) : GL P C n d ro ops base k (o :: post) ts hp yc K := by
 have hzf : ∀ q, ∀ x ∈ Builtin.zeroCells z.cells q, flatF x = true := fun q x hx => by rw [hzz x (zc_mem hx)]; rfl
 by_cases hb100 : ¬ 100 ≤ base
 ·intro r a W hi hf hb hG hR
  exact absurd hb hb100
 replace hb100 : 100 ≤ base := Classical.not_not.1 hb100
 have hle : m * (i + 1) = m * i + m := by rw [Nat.mul_add, Nat.mul_one]
 have hmi : m * i ≤ 140737488355328 := Nat.le_trans (by rw [Nat.mul_comm]; exact Nat.mul_le_mul (by omega) (by omega)) hi20
 have hi1 : i + 1 ≤ 140737488355328 := Nat.le_trans (Nat.le_mul_of_pos_right _ (by omega)) hi20
 have h8 : (i + 1) * by' ≤ 140737488355328 := Nat.le_trans (Nat.mul_le_mul (Nat.le_refl _) hb8) hi20
 rcases hx with ⟨rfl, hx⟩ | ⟨k0, c, g, hk0, hx, hb, hic, hgG⟩
 ·refine GL_app0 (nw := (fa m κ ev).toList) hg hd ho ht hs hz hby hx hy hb2 (fun q u hq => by simpa using hq) fa_list_flat hzf (by omega) (by simp) (by unfold maxLen; omega) (by omega) (fun cap' hc' => ?_)
  rw [zeros_fa (k := κ) hzz, app_new, hzs]
  have em : m + (cap' - 1) * m = m * cap' := by
   have : cap' = (cap' - 1) + 1 := by omega
   rw [this, Nat.mul_add, Nat.mul_comm m]; simp; omega
  rw [em]
  refine h _ cap' _ (.inl rfl) (by omega) (by omega) fun q hq => ?_
  unfold catN
  rw [if_pos (by omega)]
  have := hev q (by omega)
  simpa using this
 ·refine GL_app hg hd (appX_mk (c := (fa (m * c) κ g).toList) (c2 := (fa m κ ev).toList) (k := k0) (j := j) (m := 1) (m' := 1) (sl := i) (cap := c) (e := e) (T2 := T2) (sz := m) (by' := by') (z := z) ho ht hs hz hby hx hk0 (by simpa using hb) fa_list_flat hy (by simpa using hb2) fa_list_flat fa_list_one hzf (by simp) (by rw [fa_toList_len, Nat.mul_comm]; exact Nat.le_refl _) hic (by unfold maxLen; omega) h8 (fun hr => ?_) (fun hr cap' hc' => ?_))
  ·have hcm : m * (i + 1) ≤ m * c := Nat.mul_le_mul (Nat.le_refl _) hr
   rw [Nat.mul_comm i m, app_room (by omega)]
   refine h k0 c _ (.inr ⟨c, hx⟩) hk0 hr fun q hq => ?_
   unfold putN
   by_cases hq1 : q < m * i
   ·rw [if_neg (by omega)]; exact hgG q hq1
   ·rw [if_pos (by omega), hev _ (by omega)]; congr 1; omega
  ·have hcm : m * i ≤ m * c := Nat.mul_le_mul (Nat.le_refl _) hic
   rw [Nat.mul_comm i m, zeros_fa (k := κ) hzz, hzs, app_grow (by omega)]
   have em : m * i + m + (cap' - (i + 1)) * m = m * cap' := by
    obtain ⟨x, rfl⟩ : ∃ x, cap' = i + 1 + x := ⟨cap' - (i + 1), by omega⟩
    rw [show i + 1 + x - (i + 1) = x by omega, Nat.mul_add, Nat.mul_add, Nat.mul_one, Nat.mul_comm x m]
   rw [em]
   refine h _ cap' _ (.inl rfl) (by omega) hc' fun q hq => ?_
   unfold catN
   by_cases hq1 : q < m * i
   ·rw [if_pos hq1]; exact hgG q hq1
   ·rw [if_neg hq1, if_pos (by omega), hev _ (by omega)]; congr 1; omega
theorem FunS.mvL {G : Hp} {f : FuncId} {args args' : Array Value} {m : List (Nat × Blk)} {B : Nat} {R R' : Value → List (Nat × Blk) → Prop} {hp' : Hp} {rs' : List Nat} (h : FunS P G f args (hpL G m) (keys m) R) (hGF : GFlat G) (hm : LOk m B) (ρ : Nat → Nat) (hlow : ∀ k, k < 100 → ρ k = k)
  (ea : args.map (ren ρ) = args') (er : (keys m).map ρ = rs') (eR : RR ρ R = R') (hp0 : ∀ k, k < 100 → hp' k = G k) (hat : ∀ p ∈ m, 100 ≤ ρ p.1 ∧ hp' (ρ p.1) = some (p.2.rn ρ)) (hinj : ∀ k ∈ keys m, ∀ l ∈ keys m, ρ k = ρ l → k = l)
  (hnew : ∀ v ns, R v ns → ∀ k ∈ keys ns, 100 ≤ ρ k ∧ ρ k ∉ rs') (hnj : ∀ v ns, R v ns → ∀ k ∈ keys ns, ∀ l ∈ keys ns, ρ k = ρ l → k = l) : FunS P G f args' hp' rs' R' := by
 subst ea er eR
 refine h.rn ρ hGF hm.low (rn_ofL hm ρ hlow hp0 hat hinj) (fun v ns hR k hk => ?_) hnj
 obtain ⟨h1, h2⟩ := hnew v ns hR k hk
 refine ⟨h1, fun hd => hd ?_⟩
 unfold rst
 rw [if_neg]
 rintro (h3 | h3)
 ·omega
 ·exact h2 h3
theorem GL_callL {G : Hp} {ops : Array Oper} {o : Oper} {post : List Oper} {base k : Nat} {ts : Nat → Value} {hp hp' : Hp} {yc : Nat} {c : Call} {f : Operand} {g : FuncId} {cap : Array Value} {rs : List Nat} {args : Array Value} {R : Value → List (Nat × Blk) → Prop} (hCG : C.G = G) (hr : FunS P G g args hp' rs R) (hg : o.guard = none) (hd : ∀ dd, o.dst = some dd → dd < n)
  (ho : o.op = .call c) (hc : c.callee = .value f) (hf : okT ts f) (hgf : gev ts f = .func (.func g) #[] cap) (hcp : cap.all plain0 = true) (ha : ∀ x ∈ c.args.toList, okX ts hp x) (hargs : c.args.map (gev ts) ++ cap = args)
  (h1 : ∀ q ∈ rs, hp' q = hp q) (h2 : ∀ q, q < 100 → hp' q = hp q) (hat : ∀ v ns, R v ns → ∀ q ∈ keys ns, base + 8 * k ≤ q ∧ q < base + 8 * k + 8)
  (h : ∀ v ns, R v ns → GL P C n d ro ops base (k + 1) post (putT ts o.dst v) (updL hp ns) yc K) : GL P C n d ro ops base k (o :: post) ts hp yc K := by
 subst hCG
 exact GL_callS hg hd ho hc hf hgf hcp ha hargs hr h1 h2 hat h
end
end Go.Gy
namespace Go.Gy
set_option linter.unusedSimpArgs false
set_option linter.unusedVariables false
open Go Go.RowKit Go.Proofs
theorem nilL_ok : LOk [] 200 := ⟨by simp, by simp [keys], by simp⟩
def stB' (st : Int) (k off n cap : Nat) : Blk := ⟨#[.int .i64 st, .slice (some ⟨k, off, none⟩) n cap], .ty 27⟩
end Go.Gy
namespace Go.Gy
open Go Go.RowKit Go.Proofs
theorem inV_iff {m x y z : Int} : inV m x y z = true ↔ inW m x ∧ inW m y ∧ inW m z := by unfold inV; exact decide_eq_true_iff
theorem right_n {st : Int} {f : Nat → Int} {n : Nat} (h : rightB st f n = true) : (-1073741824 ≤ st ∧ st ≤ 1073741824) ∧ (1 ≤ n ∧ n ≤ 4) ∧ ∀ i, i < n → inB 1048576 65536 f i = true := by
 unfold rightB stB at h
 simp only [Bool.and_eq_true, decide_eq_true_eq] at h
 exact ⟨h.1.1, h.1.2, allB_iff.1 h.2⟩
theorem right_b {st : Int} {f : Nat → Int} {n : Nat} (h : rightB st f n = true) {i : Nat} (hi : i < n) : (inW 1048576 (f (6 * i)) ∧ inW 1048576 (f (6 * i + 1)) ∧ inW 1048576 (f (6 * i + 2))) ∧ (inW 65536 (f (6 * i + 3)) ∧ inW 65536 (f (6 * i + 4)) ∧ inW 65536 (f (6 * i + 5))) := by
 have := (right_n h).2.2 i hi
 unfold inB at this
 rw [Bool.and_eq_true, inV_iff, inV_iff] at this
 exact this
end Go.Gy
namespace Go.Gy
set_option linter.unusedSimpArgs false
set_option linter.unusedVariables false
open Go Go.RowKit Go.Proofs
def wF (x : Nat → Int) (j : Nat) : Int := wi (x (j / 4)) (j % 4)
def wRow (c : Nat) (g : Nat → Int) : Blk := ⟨fa (4 * c) .u64 g, .ty 30⟩
theorem wRow_fx (c : Nat) (g : Nat → Int) : (wRow c g).fx := fun x hx => by
 obtain ⟨m, rfl⟩ := fa_mem hx
 rfl
theorem wRow_ok (c : Nat) (g : Nat → Int) : LOk [(100, wRow c g)] 200 := oneL_ok (wRow_fx c g)
theorem wRow_rd {c n : Nat} {g : Nat → Int} {x : Nat → Int} (hg : ∀ j, j < 4 * n → g j = wF x j) {i : Nat} (hi : i < n) (hc : n ≤ c) : (fa (4 * c) .u64 g).extract (i * 4) (i * 4 + 4) = #[.int .u64 (wi (x i) 0), .int .u64 (wi (x i) 1), .int .u64 (wi (x i) 2), .int .u64 (wi (x i) 3)] := by
 have h : ∀ k, k < 4 → g (i * 4 + k) = wi (x i) k := fun k hk => by
  rw [hg _ (by omega)]
  unfold wF
  rw [show (i * 4 + k) / 4 = i by omega, show (i * 4 + k) % 4 = k by omega]
 rw [← h 0 (by omega), ← h 1 (by omega), ← h 2 (by omega), ← h 3 (by omega)]
 apply Array.ext
 ·simp; omega
 ·intro k h1 h2
  simp at h2
  rw [Array.getElem_extract, fa_gete]
  have : k = 0 ∨ k = 1 ∨ k = 2 ∨ k = 3 := by omega
  rcases this with rfl | rfl | rfl | rfl <;> rfl
theorem wr_small {a : Int} (h0 : 0 ≤ a) (h1 : a ≤ 9223372036854775807) : wr a := i64_wr ⟨by omega, by omega⟩
def smSt (c n cap : Nat) (g x : Nat → Int) (i : Nat) : GS :=
 ⟨tsL [(2, .pointer (some ⟨200, 0, none⟩)), (3, .bool false), (8, .slice (some ⟨100, 0, none⟩) n cap), (9, .int .i64 n), (10, .int .i64 i)],
 hpL G0 [(100, wRow c g), (200, ⟨#[.int .u64 (wi (sumN x i) 0), .int .u64 (wi (sumN x i) 1), .int .u64 (wi (sumN x i) 2), .int .u64 (wi (sumN x i) 3)], .ty 30⟩)], 400, 0⟩
theorem wSum_fun (c n : Nat) (g x : Nat → Int) (hnc : n ≤ c) (hn : n ≤ 1000) (hg : ∀ j, j < 4 * n → g j = wF x j) (hx : ∀ j, j < n → 0 ≤ x j ∧ x j ≤ 1152921504606846) :
  Fun Tryz.prog G0 36 #[.slice (some ⟨100, 0, none⟩) n c] (hpL G0 [(100, wRow c g)]) (keys [(100, wRow c g)]) (.ret (.tuple #[wd (sumN x n), .bool false]) []) := by
 refine fun_ofL (B := 200) G0F Tryz.func36 rfl Tryz.call36 (wRow_ok c g) ?_ ?_ (by simp) (by simp) (by simp [Tryz.ntmps36]) (by omega) ?_
 ·simp [idsV, idsA, idsF, ids0, keys]
 ·exact flatV_ids (by simp)
 intro C hC hC0 hY
 have hid : ∀ D, Blk.ids D ⟨fa (4 * c) .u64 g, .ty 30⟩ := fun D => Blk.fx_ids (wRow_fx c g) D
 have e0 : sumN x 0 = 0 := rfl
 unfold wRow at hC0 ⊢
 repeat' (first | refine gwA ?_ | ((first | refine gwR [] ?_ | refine gwD [] ?_); intro Q hQ hP; simp [hC, hY, wi_zero]; refine hQ _ _ _ _ (by kernel_rfl) ?_; clear hQ hP Q) | (refine gwC ?_ ?_ <;> (intro hb; first | (cases hb; done) | skip)))
 refine GW_for n (smSt c n c g x) ?_ ?_ ?_
 ·refine weakL _ 400 hC G0F (m0 := [(100, ⟨fa (4 * c) .u64 g, .ty 30⟩)]) hC0 (by omega) ?_ ?_ ?_
  ·simp [smSt, wRow, idsV, idsA, idsF, ids0, dom]
  ·simp [smSt, wRow, ids_lit, idsF, ids0, hid, e0, wi_zero]
  ·simp [smSt, wRow, e0, wi_zero]
 ·intro i hi
  have hi' : (i : Int) < n := by omega
  have hz : (0 : Int) ≤ i := by omega
  have hs : Int.bmod ((i : Int) + 1) 18446744073709551616 = ((i + 1 : Nat) : Int) := by rw [bm (by omega) (by omega)]; rfl
  have hrd := wRow_rd hg hi hnc
  have hle : i * 4 + 4 ≤ 4 * c := by omega
  have hxi := hx i hi
  have hb := sumN_bd (f := x) (n := i) (lo := 0) (hi := 1152921504606846) fun j hj => hx j (by omega)
  have hb1 : sumN x i ≤ 1000 * 1152921504606846 := Int.le_trans hb.2 (Int.mul_le_mul_of_nonneg_right (by omega) (by omega))
  have hb0 : 0 ≤ sumN x i := by omega
  have w1 := wr_small hb0 (by omega)
  have w2 := wr_small hxi.1 (by omega)
  have w3 : wr (sumN x i + x i) := wr_small (by omega) (by omega)
  have g1 := ng_f w1 hb0
  have g2 := ng_f w2 hxi.1
  have g3 := ng_f w3 (by omega)
  have es : sumN x (i + 1) = sumN x i + x i := rfl
  unfold smSt wRow
  repeat' (first | refine gwA ?_ | ((first | refine gwR [] ?_ | refine gwD [] ?_); intro Q hQ hP; simp [hC, hY, hi', hz, hrd, hle]; refine hQ _ _ _ _ (by kernel_rfl) ?_; clear hQ hP Q) | (refine gwC ?_ ?_ <;> (intro hb; first | (cases hb; done) | skip)))
  refine weakL _ 400 hC G0F (m0 := [(100, ⟨fa (4 * c) .u64 g, .ty 30⟩)]) hC0 (by omega) ?_ ?_ ?_
  ·simp [idsV, idsA, idsF, ids0, dom, hs, g1, g2, g3]
  ·simp [ids_lit, idsF, ids0, hid, es]
  ·simp [es]
 ·unfold smSt wRow
  repeat' (first | refine gwA ?_ | ((first | refine gwR [] ?_ | refine gwD [] ?_); intro Q hQ hP; simp [hC, hY]; refine hQ _ _ _ _ (by kernel_rfl) ?_; clear hQ hP Q) | (refine gwC ?_ ?_ <;> (intro hb; first | (cases hb; done) | skip)))
  refine ⟨.inr rfl, by simp [Tryz.results36], kpS G0F⟩
end Go.Gy
namespace Go.Gy
set_option linter.unusedSimpArgs false
set_option linter.unusedVariables false
open Go Go.RowKit Go.Proofs
end Go.Gy
namespace Go.Gy
set_option linter.unusedSimpArgs false
open Go Go.RowKit
section
variable {P : Program} {C : Ctx} {n : Nat} {d : List Deferred} {ro : Option Nat} {s : GS} {K : Exit → GS → Prop}
structure AFree (ops : Array Oper) (base : Nat) (listed : Array Bool) (hp : Hp) : Prop where
 at' : ∀ i, listed[i]? = some false → ∀ x, base + 8 * i ≤ x → x < base + 8 * i + 8 → hp x = none
 up : ∀ x, base + 8 * ops.size ≤ x → hp x = none
def GA (P : Program) (C : Ctx) (n : Nat) (d : List Deferred) (ro : Option Nat) (ops : Array Oper) (base : Nat) (fuel : Nat) (listed : Array Bool) (ts : Nat → Value) (hp : Hp) (yc : Nat) (K : Exit → GS → Prop) : Prop :=
 ∀ r a W, RI C n d r ts hp yc a W → AFree ops base listed hp → 100 ≤ base → GFlat C.G → (∀ y, C.Y = some y → Rounds P C.G C.E y) → wpAnyIn (Fw P ro) 0 P .any ops (fun e a' W' => ∃ s' r', K e s' ∧ GI P C n d r' s' a' W') fuel listed a W
def GO (P : Program) (C : Ctx) (n : Nat) (d : List Deferred) (ro : Option Nat) (ops : Array Oper) (base : Nat) (fuel : Nat) (listed : Array Bool) (i : Nat) (ts : Nat → Value) (hp : Hp) (yc : Nat) (K : Exit → GS → Prop) : Prop :=
 ∀ r a W, RI C n d r ts hp yc a W → AFree ops base listed hp → 100 ≤ base → GFlat C.G → (∀ y, C.Y = some y → Rounds P C.G C.E y) → wpOpIn (Fw P ro) 0 P ops (fun e a' W' => ∃ s' r', K e s' ∧ GI P C n d r' s' a' W') i (wpAnyIn (Fw P ro) 0 P .any ops (fun e a' W' => ∃ s' r', K e s' ∧ GI P C n d r' s' a' W') fuel (listed.setIfInBounds i true)) a W
theorem GW_any {id : Nat} {l : List Oper} (hm : P.follows .mixedOrders = true) (h : GA P C n d ro l.toArray s.B l.length (Array.replicate l.length false) s.ts s.hp s.yc K) : GW P C n d ro (.region id l.toArray true) s K := fun r a W hi =>
 wpIn_region_any hm (by
  have := h r a _ hi.ri.drew ⟨fun i _ x hx _ => hi.free x (by omega), fun x hx => hi.free x (by omega)⟩ hi.low hi.flat hi.rounds
  simpa using this)
theorem GA_nil {ops : Array Oper} {base fuel : Nat} {listed : Array Bool} {ts : Nat → Value} {hp : Hp} {yc : Nat} (hr : Region.ready .any ops listed = []) (h : K .normal ⟨ts, hp, base + 8 * ops.size, yc⟩) : GA P C n d ro ops base fuel listed ts hp yc K := fun r a W hi hf hb hG hR => by
 have hq : ∃ s' r', K .normal s' ∧ GI P C n d r' s' a W := ⟨⟨ts, hp, _, yc⟩, r, h, hi, hf.up, by show 100 ≤ base + 8 * ops.size; omega, hG, hR⟩
 cases fuel with
 | zero => exact ⟨hr, hq⟩
 | succ k => exact ⟨fun _ => hq, fun i hi => by rw [hr] at hi; cases hi⟩
theorem GA_step {ops : Array Oper} {base fuel : Nat} {listed : Array Bool} {ts : Nat → Value} {hp : Hp} {yc : Nat} (l : List Nat) (hr : Region.ready .any ops listed = l) (hl : l.isEmpty = false) (h : ∀ i ∈ l, GO P C n d ro ops base fuel listed i ts hp yc K) : GA P C n d ro ops base (fuel + 1) listed ts hp yc K := fun r a W hi hf hb hG hR => by
 refine ⟨fun h0 => ?_, fun i hm => h i (by rw [← hr]; exact hm) r a W hi hf hb hG hR⟩
 rw [hr] at h0; rw [h0] at hl; cases hl
theorem AFree.after {ops : Array Oper} {base : Nat} {listed : Array Bool} {hp hp' : Hp} (h : AFree ops base listed hp) {i : Nat} (hi : i < ops.size) (e : ∀ x, hp x = none → ¬ (base + 8 * i ≤ x ∧ x < base + 8 * i + 8) → hp' x = none) : AFree ops base (listed.setIfInBounds i true) hp' := by
 refine ⟨fun j hj x h1 h2 => ?_, fun x hx => e x (h.up x hx) (by omega)⟩
 rw [Array.getElem?_setIfInBounds] at hj
 split at hj
 ·split at hj <;> cases hj
 ·exact e x (h.at' j hj x h1 h2) (by omega)
theorem GO_walk {l0 : List Oper} {o : Oper} {post : List Oper} {base i fuel : Nat} {listed : Array Bool} {ts : Nat → Value} {hp : Hp} {yc : Nat} (pn : List FuncId) (hl : l0.drop i = o :: post) (hdst : (dstOk n [o] && unOk P [o]) = true) (hi : listed[i]? = some false)
  (h : ∀ q : (Nat → Value) → Hp → Tr → Nat → Prop, (∀ ts hp tr yc, GA P C n d ro l0.toArray base fuel (listed.setIfInBounds i true) ts hp yc K → q ts hp tr yc) →
   lexS P C.G ⟨C.Y, pn, false⟩ base ⟨q, fun _ _ => False⟩ ((l0.take i).map (·.dst)).reverse i [o] ts hp [] yc true false) : GO P C n d ro l0.toArray base fuel listed i ts hp yc K := by
 intro r a W hRI hf hb hG hR
 simp only [Bool.and_eq_true] at hdst
 have hok := And.intro (dstOk_spec hdst.1 (List.mem_singleton.2 rfl)) (unOk_spec hdst.2 o (List.mem_singleton.2 rfl))
 have hi0 : l0[i]? = some o := by
  have := congrArg (fun l => l[0]?) hl
  simpa [List.getElem?_drop] using this
 have hlt : i < l0.length := (List.getElem?_eq_some_iff.1 hi0).1
 have hh := h (fun ts hp _ yc => GA P C n d ro l0.toArray base fuel (listed.setIfInBounds i true) ts hp yc K) (fun _ _ _ _ a => a)
 have ek : (l0.take i).length = i := by simp; omega
 have hx : lexX P C.G ⟨C.Y, pn, false⟩ l0.toArray base (fun ts hp _ yc => GA P C n d ro l0.toArray base fuel (listed.setIfInBounds i true) ts hp yc K) (fun _ _ => False) i [o] ts hp [] yc true false := by
  refine lexX_of_lexS' (Q := ⟨_, fun _ _ => False⟩) [o] _ i _ _ _ _ _ _ (fun j hj => ?_) (fun j hj => ?_) hh
  ·rw [List.getElem?_reverse (by simp; omega)]
   simp only [List.length_map, ek, List.getElem?_map, List.getElem?_toArray]
   rw [show i - 1 - (i - 1 - j) = j by omega, List.getElem?_take, if_pos hj]
   cases l0[j]? <;> rfl
  ·obtain rfl : j = 0 := by simpa using hj
   simp [hi0]
 have hfree : ∀ x, base + 8 * i ≤ x → x < base + 8 * i + 8 → hp x = none := hf.at' i hi
 unfold wpOpIn
 rw [List.getElem?_toArray, hi0]
 simp only
 simp only [lexX] at hx
 cases hw : wantedG l0.toArray o ts with
 | none => rw [hw] at hx; exact hx.elim
 | some b =>
  rw [hw] at hx
  rw [wantedG_eq hRI.rel hw]
  cases b with
  | true =>
   simp only at hx
   simp only [if_true]
   obtain ⟨e, h1, hs, hyd, h3⟩ := opX_sound hG hRI.glob hx
   refine meets hG hR o e ts hp yc r a W 0 _ _ hRI hok.1 h1 (fun x hx => (hs.ws x hx).2) (fun x hx => ?_) (fun r' a' W' hpn hi' => ?_) (fun pv W' yc' hpn hi' => ?_)
   ·have := hs.ns x hx; exact ⟨hfree x (by omega) (by omega), by omega⟩
   ·rw [hpn] at h3
    refine h3 r' a' W' hi' (hf.after (by simpa using hlt) fun x hx0 hx1 => ?_) hb hG hR
    rw [updL_other (fun hm => ?_)]
    ·exact hx0
    ·have : x ∈ keys e.ws ∨ x ∈ keys e.ns := by simpa [keys] using hm
     rcases this with h | h
     ·exact (hs.ws x h).2.1 hx0
     ·have := hs.ns x h; omega
   ·rw [hpn] at h3
    exact h3.2.2.elim
  | false =>
   simp only at hx
   simp only [Bool.false_eq_true, if_false]
   exact ⟨meetsU (Y := none) o ts r _ a W hRI.rel ⟨hx.1, hok.2⟩, hx.2 r _ W (hRI.put_undef hok.1.1) (hf.after (by simpa using hlt) fun x hx0 _ => hx0) hb hG hR⟩
theorem GO_callL {G : Hp} {ops : Array Oper} {o : Oper} {base i fuel : Nat} {listed : Array Bool} {ts : Nat → Value} {hp hp' : Hp} {yc : Nat} {c : Call} {f : Operand} {g : FuncId} {cap : Array Value} {rs : List Nat} {args : Array Value} {R : Value → List (Nat × Blk) → Prop} (hCG : C.G = G) (hr : FunS P G g args hp' rs R) (hio : ops[i]? = some o) (hi : listed[i]? = some false) (hg : o.guard = none) (hd : ∀ dd, o.dst = some dd → dd < n)
  (ho : o.op = .call c) (hc : c.callee = .value f) (hf : okT ts f) (hgf : gev ts f = .func (.func g) #[] cap) (hcp : cap.all plain0 = true) (ha : ∀ x ∈ c.args.toList, okX ts hp x) (hargs : c.args.map (gev ts) ++ cap = args)
  (h1 : ∀ q ∈ rs, hp' q = hp q) (h2 : ∀ q, q < 100 → hp' q = hp q) (hat : ∀ v ns, R v ns → ∀ q ∈ keys ns, base + 8 * i ≤ q ∧ q < base + 8 * i + 8)
  (h : ∀ v ns, R v ns → GA P C n d ro ops base fuel (listed.setIfInBounds i true) (putT ts o.dst v) (updL hp ns) yc K) : GO P C n d ro ops base fuel listed i ts hp yc K := by
 subst hCG
 intro r a W hRI hfr hb hG hR
 unfold wpOpIn
 rw [hio]
 simp only [Region.wanted, hg, if_true]
 refine step_callS hG hRI hd ho hc hf hgf hcp ha (by rw [hargs]; exact hr.under fun q hq => hq.elim (h2 q) (h1 q)) (fun v ns hRv q hq => hfr.at' i hi q (hat v ns hRv q hq).1 (hat v ns hRv q hq).2) (fun v ns hRv r' a' W' hi' => h v ns hRv r' a' W' hi' (hfr.after (Array.getElem?_eq_some_iff.1 hio).1 fun x hx hx1 => ?_) hb hG hR)
 rw [updL_other (fun hm => hx1 (hat v ns hRv x hm))]
 exact hx
end
end Go.Gy
namespace Go.Gy
set_option linter.unusedSimpArgs false
set_option linter.unusedVariables false
open Go Go.RowKit Go.Proofs
end Go.Gy
namespace Go.Gy
set_option linter.unusedSimpArgs false
set_option linter.unusedVariables false
open Go Go.RowKit Go.Proofs
@[simp] theorem smap : strMap Tryz.prog 121 = true := by kernel_rfl
def wiB (n lo hi : Int) : Bool := decide (lo ≤ n ∧ n ≤ hi)
theorem cwi_ret (n lo hi : Int) : Ret Tryz.prog G0 124 #[.int .i64 n, .int .i64 lo, .int .i64 hi] (.bool (wiB n lo hi)) := by
 refine ret_of G0F Tryz.func124 rfl Tryz.call124 rfl (by simp) (by simp [Tryz.ntmps124]) ?_
 intro C hC hC0 hY
 unfold wiB
 by_cases c0 : lo ≤ n
 ·by_cases c1 : n ≤ hi
  ·rw [decide_eq_true ⟨c0, c1⟩]
   (repeat' (first | refine gwA ?_ | ((first | refine gwR [] ?_ | refine gwD [] ?_); intro Q hQ hP; simp [hC, hY, c0, c1]; refine hQ _ _ _ _ (by kernel_rfl) ?_; clear hQ hP Q) | (refine gwC ?_ ?_ <;> (intro hb; first | (cases hb; done) | skip))))
   refine ⟨.inr trivial, ?_⟩
   simp [Tryz.results124]
  ·rw [decide_eq_false (by omega)]
   (repeat' (first | refine gwA ?_ | ((first | refine gwR [] ?_ | refine gwD [] ?_); intro Q hQ hP; simp [hC, hY, c0, c1]; refine hQ _ _ _ _ (by kernel_rfl) ?_; clear hQ hP Q) | (refine gwC ?_ ?_ <;> (intro hb; first | (cases hb; done) | skip))))
   refine ⟨.inr trivial, ?_⟩
   simp [Tryz.results124]
 ·rw [decide_eq_false (by omega)]
  (repeat' (first | refine gwA ?_ | ((first | refine gwR [] ?_ | refine gwD [] ?_); intro Q hQ hP; simp [hC, hY, c0]; refine hQ _ _ _ _ (by kernel_rfl) ?_; clear hQ hP Q) | (refine gwC ?_ ?_ <;> (intro hb; first | (cases hb; done) | skip))))
  refine ⟨.inr trivial, ?_⟩
  simp [Tryz.results124]
@[simp] theorem cwi (n lo hi : Int) (K : Value → Prop) : callK Tryz.prog G0 124 #[.int .i64 n, .int .i64 lo, .int .i64 hi] K ↔ K (.bool (wiB n lo hi)) := callK_iff G0W (by kernel_rfl) (cwi_ret n lo hi)
def NumR (nk : Nat) (a m : Int) (v : Value) (ns : List (Nat × Blk)) : Prop := v = .func (.func 123) #[] #[.pointer (some ⟨nk, 0, none⟩), .pointer (some ⟨nk + 1, 0, none⟩)] ∧ ns = [(nk, jb a), (nk + 1, jb m)]
theorem num_fun (a m : Int) : FunS Tryz.prog G0 122 #[.int .i64 a, .int .i64 m] (hpL G0 []) (keys []) (NumR 1000 a m) := by
 refine newS_ofL (B := 200) G0F Tryz.func122 rfl Tryz.call122 ⟨by simp, by simp [keys], by simp⟩ ?_ ?_ (by simp [Tryz.ntmps122]) (by omega) ?_
 ·simp [idsV, idsA, idsF, ids0, keys]
 ·rintro v ns ⟨rfl, rfl⟩
  refine ⟨by simp [idsV, idsA, idsF, ids0, extD, keys], by simp [jb, ids_lit, idsF, ids0], ?_⟩
  intro k b c h1 h2
  simp at h1 h2
  rcases h1 with ⟨e1, rfl⟩ | ⟨e1, rfl⟩ <;> rcases h2 with ⟨e2, rfl⟩ | ⟨e2, rfl⟩ <;> first | rfl | omega
 intro C hC hC0 hY
 repeat' (first | refine gwA ?_ | ((first | refine gwR [] ?_ | refine gwD [] ?_); intro Q hQ hP; simp [hC, hY]; refine hQ _ _ _ _ (by kernel_rfl) ?_; clear hQ hP Q) | (refine gwC ?_ ?_ <;> (intro hb; first | (cases hb; done) | skip)))
 refine ⟨.inr trivial, kpS G0F, _, _, fun k => if k = 1000 then 200 else if k = 1001 then 208 else k, ⟨rfl, rfl⟩, fun k hk => ?_, by simp, by simp, by simp [Tryz.results122, ren, renA, renF, ren0], ?_⟩
 ·dsimp only
  rw [if_neg (by omega), if_neg (by omega)]
 ·simp [jb_rn]
  simp [jb]
theorem numR_rr {nk nk' : Nat} {a m : Int} {ρ : Nat → Nat} (h0 : ρ nk = nk') (h1 : ρ (nk + 1) = nk' + 1) : RR ρ (NumR nk a m) = NumR nk' a m := by
 funext v ns
 apply propext
 constructor
 ·rintro ⟨v0, ns0, ⟨rfl, rfl⟩, rfl, rfl⟩
  exact ⟨by simp [ren, renA, renF, ren0, h0, h1], by simp [rnL, jb_rn, h0, h1]⟩
 ·rintro ⟨rfl, rfl⟩
  exact ⟨_, _, ⟨rfl, rfl⟩, by simp [ren, renA, renF, ren0, h0, h1], by simp [rnL, jb_rn, h0, h1]⟩
def up2 (nk k : Nat) : Nat := if 1000 ≤ k then (if k < 1002 then k - 1000 + nk else k) else k
theorem num_at (nk : Nat) (hnk : 200 ≤ nk) (a m : Int) : FunS Tryz.prog G0 122 #[.int .i64 a, .int .i64 m] (hpL G0 []) [] (NumR nk a m) := by
 have e2 : ∀ j, j < 2 → up2 nk (1000 + j) = nk + j := fun j hj => by unfold up2; rw [if_pos (by omega), if_pos (by omega)]; omega
 have hk2 : ∀ v ns, NumR 1000 a m v ns → ∀ k ∈ keys ns, ∃ j, j < 2 ∧ k = 1000 + j := by
  rintro v ns ⟨rfl, rfl⟩ k hk
  simp [keys] at hk
  rcases hk with rfl | rfl
  ·exact ⟨0, by omega, rfl⟩
  ·exact ⟨1, by omega, rfl⟩
 have h0 := (num_fun a m).rn (up2 nk) G0F nilL_ok.low (hp' := hpL G0 []) (rn_ofL nilL_ok _ (fun k hk => by unfold up2; rw [if_neg (by omega)]) nilL_ok.low (by simp) (by simp [keys])) (fun v ns hR k hk => by
  obtain ⟨j, hj, rfl⟩ := hk2 v ns hR k hk
  rw [e2 j hj]
  refine ⟨by omega, fun hd => hd ?_⟩
  simp [rst, keys]
  intro h4
  omega) (fun v ns hR k hk l hl e => by
  obtain ⟨j, hj, rfl⟩ := hk2 v ns hR k hk
  obtain ⟨i, hi, rfl⟩ := hk2 v ns hR l hl
  rw [e2 j hj, e2 i hi] at e
  omega)
 rw [numR_rr (e2 0 (by omega)) (e2 1 (by omega))] at h0
 simpa [keys, ren, renA, renF, ren0] using h0
theorem numR_key {nk : Nat} {a m : Int} {v : Value} {ns : List (Nat × Blk)} (h : NumR nk a m v ns) : ∀ k ∈ keys ns, nk ≤ k ∧ k < nk + 2 := by
 obtain ⟨rfl, rfl⟩ := h
 intro k hk
 simp [keys] at hk
 omega
theorem cn1_fun (a m : Int) : Fun Tryz.prog G0 123 #[.pointer (some ⟨100, 0, none⟩), .pointer (some ⟨108, 0, none⟩)] (hpL G0 [(100, jb a), (108, jb m)]) (keys [(100, jb a), (108, jb m)]) (.ret (.bool (wiB a 1 m)) []) := by
 refine fun_ofL (B := 200) G0F Tryz.func123 rfl Tryz.call123 ⟨by simp, by simp [keys], by simp [jb, ids_lit, idsF, ids0]⟩ ?_ (by simp) (by simp) (by simp) (by simp [Tryz.ntmps123]) (by omega) ?_
 ·simp [idsV, idsA, idsF, ids0, keys]
 intro C hC hC0 hY
 repeat' (first | refine gwA ?_ | ((first | refine gwR [] ?_ | refine gwD [] ?_); intro Q hQ hP; simp [hC, hY, jb]; refine hQ _ _ _ _ (by kernel_rfl) ?_; clear hQ hP Q) | (refine gwC ?_ ?_ <;> (intro hb; first | (cases hb; done) | skip)))
 refine ⟨.inr rfl, by simp [Tryz.results123], keep_of G0F (by simp [jb]) (by (intro k hk; first | rfl | (simp (disch := omega) only [addB, List.mem_cons, List.not_mem_nil, or_false, upd_other, hpL_cons, hpL_nil, if_neg, updL] <;> done)))⟩
def cfB (sl : Value) (g bx tp nr md : Int) : Blk := ⟨#[sl, .int .i64 g, .int .i64 bx, .int .i64 tp, .int .i64 nr, .int .i64 md], .ty 24⟩
def cfV (sl : Value) (g bx tp nr md : Int) : Value := .agg #[sl, .int .i64 g, .int .i64 bx, .int .i64 tp, .int .i64 nr, .int .i64 md]
theorem cm_ret (m : Int) : Ret Tryz.prog G0 127 #[.int .i64 m] (.bool !(wiB m 1 1024)) := by
 refine ret_of G0F Tryz.func127 rfl Tryz.call127 rfl (by simp) (by simp [Tryz.ntmps127]) ?_
 intro C hC hC0 hY
 repeat' (first | refine gwA ?_ | ((first | refine gwR [] ?_ | refine gwD [] ?_); intro Q hQ hP; simp [hC, hY]; refine hQ _ _ _ _ (by kernel_rfl) ?_; clear hQ hP Q) | (refine gwC ?_ ?_ <;> (intro hb; first | (cases hb; done) | skip)))
 refine ⟨.inr trivial, ?_⟩
 simp [Tryz.results127]
@[simp] theorem cm1 (m : Int) (K : Value → Prop) : callK Tryz.prog G0 127 #[.int .i64 m] K ↔ K (.bool !(wiB m 1 1024)) := callK_iff G0W (by kernel_rfl) (cm_ret m)
structure MB (b : Blk) (off n : Nat) (f : Nat → Int) : Prop where
 rd : rdI b off n f
 fx : b.fx
 i6 : ∀ j, j < n → i64 (f j)
 nn : n ≤ 17592186044416
theorem MB.at {b : Blk} {off n : Nat} {f : Nat → Int} (h : MB b off n f) {i : Nat} (hi : i < n) : loadK Tryz.prog 3 b (off + i) = some (.int .i64 (f i)) := by
 have hbrd := Blk.fx_rd h.fx
 exact loadK_rd1 (P := Tryz.prog) (T := 3) (j := i) (tyAgg_of Tryz.isAgg3) h.rd hi
def cixSt (b : Blk) (off n cap : Nat) (i : Nat) : GS :=
 ⟨tsL [(0, .slice (some ⟨100, off, none⟩) n cap), (1, .func (.func 127) #[] #[]), (7, .int .i64 n), (8, .int .i64 i)], hpL G0 [(100, b)], 300, 0⟩
def allM (f : Nat → Int) (n : Nat) : Bool := (List.range n).all fun i => wiB (f i) 1 1024
theorem cix_fun (b : Blk) (off n cap : Nat) (f : Nat → Int) (h : MB b off n f) (N : Nat) (hN : N ≤ n) (hlt : ∀ i, i < N → wiB (f i) 1 1024 = true) (hend : N = n ∨ wiB (f N) 1 1024 = false) :
  Fun Tryz.prog G0 133 #[.slice (some ⟨100, off, none⟩) n cap, .func (.func 127) #[] #[]] (hpL G0 [(100, b)]) (keys [(100, b)]) (.ret (.int .i64 (if N = n then -1 else N)) []) := by
 refine fun_ofL (B := 200) G0F Tryz.func133 rfl Tryz.call133 (oneL_ok h.fx) ?_ (by simp) (by simp) (by simp) (by simp [Tryz.ntmps133]) (by omega) ?_
 ·simp [idsV, idsA, idsF, ids0, keys]
 intro C hC hC0 hY
 have hnn := h.nn
 have hid := fun D => Blk.fx_ids h.fx D
 repeat' (first | refine gwA ?_ | ((first | refine gwR [] ?_ | refine gwD [] ?_); intro Q hQ hP; simp [hC, hY]; refine hQ _ _ _ _ (by kernel_rfl) ?_; clear hQ hP Q) | (refine gwC ?_ ?_ <;> (intro hb; first | (cases hb; done) | skip)))
 refine GW_for N (cixSt b off n cap) ?_ ?_ ?_
 ·refine weakL _ 300 hC G0F (m0 := [(100, b)]) hC0 (by omega) ?_ ?_ ?_
  ·simp [idsV, idsA, idsF, ids0, dom]
  ·simp [hid]
  ·simp
 ·intro i hi
  have hin : i < n := by omega
  have hi' : (i : Int) < n := by omega
  have hz : (0 : Int) ≤ i := by omega
  have hs : Int.bmod ((i : Int) + 1) 18446744073709551616 = ((i + 1 : Nat) : Int) := by rw [bm (by omega) (by omega)]; rfl
  have hld := h.at hin
  have hq := hlt i hi
  unfold cixSt
  repeat' (first | refine gwA ?_ | ((first | refine gwR [] ?_ | refine gwD [] ?_); intro Q hQ hP; simp [hC, hY, hi, hin, hi', hz, hs, hld, hq]; refine hQ _ _ _ _ (by kernel_rfl) ?_; clear hQ hP Q) | (refine gwC ?_ ?_ <;> (intro hb; first | (cases hb; done) | skip)))
  refine weakL _ 300 hC G0F (m0 := [(100, b)]) hC0 (by omega) ?_ ?_ ?_
  ·simp [idsV, idsA, idsF, ids0, dom, hs]
  ·simp [hid]
  ·simp
 ·by_cases hNn : N = n
  ·subst hNn
   simp only [if_true]
   unfold cixSt
   repeat' (first | refine gwA ?_ | ((first | refine gwR [] ?_ | refine gwD [] ?_); intro Q hQ hP; simp [hC, hY]; refine hQ _ _ _ _ (by kernel_rfl) ?_; clear hQ hP Q) | (refine gwC ?_ ?_ <;> (intro hb; first | (cases hb; done) | skip)))
   refine ⟨.inr rfl, by simp [Tryz.results133], kpS G0F⟩
  ·have hin : N < n := by omega
   have hi' : (N : Int) < n := by omega
   have hz : (0 : Int) ≤ N := by omega
   have hld := h.at hin
   have hq := hend.resolve_left hNn
   rw [if_neg hNn]
   unfold cixSt
   repeat' (first | refine gwA ?_ | ((first | refine gwR [] ?_ | refine gwD [] ?_); intro Q hQ hP; simp [hC, hY, hin, hi', hz, hld, hq]; refine hQ _ _ _ _ (by kernel_rfl) ?_; clear hQ hP Q) | (refine gwC ?_ ?_ <;> (intro hb; first | (cases hb; done) | skip)))
   refine ⟨.inr rfl, by simp [Tryz.results133], kpS G0F⟩
theorem ccf_fun (b : Blk) (off n cap : Nat) (f : Nat → Int) (h : MB b off n f) :
  Fun Tryz.prog G0 126 #[.slice (some ⟨100, off, none⟩) n cap, .func (.func 127) #[] #[]] (hpL G0 [(100, b)]) (keys [(100, b)]) (.ret (.bool !(allM f n)) []) := by
 refine fun_ofL (B := 200) G0F Tryz.func126 rfl Tryz.call126 (oneL_ok h.fx) ?_ (by simp) (by simp) (by simp) (by simp [Tryz.ntmps126]) (by omega) ?_
 ·simp [idsV, idsA, idsF, ids0, keys]
 intro C hC hC0 hY
 have hr := fun ρ => Blk.fx_rn h.fx ρ
 obtain ⟨N, hN, hlt, hend⟩ := leadB (fun i => wiB (f i) 1 1024) n
 by_cases hNn : N = n
 ·have e : allM f n = true := by unfold allM; rw [← hNn]; simpa using hlt
  rw [e]
  repeat' (first | refine gwA ?_ | ((first | refine gwR [133] ?_ | refine gwD [133] ?_); intro Q hQ hP; simp [hC, hY, hNn]; (repeat ((first | (refine heapK_mv (cix_fun b off n cap f h N hN hlt hend) G0F (B := 200) (oneL_ok h.fx) (fun k => k) (fun k hk => rfl) (by simp [ren, renA, renF, ren0]) (by simp) (by simp [hr]) (by simp [keys]) (by simp [keys]; rfl) ?_)); try simp [hC, hY, hNn])); refine hQ _ _ _ _ (by kernel_rfl) ?_; clear hQ hP Q) | (refine gwC ?_ ?_ <;> (intro hb; first | (cases hb; done) | skip)))
  refine ⟨.inr rfl, by simp [Tryz.results126], kpS G0F⟩
 ·have e : allM f n = false := by
   unfold allM
   rw [List.all_eq_false]
   exact ⟨N, by simp; omega, by simpa using hend.resolve_left hNn⟩
  have hz : (0 : Int) ≤ N := by omega
  rw [e]
  repeat' (first | refine gwA ?_ | ((first | refine gwR [133] ?_ | refine gwD [133] ?_); intro Q hQ hP; simp [hC, hY, hNn, hz]; (repeat ((first | (refine heapK_mv (cix_fun b off n cap f h N hN hlt hend) G0F (B := 200) (oneL_ok h.fx) (fun k => k) (fun k hk => rfl) (by simp [ren, renA, renF, ren0]) (by simp) (by simp [hr]) (by simp [keys]) (by simp [keys]; rfl) ?_)); try simp [hC, hY, hNn, hz])); refine hQ _ _ _ _ (by kernel_rfl) ?_; clear hQ hP Q) | (refine gwC ?_ ?_ <;> (intro hb; first | (cases hb; done) | skip)))
  refine ⟨.inr rfl, by simp [Tryz.results126], kpS G0F⟩
def cmL (b : Blk) (off n cap : Nat) (g bx tp nr md : Int) : List (Nat × Blk) := [(100, b), (108, cfB (.slice (some ⟨100, off, none⟩) n cap) g bx tp nr md)]
theorem cmL_ok {b : Blk} (hb : b.fx) (off n cap : Nat) (g bx tp nr md : Int) : LOk (cmL b off n cap g bx tp nr md) 200 := ⟨by simp [cmL], by simp [cmL, keys], by
 simp only [cmL, List.mem_cons, List.not_mem_nil, or_false, forall_eq_or_imp, forall_eq]
 exact ⟨Blk.fx_ids hb _, by simp [cfB, ids_lit, idsF, ids0, keys]⟩⟩
theorem cm2_fun (b : Blk) (off n cap : Nat) (f : Nat → Int) (h : MB b off n f) (g bx tp nr md : Int) :
  Fun Tryz.prog G0 125 #[.pointer (some ⟨108, 0, none⟩)] (hpL G0 (cmL b off n cap g bx tp nr md)) (keys (cmL b off n cap g bx tp nr md)) (.ret (.bool (allM f n)) []) := by
 refine fun_ofL (B := 200) G0F Tryz.func125 rfl Tryz.call125 (cmL_ok h.fx off n cap g bx tp nr md) ?_ (by simp) (by simp) (by simp) (by simp [Tryz.ntmps125]) (by omega) ?_
 ·simp [idsV, idsA, idsF, ids0, keys, cmL]
 intro C hC hC0 hY
 have hr := fun ρ => Blk.fx_rn h.fx ρ
 unfold cmL cfB
 repeat' (first | refine gwA ?_ | ((first | refine gwR [126] ?_ | refine gwD [126] ?_); intro Q hQ hP; simp [hC, hY]; (repeat ((first | (refine heapK_mv (ccf_fun b off n cap f h) G0F (B := 200) (oneL_ok h.fx) (fun k => k) (fun k hk => rfl) (by simp [ren, renA, renF, ren0]) (by simp) (by simp [hr]) (by simp [keys]) (by simp [keys]; rfl) ?_)); try simp [hC, hY])); refine hQ _ _ _ _ (by kernel_rfl) ?_; clear hQ hP Q) | (refine gwC ?_ ?_ <;> (intro hb; first | (cases hb; done) | skip)))
 refine ⟨.inr rfl, by simp [Tryz.results125], kpS G0F⟩
theorem cm3_fun (b : Blk) (off n cap : Nat) (hb : b.fx) (g bx tp nr md : Int) :
  Fun Tryz.prog G0 128 #[.pointer (some ⟨108, 0, none⟩)] (hpL G0 (cmL b off n cap g bx tp nr md)) (keys (cmL b off n cap g bx tp nr md)) (.ret (.bool (wiB md 0 4)) []) := by
 refine fun_ofL (B := 200) G0F Tryz.func128 rfl Tryz.call128 (cmL_ok hb off n cap g bx tp nr md) ?_ (by simp) (by simp) (by simp) (by simp [Tryz.ntmps128]) (by omega) ?_
 ·simp [idsV, idsA, idsF, ids0, keys, cmL]
 intro C hC hC0 hY
 unfold cmL cfB
 repeat' (first | refine gwA ?_ | ((first | refine gwR [] ?_ | refine gwD [] ?_); intro Q hQ hP; simp [hC, hY]; refine hQ _ _ _ _ (by kernel_rfl) ?_; clear hQ hP Q) | (refine gwC ?_ ?_ <;> (intro hb; first | (cases hb; done) | skip)))
 refine ⟨.inr rfl, by simp [Tryz.results128], kpS G0F⟩
end Go.Gy
namespace Go.Gy
set_option linter.unusedSimpArgs false
open Go Go.RowKit
@[simp] theorem flatV_map0 : flatV (.map none) = true := by simp [flatV, flatA, flatF, flat0]
theorem cnt_set : ∀ (l : List Bool) (i : Nat), l[i]? = some false → (l.set i true).count false + 1 = l.count false
 | [], i, h => by simp at h
 | a :: l, 0, h => by simp at h; subst h; simp
 | a :: l, i + 1, h => by
  have := cnt_set l i (by simpa using h)
  simp only [List.set_cons_succ, List.count_cons]
  omega
theorem mem_ready {md : Region.Mode} {ops : Array Oper} {listed : Array Bool} (hs : listed.size = ops.size) {i : Nat} : i ∈ Region.ready md ops listed ↔ listed[i]? = some false ∧ ∀ o, ops[i]? = some o → ∀ e ∈ o.after, Region.binds md e = true → listed[e.on]? = some true := by
 unfold Region.ready
 simp only [List.mem_filter, List.mem_range, Bool.and_eq_true, Bool.not_eq_true']
 constructor
 ·rintro ⟨h1, h2, h3⟩
  have e1 : listed[i]? = some listed[i] := Array.getElem?_eq_getElem (by omega)
  refine ⟨?_, fun o ho e he hb => ?_⟩
  ·simp only [Array.getD_eq_getD_getElem?, e1, Option.getD_some] at h2
   rw [e1, h2]
  ·rw [ho] at h3
   simp only [Option.map_some, Option.getD_some, Array.all_eq_true_iff_forall_mem] at h3
   have := h3 e he
   rw [hb] at this
   simp only [Bool.not_true, Bool.false_or, Array.getD_eq_getD_getElem?] at this
   cases hl : listed[e.on]? with
   | none => rw [hl] at this; simp at this
   | some b => rw [hl] at this; simp at this; rw [this]
 ·rintro ⟨h1, h2⟩
  have hlt : i < ops.size := by have := (Array.getElem?_eq_some_iff.1 h1).1; omega
  refine ⟨hlt, by simp [Array.getD_eq_getD_getElem?, h1], ?_⟩
  rw [Array.getElem?_eq_getElem hlt]
  simp only [Option.map_some, Option.getD_some, Array.all_eq_true_iff_forall_mem, Bool.or_eq_true, Bool.not_eq_true']
  intro e he
  cases hb : Region.binds md e with
  | false => exact .inl rfl
  | true => right; simp [Array.getD_eq_getD_getElem?, h2 _ (Array.getElem?_eq_getElem hlt) e he hb]
theorem ready_nil {md : Region.Mode} {ops : Array Oper} {listed : Array Bool} (hs : listed.size = ops.size) (hlt : (ops.toList.zipIdx.all fun p => p.1.after.all fun e => decide (e.on < p.2)) = true) (h : Region.ready md ops listed = []) : ∀ i, i < ops.size → listed[i]? = some true := by
 intro i
 induction i using Nat.strongRecOn with
 | _ i ih =>
  intro hi
  have e1 : listed[i]? = some listed[i] := Array.getElem?_eq_getElem (by omega)
  cases hb : listed[i] with
  | true => rw [e1, hb]
  | false =>
   exfalso
   have : i ∈ Region.ready md ops listed := (mem_ready hs).2 ⟨by rw [e1, hb], fun o ho e he _ => by
    have hm : (o, i) ∈ ops.toList.zipIdx := by
     rw [List.mem_zipIdx_iff_getElem?]
     simpa using ho
    have := List.all_eq_true.1 hlt _ hm
    have := Array.all_eq_true_iff_forall_mem.1 this e he
    have h3 : e.on < i := by simpa using this
    exact ih _ h3 (by omega)⟩
   rw [h] at this
   cases this
section
variable {P : Program} {C : Ctx} {n : Nat} {d : List Deferred} {ro : Option Nat} {K : Exit → GS → Prop}
theorem GL_callW {G : Hp} {ops : Array Oper} {o : Oper} {post : List Oper} {base k : Nat} (sh : Nat) {ts : Nat → Value} {hp hp' : Hp} {yc : Nat} {c : Call} {f : Operand} {g : FuncId} {cap : Array Value} {rs : List Nat} {args : Array Value} {R : Value → List (Nat × Blk) → Prop} (hCG : C.G = G) (hr : FunS P G g args hp' rs R) (hg : o.guard = none) (hd : ∀ dd, o.dst = some dd → dd < n)
  (ho : o.op = .call c) (hc : c.callee = .value f) (hf : okT ts f) (hgf : gev ts f = .func (.func g) #[] cap) (hcp : cap.all plain0 = true) (ha : ∀ x ∈ c.args.toList, okX ts hp x) (hargs : c.args.map (gev ts) ++ cap = args)
  (h1 : ∀ q ∈ rs, hp' q = hp q) (h2 : ∀ q, q < 100 → hp' q = hp q) (hat : ∀ v ns, R v ns → ∀ q ∈ keys ns, base + 8 * k ≤ q ∧ q < base + sh + 8 * k + 8)
  (h : ∀ v ns, R v ns → GL P C n d ro ops (base + sh) (k + 1) post (putT ts o.dst v) (updL hp ns) yc K) : GL P C n d ro ops base k (o :: post) ts hp yc K := by
 subst hCG
 intro r a W hi hfr hb hG hR
 refine wpListIn_plain hg fun K' hK' => ?_
 refine step_callS hG hi hd ho hc hf hgf hcp ha (by rw [hargs]; exact hr.under fun q hq => hq.elim (h2 q) (h1 q)) (fun v ns hRv q hq => hfr q (hat v ns hRv q hq).1) (fun v ns hRv r' a' W' hi' => hK' _ _ (h v ns hRv r' a' W' hi' (fun x hx => ?_) (by omega) hG hR))
 rw [updL_other (fun hm => by have := hat v ns hRv x hm; omega)]
 exact hfr x (by omega)
theorem GA_ind {ops : Array Oper} {base yc : Nat} (I : Array Bool → (Nat → Value) → Hp → Prop)
  (fin : ∀ listed ts hp, listed.size = ops.size → Region.ready .any ops listed = [] → I listed ts hp → K .normal ⟨ts, hp, base + 8 * ops.size, yc⟩)
  (step : ∀ fuel listed ts hp i, listed.size = ops.size → listed[i]? = some false → (∀ o, ops[i]? = some o → ∀ e ∈ o.after, Region.binds .any e = true → listed[e.on]? = some true) → I listed ts hp →
   (∀ ts' hp', I (listed.setIfInBounds i true) ts' hp' → GA P C n d ro ops base fuel (listed.setIfInBounds i true) ts' hp' yc K) → GO P C n d ro ops base fuel listed i ts hp yc K) :
  ∀ (fuel : Nat) (listed : Array Bool) (ts : Nat → Value) (hp : Hp), listed.size = ops.size → listed.toList.count false ≤ fuel → I listed ts hp → GA P C n d ro ops base fuel listed ts hp yc K
 | 0, listed, ts, hp, hs, hc, hI => by
  have hr : Region.ready .any ops listed = [] := by
   cases h : Region.ready .any ops listed with
   | nil => rfl
   | cons i l =>
    have hm : i ∈ Region.ready .any ops listed := by rw [h]; simp
    have h1 := ((mem_ready hs).1 hm).1
    have h2 := cnt_set listed.toList i (by simpa using h1)
    omega
  exact GA_nil hr (fin _ _ _ hs hr hI)
 | fuel + 1, listed, ts, hp, hs, hc, hI => by
  cases h : Region.ready .any ops listed with
  | nil => exact GA_nil h (fin _ _ _ hs h hI)
  | cons i l =>
   refine GA_step _ rfl (by rw [h]; rfl) fun j hj => ?_
   obtain ⟨h1, h2⟩ := (mem_ready hs).1 hj
   refine step fuel listed ts hp j hs h1 h2 hI fun ts' hp' hI' => ?_
   have h3 := cnt_set listed.toList j (by simpa using h1)
   exact GA_ind I fin step fuel _ _ _ (by simpa using hs) (by simp only [Array.toList_setIfInBounds]; omega) hI'
end
end Go.Gy
