/-
  Lemmas of this claim, in their order (GyX7, GyQ1, GyY1, GyY2, GyY3, GyY4, GyY5, GyY6, GyY7, GyZ1, GyZ2, GyZ3, GyRA, GyRB, GyDM, GyQA, GyVB, GyVC, GyVD, GyRC, GyRF).
  Conditions: those of each theorem.
-/
import Derived.Test.YtfedlkjhfnlnbaaDoorGz04
namespace Go.Gy
set_option linter.unusedSimpArgs false
set_option linter.unusedVariables false
open Go Go.RowKit Go.Proofs
@[simp] theorem idsV_fa (D : Nat → Prop) (n : Nat) (k : IntKind) (f : Nat → Int) : idsV D (.agg (fa n k f)) ↔ True := by
  refine ⟨fun _ => trivial, fun _ x hx => ?_⟩
  obtain ⟨m, rfl⟩ := fa_mem hx
  trivial
theorem and_low (z : Int) (h0 : 0 ≤ z) (h1 : z < 18446744073709551616) : bitI .and .u64 z 4294967295 = z % 4294967296 := by
  rw [← and_low32 z h0 h1]; rfl
theorem mul64_ret (x y : Int) (hx0 : 0 ≤ x) (hx : x < 18446744073709551616) (hy0 : 0 ≤ y) (hy : y < 18446744073709551616) : Ret Tryd.prog G0 44 #[.int .u64 x, .int .u64 y] (.tuple #[.int .u64 (x * y / 18446744073709551616), .int .u64 (x * y % 18446744073709551616)]) := by
  refine ret_of G0F Tryd.func44 rfl Tryd.call44 (by simp) (by simp) (by simp [Tryd.ntmps44]) ?_
  intro C hC hC0 hY
  have f32 : ∀ z : Int, z.fdiv 4294967296 = z / 4294967296 := fun z => Int.fdiv_eq_ediv_of_nonneg z (by omega)
  have a1 := and_low x hx0 hx
  have a2 := and_low y hy0 hy
  have a3 : ∀ z : Int, bitI .and .u64 (z % 18446744073709551616) 4294967295 = z % 18446744073709551616 % 4294967296 := fun z => and_low _ (by omega) (by omega)
  repeat' (first | refine gwS ?_ | simp only [wN, wM, Nat.reduceAdd, Nat.reduceMul] | ((first | refine gwR [] ?_ | refine gwD [] ?_); intro Q hQ hP; simp [hC, hY, f32, a1, a2, a3]; (first | refine hQ _ _ _ _ (by kernel_rfl) ?_ | refine hP _ _ (by kernel_rfl) fun _ => ?_); clear hQ hP Q) | refine gwB ?_ | refine gwT ?_ | refine gwK ?_ | refine gwE ?_ | refine gwG ?_ | refine gwL ?_ | simp only [blockG_exit] | (refine gwC ?_ ?_ <;> (intro hb; first | (cases hb; done) | skip)))
  refine ⟨.inr trivial, ?_⟩
  have := mul64_arith x y hx0 hx hy0 hy
  simpa [Tryd.results44] using this
@[simp] theorem mul64 (x y : Int) (hx0 : 0 ≤ x) (hx : x < 18446744073709551616) (hy0 : 0 ≤ y) (hy : y < 18446744073709551616) (K : Value → Prop) : callK Tryd.prog G0 44 #[.int .u64 x, .int .u64 y] K ↔ K (.tuple #[.int .u64 (x * y / 18446744073709551616), .int .u64 (x * y % 18446744073709551616)]) := callK_iff G0W (by kernel_rfl) (mul64_ret x y hx0 hx hy0 hy)
theorem wi_mod (z y : Int) (k : Nat) (h : z % 115792089237316195423570985008687907853269984665640564039457584007913129639936 = y % 115792089237316195423570985008687907853269984665640564039457584007913129639936) (hk : k < 4) : wi z k = wi y k := by
  have : k = 0 ∨ k = 1 ∨ k = 2 ∨ k = 3 := by omega
  rcases this with rfl | rfl | rfl | rfl <;> simp only [wi] <;> omega
theorem wum_p (z : Int) (h : ng z = true) (k : Nat) (hk : k < 4) : wi (-z) k = wi (um z) k := wi_mod _ _ _ (by
  rw [ng_sz] at h; simp at h; have := sz_mod z; unfold um; rw [if_pos h]; omega) hk
theorem wum_m (z : Int) (h : ng z = false) (k : Nat) (hk : k < 4) : wi z k = wi (um z) k := wi_mod _ _ _ (by
  rw [ng_sz] at h; simp at h; have := sz_mod z; unfold um; rw [if_neg (by omega)]; omega) hk
theorem wn_bd (A B : Int) (i k : Nat) : 0 ≤ wi A i * wi B k ∧ 0 ≤ wi A i * wi B k % 18446744073709551616 ∧ 0 ≤ (wi A i * wi B k + wi (wprow A B i) (i + k)) % 18446744073709551616 := by
  have h1 := wi_ge A i; have h2 := wi_ge B k
  exact ⟨Int.mul_nonneg h1 h2, Int.emod_nonneg _ (by omega), Int.emod_nonneg _ (by omega)⟩
theorem wmodS (A B : Int) (i k : Nat) : (wi A i * wi B k + wi (wprow A B i) (i + k) + wpcar A B i k) % 18446744073709551616 = wi (wprow A B (i + 1)) (i + k) := by
  rw [← wpdig A B i k]; congr 1; omega
theorem wdivS (A B : Int) (i k : Nat) : (wi A i * wi B k / 18446744073709551616 + (wi A i * wi B k % 18446744073709551616 + wi (wprow A B i) (i + k)) / 18446744073709551616 + ((wi A i * wi B k + wi (wprow A B i) (i + k)) % 18446744073709551616 + wpcar A B i k) / 18446744073709551616) % 18446744073709551616 = wpcar A B i (k + 1) := by
  have h := (wstep (wi A i) (wi B k) (wi (wprow A B i) (i + k)) (wpcar A B i k) ⟨wi_ge _ _, wi_lt _ _⟩ ⟨wi_ge _ _, wi_lt _ _⟩ ⟨wi_ge _ _, wi_lt _ _⟩ (wpcar_bd A B i k)).2
  rw [← wpcar_succ, ← h]
  simp
def mwSt (q : Nat) (mi : Bool) (A B : Int) (i : Nat) : GS :=
  ⟨tsL [(2, .pointer (some ⟨200, 0, none⟩)), (3, .pointer (some ⟨208, 0, none⟩)), (4, .pointer (some ⟨216, 0, none⟩)), (6, .bool mi), (7, .pointer (some ⟨q, 0, none⟩)), (40, .agg (fa 4 .u64 (wi A))), (41, .int .i64 i)],
   hpL G0 [(200, ⟨fa 4 .u64 (wi A), .ty 28⟩), (208, ⟨fa 4 .u64 (wi B), .ty 28⟩), (216, ⟨fa 4 .u64 fun _ => 0, .ty 28⟩), (q, ⟨fa 8 .u64 (wi (wprow A B i)), .ty 67⟩)], 600, 0⟩
def mwSt2 (q : Nat) (mi : Bool) (A B : Int) (i k : Nat) : GS :=
  ⟨tsL [(2, .pointer (some ⟨200, 0, none⟩)), (3, .pointer (some ⟨208, 0, none⟩)), (4, .pointer (some ⟨216, 0, none⟩)), (6, .bool mi), (7, .pointer (some ⟨q, 0, none⟩)), (40, .agg (fa 4 .u64 (wi A))), (41, .int .i64 i),
      (8, .int .i64 i), (9, .int .u64 (wi A i)), (10, .int .u64 (wpcar A B i k)), (45, .agg (fa 4 .u64 (wi B))), (46, .int .i64 k)],
   hpL G0 [(200, ⟨fa 4 .u64 (wi A), .ty 28⟩), (208, ⟨fa 4 .u64 (wi B), .ty 28⟩), (216, ⟨fa 4 .u64 fun _ => 0, .ty 28⟩), (q, ⟨fa 8 .u64 (wpout A B i k), .ty 67⟩)], 600, 0⟩
theorem or_zero {x y : Int} (hx0 : 0 ≤ x) (hx : x < 18446744073709551616) (hy0 : 0 ≤ y) (hy : y < 18446744073709551616) : (bitI .or .u64 x y = 0 ↔ x = 0 ∧ y = 0) ∧ 0 ≤ bitI .or .u64 x y ∧ bitI .or .u64 x y < 18446744073709551616 := by
  have e : bitI .or .u64 x y = ((BitVec.ofInt 64 x ||| BitVec.ofInt 64 y : BitVec 64).toNat : Int) % 18446744073709551616 := by
    unfold bitI
    show IntKind.u64.wrap ((BitVec.ofInt 64 x ||| BitVec.ofInt 64 y : BitVec 64).toNat : Int) = _
    rw [wrap_u64]
  have hx' : (BitVec.ofInt 64 x).toNat = x.toNat := by
    rw [BitVec.toNat_ofInt]; congr 1; exact Int.emod_eq_of_lt hx0 hx
  have hy' : (BitVec.ofInt 64 y).toNat = y.toNat := by
    rw [BitVec.toNat_ofInt]; congr 1; exact Int.emod_eq_of_lt hy0 hy
  have hb := (BitVec.ofInt 64 x ||| BitVec.ofInt 64 y).isLt
  rw [e]
  refine ⟨?_, Int.emod_nonneg _ (by omega), Int.emod_lt_of_pos _ (by omega)⟩
  rw [Int.emod_eq_of_lt (by omega) (by omega), BitVec.toNat_or, hx', hy']
  constructor
  · intro h
    have h1 : x.toNat ||| y.toNat = 0 := by omega
    have := Nat.or_eq_zero_iff.1 h1
    omega
  · rintro ⟨rfl, rfl⟩; rfl
theorem wi_shift (D : Int) (j : Nat) (h : 4 ≤ j := by omega) : wi D j = wi (D / 115792089237316195423570985008687907853269984665640564039457584007913129639936) (j - 4) := by
  unfold wi
  have e : 64 * j = 64 * 4 + 64 * (j - 4) := by omega
  rw [e, Int.pow_add, ← Int.ediv_ediv_of_nonneg (Int.le_of_lt (pow64_pos 4))]
  rfl
def ovD (D : Int) : Bool := decide (115792089237316195423570985008687907853269984665640564039457584007913129639936 ≤ D)
def orW (D : Int) : Int := bitI .or .u64 (bitI .or .u64 (bitI .or .u64 (wi D 4) (wi D 5)) (wi D 6)) (wi D 7)
theorem or_ov (D : Int) (h0 : 0 ≤ D) (h1 : D < 115792089237316195423570985008687907853269984665640564039457584007913129639936 * 115792089237316195423570985008687907853269984665640564039457584007913129639936) :
    (!orW D == 0) = ovD D := by
  unfold orW
  have o1 := or_zero (wi_ge D 4) (wi_lt D 4) (wi_ge D 5) (wi_lt D 5)
  have o2 := or_zero o1.2.1 o1.2.2 (wi_ge D 6) (wi_lt D 6)
  have o3 := or_zero o2.2.1 o2.2.2 (wi_ge D 7) (wi_lt D 7)
  rw [Bool.eq_iff_iff]
  simp only [Bool.not_eq_true', beq_eq_false_iff_ne, ne_eq, ovD, decide_eq_true_eq]
  rw [o3.1, o2.1, o1.1, wi_shift D 4, wi_shift D 5, wi_shift D 6, wi_shift D 7]
  have hE : 0 ≤ D / 115792089237316195423570985008687907853269984665640564039457584007913129639936 ∧ D / 115792089237316195423570985008687907853269984665640564039457584007913129639936 < 115792089237316195423570985008687907853269984665640564039457584007913129639936 := ⟨by omega, by omega⟩
  have hD : 115792089237316195423570985008687907853269984665640564039457584007913129639936 ≤ D ↔ D / 115792089237316195423570985008687907853269984665640564039457584007913129639936 ≠ 0 := by omega
  rw [hD]
  generalize D / 115792089237316195423570985008687907853269984665640564039457584007913129639936 = E at *
  simp only [wi]
  omega
set_option maxHeartbeats 2000000 in
theorem wmul_ret (a b : Int) : Ret Tryd.prog G0 24 #[wd a, wd b] (.tuple #[wd (sz a * sz b), .bool (mulO a b)]) := by
  refine ret_of G0F Tryd.func24 rfl Tryd.call24 (by simp) (by simp) (by simp [Tryd.ntmps24]) ?_
  intro C hC hC0 hY
  have hA := um_bd a
  have hB := um_bd b
  have hB0 : 0 ≤ um b := hB.1
  have hB1 : um b < 2 ^ (64 * 4) := by have := hB.2; omega
  obtain ⟨D, hD⟩ : ∃ D, um a * um b = D := ⟨_, rfl⟩
  have eD : wprow (um a) (um b) 4 = D := by rw [← hD]; unfold wprow; rw [Int.emod_eq_of_lt (by omega) (by omega)]
  have hbd : 0 ≤ D ∧ D ≤ 57896044618658097711785492504343953926634992332820282019728792003956564819968 * 57896044618658097711785492504343953926634992332820282019728792003956564819968 := by
    rw [← hD]
    exact ⟨Int.mul_nonneg hA.1 hB.1, Int.mul_le_mul hA.2 hB.2 hB.1 (by omega)⟩
  have hor := or_ov D hbd.1 (by have := hbd.2; omega)
  have hs1 := prod_same a b
  have hs2 := prod_other a b
  rw [hD] at hs1 hs2
  cases ha : ng a <;> cases hq : ng b
  all_goals
    repeat' (first | refine gwS ?_ | simp only [wN, wM, Nat.reduceAdd, Nat.reduceMul] | ((first | refine gwR [] ?_ | refine gwD [] ?_); intro Q hQ hP; simp [hC, hY, ha, hq]; (first | refine hQ _ _ _ _ (by kernel_rfl) ?_ | refine hP _ _ (by kernel_rfl) fun _ => ?_); clear hQ hP Q) | refine gwB ?_ | refine gwT ?_ | refine gwK ?_ | refine gwE ?_ | refine gwG ?_ | refine gwL ?_ | simp only [blockG_exit] | (refine gwC ?_ ?_ <;> (intro hb; first | (cases hb; done) | skip)))
  · have hn : (ng a == ng b) = true := by rw [ha, hq]; rfl
    refine GW_for 4 (mwSt 312 false (um a) (um b)) ?_ ?_ ?_
    · have e1 := wum_m a ha
      have e2 := wum_m b hq
      refine weakL _ 600 hC G0F (m0 := []) hC0 (by omega) ?_ ?_ ?_
      · simp [dom, fa_4, e1]
      · simp [fa_ids, fa_4, fa_8, e1, e2, wprow, Int.emod_one, wi_zero]
      · simp
    · intro i hi
      have hi' : (i : Int) < 4 := by omega
      have hz : (0 : Int) ≤ i := by omega
      have hs : Int.bmod ((i : Int) + 1) 18446744073709551616 = ((i + 1 : Nat) : Int) := by rw [bm (by omega) (by omega)]; rfl
      unfold mwSt
      repeat' (first | refine gwS ?_ | simp only [wN, wM, Nat.reduceAdd, Nat.reduceMul] | ((first | refine gwR [] ?_ | refine gwD [] ?_); intro Q hQ hP; simp [hC, hY, hi, hi', hz, hs, fa_get]; (first | refine hQ _ _ _ _ (by kernel_rfl) ?_ | refine hP _ _ (by kernel_rfl) fun _ => ?_); clear hQ hP Q) | refine gwB ?_ | refine gwT ?_ | refine gwK ?_ | refine gwE ?_ | refine gwG ?_ | refine gwL ?_ | simp only [blockG_exit] | (refine gwC ?_ ?_ <;> (intro hb; first | (cases hb; done) | skip)))
      refine GW_for 4 (mwSt2 312 false (um a) (um b) i) ?_ ?_ ?_
      · refine weakL _ 600 hC G0F (m0 := []) hC0 (by omega) ?_ ?_ ?_
        · simp [dom, wpcar_zero]
        · have e : fa 8 .u64 (wpout (um a) (um b) i 0) = fa 8 .u64 (wi (wprow (um a) (um b) i)) := fa_congr fun j _ => by unfold wpout; rw [if_neg (by omega)]
          simp [e, fa_ids]
        · simp
      · intro k hk
        have hk' : (k : Int) < 4 := by omega
        have hkz : (0 : Int) ≤ k := by omega
        have hs2 : Int.bmod ((k : Int) + 1) 18446744073709551616 = ((k + 1 : Nat) : Int) := by rw [bm (by omega) (by omega)]; rfl
        have hik : Int.bmod ((i : Int) + k) 18446744073709551616 = ((i + k : Nat) : Int) := by rw [bm (by omega) (by omega)]; rfl
        have hik2 : i + k < 8 := by omega
        have hik3 : (i : Int) + k < 8 := by omega
        have hik4 : (0 : Int) ≤ (i : Int) + k := by omega
        have hik5 : ((i : Int) + k).toNat = i + k := by omega
        have hik6 : (i : Int) + k ≤ 7 := by omega
        have hik7 : i + k ≤ 7 := by omega
        have hn := wn_bd (um a) (um b) i k
        have hc := wpcar_bd (um a) (um b) i k
        unfold mwSt2
        repeat' (first | refine gwS ?_ | simp only [wN, wM, Nat.reduceAdd, Nat.reduceMul] | ((first | refine gwR [] ?_ | refine gwD [] ?_); intro Q hQ hP; simp [hC, hY, hi, hi', hz, hk, hk', hkz, hik, hik2, hik3, hik4, hik5, hik6, hik7, hs2, fa_get, fa_set, wi_ge, wi_lt, hn.1, hn.2.1, hn.2.2, hc.1]; (first | refine hQ _ _ _ _ (by kernel_rfl) ?_ | refine hP _ _ (by kernel_rfl) fun _ => ?_); clear hQ hP Q) | refine gwB ?_ | refine gwT ?_ | refine gwK ?_ | refine gwE ?_ | refine gwG ?_ | refine gwL ?_ | simp only [blockG_exit] | (refine gwC ?_ ?_ <;> (intro hb; first | (cases hb; done) | skip)))
        refine weakL _ 600 hC G0F (m0 := []) hC0 (by omega) ?_ ?_ ?_
        · simp [dom, hs2, wdivS]
        · have e : fa 8 .u64 (upd (wpout (um a) (um b) i k) (i + k) (wi (wprow (um a) (um b) (i + 1)) (i + k))) = fa 8 .u64 (wpout (um a) (um b) i (k + 1)) := fa_congr fun j _ => wpout_step (um a) (um b) i k j
          simp [fa_ids, wmodS, e]
        · simp
      · have hi8 : Int.bmod ((i : Int) + 4) 18446744073709551616 = (i : Int) + 4 := bm (by omega) (by omega)
        have hi9 : (0 : Int) ≤ (i : Int) + 4 := by omega
        have hi10 : ((i : Int) + 4).toNat = i + 4 := by omega
        have hi11 : (i : Int) + 4 < 8 := by omega
        have hi12 : (i : Int) ≤ 3 := by omega
        have hi14 : i ≤ 3 := by omega
        have hi13 : i + 4 < 8 := by omega
        unfold mwSt2
        repeat' (first | refine gwS ?_ | simp only [wN, wM, Nat.reduceAdd, Nat.reduceMul] | ((first | refine gwR [] ?_ | refine gwD [] ?_); intro Q hQ hP; simp [hC, hY, hi, hi', hz, hs, hi8, hi9, hi10, hi11, hi12, hi13, hi14, fa_set]; (first | refine hQ _ _ _ _ (by kernel_rfl) ?_ | refine hP _ _ (by kernel_rfl) fun _ => ?_); clear hQ hP Q) | refine gwB ?_ | refine gwT ?_ | refine gwK ?_ | refine gwE ?_ | refine gwG ?_ | refine gwL ?_ | simp only [blockG_exit] | (refine gwC ?_ ?_ <;> (intro hb; first | (cases hb; done) | skip)))
        refine weakL _ 600 hC G0F (m0 := []) hC0 (by omega) ?_ ?_ ?_
        · simp [dom, hs]
        · have e : fa 8 .u64 (upd (wpout (um a) (um b) i 4) (i + 4) (wpcar (um a) (um b) i 4)) = fa 8 .u64 (wi (wprow (um a) (um b) (i + 1))) := fa_congr fun j _ => wpout_end (um a) (um b) i hB0 hB1 j
          simp [fa_ids, e]
        · simp
    · unfold mwSt
      rw [eD]
      by_cases hx : orW D = 0
      · have hov : ovD D = false := by rw [← hor]; simp [hx]
        unfold orW at hx
        repeat' (first | refine gwS ?_ | simp only [wN, wM, Nat.reduceAdd, Nat.reduceMul] | ((first | refine gwR [] ?_ | refine gwD [] ?_); intro Q hQ hP; simp [hC, hY, fa_8, fa_4, hx]; (first | refine hQ _ _ _ _ (by kernel_rfl) ?_ | refine hP _ _ (by kernel_rfl) fun _ => ?_); clear hQ hP Q) | refine gwB ?_ | refine gwT ?_ | refine gwK ?_ | refine gwE ?_ | refine gwG ?_ | refine gwL ?_ | simp only [blockG_exit] | (refine gwC ?_ ?_ <;> (intro hb; first | (cases hb; done) | skip)))
        refine ⟨.inr trivial, ?_⟩
        rw [ovD] at hov
        simp [Tryd.results24, hs1 hn, mulO, hx]
        rw [Bool.eq_iff_iff]
        simp [ng_sz]
        have h3 := sz_small D hbd.1 (by simpa using hov)
        simp at hov
        omega
      · have hov : ovD D = true := by rw [← hor]; simp [hx]
        unfold orW at hx
        have hx2 : (bitI .or .u64 (bitI .or .u64 (bitI .or .u64 (wi D 4) (wi D 5)) (wi D 6)) (wi D 7) == 0) = false := by simpa using hx
        have hx3 : (bitI .or .u64 (bitI .or .u64 (bitI .or .u64 (wi D 4) (wi D 5)) (wi D 6)) (wi D 7) != 0) = true := by simpa using hx
        repeat' (first | refine gwS ?_ | simp only [wN, wM, Nat.reduceAdd, Nat.reduceMul] | ((first | refine gwR [] ?_ | refine gwD [] ?_); intro Q hQ hP; simp [hC, hY, fa_8, fa_4, hx, hx2, hx3]; (first | refine hQ _ _ _ _ (by kernel_rfl) ?_ | refine hP _ _ (by kernel_rfl) fun _ => ?_); clear hQ hP Q) | refine gwB ?_ | refine gwT ?_ | refine gwK ?_ | refine gwE ?_ | refine gwG ?_ | refine gwL ?_ | simp only [blockG_exit] | (refine gwC ?_ ?_ <;> (intro hb; first | (cases hb; done) | skip)))
        refine ⟨.inr trivial, ?_⟩
        rw [ovD] at hov
        simp [Tryd.results24, hs1 hn, mulO, hx]
        simp at hov
        omega
  · have hn : (ng a == ng b) = false := by rw [ha, hq]; rfl
    refine GW_for 4 (mwSt 360 true (um a) (um b)) ?_ ?_ ?_
    · have e1 := wum_m a ha
      have e2 := wum_p b hq
      refine weakL _ 600 hC G0F (m0 := []) hC0 (by omega) ?_ ?_ ?_
      · simp [dom, fa_4, e1]
      · simp [fa_ids, fa_4, fa_8, e1, e2, wprow, Int.emod_one, wi_zero]
      · simp
    · intro i hi
      have hi' : (i : Int) < 4 := by omega
      have hz : (0 : Int) ≤ i := by omega
      have hs : Int.bmod ((i : Int) + 1) 18446744073709551616 = ((i + 1 : Nat) : Int) := by rw [bm (by omega) (by omega)]; rfl
      unfold mwSt
      repeat' (first | refine gwS ?_ | simp only [wN, wM, Nat.reduceAdd, Nat.reduceMul] | ((first | refine gwR [] ?_ | refine gwD [] ?_); intro Q hQ hP; simp [hC, hY, hi, hi', hz, hs, fa_get]; (first | refine hQ _ _ _ _ (by kernel_rfl) ?_ | refine hP _ _ (by kernel_rfl) fun _ => ?_); clear hQ hP Q) | refine gwB ?_ | refine gwT ?_ | refine gwK ?_ | refine gwE ?_ | refine gwG ?_ | refine gwL ?_ | simp only [blockG_exit] | (refine gwC ?_ ?_ <;> (intro hb; first | (cases hb; done) | skip)))
      refine GW_for 4 (mwSt2 360 true (um a) (um b) i) ?_ ?_ ?_
      · refine weakL _ 600 hC G0F (m0 := []) hC0 (by omega) ?_ ?_ ?_
        · simp [dom, wpcar_zero]
        · have e : fa 8 .u64 (wpout (um a) (um b) i 0) = fa 8 .u64 (wi (wprow (um a) (um b) i)) := fa_congr fun j _ => by unfold wpout; rw [if_neg (by omega)]
          simp [e, fa_ids]
        · simp
      · intro k hk
        have hk' : (k : Int) < 4 := by omega
        have hkz : (0 : Int) ≤ k := by omega
        have hs2 : Int.bmod ((k : Int) + 1) 18446744073709551616 = ((k + 1 : Nat) : Int) := by rw [bm (by omega) (by omega)]; rfl
        have hik : Int.bmod ((i : Int) + k) 18446744073709551616 = ((i + k : Nat) : Int) := by rw [bm (by omega) (by omega)]; rfl
        have hik2 : i + k < 8 := by omega
        have hik3 : (i : Int) + k < 8 := by omega
        have hik4 : (0 : Int) ≤ (i : Int) + k := by omega
        have hik5 : ((i : Int) + k).toNat = i + k := by omega
        have hik6 : (i : Int) + k ≤ 7 := by omega
        have hik7 : i + k ≤ 7 := by omega
        have hn := wn_bd (um a) (um b) i k
        have hc := wpcar_bd (um a) (um b) i k
        unfold mwSt2
        repeat' (first | refine gwS ?_ | simp only [wN, wM, Nat.reduceAdd, Nat.reduceMul] | ((first | refine gwR [] ?_ | refine gwD [] ?_); intro Q hQ hP; simp [hC, hY, hi, hi', hz, hk, hk', hkz, hik, hik2, hik3, hik4, hik5, hik6, hik7, hs2, fa_get, fa_set, wi_ge, wi_lt, hn.1, hn.2.1, hn.2.2, hc.1]; (first | refine hQ _ _ _ _ (by kernel_rfl) ?_ | refine hP _ _ (by kernel_rfl) fun _ => ?_); clear hQ hP Q) | refine gwB ?_ | refine gwT ?_ | refine gwK ?_ | refine gwE ?_ | refine gwG ?_ | refine gwL ?_ | simp only [blockG_exit] | (refine gwC ?_ ?_ <;> (intro hb; first | (cases hb; done) | skip)))
        refine weakL _ 600 hC G0F (m0 := []) hC0 (by omega) ?_ ?_ ?_
        · simp [dom, hs2, wdivS]
        · have e : fa 8 .u64 (upd (wpout (um a) (um b) i k) (i + k) (wi (wprow (um a) (um b) (i + 1)) (i + k))) = fa 8 .u64 (wpout (um a) (um b) i (k + 1)) := fa_congr fun j _ => wpout_step (um a) (um b) i k j
          simp [fa_ids, wmodS, e]
        · simp
      · have hi8 : Int.bmod ((i : Int) + 4) 18446744073709551616 = (i : Int) + 4 := bm (by omega) (by omega)
        have hi9 : (0 : Int) ≤ (i : Int) + 4 := by omega
        have hi10 : ((i : Int) + 4).toNat = i + 4 := by omega
        have hi11 : (i : Int) + 4 < 8 := by omega
        have hi12 : (i : Int) ≤ 3 := by omega
        have hi14 : i ≤ 3 := by omega
        have hi13 : i + 4 < 8 := by omega
        unfold mwSt2
        repeat' (first | refine gwS ?_ | simp only [wN, wM, Nat.reduceAdd, Nat.reduceMul] | ((first | refine gwR [] ?_ | refine gwD [] ?_); intro Q hQ hP; simp [hC, hY, hi, hi', hz, hs, hi8, hi9, hi10, hi11, hi12, hi13, hi14, fa_set]; (first | refine hQ _ _ _ _ (by kernel_rfl) ?_ | refine hP _ _ (by kernel_rfl) fun _ => ?_); clear hQ hP Q) | refine gwB ?_ | refine gwT ?_ | refine gwK ?_ | refine gwE ?_ | refine gwG ?_ | refine gwL ?_ | simp only [blockG_exit] | (refine gwC ?_ ?_ <;> (intro hb; first | (cases hb; done) | skip)))
        refine weakL _ 600 hC G0F (m0 := []) hC0 (by omega) ?_ ?_ ?_
        · simp [dom, hs]
        · have e : fa 8 .u64 (upd (wpout (um a) (um b) i 4) (i + 4) (wpcar (um a) (um b) i 4)) = fa 8 .u64 (wi (wprow (um a) (um b) (i + 1))) := fa_congr fun j _ => wpout_end (um a) (um b) i hB0 hB1 j
          simp [fa_ids, e]
        · simp
    · unfold mwSt
      rw [eD]
      by_cases hx : orW D = 0
      · have hov : ovD D = false := by rw [← hor]; simp [hx]
        unfold orW at hx
        by_cases hzz : sz D = 0
        · have hw := words_z D hzz
          repeat' (first | refine gwS ?_ | simp only [wN, wM, Nat.reduceAdd, Nat.reduceMul] | ((first | refine gwR [] ?_ | refine gwD [] ?_); intro Q hQ hP; simp [hC, hY, fa_8, fa_4, hx, hw]; (first | refine hQ _ _ _ _ (by kernel_rfl) ?_ | refine hP _ _ (by kernel_rfl) fun _ => ?_); clear hQ hP Q) | refine gwB ?_ | refine gwT ?_ | refine gwK ?_ | refine gwE ?_ | refine gwG ?_ | refine gwL ?_ | simp only [blockG_exit] | (refine gwC ?_ ?_ <;> (intro hb; first | (cases hb; done) | skip)))
          refine ⟨.inr trivial, ?_⟩
          rw [ovD] at hov
          simp [Tryd.results24, hs2 hn, mulO, hx]
          have := sz_small D hbd.1 (by simpa using hov)
          simp at hov
          omega
        · have hw := words_ne D hzz
          repeat' (first | refine gwS ?_ | simp only [wN, wM, Nat.reduceAdd, Nat.reduceMul] | ((first | refine gwR [] ?_ | refine gwD [] ?_); intro Q hQ hP; simp [hC, hY, fa_8, fa_4, hx, hw]; (first | refine hQ _ _ _ _ (by kernel_rfl) ?_ | refine hP _ _ (by kernel_rfl) fun _ => ?_); clear hQ hP Q) | refine gwB ?_ | refine gwT ?_ | refine gwK ?_ | refine gwE ?_ | refine gwG ?_ | refine gwL ?_ | simp only [blockG_exit] | (refine gwC ?_ ?_ <;> (intro hb; first | (cases hb; done) | skip)))
          refine ⟨.inr trivial, ?_⟩
          rw [ovD] at hov
          simp [Tryd.results24, hs2 hn, mulO, hx]
          rw [Bool.eq_iff_iff]
          simp [ng_sz]
          have h3 := sz_small D hbd.1 (by simpa using hov)
          have h4 := sz_negl D hbd.1 (by simpa using hov)
          simp at hov
          omega
      · have hov : ovD D = true := by rw [← hor]; simp [hx]
        unfold orW at hx
        have hx2 : (bitI .or .u64 (bitI .or .u64 (bitI .or .u64 (wi D 4) (wi D 5)) (wi D 6)) (wi D 7) == 0) = false := by simpa using hx
        have hx3 : (bitI .or .u64 (bitI .or .u64 (bitI .or .u64 (wi D 4) (wi D 5)) (wi D 6)) (wi D 7) != 0) = true := by simpa using hx
        repeat' (first | refine gwS ?_ | simp only [wN, wM, Nat.reduceAdd, Nat.reduceMul] | ((first | refine gwR [] ?_ | refine gwD [] ?_); intro Q hQ hP; simp [hC, hY, fa_8, fa_4, hx, hx2, hx3]; (first | refine hQ _ _ _ _ (by kernel_rfl) ?_ | refine hP _ _ (by kernel_rfl) fun _ => ?_); clear hQ hP Q) | refine gwB ?_ | refine gwT ?_ | refine gwK ?_ | refine gwE ?_ | refine gwG ?_ | refine gwL ?_ | simp only [blockG_exit] | (refine gwC ?_ ?_ <;> (intro hb; first | (cases hb; done) | skip)))
        refine ⟨.inr trivial, ?_⟩
        rw [ovD] at hov
        simp [Tryd.results24, hs2 hn, mulO, hx]
        simp at hov
        omega
  · have hn : (ng a == ng b) = false := by rw [ha, hq]; rfl
    refine GW_for 4 (mwSt 360 true (um a) (um b)) ?_ ?_ ?_
    · have e1 := wum_p a ha
      have e2 := wum_m b hq
      refine weakL _ 600 hC G0F (m0 := []) hC0 (by omega) ?_ ?_ ?_
      · simp [dom, fa_4, e1]
      · simp [fa_ids, fa_4, fa_8, e1, e2, wprow, Int.emod_one, wi_zero]
      · simp
    · intro i hi
      have hi' : (i : Int) < 4 := by omega
      have hz : (0 : Int) ≤ i := by omega
      have hs : Int.bmod ((i : Int) + 1) 18446744073709551616 = ((i + 1 : Nat) : Int) := by rw [bm (by omega) (by omega)]; rfl
      unfold mwSt
      repeat' (first | refine gwS ?_ | simp only [wN, wM, Nat.reduceAdd, Nat.reduceMul] | ((first | refine gwR [] ?_ | refine gwD [] ?_); intro Q hQ hP; simp [hC, hY, hi, hi', hz, hs, fa_get]; (first | refine hQ _ _ _ _ (by kernel_rfl) ?_ | refine hP _ _ (by kernel_rfl) fun _ => ?_); clear hQ hP Q) | refine gwB ?_ | refine gwT ?_ | refine gwK ?_ | refine gwE ?_ | refine gwG ?_ | refine gwL ?_ | simp only [blockG_exit] | (refine gwC ?_ ?_ <;> (intro hb; first | (cases hb; done) | skip)))
      refine GW_for 4 (mwSt2 360 true (um a) (um b) i) ?_ ?_ ?_
      · refine weakL _ 600 hC G0F (m0 := []) hC0 (by omega) ?_ ?_ ?_
        · simp [dom, wpcar_zero]
        · have e : fa 8 .u64 (wpout (um a) (um b) i 0) = fa 8 .u64 (wi (wprow (um a) (um b) i)) := fa_congr fun j _ => by unfold wpout; rw [if_neg (by omega)]
          simp [e, fa_ids]
        · simp
      · intro k hk
        have hk' : (k : Int) < 4 := by omega
        have hkz : (0 : Int) ≤ k := by omega
        have hs2 : Int.bmod ((k : Int) + 1) 18446744073709551616 = ((k + 1 : Nat) : Int) := by rw [bm (by omega) (by omega)]; rfl
        have hik : Int.bmod ((i : Int) + k) 18446744073709551616 = ((i + k : Nat) : Int) := by rw [bm (by omega) (by omega)]; rfl
        have hik2 : i + k < 8 := by omega
        have hik3 : (i : Int) + k < 8 := by omega
        have hik4 : (0 : Int) ≤ (i : Int) + k := by omega
        have hik5 : ((i : Int) + k).toNat = i + k := by omega
        have hik6 : (i : Int) + k ≤ 7 := by omega
        have hik7 : i + k ≤ 7 := by omega
        have hn := wn_bd (um a) (um b) i k
        have hc := wpcar_bd (um a) (um b) i k
        unfold mwSt2
        repeat' (first | refine gwS ?_ | simp only [wN, wM, Nat.reduceAdd, Nat.reduceMul] | ((first | refine gwR [] ?_ | refine gwD [] ?_); intro Q hQ hP; simp [hC, hY, hi, hi', hz, hk, hk', hkz, hik, hik2, hik3, hik4, hik5, hik6, hik7, hs2, fa_get, fa_set, wi_ge, wi_lt, hn.1, hn.2.1, hn.2.2, hc.1]; (first | refine hQ _ _ _ _ (by kernel_rfl) ?_ | refine hP _ _ (by kernel_rfl) fun _ => ?_); clear hQ hP Q) | refine gwB ?_ | refine gwT ?_ | refine gwK ?_ | refine gwE ?_ | refine gwG ?_ | refine gwL ?_ | simp only [blockG_exit] | (refine gwC ?_ ?_ <;> (intro hb; first | (cases hb; done) | skip)))
        refine weakL _ 600 hC G0F (m0 := []) hC0 (by omega) ?_ ?_ ?_
        · simp [dom, hs2, wdivS]
        · have e : fa 8 .u64 (upd (wpout (um a) (um b) i k) (i + k) (wi (wprow (um a) (um b) (i + 1)) (i + k))) = fa 8 .u64 (wpout (um a) (um b) i (k + 1)) := fa_congr fun j _ => wpout_step (um a) (um b) i k j
          simp [fa_ids, wmodS, e]
        · simp
      · have hi8 : Int.bmod ((i : Int) + 4) 18446744073709551616 = (i : Int) + 4 := bm (by omega) (by omega)
        have hi9 : (0 : Int) ≤ (i : Int) + 4 := by omega
        have hi10 : ((i : Int) + 4).toNat = i + 4 := by omega
        have hi11 : (i : Int) + 4 < 8 := by omega
        have hi12 : (i : Int) ≤ 3 := by omega
        have hi14 : i ≤ 3 := by omega
        have hi13 : i + 4 < 8 := by omega
        unfold mwSt2
        repeat' (first | refine gwS ?_ | simp only [wN, wM, Nat.reduceAdd, Nat.reduceMul] | ((first | refine gwR [] ?_ | refine gwD [] ?_); intro Q hQ hP; simp [hC, hY, hi, hi', hz, hs, hi8, hi9, hi10, hi11, hi12, hi13, hi14, fa_set]; (first | refine hQ _ _ _ _ (by kernel_rfl) ?_ | refine hP _ _ (by kernel_rfl) fun _ => ?_); clear hQ hP Q) | refine gwB ?_ | refine gwT ?_ | refine gwK ?_ | refine gwE ?_ | refine gwG ?_ | refine gwL ?_ | simp only [blockG_exit] | (refine gwC ?_ ?_ <;> (intro hb; first | (cases hb; done) | skip)))
        refine weakL _ 600 hC G0F (m0 := []) hC0 (by omega) ?_ ?_ ?_
        · simp [dom, hs]
        · have e : fa 8 .u64 (upd (wpout (um a) (um b) i 4) (i + 4) (wpcar (um a) (um b) i 4)) = fa 8 .u64 (wi (wprow (um a) (um b) (i + 1))) := fa_congr fun j _ => wpout_end (um a) (um b) i hB0 hB1 j
          simp [fa_ids, e]
        · simp
    · unfold mwSt
      rw [eD]
      by_cases hx : orW D = 0
      · have hov : ovD D = false := by rw [← hor]; simp [hx]
        unfold orW at hx
        by_cases hzz : sz D = 0
        · have hw := words_z D hzz
          repeat' (first | refine gwS ?_ | simp only [wN, wM, Nat.reduceAdd, Nat.reduceMul] | ((first | refine gwR [] ?_ | refine gwD [] ?_); intro Q hQ hP; simp [hC, hY, fa_8, fa_4, hx, hw]; (first | refine hQ _ _ _ _ (by kernel_rfl) ?_ | refine hP _ _ (by kernel_rfl) fun _ => ?_); clear hQ hP Q) | refine gwB ?_ | refine gwT ?_ | refine gwK ?_ | refine gwE ?_ | refine gwG ?_ | refine gwL ?_ | simp only [blockG_exit] | (refine gwC ?_ ?_ <;> (intro hb; first | (cases hb; done) | skip)))
          refine ⟨.inr trivial, ?_⟩
          rw [ovD] at hov
          simp [Tryd.results24, hs2 hn, mulO, hx]
          have := sz_small D hbd.1 (by simpa using hov)
          simp at hov
          omega
        · have hw := words_ne D hzz
          repeat' (first | refine gwS ?_ | simp only [wN, wM, Nat.reduceAdd, Nat.reduceMul] | ((first | refine gwR [] ?_ | refine gwD [] ?_); intro Q hQ hP; simp [hC, hY, fa_8, fa_4, hx, hw]; (first | refine hQ _ _ _ _ (by kernel_rfl) ?_ | refine hP _ _ (by kernel_rfl) fun _ => ?_); clear hQ hP Q) | refine gwB ?_ | refine gwT ?_ | refine gwK ?_ | refine gwE ?_ | refine gwG ?_ | refine gwL ?_ | simp only [blockG_exit] | (refine gwC ?_ ?_ <;> (intro hb; first | (cases hb; done) | skip)))
          refine ⟨.inr trivial, ?_⟩
          rw [ovD] at hov
          simp [Tryd.results24, hs2 hn, mulO, hx]
          rw [Bool.eq_iff_iff]
          simp [ng_sz]
          have h3 := sz_small D hbd.1 (by simpa using hov)
          have h4 := sz_negl D hbd.1 (by simpa using hov)
          simp at hov
          omega
      · have hov : ovD D = true := by rw [← hor]; simp [hx]
        unfold orW at hx
        have hx2 : (bitI .or .u64 (bitI .or .u64 (bitI .or .u64 (wi D 4) (wi D 5)) (wi D 6)) (wi D 7) == 0) = false := by simpa using hx
        have hx3 : (bitI .or .u64 (bitI .or .u64 (bitI .or .u64 (wi D 4) (wi D 5)) (wi D 6)) (wi D 7) != 0) = true := by simpa using hx
        repeat' (first | refine gwS ?_ | simp only [wN, wM, Nat.reduceAdd, Nat.reduceMul] | ((first | refine gwR [] ?_ | refine gwD [] ?_); intro Q hQ hP; simp [hC, hY, fa_8, fa_4, hx, hx2, hx3]; (first | refine hQ _ _ _ _ (by kernel_rfl) ?_ | refine hP _ _ (by kernel_rfl) fun _ => ?_); clear hQ hP Q) | refine gwB ?_ | refine gwT ?_ | refine gwK ?_ | refine gwE ?_ | refine gwG ?_ | refine gwL ?_ | simp only [blockG_exit] | (refine gwC ?_ ?_ <;> (intro hb; first | (cases hb; done) | skip)))
        refine ⟨.inr trivial, ?_⟩
        rw [ovD] at hov
        simp [Tryd.results24, hs2 hn, mulO, hx]
        simp at hov
        omega
  · have hn : (ng a == ng b) = true := by rw [ha, hq]; rfl
    refine GW_for 4 (mwSt 408 false (um a) (um b)) ?_ ?_ ?_
    · have e1 := wum_p a ha
      have e2 := wum_p b hq
      refine weakL _ 600 hC G0F (m0 := []) hC0 (by omega) ?_ ?_ ?_
      · simp [dom, fa_4, e1]
      · simp [fa_ids, fa_4, fa_8, e1, e2, wprow, Int.emod_one, wi_zero]
      · simp
    · intro i hi
      have hi' : (i : Int) < 4 := by omega
      have hz : (0 : Int) ≤ i := by omega
      have hs : Int.bmod ((i : Int) + 1) 18446744073709551616 = ((i + 1 : Nat) : Int) := by rw [bm (by omega) (by omega)]; rfl
      unfold mwSt
      repeat' (first | refine gwS ?_ | simp only [wN, wM, Nat.reduceAdd, Nat.reduceMul] | ((first | refine gwR [] ?_ | refine gwD [] ?_); intro Q hQ hP; simp [hC, hY, hi, hi', hz, hs, fa_get]; (first | refine hQ _ _ _ _ (by kernel_rfl) ?_ | refine hP _ _ (by kernel_rfl) fun _ => ?_); clear hQ hP Q) | refine gwB ?_ | refine gwT ?_ | refine gwK ?_ | refine gwE ?_ | refine gwG ?_ | refine gwL ?_ | simp only [blockG_exit] | (refine gwC ?_ ?_ <;> (intro hb; first | (cases hb; done) | skip)))
      refine GW_for 4 (mwSt2 408 false (um a) (um b) i) ?_ ?_ ?_
      · refine weakL _ 600 hC G0F (m0 := []) hC0 (by omega) ?_ ?_ ?_
        · simp [dom, wpcar_zero]
        · have e : fa 8 .u64 (wpout (um a) (um b) i 0) = fa 8 .u64 (wi (wprow (um a) (um b) i)) := fa_congr fun j _ => by unfold wpout; rw [if_neg (by omega)]
          simp [e, fa_ids]
        · simp
      · intro k hk
        have hk' : (k : Int) < 4 := by omega
        have hkz : (0 : Int) ≤ k := by omega
        have hs2 : Int.bmod ((k : Int) + 1) 18446744073709551616 = ((k + 1 : Nat) : Int) := by rw [bm (by omega) (by omega)]; rfl
        have hik : Int.bmod ((i : Int) + k) 18446744073709551616 = ((i + k : Nat) : Int) := by rw [bm (by omega) (by omega)]; rfl
        have hik2 : i + k < 8 := by omega
        have hik3 : (i : Int) + k < 8 := by omega
        have hik4 : (0 : Int) ≤ (i : Int) + k := by omega
        have hik5 : ((i : Int) + k).toNat = i + k := by omega
        have hik6 : (i : Int) + k ≤ 7 := by omega
        have hik7 : i + k ≤ 7 := by omega
        have hn := wn_bd (um a) (um b) i k
        have hc := wpcar_bd (um a) (um b) i k
        unfold mwSt2
        repeat' (first | refine gwS ?_ | simp only [wN, wM, Nat.reduceAdd, Nat.reduceMul] | ((first | refine gwR [] ?_ | refine gwD [] ?_); intro Q hQ hP; simp [hC, hY, hi, hi', hz, hk, hk', hkz, hik, hik2, hik3, hik4, hik5, hik6, hik7, hs2, fa_get, fa_set, wi_ge, wi_lt, hn.1, hn.2.1, hn.2.2, hc.1]; (first | refine hQ _ _ _ _ (by kernel_rfl) ?_ | refine hP _ _ (by kernel_rfl) fun _ => ?_); clear hQ hP Q) | refine gwB ?_ | refine gwT ?_ | refine gwK ?_ | refine gwE ?_ | refine gwG ?_ | refine gwL ?_ | simp only [blockG_exit] | (refine gwC ?_ ?_ <;> (intro hb; first | (cases hb; done) | skip)))
        refine weakL _ 600 hC G0F (m0 := []) hC0 (by omega) ?_ ?_ ?_
        · simp [dom, hs2, wdivS]
        · have e : fa 8 .u64 (upd (wpout (um a) (um b) i k) (i + k) (wi (wprow (um a) (um b) (i + 1)) (i + k))) = fa 8 .u64 (wpout (um a) (um b) i (k + 1)) := fa_congr fun j _ => wpout_step (um a) (um b) i k j
          simp [fa_ids, wmodS, e]
        · simp
      · have hi8 : Int.bmod ((i : Int) + 4) 18446744073709551616 = (i : Int) + 4 := bm (by omega) (by omega)
        have hi9 : (0 : Int) ≤ (i : Int) + 4 := by omega
        have hi10 : ((i : Int) + 4).toNat = i + 4 := by omega
        have hi11 : (i : Int) + 4 < 8 := by omega
        have hi12 : (i : Int) ≤ 3 := by omega
        have hi14 : i ≤ 3 := by omega
        have hi13 : i + 4 < 8 := by omega
        unfold mwSt2
        repeat' (first | refine gwS ?_ | simp only [wN, wM, Nat.reduceAdd, Nat.reduceMul] | ((first | refine gwR [] ?_ | refine gwD [] ?_); intro Q hQ hP; simp [hC, hY, hi, hi', hz, hs, hi8, hi9, hi10, hi11, hi12, hi13, hi14, fa_set]; (first | refine hQ _ _ _ _ (by kernel_rfl) ?_ | refine hP _ _ (by kernel_rfl) fun _ => ?_); clear hQ hP Q) | refine gwB ?_ | refine gwT ?_ | refine gwK ?_ | refine gwE ?_ | refine gwG ?_ | refine gwL ?_ | simp only [blockG_exit] | (refine gwC ?_ ?_ <;> (intro hb; first | (cases hb; done) | skip)))
        refine weakL _ 600 hC G0F (m0 := []) hC0 (by omega) ?_ ?_ ?_
        · simp [dom, hs]
        · have e : fa 8 .u64 (upd (wpout (um a) (um b) i 4) (i + 4) (wpcar (um a) (um b) i 4)) = fa 8 .u64 (wi (wprow (um a) (um b) (i + 1))) := fa_congr fun j _ => wpout_end (um a) (um b) i hB0 hB1 j
          simp [fa_ids, e]
        · simp
    · unfold mwSt
      rw [eD]
      by_cases hx : orW D = 0
      · have hov : ovD D = false := by rw [← hor]; simp [hx]
        unfold orW at hx
        repeat' (first | refine gwS ?_ | simp only [wN, wM, Nat.reduceAdd, Nat.reduceMul] | ((first | refine gwR [] ?_ | refine gwD [] ?_); intro Q hQ hP; simp [hC, hY, fa_8, fa_4, hx]; (first | refine hQ _ _ _ _ (by kernel_rfl) ?_ | refine hP _ _ (by kernel_rfl) fun _ => ?_); clear hQ hP Q) | refine gwB ?_ | refine gwT ?_ | refine gwK ?_ | refine gwE ?_ | refine gwG ?_ | refine gwL ?_ | simp only [blockG_exit] | (refine gwC ?_ ?_ <;> (intro hb; first | (cases hb; done) | skip)))
        refine ⟨.inr trivial, ?_⟩
        rw [ovD] at hov
        simp [Tryd.results24, hs1 hn, mulO, hx]
        rw [Bool.eq_iff_iff]
        simp [ng_sz]
        have h3 := sz_small D hbd.1 (by simpa using hov)
        simp at hov
        omega
      · have hov : ovD D = true := by rw [← hor]; simp [hx]
        unfold orW at hx
        have hx2 : (bitI .or .u64 (bitI .or .u64 (bitI .or .u64 (wi D 4) (wi D 5)) (wi D 6)) (wi D 7) == 0) = false := by simpa using hx
        have hx3 : (bitI .or .u64 (bitI .or .u64 (bitI .or .u64 (wi D 4) (wi D 5)) (wi D 6)) (wi D 7) != 0) = true := by simpa using hx
        repeat' (first | refine gwS ?_ | simp only [wN, wM, Nat.reduceAdd, Nat.reduceMul] | ((first | refine gwR [] ?_ | refine gwD [] ?_); intro Q hQ hP; simp [hC, hY, fa_8, fa_4, hx, hx2, hx3]; (first | refine hQ _ _ _ _ (by kernel_rfl) ?_ | refine hP _ _ (by kernel_rfl) fun _ => ?_); clear hQ hP Q) | refine gwB ?_ | refine gwT ?_ | refine gwK ?_ | refine gwE ?_ | refine gwG ?_ | refine gwL ?_ | simp only [blockG_exit] | (refine gwC ?_ ?_ <;> (intro hb; first | (cases hb; done) | skip)))
        refine ⟨.inr trivial, ?_⟩
        rw [ovD] at hov
        simp [Tryd.results24, hs1 hn, mulO, hx]
        simp at hov
        omega
@[simp] theorem wMul (a b : Int) (K : Value → Prop) : callK Tryd.prog G0 24 #[Value.agg #[.int .u64 (wi (a) 0), .int .u64 (wi (a) 1), .int .u64 (wi (a) 2), .int .u64 (wi (a) 3)], Value.agg #[.int .u64 (wi (b) 0), .int .u64 (wi (b) 1), .int .u64 (wi (b) 2), .int .u64 (wi (b) 3)]] K ↔ K (.tuple #[wd (sz a * sz b), .bool (mulO a b)]) := callK_iff G0W (by kernel_rfl) (wmul_ret a b)

def erV (n : Int) : Value := .iface 23 (.int .i64 n)
@[simp] theorem erV_eq (n : Int) : erV n = .iface 23 (.int .i64 n) := rfl
def zB : Blk := ⟨#[.int .u64 0, .int .u64 0, .int .u64 0, .int .u64 0], .ty 28⟩
def eB (n : Int) : Blk := ⟨#[.int .i64 n], .ty 23⟩
theorem assert_ok (n : Int) (W : World) : (Instr.typeAssert (erV n) 20 23 true).run Tryd.prog W = .ok (.tuple #[.int .i64 n, .bool true]) W := by kernel_rfl
theorem assert_nil (W : World) : (Instr.typeAssert .nilIface 20 23 true).run Tryd.prog W = .ok (.tuple #[.int .i64 0, .bool false]) W := by kernel_rfl
theorem rep10 : Array.replicate 10 undef = #[undef, undef, undef, undef, undef, undef, undef, undef, undef, undef] := rfl
theorem rep7 : Array.replicate 7 undef = #[undef, undef, undef, undef, undef, undef, undef] := rfl
def capQ : Array Value := #[.pointer (some ⟨100000, 0, none⟩), .pointer (some ⟨100008, 0, none⟩)]
def hpQ (n : Int) : Hp := hpL G0 [(100000, zB), (100008, eB n)]
theorem hpQ_rst (n : Int) : rst (hpQ n) [100000, 100008] = hpQ n := hpL_rst G0F (by simp)
theorem hpQ_ids (n : Int) (k : Nat) (b : Blk) (D : Nat → Prop) (h : hpQ n k = some b) : b.ids D := by
  rcases hpL_mem h with h | h
  · simp at h
    rcases h with ⟨_, rfl⟩ | ⟨_, rfl⟩ <;> simp [zB, eB]
  · exact G0_closed _ _ _ h
theorem qrec (n : Int) : RecF Tryd.prog G0 88 capQ (hpQ 0) [100000, 100008] (erV n) [(100000, zB), (100008, eB n)] := by
  refine ⟨⟨_, Tryd.func88⟩, Tryd.call88, ?_, ?_⟩
  · refine back_of (k := 2) Tryd.func88 rfl fun args c₀ cs W hk hu => ?_
    obtain ⟨p0, p1, rfl⟩ : ∃ p0 p1, args = #[p0, p1] := by
      rcases args with ⟨l⟩
      match l, hk with
      | [a, b], _ => exact ⟨a, b, rfl⟩
    have hn : Tryd.f88.ntmps = 12 := Tryd.ntmps88
    refine wpSIn_seq (wpSIn_region ?_)
    simp [wpOpsSIn, List.range, List.range.loop, go_sem, recoverD, hu, hn, assert_nil, rep10]
    refine wpSIn_seq (wpSIn_region ?_)
    simp [wpOpsSIn, List.range, List.range.loop, go_sem]
    refine wpSIn_cond (t := false) (by simp [Act.eval]) ?_
    refine wpSIn_of_wpIn rfl (wpIn_skip ?_)
    exact ⟨.inl rfl, rfl, rfl, rfl, .tuple #[], by simp [results, Tryd.results88, go_sem]⟩
  · refine caught_of (B := 200000) (A := #[.pointer (some ⟨100000, 0, none⟩), .pointer (some ⟨100008, 0, none⟩), .int .i64 n, .bool true, .tuple #[.int .i64 n, .bool true], erV n, .tuple #[.int .i64 n, .bool true], .int .i64 n, .bool true, undef, undef, undef]) G0F (fun k hk => hpL_low (by simp) hk) Tryd.func88 rfl (by simp [Tryd.ntmps88]) ?_ ?_ ?_ ?_ ?_ ?_ (by omega) ?_ ?_
    · rw [hpQ_rst]; simp [hpQ, dom]; exact flatV_ids (by simp)
    · intro r c₀ cs W Q hu hQ
      have hrn : ∀ v, flatV v = true → ren r v = v := fun v hv => flatV_ren hv
      simp only [List.map_toArray, List.map_cons, List.map_nil, capQ] at hQ ⊢
      generalize ren r (.pointer (some ⟨100000, 0, none⟩)) = p0 at hQ ⊢
      generalize ren r (.pointer (some ⟨100008, 0, none⟩)) = p1 at hQ ⊢
      simp only [hrn (.int .i64 n) rfl, hrn (.bool true) rfl, hrn (erV n) rfl, hrn (.tuple #[.int .i64 n, .bool true]) (by simp), ren_undef] at hQ
      have hn : Tryd.f88.ntmps = 12 := Tryd.ntmps88
      have hA := assert_ok n
      simp only [erV_eq] at hA
      simp [wpOpsSIn, List.range, List.range.loop, go_sem, recoverD, hu, pand, erV, hn, hA, rep10]
      exact hQ
    · rw [hpQ_rst]; exact fun k b h => hpQ_ids 0 k b _ h
    · rw [hpQ_rst]; simp [hpQ, dom]
    · intro k b c h1 h2
      simp at h1 h2
      rcases h1 with ⟨rfl, rfl⟩ | ⟨rfl, rfl⟩ <;> rcases h2 with ⟨e2, rfl⟩ | ⟨e2, rfl⟩ <;> first | rfl | omega
    · simp [zB, eB]
    · rw [hpQ_rst]; exact fun x hx => by simp [hpQ, show ¬ x = 100000 by omega, show ¬ x = 100008 by omega, show 100 ≤ x by omega]
    · intro C hC hC0 hY
      rw [hpQ_rst]
      repeat' (first | refine gwS ?_ | simp only [wN, wM, Nat.reduceAdd, Nat.reduceMul] | ((first | refine gwR [] ?_ | refine gwD [] ?_); intro Q hQ hP; simp [hC, hY, hpQ, zB, eB]; (first | refine hQ _ _ _ _ (by kernel_rfl) ?_ | refine hP _ _ (by kernel_rfl) fun _ => ?_); clear hQ hP Q) | refine gwB ?_ | refine gwT ?_ | refine gwK ?_ | refine gwE ?_ | refine gwG ?_ | refine gwL ?_ | simp only [blockG_exit] | (refine gwC ?_ ?_ <;> (intro hb; first | (cases hb; done) | skip)))
      refine ⟨.inl trivial, by simp [Tryd.results88], fun k hk => ?_⟩
      simp [zB, eB, hpQ]
theorem neq_nil0 (W : World) : ((do eqGuard .neq 20 (.tmp 4) (.const .nilIface) .nilIface .nilIface; binOp .neq 20 .nilIface .nilIface : Sem Value)).run Tryd.prog W = .ok (.bool false) W := by kernel_rfl
def ifE : Value → Bool
  | .iface T (.int .i64 _) => T == 23
  | _ => false
def ifN : Value → Value
  | .iface _ u => u
  | v => v
@[simp] theorem ifE_eq (T : TypeId) (n : Int) : ifE (.iface T (.int .i64 n)) = (T == 23) := nr rfl
@[simp] theorem ifN_eq (T : TypeId) (u : Value) : ifN (.iface T u) = u := nr rfl
theorem ifE_of {v : Value} (h : ifE v = true) : ∃ n, v = erV n := by
  unfold ifE at h
  split at h
  · rename_i T n
    have : T = 23 := by simpa using h
    exact ⟨n, by rw [this]; rfl⟩
  · cases h
theorem pureV_iff {P : Program} {o : Oper} {ts : Nat → Value} {hp : Hp} {K : Value → Prop} {v : Value} (ho : ∀ x ∈ o.op.operands.toList, okX ts hp x ∧ flatV (gev ts x) = true) (hv : flatV v = true) (hr : ∀ W, (execOp (gev ts) o).run P W = .ok (.value v) W) : pureV P o ts hp K ↔ K v :=
  ⟨fun ⟨_, u, _, h1, h2⟩ => by
    have := (hr default).symm.trans (h1 default)
    injection this with this; injection this with this; subst this; exact h2, fun h => ⟨ho, v, hv, hr, h⟩⟩
@[simp] theorem bin2_inil (P : Program) (op : BinOp) (T t : TypeId) (v : Value) : bin2 P op T (.iface t v) .nilIface = none := by cases op <;> rfl
@[simp] theorem binX_neqnil {dst : Option Tmp} {x : Operand} {T : TypeId} {ps : String} {af : Array Edge} {g : Option (Nat × Bool)} {ts : Nat → Value} {hp : Hp} {C : Eff → Prop} (h : ifE (gev ts x) = true) (hx : okX ts hp x) :
    binX Tryd.prog none ⟨dst, .binOp .neq 20 x (.const .nilIface) 20, T, ps, af, g⟩ ts hp C ↔ C (val (.bool true) []) := by
  obtain ⟨n, hn⟩ := ifE_of h
  refine pureV_iff (K := fun v => C (val v [])) (v := .bool true) ?_ rfl fun W => ?_
  · intro y hy
    simp [Op.operands] at hy
    rcases hy with rfl | rfl
    · exact ⟨hx, by rw [hn]; rfl⟩
    · exact ⟨rfl, rfl⟩
  · show (execOp (gev ts) ⟨dst, .binOp .neq 20 x (.const .nilIface) 20, T, ps, af, g⟩).run Tryd.prog W = _
    simp only [execOp, hn]
    kernel_rfl
@[simp] theorem opX_assertE {dst : Option Tmp} {x : Operand} {T : TypeId} {ps : String} {af : Array Edge} {g : Option (Nat × Bool)} {V : XV} {yc nk : Nat} {ts : Nat → Value} {hp : Hp} {C : Eff → Prop} (h : ifE (gev ts x) = true) (hx : okX ts hp x) :
    opX Tryd.prog G0 V yc ⟨dst, .typeAssert x 20 23 false, T, ps, af, g⟩ ts hp nk C ↔ C (val (ifN (gev ts x)) []) := by
  obtain ⟨n, hn⟩ := ifE_of h
  refine pureV_iff (K := fun v => C (val v [])) ?_ ?_ fun W => ?_
  · intro y hy
    simp [Op.operands] at hy
    subst hy
    exact ⟨hx, by rw [hn]; rfl⟩
  · rw [hn]; rfl
  · simp only [execOp, hn]
    kernel_rfl
theorem rrec (n : Int) : RecF Tryd.prog G0 64 capQ (hpQ 0) [100000, 100008] (erV n) [(100000, zB), (100008, eB n)] := by
  refine ⟨⟨_, Tryd.func64⟩, Tryd.call64, ?_, ?_⟩
  · refine back_of (k := 2) Tryd.func64 rfl fun args c₀ cs W hk hu => ?_
    obtain ⟨p0, p1, rfl⟩ : ∃ p0 p1, args = #[p0, p1] := by
      rcases args with ⟨l⟩
      match l, hk with
      | [a, b], _ => exact ⟨a, b, rfl⟩
    have hn : Tryd.f64.ntmps = 9 := Tryd.ntmps64
    refine wpSIn_seq (wpSIn_region ?_)
    simp [wpOpsSIn, List.range, List.range.loop, go_sem, recoverD, hu, hn, rep7]
    refine wpSIn_seq (wpSIn_region ?_)
    simp [wpOpsSIn, List.range, List.range.loop, go_sem, neq_nil0]
    refine wpSIn_cond (t := false) (by simp [Act.eval]) ?_
    refine wpSIn_of_wpIn rfl (wpIn_skip ?_)
    exact ⟨.inl rfl, rfl, rfl, rfl, .tuple #[], by simp [results, Tryd.results64, go_sem]⟩
  · refine caught_of (B := 200000) (A := #[.pointer (some ⟨100000, 0, none⟩), .pointer (some ⟨100008, 0, none⟩), erV n, erV n, undef, undef, undef, undef, undef]) G0F (fun k hk => hpL_low (by simp) hk) Tryd.func64 rfl (by simp [Tryd.ntmps64]) ?_ ?_ ?_ ?_ ?_ ?_ (by omega) ?_ ?_
    · rw [hpQ_rst]; simp [hpQ, dom]
    · intro r c₀ cs W Q hu hQ
      have hrn : ∀ v, flatV v = true → ren r v = v := fun v hv => flatV_ren hv
      simp only [List.map_toArray, List.map_cons, List.map_nil, capQ] at hQ ⊢
      generalize ren r (.pointer (some ⟨100000, 0, none⟩)) = p0 at hQ ⊢
      generalize ren r (.pointer (some ⟨100008, 0, none⟩)) = p1 at hQ ⊢
      simp only [hrn (erV n) rfl, ren_undef] at hQ
      have hn : Tryd.f64.ntmps = 9 := Tryd.ntmps64
      simp [wpOpsSIn, List.range, List.range.loop, go_sem, recoverD, hu, pand, erV, hn, rep7]
      exact hQ
    · rw [hpQ_rst]; exact fun k b h => hpQ_ids 0 k b _ h
    · rw [hpQ_rst]; simp [hpQ, dom]
    · intro k b c h1 h2
      simp at h1 h2
      rcases h1 with ⟨rfl, rfl⟩ | ⟨rfl, rfl⟩ <;> rcases h2 with ⟨e2, rfl⟩ | ⟨e2, rfl⟩ <;> first | rfl | omega
    · simp [zB, eB]
    · rw [hpQ_rst]; exact fun x hx => by simp [hpQ, show ¬ x = 100000 by omega, show ¬ x = 100008 by omega, show 100 ≤ x by omega]
    · intro C hC hC0 hY
      rw [hpQ_rst]
      repeat' (first | refine gwS ?_ | simp only [wN, wM, Nat.reduceAdd, Nat.reduceMul] | ((first | refine gwR [] ?_ | refine gwD [] ?_); intro Q hQ hP; simp [hC, hY, hpQ, zB, eB]; (first | refine hQ _ _ _ _ (by kernel_rfl) ?_ | refine hP _ _ (by kernel_rfl) fun _ => ?_); clear hQ hP Q) | refine gwB ?_ | refine gwT ?_ | refine gwK ?_ | refine gwE ?_ | refine gwG ?_ | refine gwL ?_ | simp only [blockG_exit] | (refine gwC ?_ ?_ <;> (intro hb; first | (cases hb; done) | skip)))
      refine ⟨.inl trivial, by simp [Tryd.results64], fun k hk => ?_⟩
      simp [zB, eB, hpQ]
theorem qtold_ret {g : FuncId} {capv : List Value} {hp : Hp} {rs : List Nat} {x0 x1 x2 x3 : Int} {ws : List (Nat × Blk)} (hG : ∀ k, k < 100 → hp k = G0 k) (hrs : ∀ k ∈ rs, k < 100000) (hc : capv.isEmpty = false) (hpl : capv.all plain0 = true)
    (h : Fun Tryd.prog G0 g capv.toArray hp rs (.ret (.agg #[.int .u64 x0, .int .u64 x1, .int .u64 x2, .int .u64 x3]) ws)) :
    Fun Tryd.prog G0 78 #[.func (.func g) #[] capv.toArray] hp rs (.ret (.tuple #[.agg #[.int .u64 x0, .int .u64 x1, .int .u64 x2, .int .u64 x3], .int .i64 0]) ws) := by
  have hids : ∀ x ∈ capv, ids0 (dom (rst hp rs)) x := fun x hx => (ids_plain0 (List.all_eq_true.1 hpl x hx)).1 (h.ids x (by simpa using hx))
  have hbig : ∀ x, 100000 ≤ x → rst hp rs x = none := fun x hx => by
    unfold rst; rw [if_neg]; rintro (h1 | h1)
    · omega
    · have := hrs x h1; omega
  refine fun_rec (out := .ret (.tuple #[.agg #[.int .u64 x0, .int .u64 x1, .int .u64 x2, .int .u64 x3], .int .i64 0]) ws) (B := 100000) (B1 := 100016) (id := 1) (t := 4) (ts1 := upd (upd (fun t => [Value.func (.func g) #[] capv.toArray][t]?.getD undef) 2 (gptr 100000)) 3 (gptr 100008))
    (hp1 := upd (upd (rst hp rs) 100000 (some zB)) 100008 (some (eB 0))) capQ G0F hG Tryd.func78 rfl (by simp [Tryd.ntmps78]) Tryd.call78 ⟨_, _, _, _, qrec 0⟩ ?_ h.closed ?_ (by simp [Tryd.ntmps78]) (by omega) hbig ?_ ?_ ?_ ?_ ?_ ?_
  · simpa using hids
  · exact ⟨flatV_ids (by simp), h.fits.2⟩
  · intro C hC hC0 hY
    repeat' (first | refine gwS ?_ | simp only [wN, wM, Nat.reduceAdd, Nat.reduceMul] | ((first | refine gwR [] ?_ | refine gwD [] ?_); intro Q hQ hP; simp [hC, hY]; (first | refine hQ _ _ _ _ (by kernel_rfl) ?_ | refine hP _ _ (by kernel_rfl) fun _ => ?_); clear hQ hP Q) | refine gwB ?_ | refine gwT ?_ | refine gwK ?_ | refine gwE ?_ | refine gwG ?_ | refine gwL ?_ | simp only [blockG_exit] | (refine gwC ?_ ?_ <;> (intro hb; first | (cases hb; done) | skip)))
    exact ⟨trivial, rfl⟩
  · intro k hk
    have h1 : ¬ k = 100000 := fun e => hk (hbig k (by omega))
    have h2 : ¬ k = 100008 := fun e => hk (hbig k (by omega))
    simp [h1, h2]
  · simp [okT, capQ]
  · simp [capQ]
  · simp [capQ]
  · intro C d hC hC0 hY
    refine GW_seq ?_
    refine GW_region' [] (by kernel_rfl) ?_; intro Q hQ hP; simp [hC, hY, hc, hpl]
    have hk1 : ∀ k ∈ keys ws, k < 100000 := fun k hk => hrs k (h.fits.2.1 k hk).1
    have hk2 : (100000 : Nat) ∉ keys ws := fun hm => by have := hk1 _ hm; omega
    have hk3 : (100008 : Nat) ∉ keys ws := fun hm => by have := hk1 _ hm; omega
    have w1 : updL (upd (upd (rst hp rs) 100000 (some zB)) 100008 (some (eB 0))) ws 100000 = some zB := by
      rw [updL_other hk2]; simp
    have w2 : updL (upd (upd (rst hp rs) 100000 (some zB)) 100008 (some (eB 0))) ws 100008 = some (eB 0) := by
      rw [updL_other hk3]; simp
    refine heapK_of (hp' := hp) h (fun k hk => ?_) hG trivial ?_
    · have := hrs k hk
      simp [rst, hk, show ¬ k = 100000 by omega, show ¬ k = 100008 by omega]
    simp only [zB, eB] at w1 w2
    simp [w1, w2, zB, eB]
    refine hQ _ _ _ _ ?_
    repeat' (first | refine gwS ?_ | simp only [wN, wM, Nat.reduceAdd, Nat.reduceMul] | ((first | refine gwR [] ?_ | refine gwD [] ?_); intro Q hQ hP; simp [hC, hY, w1, w2, zB, eB]; (first | refine hQ _ _ _ _ (by kernel_rfl) ?_ | refine hP _ _ (by kernel_rfl) fun _ => ?_); clear hQ hP Q) | refine gwB ?_ | refine gwT ?_ | refine gwK ?_ | refine gwE ?_ | refine gwG ?_ | refine gwL ?_ | simp only [blockG_exit] | (refine gwC ?_ ?_ <;> (intro hb; first | (cases hb; done) | skip)))
    refine ⟨.inr rfl, by simp [Tryd.results78], fun k hk => ?_⟩
    have h1 : ¬ k = 100000 := fun e => hk (hbig k (by omega))
    have h2 : ¬ k = 100008 := fun e => hk (hbig k (by omega))
    rw [updL_comm_upd hk3, updL_comm_upd hk2]
    simp [h1, h2]
theorem qtold_pan {g : FuncId} {capv : List Value} {hp : Hp} {rs : List Nat} {n : Int} (hG : ∀ k, k < 100 → hp k = G0 k) (hrs : ∀ k ∈ rs, k < 100000) (hc : capv.isEmpty = false) (hpl : capv.all plain0 = true)
    (h : Fun Tryd.prog G0 g capv.toArray hp rs (.pan (erV n))) :
    Fun Tryd.prog G0 78 #[.func (.func g) #[] capv.toArray] hp rs (.ret (.tuple #[.agg #[.int .u64 0, .int .u64 0, .int .u64 0, .int .u64 0], .int .i64 n]) []) := by
  have hids : ∀ x ∈ capv, ids0 (dom (rst hp rs)) x := fun x hx => (ids_plain0 (List.all_eq_true.1 hpl x hx)).1 (h.ids x (by simpa using hx))
  have hbig : ∀ x, 100000 ≤ x → rst hp rs x = none := fun x hx => by
    unfold rst; rw [if_neg]; rintro (h1 | h1)
    · omega
    · have := hrs x h1; omega
  refine fun_rec (out := .pan (erV n) [100000, 100008] [(100000, zB), (100008, eB n)] (.tuple #[.agg #[.int .u64 0, .int .u64 0, .int .u64 0, .int .u64 0], .int .i64 n])) (B := 100000) (B1 := 100016) (id := 1) (t := 4) (ts1 := upd (upd (fun t => [Value.func (.func g) #[] capv.toArray][t]?.getD undef) 2 (gptr 100000)) 3 (gptr 100008))
    (hp1 := upd (upd (rst hp rs) 100000 (some zB)) 100008 (some (eB 0))) capQ G0F hG Tryd.func78 rfl (by simp [Tryd.ntmps78]) Tryd.call78 ⟨_, _, _, _, qrec 0⟩ ?_ h.closed ?_ (by simp [Tryd.ntmps78]) (by omega) hbig ?_ ?_ ?_ ?_ ?_ ?_
  · simpa using hids
  · exact ⟨flatV_ids (by simp), by simp [keys], by simp, by simp⟩
  · intro C hC hC0 hY
    repeat' (first | refine gwS ?_ | simp only [wN, wM, Nat.reduceAdd, Nat.reduceMul] | ((first | refine gwR [] ?_ | refine gwD [] ?_); intro Q hQ hP; simp [hC, hY]; (first | refine hQ _ _ _ _ (by kernel_rfl) ?_ | refine hP _ _ (by kernel_rfl) fun _ => ?_); clear hQ hP Q) | refine gwB ?_ | refine gwT ?_ | refine gwK ?_ | refine gwE ?_ | refine gwG ?_ | refine gwL ?_ | simp only [blockG_exit] | (refine gwC ?_ ?_ <;> (intro hb; first | (cases hb; done) | skip)))
    exact ⟨trivial, rfl⟩
  · intro k hk
    have h1 : ¬ k = 100000 := fun e => hk (hbig k (by omega))
    have h2 : ¬ k = 100008 := fun e => hk (hbig k (by omega))
    simp [h1, h2]
  · simp [okT, capQ]
  · simp [capQ]
  · simp [capQ]
  · intro C d hC hC0 hY
    refine GW_seq ?_
    refine GW_region' [] (by kernel_rfl) ?_; intro Q hQ hP; simp [hC, hY, hc, hpl]
    refine heapK_of (hp' := hp) h (fun k hk => ?_) hG trivial ?_
    · have := hrs k hk
      simp [rst, hk, show ¬ k = 100000 by omega, show ¬ k = 100008 by omega]
    simp
    refine hP _ _ fun yc => ?_
    simp only [thenG_panic]
    have e : ∀ k, (k < 100 ∨ k ∈ [100000, 100008]) → hpQ 0 k = upd (upd (rst hp rs) 100000 (some zB)) 100008 (some (eB 0)) k := fun k hk => by
      rcases hk with hk | hk
      · simp [hpQ, show ¬ k = 100000 by omega, show ¬ k = 100008 by omega, rst, hk, hG k hk]
      · simp at hk; rcases hk with rfl | rfl <;> simp [hpQ]
    have er : rst (upd (upd (rst hp rs) 100000 (some zB)) 100008 (some (eB 0))) [100000, 100008] = hpQ 0 := by rw [← rst_congr e, hpQ_rst]
    refine ⟨rfl, by simp [Tryd.results78, zB, eB], fun k hk => rfl, (qrec n).under e, fun k hk => ?_, fun k hk => ?_, ?_⟩
    · rw [er] at hk; unfold dom at hk ⊢
      by_cases h1 : k = 100000
      · subst h1; simp
      · by_cases h2 : k = 100008
        · subst h2; simp
        · simp only [hpQ, hpL_cons, hpL_nil, h1, h2, if_false] at hk
          have hk100 := G0_dom hk
          simp [h1, h2, rst, hk100, hG k hk100]; exact hk
    · rw [er]
      simp [keys] at hk
      rcases hk with rfl | rfl
      · exact ⟨by simp [hpQ, dom], by omega, fun hd => hd (hbig _ (by omega))⟩
      · exact ⟨by simp [hpQ, dom], by omega, fun hd => hd (hbig _ (by omega))⟩
    · rw [er]; exact fun k b hk => hpQ_ids 0 k b _ hk
theorem rtold_ret {g : FuncId} {capv : List Value} {hp : Hp} {rs : List Nat} {x0 x1 x2 x3 : Int} {ws : List (Nat × Blk)} (hG : ∀ k, k < 100 → hp k = G0 k) (hrs : ∀ k ∈ rs, k < 100000) (hc : capv.isEmpty = false) (hpl : capv.all plain0 = true)
    (h : Fun Tryd.prog G0 g capv.toArray hp rs (.ret (.agg #[.int .u64 x0, .int .u64 x1, .int .u64 x2, .int .u64 x3]) ws)) :
    Fun Tryd.prog G0 46 #[.func (.func g) #[] capv.toArray] hp rs (.ret (.tuple #[.agg #[.int .u64 x0, .int .u64 x1, .int .u64 x2, .int .u64 x3], .int .i64 0]) ws) := by
  have hids : ∀ x ∈ capv, ids0 (dom (rst hp rs)) x := fun x hx => (ids_plain0 (List.all_eq_true.1 hpl x hx)).1 (h.ids x (by simpa using hx))
  have hbig : ∀ x, 100000 ≤ x → rst hp rs x = none := fun x hx => by
    unfold rst; rw [if_neg]; rintro (h1 | h1)
    · omega
    · have := hrs x h1; omega
  refine fun_rec (out := .ret (.tuple #[.agg #[.int .u64 x0, .int .u64 x1, .int .u64 x2, .int .u64 x3], .int .i64 0]) ws) (B := 100000) (B1 := 100016) (id := 1) (t := 4) (ts1 := upd (upd (fun t => [Value.func (.func g) #[] capv.toArray][t]?.getD undef) 2 (gptr 100000)) 3 (gptr 100008))
    (hp1 := upd (upd (rst hp rs) 100000 (some zB)) 100008 (some (eB 0))) capQ G0F hG Tryd.func46 rfl (by simp [Tryd.ntmps46]) Tryd.call46 ⟨_, _, _, _, rrec 0⟩ ?_ h.closed ?_ (by simp [Tryd.ntmps46]) (by omega) hbig ?_ ?_ ?_ ?_ ?_ ?_
  · simpa using hids
  · exact ⟨flatV_ids (by simp), h.fits.2⟩
  · intro C hC hC0 hY
    repeat' (first | refine gwS ?_ | simp only [wN, wM, Nat.reduceAdd, Nat.reduceMul] | ((first | refine gwR [] ?_ | refine gwD [] ?_); intro Q hQ hP; simp [hC, hY]; (first | refine hQ _ _ _ _ (by kernel_rfl) ?_ | refine hP _ _ (by kernel_rfl) fun _ => ?_); clear hQ hP Q) | refine gwB ?_ | refine gwT ?_ | refine gwK ?_ | refine gwE ?_ | refine gwG ?_ | refine gwL ?_ | simp only [blockG_exit] | (refine gwC ?_ ?_ <;> (intro hb; first | (cases hb; done) | skip)))
    exact ⟨trivial, rfl⟩
  · intro k hk
    have h1 : ¬ k = 100000 := fun e => hk (hbig k (by omega))
    have h2 : ¬ k = 100008 := fun e => hk (hbig k (by omega))
    simp [h1, h2]
  · simp [okT, capQ]
  · simp [capQ]
  · simp [capQ]
  · intro C d hC hC0 hY
    refine GW_seq ?_
    refine GW_region' [] (by kernel_rfl) ?_; intro Q hQ hP; simp [hC, hY, hc, hpl]
    have hk1 : ∀ k ∈ keys ws, k < 100000 := fun k hk => hrs k (h.fits.2.1 k hk).1
    have hk2 : (100000 : Nat) ∉ keys ws := fun hm => by have := hk1 _ hm; omega
    have hk3 : (100008 : Nat) ∉ keys ws := fun hm => by have := hk1 _ hm; omega
    have w1 : updL (upd (upd (rst hp rs) 100000 (some zB)) 100008 (some (eB 0))) ws 100000 = some zB := by
      rw [updL_other hk2]; simp
    have w2 : updL (upd (upd (rst hp rs) 100000 (some zB)) 100008 (some (eB 0))) ws 100008 = some (eB 0) := by
      rw [updL_other hk3]; simp
    refine heapK_of (hp' := hp) h (fun k hk => ?_) hG trivial ?_
    · have := hrs k hk
      simp [rst, hk, show ¬ k = 100000 by omega, show ¬ k = 100008 by omega]
    simp only [zB, eB] at w1 w2
    simp [w1, w2, zB, eB]
    refine hQ _ _ _ _ ?_
    repeat' (first | refine gwS ?_ | simp only [wN, wM, Nat.reduceAdd, Nat.reduceMul] | ((first | refine gwR [] ?_ | refine gwD [] ?_); intro Q hQ hP; simp [hC, hY, w1, w2, zB, eB]; (first | refine hQ _ _ _ _ (by kernel_rfl) ?_ | refine hP _ _ (by kernel_rfl) fun _ => ?_); clear hQ hP Q) | refine gwB ?_ | refine gwT ?_ | refine gwK ?_ | refine gwE ?_ | refine gwG ?_ | refine gwL ?_ | simp only [blockG_exit] | (refine gwC ?_ ?_ <;> (intro hb; first | (cases hb; done) | skip)))
    refine ⟨.inr rfl, by simp [Tryd.results46], fun k hk => ?_⟩
    have h1 : ¬ k = 100000 := fun e => hk (hbig k (by omega))
    have h2 : ¬ k = 100008 := fun e => hk (hbig k (by omega))
    rw [updL_comm_upd hk3, updL_comm_upd hk2]
    simp [h1, h2]
theorem rtold_pan {g : FuncId} {capv : List Value} {hp : Hp} {rs : List Nat} {n : Int} (hG : ∀ k, k < 100 → hp k = G0 k) (hrs : ∀ k ∈ rs, k < 100000) (hc : capv.isEmpty = false) (hpl : capv.all plain0 = true)
    (h : Fun Tryd.prog G0 g capv.toArray hp rs (.pan (erV n))) :
    Fun Tryd.prog G0 46 #[.func (.func g) #[] capv.toArray] hp rs (.ret (.tuple #[.agg #[.int .u64 0, .int .u64 0, .int .u64 0, .int .u64 0], .int .i64 n]) []) := by
  have hids : ∀ x ∈ capv, ids0 (dom (rst hp rs)) x := fun x hx => (ids_plain0 (List.all_eq_true.1 hpl x hx)).1 (h.ids x (by simpa using hx))
  have hbig : ∀ x, 100000 ≤ x → rst hp rs x = none := fun x hx => by
    unfold rst; rw [if_neg]; rintro (h1 | h1)
    · omega
    · have := hrs x h1; omega
  refine fun_rec (out := .pan (erV n) [100000, 100008] [(100000, zB), (100008, eB n)] (.tuple #[.agg #[.int .u64 0, .int .u64 0, .int .u64 0, .int .u64 0], .int .i64 n])) (B := 100000) (B1 := 100016) (id := 1) (t := 4) (ts1 := upd (upd (fun t => [Value.func (.func g) #[] capv.toArray][t]?.getD undef) 2 (gptr 100000)) 3 (gptr 100008))
    (hp1 := upd (upd (rst hp rs) 100000 (some zB)) 100008 (some (eB 0))) capQ G0F hG Tryd.func46 rfl (by simp [Tryd.ntmps46]) Tryd.call46 ⟨_, _, _, _, rrec 0⟩ ?_ h.closed ?_ (by simp [Tryd.ntmps46]) (by omega) hbig ?_ ?_ ?_ ?_ ?_ ?_
  · simpa using hids
  · exact ⟨flatV_ids (by simp), by simp [keys], by simp, by simp⟩
  · intro C hC hC0 hY
    repeat' (first | refine gwS ?_ | simp only [wN, wM, Nat.reduceAdd, Nat.reduceMul] | ((first | refine gwR [] ?_ | refine gwD [] ?_); intro Q hQ hP; simp [hC, hY]; (first | refine hQ _ _ _ _ (by kernel_rfl) ?_ | refine hP _ _ (by kernel_rfl) fun _ => ?_); clear hQ hP Q) | refine gwB ?_ | refine gwT ?_ | refine gwK ?_ | refine gwE ?_ | refine gwG ?_ | refine gwL ?_ | simp only [blockG_exit] | (refine gwC ?_ ?_ <;> (intro hb; first | (cases hb; done) | skip)))
    exact ⟨trivial, rfl⟩
  · intro k hk
    have h1 : ¬ k = 100000 := fun e => hk (hbig k (by omega))
    have h2 : ¬ k = 100008 := fun e => hk (hbig k (by omega))
    simp [h1, h2]
  · simp [okT, capQ]
  · simp [capQ]
  · simp [capQ]
  · intro C d hC hC0 hY
    refine GW_seq ?_
    refine GW_region' [] (by kernel_rfl) ?_; intro Q hQ hP; simp [hC, hY, hc, hpl]
    refine heapK_of (hp' := hp) h (fun k hk => ?_) hG trivial ?_
    · have := hrs k hk
      simp [rst, hk, show ¬ k = 100000 by omega, show ¬ k = 100008 by omega]
    simp
    refine hP _ _ fun yc => ?_
    simp only [thenG_panic]
    have e : ∀ k, (k < 100 ∨ k ∈ [100000, 100008]) → hpQ 0 k = upd (upd (rst hp rs) 100000 (some zB)) 100008 (some (eB 0)) k := fun k hk => by
      rcases hk with hk | hk
      · simp [hpQ, show ¬ k = 100000 by omega, show ¬ k = 100008 by omega, rst, hk, hG k hk]
      · simp at hk; rcases hk with rfl | rfl <;> simp [hpQ]
    have er : rst (upd (upd (rst hp rs) 100000 (some zB)) 100008 (some (eB 0))) [100000, 100008] = hpQ 0 := by rw [← rst_congr e, hpQ_rst]
    refine ⟨rfl, by simp [Tryd.results46, zB, eB], fun k hk => rfl, (rrec n).under e, fun k hk => ?_, fun k hk => ?_, ?_⟩
    · rw [er] at hk; unfold dom at hk ⊢
      by_cases h1 : k = 100000
      · subst h1; simp
      · by_cases h2 : k = 100008
        · subst h2; simp
        · simp only [hpQ, hpL_cons, hpL_nil, h1, h2, if_false] at hk
          have hk100 := G0_dom hk
          simp [h1, h2, rst, hk100, hG k hk100]; exact hk
    · rw [er]
      simp [keys] at hk
      rcases hk with rfl | rfl
      · exact ⟨by simp [hpQ, dom], by omega, fun hd => hd (hbig _ (by omega))⟩
      · exact ⟨by simp [hpQ, dom], by omega, fun hd => hd (hbig _ (by omega))⟩
    · rw [er]; exact fun k b hk => hpQ_ids 0 k b _ hk

def nbits (x : Int) : Int := if x ≤ 0 then 0 else (Nat.log2 x.toNat : Int) + 1
theorem nbits_pos {x : Int} (h : 0 < x) : ∃ k : Nat, nbits x = k + 1 ∧ 2 ^ k ≤ x ∧ x < 2 ^ (k + 1) := by
  refine ⟨Nat.log2 x.toNat, by unfold nbits; rw [if_neg (by omega)], ?_, ?_⟩
  · have := Nat.log2_self_le (n := x.toNat) (by omega)
    have h2 : ((2 ^ Nat.log2 x.toNat : Nat) : Int) ≤ (x.toNat : Int) := by exact_mod_cast this
    rw [Int.toNat_of_nonneg (by omega)] at h2
    exact_mod_cast h2
  · have := Nat.lt_log2_self (n := x.toNat)
    have h2 : (x.toNat : Int) < ((2 ^ (Nat.log2 x.toNat + 1) : Nat) : Int) := by exact_mod_cast this
    rw [Int.toNat_of_nonneg (by omega)] at h2
    exact_mod_cast h2
theorem nbits_is {x : Int} {k : Nat} (h1 : 2 ^ k ≤ x) (h2 : x < 2 ^ (k + 1)) : nbits x = k + 1 := by
  have hp : (0 : Int) < 2 ^ k := Int.pow_pos (by omega)
  unfold nbits
  rw [if_neg (by omega)]
  have : Nat.log2 x.toNat = k := (Nat.log2_eq_iff (by omega)).2 ⟨by
    have : ((2 ^ k : Nat) : Int) ≤ (x.toNat : Int) := by rw [Int.toNat_of_nonneg (by omega)]; exact_mod_cast h1
    exact_mod_cast this, by
    have : (x.toNat : Int) < ((2 ^ (k + 1) : Nat) : Int) := by rw [Int.toNat_of_nonneg (by omega)]; exact_mod_cast h2
    exact_mod_cast this⟩
  rw [this]
theorem nbits_div {x : Int} (j : Nat) (h : 2 ^ j ≤ x) : nbits x = j + nbits (x / 2 ^ j) := by
  have hp : (0 : Int) < 2 ^ j := Int.pow_pos (by omega)
  have h1 : 0 < x / 2 ^ j := by
    have := (Int.le_ediv_iff_mul_le hp (a := 1) (b := x)).2 (by omega); omega
  obtain ⟨k, e, l1, l2⟩ := nbits_pos h1
  rw [e]
  have := nbits_is (x := x) (k := j + k) (by
    have := (Int.le_ediv_iff_mul_le hp).1 l1
    rw [Int.pow_add, Int.mul_comm]; exact this) (by
    have := (Int.ediv_lt_iff_lt_mul hp).1 l2
    rw [Nat.add_assoc, Int.pow_add, Int.mul_comm]; exact this)
  rw [this]; omega
theorem idvS_tab {s : ByteArray} {m : Int} {C : Eff → Prop} (h0 : 0 ≤ m) (h1 : m < 256) (ht : ∀ k : Fin 256, (s[k.1]?).map (fun b => b.toNat) = some (if k.1 = 0 then 0 else Nat.log2 k.1 + 1)) (h : C (val (.int .u8 (nbits m)) [])) : idvS s m C := by
  have h2 := ht ⟨m.toNat, by omega⟩
  cases hb : s[m.toNat]? with
  | none => simp [hb] at h2
  | some b =>
    simp only [hb, Option.map_some, Option.some.injEq] at h2
    rw [idvS_at h0 hb, h2]
    have : ((if m.toNat = 0 then 0 else Nat.log2 m.toNat + 1 : Nat) : Int) = nbits m := by
      unfold nbits
      by_cases e : m ≤ 0
      · rw [if_pos e, if_pos (by omega)]; rfl
      · rw [if_neg e, if_neg (by omega)]; rfl
    exact this ▸ h
theorem nbits_lt {x : Int} (h : x < 256) : 0 ≤ nbits x ∧ nbits x ≤ 8 := by
  by_cases h0 : 0 < x
  · obtain ⟨k, e, l1, l2⟩ := nbits_pos h0
    rw [e]
    have : k < 8 := Classical.byContradiction fun hk => by
      have : (2 : Int) ^ 8 ≤ 2 ^ k := by exact_mod_cast Nat.pow_le_pow_right (by omega) (by omega : 8 ≤ k)
      omega
    omega
  · unfold nbits; rw [if_pos (by omega)]; omega
@[simp] theorem wrap_u8 (z : Int) : IntKind.u8.wrap z = z % 256 := rfl
set_option maxHeartbeats 1000000 in
theorem len64_ret (x : Int) (h0 : 0 ≤ x) (h1 : x < 18446744073709551616) : Ret Tryd.prog G0 105 #[.int .u64 x] (.int .i64 (nbits x)) := by
  refine ret_of G0F Tryd.func105 rfl Tryd.call105 rfl (by simp) (by simp [Tryd.ntmps105]) ?_
  intro C hC hC0 hY
  have f32 : ∀ z : Int, z.fdiv 4294967296 = z / 4294967296 := fun z => Int.fdiv_eq_ediv_of_nonneg z (by omega)
  have f16 : ∀ z : Int, z.fdiv 65536 = z / 65536 := fun z => Int.fdiv_eq_ediv_of_nonneg z (by omega)
  have f8 : ∀ z : Int, z.fdiv 256 = z / 256 := fun z => Int.fdiv_eq_ediv_of_nonneg z (by omega)
  have n32 : 4294967296 ≤ x → nbits x = 32 + nbits (x / 4294967296) := nbits_div 32
  have n16 : ∀ y : Int, 65536 ≤ y → nbits y = 16 + nbits (y / 65536) := fun y => nbits_div 16
  have n8 : ∀ y : Int, 256 ≤ y → nbits y = 8 + nbits (y / 256) := fun y => nbits_div 8
  repeat' (first | refine gwS ?_ | simp only [wN, wM, Nat.reduceAdd, Nat.reduceMul] | ((first | refine gwR [] ?_ | refine gwD [] ?_); intro Q hQ hP; simp [hC, hY, f32, f16, f8]; (first | refine hQ _ _ _ _ (by kernel_rfl) ?_ | refine hP _ _ (by kernel_rfl) fun _ => ?_); clear hQ hP Q) | refine gwB ?_ | refine gwT ?_ | refine gwK ?_ | refine gwE ?_ | refine gwG ?_ | refine gwL ?_ | simp only [blockG_exit] | (refine gwC ?_ ?_ <;> (intro hb; first | (cases hb; done) | skip)))
  all_goals
    rename_i c1 c2
    simp at c1 c2 hb
    refine GW_region' [] (by kernel_rfl) ?_; intro Q hQ hP; simp [hC, hY]
    refine idvS_tab (by omega) (by omega) (by decide +kernel) ?_
    simp
    refine hQ _ _ _ _ ?_
    repeat' (first | refine gwS ?_ | simp only [wN, wM, Nat.reduceAdd, Nat.reduceMul] | ((first | refine gwR [] ?_ | refine gwD [] ?_); intro Q hQ hP; simp [hC, hY]; (first | refine hQ _ _ _ _ (by kernel_rfl) ?_ | refine hP _ _ (by kernel_rfl) fun _ => ?_); clear hQ hP Q) | refine gwB ?_ | refine gwT ?_ | refine gwK ?_ | refine gwE ?_ | refine gwG ?_ | refine gwL ?_ | simp only [blockG_exit] | (refine gwC ?_ ?_ <;> (intro hb; first | (cases hb; done) | skip)))
    refine ⟨.inr trivial, ?_⟩
    simp [Tryd.results105]
    rw [Int.emod_eq_of_lt (by omega) (by omega)]
    have k2 := n16 x
    have k3 := n16 (x / 4294967296)
    have k4 := n8 x
    have k5 := n8 (x / 4294967296)
    have k6 := n8 (x / 65536)
    have k7 := n8 (x / 4294967296 / 65536)
    have b1 := nbits_lt (x := x)
    have b2 := nbits_lt (x := x / 256)
    have b3 := nbits_lt (x := x / 65536)
    have b4 := nbits_lt (x := x / 65536 / 256)
    have b5 := nbits_lt (x := x / 4294967296)
    have b6 := nbits_lt (x := x / 4294967296 / 256)
    have b7 := nbits_lt (x := x / 4294967296 / 65536)
    have b8 := nbits_lt (x := x / 4294967296 / 65536 / 256)
    rw [bm (by omega) (by omega)]
    try omega
@[simp] theorem len64 (x : Int) (h0 : 0 ≤ x) (h1 : x < 18446744073709551616) (K : Value → Prop) : callK Tryd.prog G0 105 #[.int .u64 x] K ↔ K (.int .i64 (nbits x)) := callK_iff G0W (by kernel_rfl) (len64_ret x h0 h1)
def uz (z : Int) : Int := z % 115792089237316195423570985008687907853269984665640564039457584007913129639936
theorem nbits_bd {x : Int} (j : Nat) (h : x < 2 ^ j) : 0 ≤ nbits x ∧ nbits x ≤ j := by
  by_cases h0 : 0 < x
  · obtain ⟨k, e, l1, l2⟩ := nbits_pos h0
    rw [e]
    have : k < j := Classical.byContradiction fun hk => by
      have : (2 : Int) ^ j ≤ 2 ^ k := by exact_mod_cast Nat.pow_le_pow_right (by omega) (by omega : j ≤ k)
      omega
    omega
  · unfold nbits; rw [if_pos (by omega)]; omega
theorem nb_word (z : Int) (k : Nat) : 0 ≤ nbits (wi z k) ∧ nbits (wi z k) ≤ 64 := nbits_bd 64 (by have := wi_lt z k; omega)
theorem size_3 (z : Int) (h : ¬ wi z 3 = 0) : nbits (uz z) = 192 + nbits (wi z 3) := by
  have h0 := wi_ge z 3
  have e : uz z / 2 ^ 192 = wi z 3 := by unfold uz wi; omega
  have := nbits_div (x := uz z) 192 (by unfold wi at h h0; unfold uz; omega)
  rw [this, e]; rfl
theorem size_2 (z : Int) (h3 : wi z 3 = 0) (h : ¬ wi z 2 = 0) : nbits (uz z) = 128 + nbits (wi z 2) := by
  have h0 := wi_ge z 2
  have e : uz z / 2 ^ 128 = wi z 2 := by unfold wi at h3; unfold uz wi; omega
  have := nbits_div (x := uz z) 128 (by unfold wi at h h0; unfold uz; omega)
  rw [this, e]; rfl
theorem size_1 (z : Int) (h3 : wi z 3 = 0) (h2 : wi z 2 = 0) (h : ¬ wi z 1 = 0) : nbits (uz z) = 64 + nbits (wi z 1) := by
  have h0 := wi_ge z 1
  have e : uz z / 2 ^ 64 = wi z 1 := by unfold wi at h3 h2; unfold uz wi; omega
  have := nbits_div (x := uz z) 64 (by unfold wi at h h0; unfold uz; omega)
  rw [this, e]; rfl
theorem size_0 (z : Int) (h3 : wi z 3 = 0) (h2 : wi z 2 = 0) (h1 : wi z 1 = 0) : uz z = wi z 0 := by
  unfold wi at h3 h2 h1; unfold uz wi; omega
theorem must_t (n : Int) : RetP Tryd.prog G0 89 #[.bool true, .int .i64 n] (.ret (.tuple #[])) := by
  refine retp_of G0F Tryd.func89 rfl Tryd.call89 (fun v h => by cases h; simp) (by simp) (by simp [Tryd.ntmps89]) ?_
  intro C hC hC0 hY
  repeat' (first | refine gwS ?_ | simp only [wN, wM, Nat.reduceAdd, Nat.reduceMul] | ((first | refine gwR [] ?_ | refine gwD [] ?_); intro Q hQ hP; simp [hC, hY]; (first | refine hQ _ _ _ _ (by kernel_rfl) ?_ | refine hP _ _ (by kernel_rfl) fun _ => ?_); clear hQ hP Q) | refine gwB ?_ | refine gwT ?_ | refine gwK ?_ | refine gwE ?_ | refine gwG ?_ | refine gwL ?_ | simp only [blockG_exit] | (refine gwC ?_ ?_ <;> (intro hb; first | (cases hb; done) | skip)))
  exact ⟨.inl trivial, by simp [Tryd.results89]⟩
theorem must_f (n : Int) : RetP Tryd.prog G0 89 #[.bool false, .int .i64 n] (.pan (erV n)) := by
  refine retp_of G0F Tryd.func89 rfl Tryd.call89 (fun v h => by cases h) (by simp) (by simp [Tryd.ntmps89]) ?_
  intro C hC hC0 hY
  repeat' (first | refine gwS ?_ | simp only [wN, wM, Nat.reduceAdd, Nat.reduceMul] | ((first | refine gwR [] ?_ | refine gwD [] ?_); intro Q hQ hP; simp [hC, hY]; (first | refine hQ _ _ _ _ (by kernel_rfl) ?_ | refine hP _ _ (by kernel_rfl) fun _ => ?_); clear hQ hP Q) | refine gwB ?_ | refine gwT ?_ | refine gwK ?_ | refine gwE ?_ | refine gwG ?_ | refine gwL ?_ | simp only [blockG_exit] | (refine gwC ?_ ?_ <;> (intro hb; first | (cases hb; done) | skip)))
  rfl
theorem sure_f (z : Int) : RetP Tryd.prog G0 90 #[wd z, .bool false] (.ret (wd z)) := by
  refine retp_of G0F Tryd.func90 rfl Tryd.call90 (fun v h => by cases h; simp) (by simp) (by simp [Tryd.ntmps90]) ?_
  intro C hC hC0 hY
  repeat' (first | refine gwS ?_ | simp only [wN, wM, Nat.reduceAdd, Nat.reduceMul] | ((first | refine gwR [1000089] ?_ | refine gwD [1000089] ?_); intro Q hQ hP; simp [hC, hY]; (repeat ((first | (refine callP_of (must_t 20) ?_)); try simp [hC, hY])); (first | refine hQ _ _ _ _ (by kernel_rfl) ?_ | refine hP _ _ (by kernel_rfl) fun _ => ?_); clear hQ hP Q) | refine gwB ?_ | refine gwT ?_ | refine gwK ?_ | refine gwE ?_ | refine gwG ?_ | refine gwL ?_ | simp only [blockG_exit] | (refine gwC ?_ ?_ <;> (intro hb; first | (cases hb; done) | skip)))
  exact ⟨.inr trivial, by simp [Tryd.results90]⟩
theorem size_ret (z : Int) : Ret Tryd.prog G0 108 #[wd z] (.int .i64 (nbits (uz z))) := by
  refine ret_of G0F Tryd.func108 rfl Tryd.call108 rfl (by simp) (by simp [Tryd.ntmps108]) ?_
  intro C hC hC0 hY
  have b0 := nb_word z 0
  have b1 := nb_word z 1
  have b2 := nb_word z 2
  have b3 := nb_word z 3
  have k3 := size_3 z
  have k2 := size_2 z
  have k1 := size_1 z
  have k0 := size_0 z
  have m3 : Int.bmod (192 + nbits (wi z 3)) 18446744073709551616 = 192 + nbits (wi z 3) := bm (by omega) (by omega)
  have m2 : Int.bmod (128 + nbits (wi z 2)) 18446744073709551616 = 128 + nbits (wi z 2) := bm (by omega) (by omega)
  have m1 : Int.bmod (64 + nbits (wi z 1)) 18446744073709551616 = 64 + nbits (wi z 1) := bm (by omega) (by omega)
  repeat' (first | refine gwS ?_ | refine GWL_start ?_ | refine GWL_step ?_ | simp only [wN, wM, Nat.reduceAdd, Nat.reduceMul] | ((first | refine gwR [] ?_ | refine gwD [] ?_); intro Q hQ hP; simp [hC, hY, wi_ge, wi_lt, m1, m2, m3]; (first | refine hQ _ _ _ _ (by kernel_rfl) ?_ | refine hP _ _ (by kernel_rfl) fun _ => ?_); clear hQ hP Q) | refine gwB ?_ | refine gwT ?_ | refine gwK ?_ | refine gwE ?_ | refine gwG ?_ | refine gwL ?_ | simp only [blockG_exit] | (refine gwC ?_ ?_ <;> (intro hb; first | (cases hb; done) | skip)))
  all_goals
    refine ⟨.inr trivial, ?_⟩
    simp [Tryd.results108]
    simp_all
@[simp] theorem qsize (z : Int) (K : Value → Prop) : callK Tryd.prog G0 108 #[Value.agg #[.int .u64 (wi (z) 0), .int .u64 (wi (z) 1), .int .u64 (wi (z) 2), .int .u64 (wi (z) 3)]] K ↔ K (.int .i64 (nbits (uz z))) := callK_iff G0W (by kernel_rfl) (size_ret z)

theorem emm (a p m : Int) : a % m * p % m = a * p % m := by rw [Int.mul_emod, Int.emod_emod_of_dvd _ (Int.dvd_refl _), ← Int.mul_emod]
theorem or_add {x y : Int} {R : Nat} (hx0 : 0 ≤ x) (hx : x < 18446744073709551616) (hd : x % 2 ^ R = 0) (hy0 : 0 ≤ y) (hy : y < 2 ^ R) (hR : R ≤ 64) : bitI .or .u64 x y = x + y := by
  have hp : (2 : Int) ^ R ≤ 2 ^ 64 := by exact_mod_cast Nat.pow_le_pow_right (by omega) (by omega : R ≤ 64)
  have e : bitI .or .u64 x y = ((BitVec.ofInt 64 x ||| BitVec.ofInt 64 y : BitVec 64).toNat : Int) % 18446744073709551616 := by
    unfold bitI
    show IntKind.u64.wrap ((BitVec.ofInt 64 x ||| BitVec.ofInt 64 y : BitVec 64).toNat : Int) = _
    rw [wrap_u64]
  have hx' : (BitVec.ofInt 64 x).toNat = x.toNat := by
    rw [BitVec.toNat_ofInt]; congr 1; exact Int.emod_eq_of_lt hx0 hx
  have hy' : (BitVec.ofInt 64 y).toNat = y.toNat := by
    rw [BitVec.toNat_ofInt]; congr 1; exact Int.emod_eq_of_lt hy0 (by omega)
  obtain ⟨X, rfl⟩ := Int.eq_ofNat_of_zero_le hx0
  obtain ⟨Y, rfl⟩ := Int.eq_ofNat_of_zero_le hy0
  have hd' : X % 2 ^ R = 0 := by exact_mod_cast hd
  have hY : Y < 2 ^ R := by exact_mod_cast hy
  have hX : X = (X / 2 ^ R) <<< R := by rw [Nat.shiftLeft_eq]; exact (Nat.div_mul_cancel (Nat.dvd_of_mod_eq_zero hd')).symm
  have hor : X ||| Y = X + Y := by
    rw [hX]; exact (Nat.shiftLeft_add_eq_or_of_lt hY _).symm
  have hp' : 2 ^ R ≤ 2 ^ 64 := Nat.pow_le_pow_right (by omega) (by omega : R ≤ 64)
  have hb : X + Y < 18446744073709551616 := by
    rw [← hor]; exact Nat.or_lt_two_pow (n := 64) (by omega) (by omega)
  rw [e, BitVec.toNat_or, hx', hy']
  simp only [Int.toNat_natCast, hor]
  omega
theorem two_split {R : Nat} (hR : R < 64) : (2 : Int) ^ R * 2 ^ (64 - R) = 18446744073709551616 := by
  rw [← Int.pow_add, show R + (64 - R) = 64 by omega]; rfl
theorem wi_shl0 (z : Int) (R : Nat) : wi (z * 2 ^ R) 0 = (wi z 0 * 2 ^ R) % 18446744073709551616 := by
  simp only [wi, Nat.mul_zero, Int.pow_zero, Int.ediv_one]
  rw [emm]
theorem wi_shlS (z : Int) (R : Nat) (hR : R < 64) (k : Nat) : wi (z * 2 ^ R) (k + 1) = (wi z (k + 1) * 2 ^ R) % 18446744073709551616 + wi z k / 2 ^ (64 - R) ∧ 0 ≤ wi z k / 2 ^ (64 - R) ∧ wi z k / 2 ^ (64 - R) < 2 ^ R ∧ (wi z (k + 1) * 2 ^ R) % 18446744073709551616 % 2 ^ R = 0 := by
  have hM := two_split hR
  have hPp : (0 : Int) < 2 ^ R := Int.pow_pos (by omega)
  have hSp : (0 : Int) < 2 ^ (64 - R) := Int.pow_pos (by omega)
  have e1 : (2 : Int) ^ (64 * (k + 1)) = 2 ^ (64 * k) * 18446744073709551616 := by
    rw [show 64 * (k + 1) = 64 * k + 64 by omega, Int.pow_add]; rfl
  have hKp : (0 : Int) < 2 ^ (64 * k) := Int.pow_pos (by omega)
  unfold wi
  rw [e1]
  generalize (2 : Int) ^ R = P at *
  generalize (2 : Int) ^ (64 - R) = S at *
  generalize (2 : Int) ^ (64 * k) = K at *
  have eu : z * P / (K * 18446744073709551616) = z / K / S := by
    rw [← hM, show K * (P * S) = (K * S) * P by rw [Int.mul_comm P S, Int.mul_assoc], Int.mul_ediv_mul_of_pos_left _ _ hPp, Int.ediv_ediv_of_nonneg (by omega)]
  rw [eu, ← Int.ediv_ediv_of_nonneg (Int.le_of_lt hKp)]
  generalize z / K = u at *
  have hdvd : P ∣ 18446744073709551616 := ⟨S, hM.symm⟩
  have h1 : 0 ≤ u % 18446744073709551616 / S := Int.ediv_nonneg (Int.emod_nonneg _ (by omega)) (by omega)
  have h2 : u % 18446744073709551616 / S < P := by
    have := Int.emod_lt_of_pos u (b := 18446744073709551616) (by omega)
    exact (Int.ediv_lt_iff_lt_mul hSp).2 (by rw [hM]; exact this)
  have h3 : (u / 18446744073709551616 % 18446744073709551616 * P) % 18446744073709551616 % P = 0 := by
    rw [Int.emod_emod_of_dvd _ hdvd, Int.mul_emod_left]
  refine ⟨?_, h1, h2, h3⟩
  have e2 : u / S = (u / 18446744073709551616) * P + u % 18446744073709551616 / S := by
    have := Int.emod_add_mul_ediv u 18446744073709551616
    have h4 : u = u % 18446744073709551616 + S * (u / 18446744073709551616 * P) := by
      have : S * (u / 18446744073709551616 * P) = 18446744073709551616 * (u / 18446744073709551616) := by
        rw [← hM, Int.mul_comm P S, Int.mul_assoc, Int.mul_comm _ P]
      omega
    conv => lhs; rw [h4]
    rw [Int.add_mul_ediv_left _ _ (by omega)]
    omega
  rw [e2, emm]
  have h5 : (u / 18446744073709551616 * P) % 18446744073709551616 % P = 0 := by rw [Int.emod_emod_of_dvd _ hdvd, Int.mul_emod_left]
  have h6 := Int.emod_nonneg (u / 18446744073709551616 * P) (b := 18446744073709551616) (by omega)
  have h7 := Int.emod_lt_of_pos (u / 18446744073709551616 * P) (b := 18446744073709551616) (by omega)
  have h8 : (u / 18446744073709551616 * P) % 18446744073709551616 ≤ 18446744073709551616 - P := by
    obtain ⟨c, hc⟩ := Int.dvd_of_emod_eq_zero h5
    rw [hc] at h7 ⊢
    rw [← hM] at h7 ⊢
    have : c < S := Int.lt_of_mul_lt_mul_left h7 (by omega)
    have : P * c ≤ P * (S - 1) := Int.mul_le_mul_of_nonneg_left (by omega) (by omega)
    rw [Int.mul_sub, Int.mul_one] at this
    exact this
  rw [Int.add_emod, Int.emod_eq_of_lt h1 (by omega), Int.emod_eq_of_lt (by omega) (by omega)]
theorem wi_up (z : Int) (q i R : Nat) (h : q ≤ i) : wi (z * 2 ^ (64 * q + R)) i = wi (z * 2 ^ R) (i - q) := by
  unfold wi
  obtain ⟨j, rfl⟩ : ∃ j, i = q + j := ⟨i - q, by omega⟩
  rw [show q + j - q = j by omega, Int.pow_add, show z * (2 ^ (64 * q) * 2 ^ R) = (z * 2 ^ R) * 2 ^ (64 * q) by rw [Int.mul_comm (2 ^ (64 * q)), Int.mul_assoc], show 64 * (q + j) = 64 * j + 64 * q by omega, Int.pow_add,
    Int.mul_ediv_mul_of_pos_left _ _ (Int.pow_pos (by omega))]
theorem wi_dn (z : Int) (q i R : Nat) (h : i < q) : wi (z * 2 ^ (64 * q + R)) i = 0 := by
  unfold wi
  obtain ⟨j, rfl⟩ : ∃ j, q = i + 1 + j := ⟨q - (i + 1), by omega⟩
  rw [show 64 * (i + 1 + j) + R = 64 * i + (64 + (64 * j + R)) by omega, Int.pow_add, Int.pow_add, show z * (2 ^ (64 * i) * (2 ^ 64 * 2 ^ (64 * j + R))) = (z * 2 ^ (64 * j + R) * 2 ^ 64) * 2 ^ (64 * i) by
    rw [Int.mul_comm (2 ^ (64 * i)), Int.mul_comm (2 ^ 64) (2 ^ (64 * j + R))]; simp only [Int.mul_assoc], Int.mul_ediv_cancel _ (by have : (0 : Int) < 2 ^ (64 * i) := Int.pow_pos (by omega); omega)]
  exact Int.mul_emod_left _ _
set_option maxHeartbeats 1000000 in
theorem shift_ret (z : Int) (q R : Nat) (hq : q < 4) (hR : R < 64) : Ret Tryd.prog G0 109 #[wd z, .int .i64 (64 * q + R)] (wd (z * 2 ^ (64 * q + R))) := by
  refine ret_of G0F Tryd.func109 rfl Tryd.call109 (by simp) (by simp) (by simp [Tryd.ntmps109]) ?_
  intro C hC hC0 hY
  have t1 : (64 * (q : Int) + R).tdiv 64 = q := by rw [Int.tdiv_eq_ediv_of_nonneg (by omega)]; omega
  have t2 : (64 * (q : Int) + R).tmod 64 = R := by rw [Int.tmod_eq_emod_of_nonneg (by omega)]; omega
  have m1 : min R 64 = R := by omega
  have m2 : Int.bmod (64 - (R : Int)) 18446744073709551616 = 64 - R := bm (by omega) (by omega)
  have m3 : (64 - (R : Int)).toNat = 64 - R := by omega
  have m4 : min (64 - R) 64 = 64 - R := by omega
  have m5 : (R : Int) ≤ 64 := by omega
  have m6 : (0 : Int) ≤ 64 - R := by omega
  have fd : ∀ x : Int, x.fdiv (2 ^ (64 - R)) = x / 2 ^ (64 - R) := fun x => Int.fdiv_eq_ediv_of_nonneg x (Int.le_of_lt (Int.pow_pos (by omega)))
  have OR : ∀ k, bitI .or .u64 ((wi z (k + 1) * 2 ^ R) % 18446744073709551616) (wi z k / 2 ^ (64 - R)) = wi (z * 2 ^ R) (k + 1) := fun k => by
    obtain ⟨e, h1, h2, h3⟩ := wi_shlS z R hR k
    rw [or_add (R := R) (Int.emod_nonneg _ (by omega)) (Int.emod_lt_of_pos _ (by omega)) h3 h1 h2 (by omega), e]
  have o0 := OR 0
  have o1 := OR 1
  have o2 := OR 2
  have s0 := wi_shl0 z R
  have : q = 0 ∨ q = 1 ∨ q = 2 ∨ q = 3 := by omega
  have up := wi_up z
  have dn := wi_dn z
  rcases this with rfl | rfl | rfl | rfl
  · simp at t1 t2
    repeat' (first | refine gwS ?_ | refine GWL_start ?_ | refine GWL_step ?_ | simp only [wN, wM, Nat.reduceAdd, Nat.reduceMul] | ((first | refine gwR [] ?_ | refine gwD [] ?_); intro Q hQ hP; simp [hC, hY, t1, t2, m1, m2, m3, m4, m5, m6, fd, wi_ge, wi_lt]; (first | refine hQ _ _ _ _ (by kernel_rfl) ?_ | refine hP _ _ (by kernel_rfl) fun _ => ?_); clear hQ hP Q) | refine gwB ?_ | refine gwT ?_ | refine gwK ?_ | refine gwE ?_ | refine gwG ?_ | refine gwL ?_ | simp only [blockG_exit] | (refine gwC ?_ ?_ <;> (intro hb; first | (cases hb; done) | skip)))
    refine ⟨.inr trivial, ?_⟩
    simp [Tryd.results109, o0, o1, o2, s0]
  · simp at t1 t2
    repeat' (first | refine gwS ?_ | refine GWL_start ?_ | refine GWL_step ?_ | simp only [wN, wM, Nat.reduceAdd, Nat.reduceMul] | ((first | refine gwR [] ?_ | refine gwD [] ?_); intro Q hQ hP; simp [hC, hY, t1, t2, m1, m2, m3, m4, m5, m6, fd, wi_ge, wi_lt]; (first | refine hQ _ _ _ _ (by kernel_rfl) ?_ | refine hP _ _ (by kernel_rfl) fun _ => ?_); clear hQ hP Q) | refine gwB ?_ | refine gwT ?_ | refine gwK ?_ | refine gwE ?_ | refine gwG ?_ | refine gwL ?_ | simp only [blockG_exit] | (refine gwC ?_ ?_ <;> (intro hb; first | (cases hb; done) | skip)))
    refine ⟨.inr trivial, ?_⟩
    simp [Tryd.results109, o0, o1, o2, s0]
    exact ⟨(dn 1 0 R (by omega)).symm, ((up 1 1 R (by omega)).trans s0).symm, (up 1 2 R (by omega)).symm, (up 1 3 R (by omega)).symm⟩
  · simp at t1 t2
    repeat' (first | refine gwS ?_ | refine GWL_start ?_ | refine GWL_step ?_ | simp only [wN, wM, Nat.reduceAdd, Nat.reduceMul] | ((first | refine gwR [] ?_ | refine gwD [] ?_); intro Q hQ hP; simp [hC, hY, t1, t2, m1, m2, m3, m4, m5, m6, fd, wi_ge, wi_lt]; (first | refine hQ _ _ _ _ (by kernel_rfl) ?_ | refine hP _ _ (by kernel_rfl) fun _ => ?_); clear hQ hP Q) | refine gwB ?_ | refine gwT ?_ | refine gwK ?_ | refine gwE ?_ | refine gwG ?_ | refine gwL ?_ | simp only [blockG_exit] | (refine gwC ?_ ?_ <;> (intro hb; first | (cases hb; done) | skip)))
    refine ⟨.inr trivial, ?_⟩
    simp [Tryd.results109, o0, o1, o2, s0]
    exact ⟨(dn 2 0 R (by omega)).symm, (dn 2 1 R (by omega)).symm, ((up 2 2 R (by omega)).trans s0).symm, (up 2 3 R (by omega)).symm⟩
  · simp at t1 t2
    repeat' (first | refine gwS ?_ | refine GWL_start ?_ | refine GWL_step ?_ | simp only [wN, wM, Nat.reduceAdd, Nat.reduceMul] | ((first | refine gwR [] ?_ | refine gwD [] ?_); intro Q hQ hP; simp [hC, hY, t1, t2, m1, m2, m3, m4, m5, m6, fd, wi_ge, wi_lt]; (first | refine hQ _ _ _ _ (by kernel_rfl) ?_ | refine hP _ _ (by kernel_rfl) fun _ => ?_); clear hQ hP Q) | refine gwB ?_ | refine gwT ?_ | refine gwK ?_ | refine gwE ?_ | refine gwG ?_ | refine gwL ?_ | simp only [blockG_exit] | (refine gwC ?_ ?_ <;> (intro hb; first | (cases hb; done) | skip)))
    refine ⟨.inr trivial, ?_⟩
    simp [Tryd.results109, o0, o1, o2, s0]
    exact ⟨(dn 3 0 R (by omega)).symm, (dn 3 1 R (by omega)).symm, (dn 3 2 R (by omega)).symm, ((up 3 3 R (by omega)).trans s0).symm⟩
theorem shift_n (z n : Int) (h0 : 0 ≤ n) (h1 : n < 256) : Ret Tryd.prog G0 109 #[wd z, .int .i64 n] (wd (z * 2 ^ n.toNat)) := by
  have h := shift_ret z (n / 64).toNat (n % 64).toNat (by omega) (by omega)
  have e : 64 * (n / 64).toNat + (n % 64).toNat = n.toNat := by omega
  have e' : (64 * ((n / 64).toNat : Int) + ((n % 64).toNat : Int)) = n := by omega
  rw [e, e'] at h
  exact h
@[simp] theorem qshift (z n : Int) (h0 : 0 ≤ n) (h1 : n < 256) (K : Value → Prop) : callK Tryd.prog G0 109 #[Value.agg #[.int .u64 (wi (z) 0), .int .u64 (wi (z) 1), .int .u64 (wi (z) 2), .int .u64 (wi (z) 3)], .int .i64 n] K ↔ K (wd (z * 2 ^ n.toNat)) := callK_iff G0W (by kernel_rfl) (shift_n z n h0 h1)

theorem shifts_new (a b : Int) (k : Nat) (h100 : 100 ≤ k) : Fun Tryd.prog G0 104 #[wd a, wd b] G0 [] (.new (.func (.func 107) #[] #[.pointer (some ⟨k, 0, none⟩), .pointer (some ⟨k + 1, 0, none⟩)]) [(k, wb a), (k + 1, wb b)]) := by
  have e0 : rst G0 [] = G0 := rst_G G0F []
  refine new_of (B := 200) (fun j => if j = k then 200 else if j = k + 1 then 208 else j) G0F (fun _ _ => rfl) Tryd.func104 rfl Tryd.call104 (by simp [idsV, idsA, idsF, ids0]) (by rw [e0]; exact G0_closed _) ?_ (by simp [Tryd.ntmps104]) (by omega) (by rw [e0]; exact fun x hx => G0_big x (by omega)) (fun j hj => ?_) ?_ ?_ ?_ ?_
  · refine ⟨by simp [idsV, idsA, idsF, ids0, extD, keys], by simp [keys]; omega, fun q b c h1 h2 => ?_⟩
    simp at h1 h2
    rcases h1 with ⟨e1, rfl⟩ | ⟨e1, rfl⟩ <;> rcases h2 with ⟨e2, rfl⟩ | ⟨e2, rfl⟩ <;> first | rfl | omega
  · rw [e0] at hj; have := G0_dom hj; rw [if_neg (by omega), if_neg (by omega)]
  · simp [e0, dom]
  · simp
  · simp [wb, ids_lit, idsF, ids0]
  · intro C hC hC0 hY
    rw [e0]
    repeat' (first | refine gwS ?_ | simp only [wN, wM, Nat.reduceAdd, Nat.reduceMul] | ((first | refine gwR [] ?_ | refine gwD [] ?_); intro Q hQ hP; simp [hC, hY]; (first | refine hQ _ _ _ _ (by kernel_rfl) ?_ | refine hP _ _ (by kernel_rfl) fun _ => ?_); clear hQ hP Q) | refine gwB ?_ | refine gwT ?_ | refine gwK ?_ | refine gwE ?_ | refine gwG ?_ | refine gwL ?_ | simp only [blockG_exit] | (refine gwC ?_ ?_ <;> (intro hb; first | (cases hb; done) | skip)))
    refine ⟨.inr trivial, ?_⟩
    simp [Tryd.results104, ren, renA, renF, ren0, wb]
    intro j hj
    have := G0_dom hj
    rw [if_neg (by omega), if_neg (by omega)]
theorem uz_bd (z : Int) : 0 ≤ uz z ∧ uz z < 2 ^ 256 := by unfold uz; omega
def shN (a b : Int) : Int := nbits (uz a) - nbits (uz b)
theorem shN_bd (a b : Int) : -256 ≤ shN a b ∧ shN a b ≤ 256 := by
  have h1 := nbits_bd 256 (uz_bd a).2
  have h2 := nbits_bd 256 (uz_bd b).2
  unfold shN; omega
def shXs (b N : Int) : List (Array Value) := (List.range (N + 1).toNat).map fun (i : Nat) => #[.int .i64 (N - (i : Int)), wd (b * 2 ^ (N - (i : Int)).toNat)]
theorem shXs_len (b N : Int) : (shXs b N).length = (N + 1).toNat := by simp [shXs]
theorem shXs_at (b N : Int) (i : Nat) (h : i < (N + 1).toNat) : (shXs b N)[i]? = some #[.int .i64 (N - i), wd (b * 2 ^ (N - i).toNat)] := by
  simp [shXs, h]
def shSt (a b N : Int) (l i : Nat) : GS :=
  ⟨tsL [(0, .func (.yield l) #[] #[]), (1, .pointer (some ⟨100, 0, none⟩)), (2, .pointer (some ⟨101, 0, none⟩)), (4, .int .i64 (N - i))], wHp a b, 300, i⟩
theorem shifts_it (a b : Int) (hlt : shN a b < 256) : IterG Tryd.prog G0 107 #[.pointer (some ⟨100, 0, none⟩), .pointer (some ⟨101, 0, none⟩)] (wHp a b) [100, 101] (shXs b (shN a b)) := by
  have e0 : rst (wHp a b) [100, 101] = wHp a b := hpL_rst G0F (by simp)
  refine iter_of (B := 200) (v := .tuple #[]) G0F (fun k hk => hpL_low (by simp) hk) Tryd.func107 rfl Tryd.call107 ?_ ?_ (by simp [Tryd.ntmps107]) (by omega) ?_ ?_
  · rw [e0]; simp [idsV, idsA, idsF, ids0, dom, wHp]
  · rw [e0]
    intro k c hk
    rcases hpL_mem hk with h | h
    · simp at h
      rcases h with ⟨_, rfl⟩ | ⟨_, rfl⟩ <;> simp [wb, ids_lit, idsF, ids0]
    · exact Blk.flat_ids ((G0F k c h).2)
  · rw [e0]
    intro x hx
    have h1 : ¬ x = 100 := by omega
    have h2 : ¬ x = 101 := by omega
    have h3 : 100 ≤ x := by omega
    simp [wHp, h1, h2, h3]
  · intro C l stop hC hC0 hY
    rw [e0] at hC0 ⊢
    have hbd := shN_bd a b
    have hN : Int.bmod (nbits (uz a) - nbits (uz b)) 18446744073709551616 = shN a b := bm (by unfold shN at hbd; omega) (by unfold shN at hbd; omega)
    have hlen := shXs_len b (shN a b)
    generalize hn : shN a b = N at *
    generalize hxs : shXs b N = xs at *
    refine GW_scope' 0 (fun m s => ∃ i, i ≤ stop ∧ i + m = xs.length ∧ s = shSt a b N l i) rfl ?_ ?_
    · rintro m _ ⟨i, hi, him, rfl⟩
      have hi256 : (i : Int) ≤ 257 := by omega
      by_cases hl : i < xs.length
      · have g1 : (i : Int) ≤ N := by omega
        have g2 : N - (i : Int) < 256 := by omega
        have g4 : Int.bmod (N - (i : Int) - 1) 18446744073709551616 = N - ((i + 1 : Nat) : Int) := by rw [bm (by omega) (by omega)]; omega
        have hx : xs[i]? = some #[.int .i64 (N - (i : Int)), wd (b * 2 ^ (N - (i : Int)).toNat)] := by
          rw [← hxs]; exact shXs_at b N i (by omega)
        simp only [wd_eq] at hx
        by_cases hs : i = stop
        · have q1 : (i != stop) = false := by simp [hs]
          unfold shSt
          repeat' (first | refine gwS ?_ | simp only [wN, wM, Nat.reduceAdd, Nat.reduceMul] | ((first | refine gwR [] ?_ | refine gwD [] ?_); intro Q hQ hP; simp [hC, hY, wHp, wb, hi, g1, g2, hx, q1]; (first | refine hQ _ _ _ _ (by kernel_rfl) ?_ | refine hP _ _ (by kernel_rfl) fun _ => ?_); clear hQ hP Q) | refine gwB ?_ | refine gwT ?_ | refine gwK ?_ | refine gwE ?_ | refine gwG ?_ | refine gwL ?_ | simp only [blockG_exit] | (refine gwC ?_ ?_ <;> (intro hb; first | (cases hb; done) | skip)))
          refine ⟨.inl trivial, by simp [Tryd.results107], ?_⟩
          show i + 1 = _
          omega
        · have q1 : (i != stop) = true := by simp [hs]
          unfold shSt
          repeat' (first | refine gwS ?_ | simp only [wN, wM, Nat.reduceAdd, Nat.reduceMul] | ((first | refine gwR [] ?_ | refine gwD [] ?_); intro Q hQ hP; simp [hC, hY, wHp, wb, hi, g1, g2, g4, hx, q1]; (first | refine hQ _ _ _ _ (by kernel_rfl) ?_ | refine hP _ _ (by kernel_rfl) fun _ => ?_); clear hQ hP Q) | refine gwB ?_ | refine gwT ?_ | refine gwK ?_ | refine gwE ?_ | refine gwG ?_ | refine gwL ?_ | simp only [blockG_exit] | (refine gwC ?_ ?_ <;> (intro hb; first | (cases hb; done) | skip)))
          refine ⟨rfl, shSt a b N l (i + 1), xs.length - (i + 1), weakL _ 300 hC G0F (m := [(100, wb a), (101, wb b)]) (m0 := [(100, wb a), (101, wb b)]) hC0 (by omega) ?_ ?_ ?_, ⟨i + 1, by omega, by omega, rfl⟩, by omega⟩
          · simp [dom]
          · simp [wb]
          · simp [wb]
      · have g1 : ¬ (i : Int) ≤ N := by omega
        unfold shSt
        repeat' (first | refine gwS ?_ | simp only [wN, wM, Nat.reduceAdd, Nat.reduceMul] | ((first | refine gwR [] ?_ | refine gwD [] ?_); intro Q hQ hP; simp [hC, hY, wHp, wb, g1]; (first | refine hQ _ _ _ _ (by kernel_rfl) ?_ | refine hP _ _ (by kernel_rfl) fun _ => ?_); clear hQ hP Q) | refine gwB ?_ | refine gwT ?_ | refine gwK ?_ | refine gwE ?_ | refine gwG ?_ | refine gwL ?_ | simp only [blockG_exit] | (refine gwC ?_ ?_ <;> (intro hb; first | (cases hb; done) | skip)))
        refine ⟨.inl trivial, by simp [Tryd.results107], ?_⟩
        show i = _
        omega
    · intro pass
      refine GW_seq ?_
      ((first | refine gwR [] ?_ | refine gwD [] ?_); intro Q hQ hP; simp [hC, hY, wHp, wb, hN]; (first | refine hQ _ _ _ _ (by kernel_rfl) ?_ | refine hP _ _ (by kernel_rfl) fun _ => ?_); clear hQ hP Q)
      simp only [wN, wM, Nat.reduceAdd, Nat.reduceMul]
      refine GW_seq (GW_label ?_)
      simp only [thenG_normal]
      refine pass xs.length (shSt a b N l 0) _ ?_ ⟨0, by omega, by omega, rfl⟩
      refine weakL _ 300 hC G0F (m := [(100, wb a), (101, wb b)]) (m0 := [(100, wb a), (101, wb b)]) hC0 (by omega) ?_ ?_ ?_
      · simp [dom]
      · simp [wb]
      · simp [wb]

theorem sz_id {z : Int} (h0 : -57896044618658097711785492504343953926634992332820282019728792003956564819968 ≤ z) (h1 : z < 57896044618658097711785492504343953926634992332820282019728792003956564819968) : sz z = z := by
  unfold sz; rw [Int.bmod_def]; split <;> omega
theorem sz_pos {z : Int} (h0 : 0 ≤ z) (h1 : z < 57896044618658097711785492504343953926634992332820282019728792003956564819968) : sz z = z := sz_id (Int.le_trans (by decide) h0) h1
theorem div_step (a M : Int) (hM : 0 < M) : (M ≤ a % (2 * M) → a % M = a % (2 * M) - M ∧ a / M = 2 * (a / (2 * M)) + 1) ∧ (a % (2 * M) < M → a % M = a % (2 * M) ∧ a / M = 2 * (a / (2 * M))) := by
  have h1 := Int.emod_add_mul_ediv a (2 * M)
  have h2 := Int.emod_nonneg a (b := 2 * M) (by omega)
  have h3 := Int.emod_lt_of_pos a (b := 2 * M) (by omega)
  have e : 2 * M * (a / (2 * M)) = M * (2 * (a / (2 * M))) := by rw [Int.mul_comm 2 M, Int.mul_assoc]
  rw [e] at h1
  generalize a % (2 * M) = r at *
  generalize 2 * (a / (2 * M)) = k at *
  constructor
  · intro h
    have ea : a = (r - M) + M * (k + 1) := by rw [Int.mul_add]; omega
    constructor
    · rw [ea, Int.add_mul_emod_self_left, Int.emod_eq_of_lt (by omega) (by omega)]
    · rw [ea, Int.add_mul_ediv_left _ _ (by omega), Int.ediv_eq_zero_of_lt (by omega) (by omega)]; omega
  · intro h
    have ea : a = r + M * k := by omega
    constructor
    · rw [ea, Int.add_mul_emod_self_left, Int.emod_eq_of_lt (by omega) (by omega)]
    · rw [ea, Int.add_mul_ediv_left _ _ (by omega), Int.ediv_eq_zero_of_lt (by omega) (by omega)]; omega
theorem pow_pos2 (k : Nat) : (0 : Int) < 2 ^ k := Int.pow_pos (by omega)
theorem wi_bit (c : Int) (t r : Nat) (hr : r < 64) : bitI .or .u64 (wi (c * 2 ^ (64 * t + r + 1)) t) (2 ^ r) = wi (c * 2 ^ (64 * t + r + 1) + 2 ^ (64 * t + r)) t := by
  have e1 : c * 2 ^ (64 * t + r + 1) / 2 ^ (64 * t) = c * 2 ^ (r + 1) := by
    rw [show 64 * t + r + 1 = (r + 1) + 64 * t by omega, Int.pow_add, ← Int.mul_assoc, Int.mul_ediv_cancel _ (by have := pow_pos2 (64 * t); omega)]
  have e2 : (c * 2 ^ (64 * t + r + 1) + 2 ^ (64 * t + r)) / 2 ^ (64 * t) = c * 2 ^ (r + 1) + 2 ^ r := by
    have x1 : (2 : Int) ^ (64 * t + r + 1) = 2 ^ (r + 1) * 2 ^ (64 * t) := by rw [← Int.pow_add]; congr 1; omega
    have x2 : (2 : Int) ^ (64 * t + r) = 2 ^ r * 2 ^ (64 * t) := by rw [← Int.pow_add]; congr 1; omega
    rw [x1, x2, ← Int.mul_assoc, ← Int.add_mul, Int.mul_ediv_cancel _ (by have := pow_pos2 (64 * t); omega)]
  have hM : (18446744073709551616 : Int) = 2 ^ (63 - r) * 2 ^ (r + 1) := by rw [← Int.pow_add, show 63 - r + (r + 1) = 64 by omega]; rfl
  have hdvd : (2 : Int) ^ (r + 1) ∣ 18446744073709551616 := ⟨2 ^ (63 - r), by rw [hM, Int.mul_comm]⟩
  have hp := pow_pos2 r
  have hp1 : (2 : Int) ^ (r + 1) = 2 * 2 ^ r := by rw [Int.pow_succ, Int.mul_comm]
  have h5 : (c * 2 ^ (r + 1)) % 18446744073709551616 % 2 ^ (r + 1) = 0 := by rw [Int.emod_emod_of_dvd _ hdvd, Int.mul_emod_left]
  have h6 := Int.emod_nonneg (c * 2 ^ (r + 1)) (b := 18446744073709551616) (by omega)
  have h7 := Int.emod_lt_of_pos (c * 2 ^ (r + 1)) (b := 18446744073709551616) (by omega)
  have h8 : (c * 2 ^ (r + 1)) % 18446744073709551616 ≤ 18446744073709551616 - 2 ^ (r + 1) := by
    obtain ⟨d, hd⟩ := Int.dvd_of_emod_eq_zero h5
    rw [hd] at h7 ⊢
    have hs := pow_pos2 (63 - r)
    have hq := pow_pos2 (r + 1)
    rw [hM] at h7 ⊢
    generalize (2 : Int) ^ (r + 1) = P at *
    generalize (2 : Int) ^ (63 - r) = S at *
    rw [Int.mul_comm S P] at h7 ⊢
    have : d < S := Int.lt_of_mul_lt_mul_left h7 (by omega)
    have : P * d ≤ P * (S - 1) := Int.mul_le_mul_of_nonneg_left (by omega) (by omega)
    rw [Int.mul_sub, Int.mul_one] at this
    exact this
  unfold wi
  rw [e1, e2, or_add (R := r + 1) h6 h7 h5 (by omega) (by omega) (by omega), Int.add_emod (c * 2 ^ (r + 1)), Int.emod_eq_of_lt (a := 2 ^ r) (by omega) (by omega), Int.emod_eq_of_lt (a := c * 2 ^ (r + 1) % 18446744073709551616 + 2 ^ r) (by omega) (by omega)]
theorem wi_other (c : Int) (t r j : Nat) (hr : r < 64) (h : j ≠ t) : wi (c * 2 ^ (64 * t + r + 1) + 2 ^ (64 * t + r)) j = wi (c * 2 ^ (64 * t + r + 1)) j := by
  unfold wi
  by_cases hj : j < t
  · obtain ⟨m, rfl⟩ : ∃ m, t = j + 1 + m := ⟨t - (j + 1), by omega⟩
    have e : (2 : Int) ^ (64 * (j + 1 + m) + r) = (2 ^ (64 * m + r) * 18446744073709551616) * 2 ^ (64 * j) := by
      rw [show 64 * (j + 1 + m) + r = 64 * m + r + 64 + 64 * j by omega, Int.pow_add, Int.pow_add]; rfl
    rw [Int.pow_succ, e, show c * (2 ^ (64 * m + r) * 18446744073709551616 * 2 ^ (64 * j) * 2) = (c * 2 * 2 ^ (64 * m + r) * 18446744073709551616) * 2 ^ (64 * j) by
      simp only [Int.mul_assoc, Int.mul_comm, Int.mul_left_comm], ← Int.add_mul, Int.mul_ediv_cancel _ (by have := pow_pos2 (64 * j); omega), Int.mul_ediv_cancel _ (by have := pow_pos2 (64 * j); omega), ← Int.add_mul, Int.mul_emod_left, Int.mul_emod_left]
  · obtain ⟨m, rfl⟩ : ∃ m, j = t + 1 + m := ⟨j - (t + 1), by omega⟩
    have e : (2 : Int) ^ (64 * (t + 1 + m)) = 2 ^ (64 * t + r + 1) * 2 ^ (64 * m + (63 - r)) := by
      rw [← Int.pow_add]; congr 1; omega
    have hp := pow_pos2 (64 * t + r)
    have hq : (2 : Int) ^ (64 * t + r + 1) = 2 * 2 ^ (64 * t + r) := by rw [Int.pow_succ, Int.mul_comm]
    have hc : (c * 2 ^ (64 * t + r + 1) + 2 ^ (64 * t + r)) / 2 ^ (64 * t + r + 1) = c := by
      rw [Int.add_comm, Int.add_mul_ediv_right _ _ (by omega), Int.ediv_eq_zero_of_lt (by omega) (by omega)]; omega
    rw [e, ← Int.ediv_ediv_of_nonneg (Int.le_of_lt (pow_pos2 _)), ← Int.ediv_ediv_of_nonneg (Int.le_of_lt (pow_pos2 _)), hc, Int.mul_ediv_cancel _ (by omega)]
def rA (a b : Int) (k : Nat) : Int := a % (b * 2 ^ k)
def qA (a b : Int) (k : Nat) : Int := a / (b * 2 ^ k) * 2 ^ k
theorem dA_step (a b : Int) (hb : 0 < b) (k : Nat) : (b * 2 ^ k ≤ rA a b (k + 1) → rA a b k = rA a b (k + 1) - b * 2 ^ k ∧ qA a b k = qA a b (k + 1) + 2 ^ k) ∧ (rA a b (k + 1) < b * 2 ^ k → rA a b k = rA a b (k + 1) ∧ qA a b k = qA a b (k + 1)) := by
  have hp := pow_pos2 k
  have e : b * 2 ^ (k + 1) = 2 * (b * 2 ^ k) := by rw [Int.pow_succ, ← Int.mul_assoc, Int.mul_comm]
  have e2 : ∀ x : Int, x * 2 ^ (k + 1) = 2 * x * 2 ^ k := fun x => by rw [Int.pow_succ, Int.mul_comm (2 ^ k), ← Int.mul_assoc, Int.mul_comm x 2]
  have h := div_step a (b * 2 ^ k) (Int.mul_pos hb hp)
  unfold rA qA
  rw [e, e2]
  refine ⟨fun h1 => ?_, fun h1 => ?_⟩
  · obtain ⟨h2, h3⟩ := h.1 h1
    exact ⟨h2, by rw [h3, Int.add_mul, Int.one_mul]⟩
  · obtain ⟨h2, h3⟩ := h.2 h1
    exact ⟨h2, by rw [h3]⟩
theorem dA_end (a b : Int) : rA a b 0 = a % b ∧ qA a b 0 = a / b := by simp [rA, qA]
theorem dA_begin (a b : Int) (k : Nat) (h0 : 0 ≤ a) (h : a < b * 2 ^ k) : rA a b k = a ∧ qA a b k = 0 := by
  unfold rA qA
  rw [Int.emod_eq_of_lt h0 h, Int.ediv_eq_zero_of_lt h0 h]
  simp
theorem shN_up (a b : Int) (ha0 : 0 ≤ a) (hb0 : 0 < b) (ha : a < 2 ^ 256) (hb : b < 2 ^ 256) : a < b * 2 ^ (shN a b + 1).toNat ∧ (0 ≤ shN a b → b * 2 ^ (shN a b).toNat < 2 ^ (nbits a).toNat) := by
  have ea : uz a = a := by unfold uz; omega
  have eb : uz b = b := by unfold uz; omega
  unfold shN
  rw [ea, eb]
  obtain ⟨j, hj, j1, j2⟩ := nbits_pos hb0
  by_cases h0 : a = 0
  · subst h0
    have e0 : nbits 0 = 0 := rfl
    rw [e0, hj]
    exact ⟨Int.mul_pos hb0 (pow_pos2 _), fun h => by omega⟩
  · obtain ⟨k, hk, k1, k2⟩ := nbits_pos (x := a) (by omega)
    rw [hk, hj]
    refine ⟨?_, fun h => ?_⟩
    · by_cases hkj : j ≤ k + 1
      · have e : ((k : Int) + 1 - (j + 1) + 1).toNat = k + 1 - j := by omega
        rw [e]
        refine Int.lt_of_lt_of_le k2 ?_
        have h3 : (2 : Int) ^ (k + 1) = 2 ^ j * 2 ^ (k + 1 - j) := by rw [← Int.pow_add]; congr 1; omega
        rw [h3]
        exact Int.mul_le_mul_of_nonneg_right j1 (Int.le_of_lt (pow_pos2 _))
      · have e : ((k : Int) + 1 - (j + 1) + 1).toNat = 0 := by omega
        rw [e, Int.pow_zero, Int.mul_one]
        refine Int.lt_of_lt_of_le k2 (Int.le_trans ?_ j1)
        exact_mod_cast Nat.pow_le_pow_right (by omega) (by omega : k + 1 ≤ j)
    · have e : ((k : Int) + 1 - (j + 1)).toNat = k - j := by omega
      have e' : ((k : Int) + 1).toNat = k + 1 := by omega
      rw [e, e']
      have h3 : (2 : Int) ^ (k + 1) = 2 ^ (j + 1) * 2 ^ (k - j) := by rw [← Int.pow_add]; congr 1; omega
      rw [h3]
      exact Int.mul_lt_mul_of_pos_right j2 (pow_pos2 _)

def pnHp (a b : Int) (k : Nat) : Hp := hpL G0 [(200, wb (rA a b k)), (208, wb b), (216, ⟨fa 4 .u64 (wi (qA a b k)), .ty 28⟩), (224, zB)]
def pnTs : Nat → Value := tsL [(2, .pointer (some ⟨200, 0, none⟩)), (3, .pointer (some ⟨208, 0, none⟩)), (4, .pointer (some ⟨216, 0, none⟩)), (5, .pointer (some ⟨224, 0, none⟩))]
set_option maxHeartbeats 1000000 in
theorem plain_ret (a b : Int) (ha0 : 0 ≤ a) (ha : a < 57896044618658097711785492504343953926634992332820282019728792003956564819968) (hb0 : 0 < b) (hb1 : b < 57896044618658097711785492504343953926634992332820282019728792003956564819968) :
    Ret Tryd.prog G0 91 #[wd a, wd b] (.tuple #[wd (a / b), wd (a % b)]) := by
  refine ret_of G0F Tryd.func91 rfl Tryd.call91 (by simp) (by simp) (by simp [Tryd.ntmps91]) ?_
  intro C hC hC0 hY
  have hup := shN_up a b ha0 hb0 (by omega) (by omega)
  have hbd := shN_bd a b
  have hna : nbits a ≤ 255 := (nbits_bd 255 (by omega)).2
  have hlt : shN a b < 256 := by
    have ea : uz a = a := by unfold uz; omega
    have hnb := nbits_bd 256 (uz_bd b).2
    unfold shN; rw [ea]; omega
  have hit := shifts_it a b hlt
  generalize shN a b = N at *
  repeat' (first | refine gwS ?_ | simp only [wN, wM, Nat.reduceAdd, Nat.reduceMul] | ((first | refine gwR [] ?_ | refine gwD [] ?_); intro Q hQ hP; simp [hC, hY]; (first | refine hQ _ _ _ _ (by kernel_rfl) ?_ | refine hP _ _ (by kernel_rfl) fun _ => ?_); clear hQ hP Q) | refine gwB ?_ | refine gwT ?_ | refine gwK ?_ | refine gwE ?_ | refine gwG ?_ | refine gwL ?_ | simp only [blockG_exit] | (refine gwC ?_ ?_ <;> (intro hb; first | (cases hb; done) | skip)))
  refine GW_region' [104] (by kernel_rfl) ?_; intro Q hQ hP; simp [hC, hY]
  refine heapK_of (shifts_new a b 248 (by omega)) (by simp) (fun _ _ => rfl) (by simp [Res.at]) ?_
  simp
  refine hQ _ _ _ _ ?_; clear hQ hP Q
  repeat' (first | refine gwS ?_ | simp only [wN, wM, Nat.reduceAdd, Nat.reduceMul] | ((first | refine gwR [] ?_ | refine gwD [] ?_); intro Q hQ hP; simp [hC, hY]; (first | refine hQ _ _ _ _ (by kernel_rfl) ?_ | refine hP _ _ (by kernel_rfl) fun _ => ?_); clear hQ hP Q) | refine gwB ?_ | refine gwT ?_ | refine gwK ?_ | refine gwE ?_ | refine gwG ?_ | refine gwL ?_ | simp only [blockG_exit] | (refine gwC ?_ ?_ <;> (intro hb; first | (cases hb; done) | skip)))
  refine GW_range (f := 107) (rs := [248, 249]) (xs := shXs b N) (caps := #[.pointer (some ⟨248, 0, none⟩), .pointer (some ⟨249, 0, none⟩)]) (by simp) ?_ ?_ (by simp [Tryd.ntmps91]) pnTs (fun i => pnHp a b (N + 1 - (i : Int)).toNat) 300 (N + 1).toNat (by rw [shXs_len]; omega) ?_ ?_ ?_ ?_ ?_
  · rw [hC]
    refine IterG.cast (IterX.rn (fun k => if k = 100 then 248 else if k = 101 then 249 else k) G0F (fun k hk => hpL_low (by simp) hk) (rs := [100, 101]) ?_ hit) (by simp [ren0]) (by simp)
    refine ⟨fun k hk => ?_, ?_, ?_, ?_⟩
    · have h1 : ¬ k = 100 := by omega
      have h2 : ¬ k = 101 := by omega
      have h3 : ¬ k = 200 := by omega
      have h4 : ¬ k = 208 := by omega
      have h5 : ¬ k = 216 := by omega
      have h6 : ¬ k = 224 := by omega
      have h8 : ¬ k = 248 := by omega
      have h9 : ¬ k = 249 := by omega
      simp [h1, h2, h3, h4, h5, h6, h8, h9, wHp]
    · simp
    · simp [wHp, wb, Blk.rn, renF, ren0]
    · simp
  · intro x hx
    simp only [shXs, List.mem_map] at hx
    obtain ⟨i, _, rfl⟩ := hx
    simp
  · have e := dA_begin a b (N + 1).toNat ha0 hup.1
    refine weakL _ 300 hC G0F (m0 := []) hC0 (by omega) ?_ ?_ ?_
    · simp [dom]
    · simp [zB, wb, e.1, e.2, fa_4, wi_zero]
    · simp
  · simp [pnHp, dom]
  · intro i hi t
    refine tsL_ids ?_ t
    simp [dom, pnHp]
  · intro i x hi hx C1 l hC1 hh1 hY1
    have hCC := hC
    have hC1' : C1.G = G0 := hC1.trans hC
    obtain ⟨n, hn⟩ : ∃ n : Nat, N - (i : Int) = n := ⟨(N - i).toNat, by omega⟩
    rw [shXs_at b N i hi, hn] at hx
    have e1 : (N + 1 - (i : Int)).toNat = n + 1 := by omega
    have e2 : (N + 1 - ((i + 1 : Nat) : Int)).toNat = n := by omega
    simp only [e1, e2]
    cases hx
    have hD : b * 2 ^ n < 57896044618658097711785492504343953926634992332820282019728792003956564819968 := by
      have h1 := hup.2 (by omega)
      have h2 : (2 : Int) ^ n ≤ 2 ^ N.toNat := by exact_mod_cast Nat.pow_le_pow_right (by omega) (by omega : n ≤ N.toNat)
      have h3 : b * 2 ^ n ≤ b * 2 ^ N.toNat := Int.mul_le_mul_of_nonneg_left h2 (by omega)
      have h4 : (2 : Int) ^ (nbits a).toNat ≤ 2 ^ 255 := by exact_mod_cast Nat.pow_le_pow_right (by omega) (by omega : (nbits a).toNat ≤ 255)
      omega
    have hD0 : 0 < b * 2 ^ n := Int.mul_pos hb0 (pow_pos2 _)
    have hM0 : 0 < b * 2 ^ (n + 1) := Int.mul_pos hb0 (pow_pos2 _)
    have hA0 : 0 ≤ rA a b (n + 1) := Int.emod_nonneg _ (by omega)
    have hA1 : rA a b (n + 1) ≤ a := by
      have h1 := Int.emod_add_mul_ediv a (b * 2 ^ (n + 1))
      have h2 : 0 ≤ b * 2 ^ (n + 1) * (a / (b * 2 ^ (n + 1))) := Int.mul_nonneg (by omega) (Int.ediv_nonneg ha0 (by omega))
      unfold rA; omega
    have szD : sz (b * 2 ^ n) = b * 2 ^ n := sz_pos (Int.le_of_lt hD0) hD
    have szA : sz (rA a b (n + 1)) = rA a b (n + 1) := sz_pos hA0 (Int.lt_of_le_of_lt hA1 ha)
    obtain ⟨t, r, hr, hn'⟩ : ∃ t r, r < 64 ∧ n = 64 * t + r := ⟨n / 64, n % 64, by omega, by omega⟩
    have tq : ((n : Int)).tdiv 64 = t := by rw [Int.tdiv_eq_ediv_of_nonneg (by omega)]; omega
    have tm : ((n : Int)).tmod 64 = r := by rw [Int.tmod_eq_emod_of_nonneg (by omega)]; omega
    have t4 : t < 4 := by omega
    have t4' : (t : Int) < 4 := by omega
    have t0 : (0 : Int) ≤ t := by omega
    have tb : Int.bmod (t : Int) 18446744073709551616 = t := bm (by omega) (by omega)
    have t3 : t ≤ 3 := Nat.le_of_lt_succ t4
    have t3' : (t : Int) ≤ 3 := Int.le_of_lt_add_one t4'
    have m1 : min r 64 = r := by omega
    have m2 : (2 : Int) ^ r % 18446744073709551616 = 2 ^ r := Int.emod_eq_of_lt (Int.le_of_lt (pow_pos2 _)) (by
      have : (2 : Int) ^ r < 2 ^ 64 := by exact_mod_cast Nat.pow_lt_pow_right (by omega) hr
      exact this)
    have hst := dA_step a b hb0 n
    replace hC := hC1'
    replace hY := hY1
    by_cases hle : b * 2 ^ n ≤ rA a b (n + 1)
    · have hcmp : cmpI (sz (b * 2 ^ n)) (sz (rA a b (n + 1))) ≤ 0 := by rw [szD, szA]; unfold cmpI; split <;> (try split) <;> omega
      obtain ⟨s1, s2⟩ := hst.1 hle
      have hb1 := wi_bit (a / (b * 2 ^ (64 * t + r + 1))) t r hr
      have hb2 := wi_other (a / (b * 2 ^ (64 * t + r + 1))) t r
      rw [← hn'] at hb1 hb2
      replace hb1 : bitI .or .u64 (wi (qA a b (n + 1)) t) (2 ^ r) = wi (qA a b n) t := by rw [s2]; exact hb1
      replace hb2 : ∀ j, j ≠ t → wi (qA a b n) j = wi (qA a b (n + 1)) j := fun j hj => by rw [s2]; exact hb2 j hr hj
      have hq : fa 4 .u64 (upd (wi (qA a b (n + 1))) t (wi (qA a b n) t)) = fa 4 .u64 (wi (qA a b n)) := fa_congr fun j _ => by
        unfold upd; split
        · rename_i h; rw [h]
        · rename_i h; rw [hb2 j h]
      unfold pnHp
      repeat' (first | refine gwS ?_ | simp only [wN, wM, Nat.reduceAdd, Nat.reduceMul] | ((first | refine gwR [] ?_ | refine gwD [] ?_); intro Q hQ hP; simp [hC, hY, roundTs, pnTs]; (first | refine hQ _ _ _ _ (by kernel_rfl) ?_ | refine hP _ _ (by kernel_rfl) fun _ => ?_); clear hQ hP Q) | refine gwB ?_ | refine gwT ?_ | refine gwK ?_ | refine gwE ?_ | refine gwG ?_ | refine gwL ?_ | simp only [blockG_exit] | (refine gwC ?_ ?_ <;> (intro hb; first | (cases hb; done) | skip)))
      intro C2 hC2 hh2 hY2
      replace hC : C2.G = G0 := hC2.trans hCC
      replace hY := hY2
      repeat' (first | refine gwS ?_ | simp only [wN, wM, Nat.reduceAdd, Nat.reduceMul] | ((first | refine gwR [] ?_ | refine gwD [] ?_); intro Q hQ hP; simp [hC, hY, roundTs, pnTs, wb, hcmp, tq, tm, t4, t4', t0, t3, t3', tb, m1, m2, fa_get, fa_set, hb1]; (first | refine hQ _ _ _ _ (by kernel_rfl) ?_ | refine hP _ _ (by kernel_rfl) fun _ => ?_); clear hQ hP Q) | refine gwB ?_ | refine gwT ?_ | refine gwK ?_ | refine gwE ?_ | refine gwG ?_ | refine gwL ?_ | simp only [blockG_exit] | (refine gwC ?_ ?_ <;> (intro hb; first | (cases hb; done) | skip)))
      refine weakL [] 300 hC1' G0F hh1 (by omega) ?_ ?_ ?_
      · simp
      · simp [fa_ids, ids_lit, wb, zB, hq, s1]
      · simp [wb, zB, hq, s1]
    · have hcmp : ¬ cmpI (sz (b * 2 ^ n)) (sz (rA a b (n + 1))) ≤ 0 := by rw [szD, szA]; unfold cmpI; split <;> (try split) <;> omega
      obtain ⟨s1, s2⟩ := hst.2 (by omega)
      unfold pnHp
      repeat' (first | refine gwS ?_ | simp only [wN, wM, Nat.reduceAdd, Nat.reduceMul] | ((first | refine gwR [] ?_ | refine gwD [] ?_); intro Q hQ hP; simp [hC, hY, roundTs, pnTs]; (first | refine hQ _ _ _ _ (by kernel_rfl) ?_ | refine hP _ _ (by kernel_rfl) fun _ => ?_); clear hQ hP Q) | refine gwB ?_ | refine gwT ?_ | refine gwK ?_ | refine gwE ?_ | refine gwG ?_ | refine gwL ?_ | simp only [blockG_exit] | (refine gwC ?_ ?_ <;> (intro hb; first | (cases hb; done) | skip)))
      intro C2 hC2 hh2 hY2
      replace hC : C2.G = G0 := hC2.trans hCC
      replace hY := hY2
      repeat' (first | refine gwS ?_ | simp only [wN, wM, Nat.reduceAdd, Nat.reduceMul] | ((first | refine gwR [] ?_ | refine gwD [] ?_); intro Q hQ hP; simp [hC, hY, roundTs, pnTs, wb, hcmp]; (first | refine hQ _ _ _ _ (by kernel_rfl) ?_ | refine hP _ _ (by kernel_rfl) fun _ => ?_); clear hQ hP Q) | refine gwB ?_ | refine gwT ?_ | refine gwK ?_ | refine gwE ?_ | refine gwG ?_ | refine gwL ?_ | simp only [blockG_exit] | (refine gwC ?_ ?_ <;> (intro hb; first | (cases hb; done) | skip)))
      refine weakL [] 300 hC1' G0F hh1 (by omega) ?_ ?_ ?_
      · simp
      · simp [fa_ids, ids_lit, wb, zB, s1, s2]
      · simp [wb, zB, s1, s2]
  · left
    refine ⟨by rw [shXs_len], ?_⟩
    have e : (N + 1 - ((N + 1).toNat : Int)).toNat = 0 := by omega
    have ed := dA_end a b
    rw [e]
    unfold pnHp pnTs
    rw [ed.1, ed.2]
    repeat' (first | refine gwS ?_ | simp only [wN, wM, Nat.reduceAdd, Nat.reduceMul] | ((first | refine gwR [] ?_ | refine gwD [] ?_); intro Q hQ hP; simp [hC, hY, wb, fa_4, zB]; (first | refine hQ _ _ _ _ (by kernel_rfl) ?_ | refine hP _ _ (by kernel_rfl) fun _ => ?_); clear hQ hP Q) | refine gwB ?_ | refine gwT ?_ | refine gwK ?_ | refine gwE ?_ | refine gwG ?_ | refine gwL ?_ | simp only [blockG_exit] | (refine gwC ?_ ?_ <;> (intro hb; first | (cases hb; done) | skip)))
    refine ⟨.inr trivial, ?_⟩
    simp [Tryd.results91]
@[simp] theorem qplain (a b : Int) (ha0 : 0 ≤ a) (ha : a < 57896044618658097711785492504343953926634992332820282019728792003956564819968) (hb0 : 0 < b) (hb1 : b < 57896044618658097711785492504343953926634992332820282019728792003956564819968) (K : Value → Prop) :
    callK Tryd.prog G0 91 #[Value.agg #[.int .u64 (wi (a) 0), .int .u64 (wi (a) 1), .int .u64 (wi (a) 2), .int .u64 (wi (a) 3)], Value.agg #[.int .u64 (wi (b) 0), .int .u64 (wi (b) 1), .int .u64 (wi (b) 2), .int .u64 (wi (b) 3)]] K ↔ K (.tuple #[wd (a / b), wd (a % b)]) := callK_iff G0W (by kernel_rfl) (plain_ret a b ha0 ha hb0 hb1)
theorem ret_of_retp {P : Program} {G : Hp} {f : FuncId} {args : Array Value} {v : Value} (h : RetP P G f args (.ret v)) : Ret P G f args v := ⟨h.1 v rfl, h.2.1, h.2.2.1, h.2.2.2⟩
@[simp] theorem qmust (n : Int) (K : Value → Prop) : callK Tryd.prog G0 89 #[.bool true, .int .i64 n] K ↔ K (.tuple #[]) := callK_iff G0W (by kernel_rfl) (ret_of_retp (must_t n))
@[simp] theorem qsure (z : Int) (K : Value → Prop) : callK Tryd.prog G0 90 #[Value.agg #[.int .u64 (wi (z) 0), .int .u64 (wi (z) 1), .int .u64 (wi (z) 2), .int .u64 (wi (z) 3)], .bool false] K ↔ K (wd z) := callK_iff G0W (by kernel_rfl) (ret_of_retp (sure_f z))
def wr (z : Int) : Prop := -57896044618658097711785492504343953926634992332820282019728792003956564819968 ≤ z ∧ z < 57896044618658097711785492504343953926634992332820282019728792003956564819968
theorem wr_sz {z : Int} (h : wr z) : sz z = z := sz_id h.1 h.2
theorem wr_ng {z : Int} (h : wr z) : ng z = decide (z < 0) := by rw [ng_sz, wr_sz h]
theorem ng_f {z : Int} (h : wr z) (h0 : 0 ≤ z) : ng z = false := by rw [wr_ng h]; simp; exact h0
theorem ng_t {z : Int} (h : wr z) (h0 : z < 0) : ng z = true := by rw [wr_ng h]; simp; exact h0
theorem least_ne (z : Int) (h : wr z) (h1 : z ≠ -57896044618658097711785492504343953926634992332820282019728792003956564819968) : (!wi z 0 == 0 || (!wi z 1 == 0 || (!wi z 2 == 0 || !wi z 3 == 9223372036854775808))) = true := by
  refine Classical.byContradiction fun hn => h1 ?_
  simp at hn
  obtain ⟨w0, w1, w2, w3⟩ := hn
  rw [← wr_sz h, sz_w, w0, w1, w2, w3]
  unfold ng; rw [w3]; decide
theorem wr_ne {z : Int} (h : wr z) (h0 : z ≠ 0) : (!wi z 0 == 0 || (!wi z 1 == 0 || (!wi z 2 == 0 || !wi z 3 == 0))) = true := words_ne z (by rw [wr_sz h]; exact h0)
theorem i64_1 : i64 1 := by decide
def lst : Int := -57896044618658097711785492504343953926634992332820282019728792003956564819968

theorem floor_zero (a : Int) : RetP Tryd.prog G0 80 #[wd a, wd 0] (.pan (erV 30)) := by
  refine retp_of G0F Tryd.func80 rfl Tryd.call80 (fun v h => by cases h) (by simp) (by simp [Tryd.ntmps80]) ?_
  intro C hC hC0 hY
  repeat' (first | refine gwS ?_ | simp only [wN, wM, Nat.reduceAdd, Nat.reduceMul] | ((first | refine gwR [1000089] ?_ | refine gwD [1000089] ?_); intro Q hQ hP; simp [hC, hY, wi_zero]; (repeat ((first | (refine callP_of (must_f 30) ?_)); try simp [hC, hY, wi_zero])); (first | refine hQ _ _ _ _ (by kernel_rfl) ?_ | refine hP _ _ (by kernel_rfl) fun _ => ?_); clear hQ hP Q) | refine gwB ?_ | refine gwT ?_ | refine gwK ?_ | refine gwE ?_ | refine gwG ?_ | refine gwL ?_ | simp only [blockG_exit] | (refine gwC ?_ ?_ <;> (intro hb; first | (cases hb; done) | skip)))
  rfl
set_option maxHeartbeats 2000000 in
theorem floor_pp (a b : Int) (ha : wr a) (hb : wr b) (h0 : 0 < b) (ha0 : 0 ≤ a) : Ret Tryd.prog G0 80 #[wd a, wd b] (.tuple #[wd (a.fdiv b), wd (a.fmod b)]) := by
  refine ret_of G0F Tryd.func80 rfl Tryd.call80 (by simp) (by simp) (by simp [Tryd.ntmps80]) ?_
  intro C hC hC0 hY
  have hz := wr_ne hb (by omega)
  have hn1 := least_ne a ha (by omega)
  have hn2 := least_ne b hb (by omega)
  have s1 : ¬ cmpI (sz b) 0 < 0 := by rw [wr_sz hb]; unfold cmpI; split <;> (try split) <;> omega
  have s2 : ¬ cmpI (sz a) 0 < 0 := by rw [wr_sz ha]; unfold cmpI; split <;> (try split) <;> omega
  have hbu : b < 57896044618658097711785492504343953926634992332820282019728792003956564819968 := hb.2
  have hau : a < 57896044618658097711785492504343953926634992332820282019728792003956564819968 := ha.2
  have e1 : a.fdiv b = a / b := Int.fdiv_eq_ediv_of_nonneg a (by omega)
  have e2 : a.fmod b = a % b := Int.fmod_eq_emod_of_nonneg a (by omega)
  repeat' (first | refine gwS ?_ | simp only [wN, wM, Nat.reduceAdd, Nat.reduceMul] | ((first | refine gwR [] ?_ | refine gwD [] ?_); intro Q hQ hP; simp [hC, hY, hz, hn1, hn2, s1, s2, lsB, ha0, hau, h0, hbu]; (first | refine hQ _ _ _ _ (by kernel_rfl) ?_ | refine hP _ _ (by kernel_rfl) fun _ => ?_); clear hQ hP Q) | refine gwB ?_ | refine gwT ?_ | refine gwK ?_ | refine gwE ?_ | refine gwG ?_ | refine gwL ?_ | simp only [blockG_exit] | (refine gwC ?_ ?_ <;> (intro hb; first | (cases hb; done) | skip)))
  refine ⟨.inr trivial, ?_⟩
  simp [Tryd.results80, e1, e2]
theorem neg_fdiv (m b : Int) (hb : 0 < b) : (-(m + 1)).fdiv b = -(m / b) - 1 ∧ (-(m + 1)).fmod b = b - 1 - m % b := by
  have h1 := Int.emod_add_mul_ediv m b
  have h2 := Int.emod_nonneg m (b := b) (by omega)
  have h3 := Int.emod_lt_of_pos m hb
  have e : -(m + 1) = (b - 1 - m % b) + b * (-(m / b) - 1) := by rw [Int.mul_sub, Int.mul_neg]; omega
  rw [Int.fdiv_eq_ediv_of_nonneg _ (by omega), Int.fmod_eq_emod_of_nonneg _ (by omega)]
  constructor
  · rw [e, Int.add_mul_ediv_left _ _ (by omega), Int.ediv_eq_zero_of_lt (by omega) (by omega)]; omega
  · rw [e, Int.add_mul_emod_self_left, Int.emod_eq_of_lt (by omega) (by omega)]
set_option maxHeartbeats 2000000 in
theorem floor_np (m b : Int) (ha : wr (-(m + 1))) (hal : -(m + 1) ≠ lst) (hb : wr b) (h0 : 0 < b) (hm0 : 0 ≤ m) : Ret Tryd.prog G0 80 #[wd (-(m + 1)), wd b] (.tuple #[wd ((-(m + 1)).fdiv b), wd ((-(m + 1)).fmod b)]) := by
  refine ret_of G0F Tryd.func80 rfl Tryd.call80 (by simp) (by simp) (by simp [Tryd.ntmps80]) ?_
  intro C hC hC0 hY
  obtain ⟨d1, d2⟩ := neg_fdiv m b h0
  rw [d1, d2]
  generalize ea : -(m + 1) = a at *
  have hz := wr_ne hb (by omega)
  have hn1 := least_ne a ha hal
  have hn2 := least_ne b hb (by omega)
  have s1 : ¬ cmpI (sz b) 0 < 0 := by rw [wr_sz hb]; unfold cmpI; split <;> (try split) <;> omega
  have s2 : cmpI (sz a) 0 < 0 := by rw [wr_sz ha]; unfold cmpI; split <;> (try split) <;> omega
  have hbu : b < 57896044618658097711785492504343953926634992332820282019728792003956564819968 := hb.2
  have hmu : m < 57896044618658097711785492504343953926634992332820282019728792003956564819968 := by have := ha.1; unfold lst at hal; omega
  have hq0 : 0 ≤ m / b := Int.ediv_nonneg hm0 (by omega)
  have hq1 : m / b ≤ m := Int.ediv_le_self b hm0
  have hr0 : 0 ≤ m % b := Int.emod_nonneg m (by omega)
  have hr1 : m % b < b := Int.emod_lt_of_pos m h0
  have em : -(a + 1) = m := by omega
  have f1 : (ng a == ng 1 && ng (a + 1) != ng a) = false := by
    rw [ng_t ha (by omega), ng_f (z := 1) (by unfold wr; omega) (by omega)]; rfl
  have f2 : (ng (a + 1) && ng m) = false := by rw [ng_f (z := m) (by unfold wr; omega) hm0]; simp
  have f3 : (ng (m / b) && ng (-(m / b))) = false := by rw [ng_f (z := m / b) (by unfold wr; omega) hq0]; simp
  have f4 : (ng (-(m / b)) != ng 1 && ng (-(m / b) - 1) != ng (-(m / b))) = false := by
    rw [ng_f (z := 1) (by unfold wr; omega) (by omega), ng_t (z := -(m / b) - 1) (by unfold wr; omega) (by omega)]
    cases ng (-(m / b)) <;> rfl
  have f5 : (ng b != ng 1 && ng (b - 1) != ng b) = false := by
    rw [ng_f hb (by omega), ng_f (z := 1) (by unfold wr; omega) (by omega)]; rfl
  have f6 : (ng (b - 1) != ng (m % b) && ng (b - 1 - m % b) != ng (b - 1)) = false := by
    rw [ng_f (z := b - 1) (by unfold wr; have := hb.2; omega) (by omega), ng_f (z := m % b) (by unfold wr; omega) hr0]; rfl
  have i1 := i64_1
  repeat' (first | refine gwS ?_ | simp only [wN, wM, Nat.reduceAdd, Nat.reduceMul] | ((first | refine gwR [] ?_ | refine gwD [] ?_); intro Q hQ hP; simp [hC, hY, hz, hn1, hn2, s1, s2, lsB, h0, hbu, hm0, hmu, em, f1, f2, f3, f4, f5, f6, i1]; (first | refine hQ _ _ _ _ (by kernel_rfl) ?_ | refine hP _ _ (by kernel_rfl) fun _ => ?_); clear hQ hP Q) | refine gwB ?_ | refine gwT ?_ | refine gwK ?_ | refine gwE ?_ | refine gwG ?_ | refine gwL ?_ | simp only [blockG_exit] | (refine gwC ?_ ?_ <;> (intro hb; first | (cases hb; done) | skip)))
  refine ⟨.inr trivial, ?_⟩
  simp [Tryd.results80]
theorem upd_far {α : Type} {f : Nat → α} {x k : Nat} {v : α} (h : k < x) : upd f x v k = f k := upd_other f v (by omega)
theorem floor_ret (a b : Int) (ha : wr a) (hal : a ≠ lst) (hb : wr b) (h0 : 0 < b) : Ret Tryd.prog G0 80 #[wd a, wd b] (.tuple #[wd (a / b), wd (a % b)]) := by
  rw [← Int.fdiv_eq_ediv_of_nonneg a (Int.le_of_lt h0), ← Int.fmod_eq_emod_of_nonneg a (Int.le_of_lt h0)]
  by_cases ha0 : 0 ≤ a
  · exact floor_pp a b ha hb h0 ha0
  · obtain ⟨m, rfl⟩ : ∃ m, a = -(m + 1) := ⟨-a - 1, by omega⟩
    exact floor_np m b ha hal hb h0 (by omega)
@[simp] theorem qfloor (a b : Int) (ha : wr a) (hal : a ≠ lst) (hb : wr b) (h0 : 0 < b) (K : Value → Prop) : callK Tryd.prog G0 80 #[Value.agg #[.int .u64 (wi (a) 0), .int .u64 (wi (a) 1), .int .u64 (wi (a) 2), .int .u64 (wi (a) 3)], Value.agg #[.int .u64 (wi (b) 0), .int .u64 (wi (b) 1), .int .u64 (wi (b) 2), .int .u64 (wi (b) 3)]] K ↔ K (.tuple #[wd (a / b), wd (a % b)]) :=
  callK_iff G0W (by kernel_rfl) (floor_ret a b ha hal hb h0)
def hp2 (a b : Int) : Hp := hpL G0 [(200, wb a), (208, wb b)]
theorem hp2_rst (a b : Int) : rst (hp2 a b) [200, 208] = hp2 a b := hpL_rst G0F (by simp)
theorem hp2_closed (a b : Int) (D : Nat → Prop) (k : Nat) (c : Blk) (h : hp2 a b k = some c) : c.ids D := by
  rcases hpL_mem h with h | h
  · simp at h
    rcases h with ⟨_, rfl⟩ | ⟨_, rfl⟩ <;> simp [wb]
  · exact G0_closed _ _ _ h
theorem hp2_free (a b : Int) (x : Nat) (hx : 300 ≤ x) : hp2 a b x = none := by
  simp [hp2, show ¬ x = 200 by omega, show ¬ x = 208 by omega, show 100 ≤ x by omega]
theorem Floor1_fun (a b : Int) (ha : wr a) (hal : a ≠ lst) (hb : wr b) (h0 : 0 < b) : Fun Tryd.prog G0 79 [.pointer (some ⟨200, 0, none⟩), .pointer (some ⟨208, 0, none⟩)].toArray (hp2 a b) [200, 208] (.ret (wd (a / b)) []) := by
  refine fun_of (B := 300) G0F (fun k hk => hpL_low (by simp) hk) Tryd.func79 rfl Tryd.call79 ?_ ?_ ⟨flatV_ids (by simp), by simp [keys], by simp, by simp⟩ (by simp [Tryd.ntmps79]) (by omega) ?_ ?_
  · rw [hp2_rst]; simp [hp2, dom]
  · rw [hp2_rst]; exact hp2_closed a b _
  · rw [hp2_rst]; exact hp2_free a b
  · intro C hC hC0 hY
    rw [hp2_rst] at hC0 ⊢
    repeat' (first | refine gwS ?_ | simp only [wN, wM, Nat.reduceAdd, Nat.reduceMul] | ((first | refine gwR [] ?_ | refine gwD [] ?_); intro Q hQ hP; simp [hC, hY, hp2, wb, ha, hal, hb, h0]; (first | refine hQ _ _ _ _ (by kernel_rfl) ?_ | refine hP _ _ (by kernel_rfl) fun _ => ?_); clear hQ hP Q) | refine gwB ?_ | refine gwT ?_ | refine gwK ?_ | refine gwE ?_ | refine gwG ?_ | refine gwL ?_ | simp only [blockG_exit] | (refine gwC ?_ ?_ <;> (intro hb; first | (cases hb; done) | skip)))
    refine ⟨.inr rfl, by simp [Tryd.results79], fun k hk => ?_⟩
    have hk3 : k < 300 := Classical.byContradiction fun h => hk (hp2_free a b k (by omega))
    simp (disch := omega) only [upd_far]
    rfl
theorem qFloor_ret (a b : Int) (ha : wr a) (hal : a ≠ lst) (hb : wr b) (h0 : 0 < b) : Ret Tryd.prog G0 67 #[wd a, wd b] (.tuple #[wd (a / b), .int .i64 0]) := by
  refine ret_of G0F Tryd.func67 rfl Tryd.call67 (by simp) (by simp) (by simp [Tryd.ntmps67]) ?_
  intro C hC hC0 hY
  repeat' (first | refine gwS ?_ | simp only [wN, wM, Nat.reduceAdd, Nat.reduceMul] | ((first | refine gwR [78] ?_ | refine gwD [78] ?_); intro Q hQ hP; simp [hC, hY]; (repeat ((first | (refine heapK_of (hp' := hp2 a b) (qtold_ret (fun k hk => hpL_low (by simp) hk) (by simp) rfl (by simp) (Floor1_fun a b ha hal hb h0)) (by simp [hp2, wb]) (fun k hk => hpL_low (by simp) hk) trivial ?_)); try simp [hC, hY])); (first | refine hQ _ _ _ _ (by kernel_rfl) ?_ | refine hP _ _ (by kernel_rfl) fun _ => ?_); clear hQ hP Q) | refine gwB ?_ | refine gwT ?_ | refine gwK ?_ | refine gwE ?_ | refine gwG ?_ | refine gwL ?_ | simp only [blockG_exit] | (refine gwC ?_ ?_ <;> (intro hb; first | (cases hb; done) | skip)))
  refine ⟨.inr trivial, ?_⟩
  simp [Tryd.results67]
@[simp] theorem qFloor (a b : Int) (ha : wr a) (hal : a ≠ lst) (hb : wr b) (h0 : 0 < b) (K : Value → Prop) : callK Tryd.prog G0 67 #[Value.agg #[.int .u64 (wi (a) 0), .int .u64 (wi (a) 1), .int .u64 (wi (a) 2), .int .u64 (wi (a) 3)], Value.agg #[.int .u64 (wi (b) 0), .int .u64 (wi (b) 1), .int .u64 (wi (b) 2), .int .u64 (wi (b) 3)]] K ↔ K (.tuple #[wd (a / b), .int .i64 0]) :=
  callK_iff G0W (by kernel_rfl) (qFloor_ret a b ha hal hb h0)
theorem rmust_t (n : Int) : RetP Tryd.prog G0 65 #[.bool true, .int .i64 n] (.ret (.tuple #[])) := by
  refine retp_of G0F Tryd.func65 rfl Tryd.call65 (fun v h => by cases h; simp) (by simp) (by simp [Tryd.ntmps65]) ?_
  intro C hC hC0 hY
  repeat' (first | refine gwS ?_ | simp only [wN, wM, Nat.reduceAdd, Nat.reduceMul] | ((first | refine gwR [] ?_ | refine gwD [] ?_); intro Q hQ hP; simp [hC, hY]; (first | refine hQ _ _ _ _ (by kernel_rfl) ?_ | refine hP _ _ (by kernel_rfl) fun _ => ?_); clear hQ hP Q) | refine gwB ?_ | refine gwT ?_ | refine gwK ?_ | refine gwE ?_ | refine gwG ?_ | refine gwL ?_ | simp only [blockG_exit] | (refine gwC ?_ ?_ <;> (intro hb; first | (cases hb; done) | skip)))
  exact ⟨.inl trivial, by simp [Tryd.results65]⟩
theorem rmust_f (n : Int) : RetP Tryd.prog G0 65 #[.bool false, .int .i64 n] (.pan (erV n)) := by
  refine retp_of G0F Tryd.func65 rfl Tryd.call65 (fun v h => by cases h) (by simp) (by simp [Tryd.ntmps65]) ?_
  intro C hC hC0 hY
  repeat' (first | refine gwS ?_ | simp only [wN, wM, Nat.reduceAdd, Nat.reduceMul] | ((first | refine gwR [] ?_ | refine gwD [] ?_); intro Q hQ hP; simp [hC, hY]; (first | refine hQ _ _ _ _ (by kernel_rfl) ?_ | refine hP _ _ (by kernel_rfl) fun _ => ?_); clear hQ hP Q) | refine gwB ?_ | refine gwT ?_ | refine gwK ?_ | refine gwE ?_ | refine gwG ?_ | refine gwL ?_ | simp only [blockG_exit] | (refine gwC ?_ ?_ <;> (intro hb; first | (cases hb; done) | skip)))
  rfl
@[simp] theorem rmust (n : Int) (K : Value → Prop) : callK Tryd.prog G0 65 #[.bool true, .int .i64 n] K ↔ K (.tuple #[]) := callK_iff G0W (by kernel_rfl) (ret_of_retp (rmust_t n))
theorem most_ret (z : Int) : Ret Tryd.prog G0 93 #[wd z] (.int .i64 (nbits (uz z) / 2)) := by
  refine ret_of G0F Tryd.func93 rfl Tryd.call93 rfl (by simp) (by simp [Tryd.ntmps93]) ?_
  intro C hC hC0 hY
  have b0 := nb_word z 0
  have b1 := nb_word z 1
  have b2 := nb_word z 2
  have b3 := nb_word z 3
  have k3 := size_3 z
  have k2 := size_2 z
  have k1 := size_1 z
  have k0 := size_0 z
  have m3 : Int.bmod (192 + nbits (wi z 3)) 18446744073709551616 = 192 + nbits (wi z 3) := bm (by omega) (by omega)
  have m2 : Int.bmod (128 + nbits (wi z 2)) 18446744073709551616 = 128 + nbits (wi z 2) := bm (by omega) (by omega)
  have m1 : Int.bmod (64 + nbits (wi z 1)) 18446744073709551616 = 64 + nbits (wi z 1) := bm (by omega) (by omega)
  have t3 : (192 + nbits (wi z 3)).tdiv 2 = (192 + nbits (wi z 3)) / 2 := Int.tdiv_eq_ediv_of_nonneg (by omega)
  have t2 : (128 + nbits (wi z 2)).tdiv 2 = (128 + nbits (wi z 2)) / 2 := Int.tdiv_eq_ediv_of_nonneg (by omega)
  have t1 : (64 + nbits (wi z 1)).tdiv 2 = (64 + nbits (wi z 1)) / 2 := Int.tdiv_eq_ediv_of_nonneg (by omega)
  have t0 : (nbits (wi z 0)).tdiv 2 = nbits (wi z 0) / 2 := Int.tdiv_eq_ediv_of_nonneg (by omega)
  have u3 : Int.bmod ((192 + nbits (wi z 3)) / 2) 18446744073709551616 = (192 + nbits (wi z 3)) / 2 := bm (by omega) (by omega)
  have u2 : Int.bmod ((128 + nbits (wi z 2)) / 2) 18446744073709551616 = (128 + nbits (wi z 2)) / 2 := bm (by omega) (by omega)
  have u1 : Int.bmod ((64 + nbits (wi z 1)) / 2) 18446744073709551616 = (64 + nbits (wi z 1)) / 2 := bm (by omega) (by omega)
  have u0 : Int.bmod (nbits (wi z 0) / 2) 18446744073709551616 = nbits (wi z 0) / 2 := bm (by omega) (by omega)
  repeat' (first | refine gwS ?_ | refine GWL_start ?_ | refine GWL_step ?_ | simp only [wN, wM, Nat.reduceAdd, Nat.reduceMul] | ((first | refine gwR [] ?_ | refine gwD [] ?_); intro Q hQ hP; simp [hC, hY, wi_ge, wi_lt, m1, m2, m3, t0, t1, t2, t3, u0, u1, u2, u3]; (first | refine hQ _ _ _ _ (by kernel_rfl) ?_ | refine hP _ _ (by kernel_rfl) fun _ => ?_); clear hQ hP Q) | refine gwB ?_ | refine gwT ?_ | refine gwK ?_ | refine gwE ?_ | refine gwG ?_ | refine gwL ?_ | simp only [blockG_exit] | (refine gwC ?_ ?_ <;> (intro hb; first | (cases hb; done) | skip)))
  all_goals
    refine ⟨.inr trivial, ?_⟩
    simp [Tryd.results93]
    simp_all
@[simp] theorem rmost (z : Int) (K : Value → Prop) : callK Tryd.prog G0 93 #[Value.agg #[.int .u64 (wi (z) 0), .int .u64 (wi (z) 1), .int .u64 (wi (z) 2), .int .u64 (wi (z) 3)]] K ↔ K (.int .i64 (nbits (uz z) / 2)) := callK_iff G0W (by kernel_rfl) (most_ret z)
theorem all_new (a : Int) (k : Nat) (h100 : 100 ≤ k) : Fun Tryd.prog G0 81 #[wd a] G0 [] (.new (.func (.func 92) #[] #[.pointer (some ⟨k, 0, none⟩)]) [(k, wb a)]) := by
  have e0 : rst G0 [] = G0 := rst_G G0F []
  refine new_of (B := 200) (fun j => if j = k then 200 else j) G0F (fun _ _ => rfl) Tryd.func81 rfl Tryd.call81 (by simp [idsV, idsA, idsF, ids0]) (by rw [e0]; exact G0_closed _) ?_ (by simp [Tryd.ntmps81]) (by omega) (by rw [e0]; exact fun x hx => G0_big x (by omega)) (fun j hj => ?_) ?_ ?_ ?_ ?_
  · refine ⟨by simp [idsV, idsA, idsF, ids0, extD, keys], by simp [keys]; omega, fun q b c h1 h2 => ?_⟩
    simp at h1 h2
    rw [h1.2, h2.2]
  · rw [e0] at hj; have := G0_dom hj; rw [if_neg (by omega)]
  · simp [e0, dom]
  · simp
  · simp [wb, ids_lit, idsF, ids0]
  · intro C hC hC0 hY
    rw [e0]
    repeat' (first | refine gwS ?_ | simp only [wN, wM, Nat.reduceAdd, Nat.reduceMul] | ((first | refine gwR [] ?_ | refine gwD [] ?_); intro Q hQ hP; simp [hC, hY]; (first | refine hQ _ _ _ _ (by kernel_rfl) ?_ | refine hP _ _ (by kernel_rfl) fun _ => ?_); clear hQ hP Q) | refine gwB ?_ | refine gwT ?_ | refine gwK ?_ | refine gwE ?_ | refine gwG ?_ | refine gwL ?_ | simp only [blockG_exit] | (refine gwC ?_ ?_ <;> (intro hb; first | (cases hb; done) | skip)))
    refine ⟨.inr trivial, ?_⟩
    simp [Tryd.results81, ren, renA, renF, ren0, wb]
    intro j hj hj2
    have := G0_dom hj
    omega
theorem wi_pow (t r j : Nat) (hr : r < 64) : wi (2 ^ (64 * t + r)) j = if j = t then 2 ^ r else 0 := by
  by_cases h : j = t
  · subst h
    rw [if_pos rfl]
    unfold wi
    rw [Int.pow_add, Int.mul_ediv_cancel_left _ (by have := pow_pos2 (64 * j); omega)]
    exact Int.emod_eq_of_lt (Int.le_of_lt (pow_pos2 _)) (by
      have : (2 : Int) ^ r < 2 ^ 64 := by exact_mod_cast Nat.pow_lt_pow_right (by omega) hr
      exact this)
  · rw [if_neg h]
    have := wi_other 0 t r j hr h
    simp only [Int.zero_mul, Int.zero_add] at this
    rw [this, wi_zero]
theorem set_bit (t r : Nat) (ht : t < 4) (hr : r < 64) : (#[.int .u64 0, .int .u64 0, .int .u64 0, .int .u64 0] : Array Value).setIfInBounds t (.int .u64 (2 ^ r)) = #[.int .u64 (wi (2 ^ (64 * t + r)) 0), .int .u64 (wi (2 ^ (64 * t + r)) 1), .int .u64 (wi (2 ^ (64 * t + r)) 2), .int .u64 (wi (2 ^ (64 * t + r)) 3)] := by
  simp only [wi_pow _ _ _ hr]
  have : t = 0 ∨ t = 1 ∨ t = 2 ∨ t = 3 := by omega
  rcases this with rfl | rfl | rfl | rfl <;> simp
def allXs (M : Int) : List (Array Value) := (List.range (M + 1).toNat).map fun (i : Nat) => #[wd (2 ^ (M - (i : Int)).toNat)]
theorem allXs_len (M : Int) : (allXs M).length = (M + 1).toNat := by simp [allXs]
theorem allXs_at (M : Int) (i : Nat) (h : i < (M + 1).toNat) : (allXs M)[i]? = some #[wd (2 ^ (M - (i : Int)).toNat)] := by simp [allXs, h]
def aHp (a : Int) : Hp := hpL G0 [(100, wb a)]
def allSt (a M : Int) (l i : Nat) : GS :=
  ⟨tsL [(0, .func (.yield l) #[] #[]), (1, .pointer (some ⟨100, 0, none⟩)), (3, .int .i64 (M - i))], aHp a, 300, i⟩
theorem all_it (a : Int) : IterG Tryd.prog G0 92 #[.pointer (some ⟨100, 0, none⟩)] (aHp a) [100] (allXs (nbits (uz a) / 2)) := by
  have e0 : rst (aHp a) [100] = aHp a := hpL_rst G0F (by simp)
  refine iter_of (B := 200) (v := .tuple #[]) G0F (fun k hk => hpL_low (by simp) hk) Tryd.func92 rfl Tryd.call92 ?_ ?_ (by simp [Tryd.ntmps92]) (by omega) ?_ ?_
  · rw [e0]; simp [idsV, idsA, idsF, ids0, dom, aHp]
  · rw [e0]
    intro k c hk
    rcases hpL_mem hk with h | h
    · simp at h
      rcases h with ⟨_, rfl⟩
      simp [wb, ids_lit, idsF, ids0]
    · exact G0_closed _ _ _ h
  · rw [e0]
    intro x hx
    simp [aHp, show ¬ x = 100 by omega, show 100 ≤ x by omega]
  · intro C l stop hC hC0 hY
    rw [e0] at hC0 ⊢
    have hnb := nbits_bd 256 (uz_bd a).2
    have hM : 0 ≤ nbits (uz a) / 2 ∧ nbits (uz a) / 2 ≤ 128 := by omega
    have hlen := allXs_len (nbits (uz a) / 2)
    repeat' (first | refine gwS ?_ | simp only [wN, wM, Nat.reduceAdd, Nat.reduceMul] | ((first | refine gwR [] ?_ | refine gwD [] ?_); intro Q hQ hP; simp [hC, hY, aHp, wb]; (first | refine hQ _ _ _ _ (by kernel_rfl) ?_ | refine hP _ _ (by kernel_rfl) fun _ => ?_); clear hQ hP Q) | refine gwB ?_ | refine gwT ?_ | refine gwK ?_ | refine gwE ?_ | refine gwG ?_ | refine gwL ?_ | simp only [blockG_exit] | (refine gwC ?_ ?_ <;> (intro hb; first | (cases hb; done) | skip)))
    generalize hMe : nbits (uz a) / 2 = M at *
    generalize hxs : allXs M = xs at *
    refine GW_for (min stop xs.length) (allSt a M l) ?_ ?_ ?_
    · refine weakL _ 300 hC G0F (m := [(100, wb a)]) (m0 := [(100, wb a)]) hC0 (by omega) ?_ ?_ ?_
      · simp [dom]
      · simp [wb]
      · simp [wb]
    · intro i hi
      have hs : i < stop := by omega
      have hq : (i != stop) = true := by simp; omega
      have hle : i ≤ stop := by omega
      obtain ⟨n, hn⟩ : ∃ n : Nat, M - (i : Int) = n := ⟨(M - i).toNat, by omega⟩
      have g1 : (i : Int) ≤ M := by omega
      have hx : xs[i]? = some #[wd (2 ^ n)] := by
        rw [← hxs, allXs_at M i (by omega), hn]; rfl
      simp only [wd_eq] at hx
      have g4 : Int.bmod ((n : Int) - 1) 18446744073709551616 = M - ((i + 1 : Nat) : Int) := by rw [bm (by omega) (by omega)]; omega
      obtain ⟨t, r, hr, hn'⟩ : ∃ t r, r < 64 ∧ n = 64 * t + r := ⟨n / 64, n % 64, by omega, by omega⟩
      have tq : ((n : Int)).tdiv 64 = t := by rw [Int.tdiv_eq_ediv_of_nonneg (by omega)]; omega
      have tm : ((n : Int)).tmod 64 = r := by rw [Int.tmod_eq_emod_of_nonneg (by omega)]; omega
      have t4 : t < 4 := by omega
      have t4' : (t : Int) < 4 := by omega
      have t0 : (0 : Int) ≤ t := by omega
      have tb : Int.bmod (t : Int) 18446744073709551616 = t := bm (by omega) (by omega)
      have t3 : t ≤ 3 := Nat.le_of_lt_succ t4
      have m1 : min r 64 = r := by omega
      have m2 : (2 : Int) ^ r % 18446744073709551616 = 2 ^ r := Int.emod_eq_of_lt (Int.le_of_lt (pow_pos2 _)) (by
        have : (2 : Int) ^ r < 2 ^ 64 := by exact_mod_cast Nat.pow_lt_pow_right (by omega) hr
        exact this)
      have hset := set_bit t r t4 hr
      rw [← hn'] at hset
      unfold allSt
      repeat' (first | refine gwS ?_ | simp only [wN, wM, Nat.reduceAdd, Nat.reduceMul] | ((first | refine gwR [] ?_ | refine gwD [] ?_); intro Q hQ hP; simp [hC, hY, aHp, wb, hs, hq, hle, hn, g1, g4, hx, tq, tm, t4, t4', t0, tb, t3, m1, m2, hset]; (first | refine hQ _ _ _ _ (by kernel_rfl) ?_ | refine hP _ _ (by kernel_rfl) fun _ => ?_); clear hQ hP Q) | refine gwB ?_ | refine gwT ?_ | refine gwK ?_ | refine gwE ?_ | refine gwG ?_ | refine gwL ?_ | simp only [blockG_exit] | (refine gwC ?_ ?_ <;> (intro hb; first | (cases hb; done) | skip)))
      refine weakL _ 300 hC G0F (m := [(100, wb a)]) (m0 := [(100, wb a)]) hC0 (by omega) ?_ ?_ ?_
      · simp [dom]
      · simp [wb]
      · simp [wb]
    · by_cases h4 : xs.length ≤ stop
      · rw [Nat.min_eq_right h4]
        have g1 : ¬ ((xs.length : Int) ≤ M) := by omega
        unfold allSt
        repeat' (first | refine gwS ?_ | simp only [wN, wM, Nat.reduceAdd, Nat.reduceMul] | ((first | refine gwR [] ?_ | refine gwD [] ?_); intro Q hQ hP; simp [hC, hY, aHp, wb, g1]; (first | refine hQ _ _ _ _ (by kernel_rfl) ?_ | refine hP _ _ (by kernel_rfl) fun _ => ?_); clear hQ hP Q) | refine gwB ?_ | refine gwT ?_ | refine gwK ?_ | refine gwE ?_ | refine gwG ?_ | refine gwL ?_ | simp only [blockG_exit] | (refine gwC ?_ ?_ <;> (intro hb; first | (cases hb; done) | skip)))
        refine ⟨.inl trivial, by simp [Tryd.results92], ?_⟩
        show xs.length = _
        omega
      · rw [Nat.min_eq_left (by omega)]
        obtain ⟨n, hn⟩ : ∃ n : Nat, M - (stop : Int) = n := ⟨(M - stop).toNat, by omega⟩
        have g1 : (stop : Int) ≤ M := by omega
        have hx : xs[stop]? = some #[wd (2 ^ n)] := by
          rw [← hxs, allXs_at M stop (by omega), hn]; rfl
        simp only [wd_eq] at hx
        obtain ⟨t, r, hr, hn'⟩ : ∃ t r, r < 64 ∧ n = 64 * t + r := ⟨n / 64, n % 64, by omega, by omega⟩
        have tq : ((n : Int)).tdiv 64 = t := by rw [Int.tdiv_eq_ediv_of_nonneg (by omega)]; omega
        have tm : ((n : Int)).tmod 64 = r := by rw [Int.tmod_eq_emod_of_nonneg (by omega)]; omega
        have t4 : t < 4 := by omega
        have t4' : (t : Int) < 4 := by omega
        have t0 : (0 : Int) ≤ t := by omega
        have tb : Int.bmod (t : Int) 18446744073709551616 = t := bm (by omega) (by omega)
        have t3 : t ≤ 3 := Nat.le_of_lt_succ t4
        have m1 : min r 64 = r := by omega
        have m2 : (2 : Int) ^ r % 18446744073709551616 = 2 ^ r := Int.emod_eq_of_lt (Int.le_of_lt (pow_pos2 _)) (by
          have : (2 : Int) ^ r < 2 ^ 64 := by exact_mod_cast Nat.pow_lt_pow_right (by omega) hr
          exact this)
        have hset := set_bit t r t4 hr
        rw [← hn'] at hset
        unfold allSt
        repeat' (first | refine gwS ?_ | simp only [wN, wM, Nat.reduceAdd, Nat.reduceMul] | ((first | refine gwR [] ?_ | refine gwD [] ?_); intro Q hQ hP; simp [hC, hY, aHp, wb, hn, g1, hx, tq, tm, t4, t4', t0, tb, t3, m1, m2, hset]; (first | refine hQ _ _ _ _ (by kernel_rfl) ?_ | refine hP _ _ (by kernel_rfl) fun _ => ?_); clear hQ hP Q) | refine gwB ?_ | refine gwT ?_ | refine gwK ?_ | refine gwE ?_ | refine gwG ?_ | refine gwL ?_ | simp only [blockG_exit] | (refine gwC ?_ ?_ <;> (intro hb; first | (cases hb; done) | skip)))
        refine ⟨.inr trivial, by simp [Tryd.results92], ?_⟩
        show stop + 1 = _
        omega
def rp (a : Int) (K : Nat) : Nat → Int
  | 0 => 0
  | i + 1 => if (rp a K i + 2 ^ (K - 1 - i)) * (rp a K i + 2 ^ (K - 1 - i)) ≤ a then rp a K i + 2 ^ (K - 1 - i) else rp a K i
theorem rp_inv (a : Int) (K : Nat) (h0 : 0 ≤ a) (h : a < 2 ^ K * 2 ^ K) : ∀ i, i ≤ K → 0 ≤ rp a K i ∧ rp a K i * rp a K i ≤ a ∧ a < (rp a K i + 2 ^ (K - i)) * (rp a K i + 2 ^ (K - i))
  | 0, _ => by simp [rp]; exact ⟨h0, h⟩
  | i + 1, hi => by
    obtain ⟨h1, h2, h3⟩ := rp_inv a K h0 h i (by omega)
    have e1 : K - i = (K - 1 - i) + 1 := by omega
    have e2 : K - (i + 1) = K - 1 - i := by omega
    rw [e1, Int.pow_succ] at h3
    rw [e2]
    have hp := pow_pos2 (K - 1 - i)
    unfold rp
    split
    · rename_i hc
      refine ⟨by omega, hc, ?_⟩
      rw [Int.add_assoc, show (2 : Int) ^ (K - 1 - i) + 2 ^ (K - 1 - i) = 2 ^ (K - 1 - i) * 2 by omega]
      exact h3
    · rename_i hc
      exact ⟨h1, h2, by omega⟩
def isq (a : Int) : Int := rp a (nbits a / 2 + 1).toNat (nbits a / 2 + 1).toNat
theorem isq_bits (a : Int) (h0 : 0 ≤ a) : a < 2 ^ (nbits a / 2 + 1).toNat * 2 ^ (nbits a / 2 + 1).toNat := by
  rw [← Int.pow_add]
  by_cases h : a = 0
  · subst h; exact pow_pos2 _
  · obtain ⟨k, hk, k1, k2⟩ := nbits_pos (x := a) (by omega)
    refine Int.lt_of_lt_of_le k2 ?_
    rw [hk]
    exact_mod_cast Nat.pow_le_pow_right (by omega) (by omega)
theorem isq_spec (a : Int) (h0 : 0 ≤ a) : 0 ≤ isq a ∧ isq a * isq a ≤ a ∧ a < (isq a + 1) * (isq a + 1) := by
  have := rp_inv a (nbits a / 2 + 1).toNat h0 (isq_bits a h0) (nbits a / 2 + 1).toNat (Nat.le_refl _)
  simpa [isq] using this
theorem sq_lt {x y : Int} (hx : 0 ≤ x) (hy : 0 ≤ y) (h : x * x < y * y) : x < y := by
  refine Classical.byContradiction fun hn => ?_
  have : y * y ≤ x * x := Int.mul_le_mul (by omega) (by omega) hy hx
  omega
theorem isq_unique {a r : Int} (h0 : 0 ≤ r) (h1 : r * r ≤ a) (h2 : a < (r + 1) * (r + 1)) : isq a = r := by
  have ha : 0 ≤ a := Int.le_trans (Int.mul_nonneg h0 h0) h1
  obtain ⟨s0, s1, s2⟩ := isq_spec a ha
  have h3 := sq_lt (x := isq a) (y := r + 1) s0 (by omega) (by omega)
  have h4 := sq_lt (x := r) (y := isq a + 1) h0 (by omega) (by omega)
  omega
theorem sq_bd {x : Int} (B : Int) (hx : 0 ≤ x) (hB : 0 ≤ B) (h : x * x < B * B) : x < B := sq_lt hx hB h
def rfHp (a r : Int) : Hp := hpL G0 [(200, wb a), (208, wb r)]
def rfTs : Nat → Value := tsL [(1, .pointer (some ⟨200, 0, none⟩)), (2, .pointer (some ⟨208, 0, none⟩))]
theorem rfloor_neg (a : Int) (ha : wr a) (h0 : a < 0) : RetP Tryd.prog G0 68 #[wd a] (.pan (erV 2)) := by
  refine retp_of G0F Tryd.func68 rfl Tryd.call68 (fun v h => by cases h) (by simp) (by simp [Tryd.ntmps68]) ?_
  intro C hC hC0 hY
  have s1 : ¬ 0 ≤ cmpI (sz a) 0 := by rw [wr_sz ha]; unfold cmpI; split <;> (try split) <;> omega
  repeat' (first | refine gwS ?_ | simp only [wN, wM, Nat.reduceAdd, Nat.reduceMul] | ((first | refine gwR [1000065] ?_ | refine gwD [1000065] ?_); intro Q hQ hP; simp [hC, hY, s1]; (repeat ((first | (refine callP_of (rmust_f 2) ?_)); try simp [hC, hY, s1])); (first | refine hQ _ _ _ _ (by kernel_rfl) ?_ | refine hP _ _ (by kernel_rfl) fun _ => ?_); clear hQ hP Q) | refine gwB ?_ | refine gwT ?_ | refine gwK ?_ | refine gwE ?_ | refine gwG ?_ | refine gwL ?_ | simp only [blockG_exit] | (refine gwC ?_ ?_ <;> (intro hb; first | (cases hb; done) | skip)))
  rfl
set_option maxHeartbeats 1000000 in
theorem rfloor_ret (a : Int) (ha : wr a) (h0 : 0 ≤ a) : Ret Tryd.prog G0 68 #[wd a] (wd (isq a)) := by
  refine ret_of G0F Tryd.func68 rfl Tryd.call68 (by simp) (by simp) (by simp [Tryd.ntmps68]) ?_
  intro C hC hC0 hY
  have s1 : 0 ≤ cmpI (sz a) 0 := by rw [wr_sz ha]; unfold cmpI; split <;> (try split) <;> omega
  have hnb := nbits_bd 255 ha.2
  have hit := all_it a
  have eu : uz a = a := by unfold uz; have := ha.2; omega
  rw [eu] at hit
  have hinv := rp_inv a (nbits a / 2 + 1).toNat h0 (isq_bits a h0)
  have hisq : isq a = rp a (nbits a / 2 + 1).toNat (nbits a / 2 + 1).toNat := rfl
  have hM : 0 ≤ nbits a / 2 ∧ nbits a / 2 ≤ 127 := by omega
  generalize nbits a / 2 = M at *
  repeat' (first | refine gwS ?_ | simp only [wN, wM, Nat.reduceAdd, Nat.reduceMul] | ((first | refine gwR [] ?_ | refine gwD [] ?_); intro Q hQ hP; simp [hC, hY, s1]; (first | refine hQ _ _ _ _ (by kernel_rfl) ?_ | refine hP _ _ (by kernel_rfl) fun _ => ?_); clear hQ hP Q) | refine gwB ?_ | refine gwT ?_ | refine gwK ?_ | refine gwE ?_ | refine gwG ?_ | refine gwL ?_ | simp only [blockG_exit] | (refine gwC ?_ ?_ <;> (intro hb; first | (cases hb; done) | skip)))
  refine GW_region' [81] (by kernel_rfl) ?_; intro Q hQ hP; simp [hC, hY]
  refine heapK_of (all_new a 256 (by omega)) (by simp) (fun _ _ => rfl) (by simp [Res.at]) ?_
  simp
  refine hQ _ _ _ _ ?_; clear hQ hP Q
  repeat' (first | refine gwS ?_ | simp only [wN, wM, Nat.reduceAdd, Nat.reduceMul] | ((first | refine gwR [] ?_ | refine gwD [] ?_); intro Q hQ hP; simp [hC, hY]; (first | refine hQ _ _ _ _ (by kernel_rfl) ?_ | refine hP _ _ (by kernel_rfl) fun _ => ?_); clear hQ hP Q) | refine gwB ?_ | refine gwT ?_ | refine gwK ?_ | refine gwE ?_ | refine gwG ?_ | refine gwL ?_ | simp only [blockG_exit] | (refine gwC ?_ ?_ <;> (intro hb; first | (cases hb; done) | skip)))
  generalize hK : (M + 1).toNat = K at *
  refine GW_range (f := 92) (rs := [256]) (xs := allXs M) (caps := #[.pointer (some ⟨256, 0, none⟩)]) (by simp) ?_ ?_ (by simp [Tryd.ntmps68]) rfTs (fun i => rfHp a (rp a K i)) 300 K (by rw [allXs_len]; omega) ?_ ?_ ?_ ?_ ?_
  · rw [hC]
    refine IterG.cast (IterX.rn (fun k => if k = 100 then 256 else k) G0F (fun k hk => hpL_low (by simp) hk) (rs := [100]) ?_ hit) (by simp [ren0]) (by simp)
    refine ⟨fun k hk => ?_, ?_, ?_, ?_⟩
    · simp [aHp, show ¬ k = 100 by omega, show ¬ k = 200 by omega, show ¬ k = 208 by omega, show ¬ k = 256 by omega]
    · simp
    · simp [aHp, wb, Blk.rn, renF, ren0]
    · simp
  · intro x hx
    simp only [allXs, List.mem_map] at hx
    obtain ⟨i, _, rfl⟩ := hx
    simp
  · refine weakL _ 300 hC G0F (m0 := []) hC0 (by omega) ?_ ?_ ?_
    · simp [dom]
    · simp [wb, rp, wi_zero]
    · simp
  · simp [rfHp, dom]
  · intro i hi t
    refine tsL_ids ?_ t
    simp [dom, rfHp]
  · intro i x hi hx C1 l hC1 hh1 hY1
    have hCC := hC
    have hC1' : C1.G = G0 := hC1.trans hC
    obtain ⟨n, hn⟩ : ∃ n : Nat, M - (i : Int) = n := ⟨(M - i).toNat, by omega⟩
    rw [allXs_at M i (by omega), hn] at hx
    cases hx
    obtain ⟨r0, r1, r2⟩ := hinv i (by omega)
    have en : K - 1 - i = n := by omega
    have hrs : rp a K (i + 1) = if (rp a K i + 2 ^ n) * (rp a K i + 2 ^ n) ≤ a then rp a K i + 2 ^ n else rp a K i := by
      rw [rp, en]
    generalize rp a K i = r at *
    have hau := ha.2
    have hr : r < 340282366920938463463374607431768211456 := sq_bd _ r0 (by decide) (by omega)
    have hn2 : (2 : Int) ^ n ≤ 2 ^ 127 := by exact_mod_cast Nat.pow_le_pow_right (by omega) (by omega : n ≤ 127)
    have hn0 := pow_pos2 n
    have t0 : 0 ≤ r + 2 ^ n := by omega
    have t1 : r + 2 ^ n < 680564733841876926926749214863536422912 := by omega
    have szt : sz (r + 2 ^ n) = r + 2 ^ n := sz_pos t0 (Int.lt_trans t1 (by decide))
    have tt0 : 0 ≤ (r + 2 ^ n) * (r + 2 ^ n) := Int.mul_nonneg t0 t0
    have hmul : mulO (r + 2 ^ n) (r + 2 ^ n) = decide (¬ ((r + 2 ^ n) * (r + 2 ^ n) < 57896044618658097711785492504343953926634992332820282019728792003956564819968)) := by
      unfold mulO; rw [szt]; congr 1
      exact propext ⟨fun h1 h2 => h1 ⟨Int.le_trans (by decide) tt0, h2⟩, fun h1 h2 => h1 h2.2⟩
    have sza : sz a = a := wr_sz ha
    replace hC := hC1'
    replace hY := hY1
    simp only [hrs]
    generalize htt : (r + 2 ^ n) * (r + 2 ^ n) = T at *
    by_cases hov : T < 57896044618658097711785492504343953926634992332820282019728792003956564819968
    · have hm : mulO (r + 2 ^ n) (r + 2 ^ n) = false := by rw [hmul]; simp [hov]
      have szT : sz T = T := sz_pos tt0 hov
      by_cases hle : T ≤ a
      · have hcmp : cmpI (sz T) (sz a) ≤ 0 := by rw [szT, sza]; unfold cmpI; split <;> (try split) <;> omega
        rw [if_pos hle]
        unfold rfHp
        repeat' (first | refine gwS ?_ | simp only [wN, wM, Nat.reduceAdd, Nat.reduceMul] | ((first | refine gwR [] ?_ | refine gwD [] ?_); intro Q hQ hP; simp [hC, hY, roundTs, rfTs]; (first | refine hQ _ _ _ _ (by kernel_rfl) ?_ | refine hP _ _ (by kernel_rfl) fun _ => ?_); clear hQ hP Q) | refine gwB ?_ | refine gwT ?_ | refine gwK ?_ | refine gwE ?_ | refine gwG ?_ | refine gwL ?_ | simp only [blockG_exit] | (refine gwC ?_ ?_ <;> (intro hb; first | (cases hb; done) | skip)))
        intro C2 hC2 hh2 hY2
        replace hC : C2.G = G0 := hC2.trans hCC
        replace hY := hY2
        repeat' (first | refine gwS ?_ | simp only [wN, wM, Nat.reduceAdd, Nat.reduceMul] | ((first | refine gwR [] ?_ | refine gwD [] ?_); intro Q hQ hP; simp [hC, hY, roundTs, rfTs, wb, szt, htt, hm, hcmp]; (first | refine hQ _ _ _ _ (by kernel_rfl) ?_ | refine hP _ _ (by kernel_rfl) fun _ => ?_); clear hQ hP Q) | refine gwB ?_ | refine gwT ?_ | refine gwK ?_ | refine gwE ?_ | refine gwG ?_ | refine gwL ?_ | simp only [blockG_exit] | (refine gwC ?_ ?_ <;> (intro hb; first | (cases hb; done) | skip)))
        refine weakL [] 300 hC1' G0F hh1 (by omega) ?_ ?_ ?_
        · simp
        · simp [wb]
        · simp [wb]
      · have hcmp : ¬ cmpI (sz T) (sz a) ≤ 0 := by rw [szT, sza]; unfold cmpI; split <;> (try split) <;> omega
        rw [if_neg hle]
        unfold rfHp
        repeat' (first | refine gwS ?_ | simp only [wN, wM, Nat.reduceAdd, Nat.reduceMul] | ((first | refine gwR [] ?_ | refine gwD [] ?_); intro Q hQ hP; simp [hC, hY, roundTs, rfTs]; (first | refine hQ _ _ _ _ (by kernel_rfl) ?_ | refine hP _ _ (by kernel_rfl) fun _ => ?_); clear hQ hP Q) | refine gwB ?_ | refine gwT ?_ | refine gwK ?_ | refine gwE ?_ | refine gwG ?_ | refine gwL ?_ | simp only [blockG_exit] | (refine gwC ?_ ?_ <;> (intro hb; first | (cases hb; done) | skip)))
        intro C2 hC2 hh2 hY2
        replace hC : C2.G = G0 := hC2.trans hCC
        replace hY := hY2
        repeat' (first | refine gwS ?_ | simp only [wN, wM, Nat.reduceAdd, Nat.reduceMul] | ((first | refine gwR [] ?_ | refine gwD [] ?_); intro Q hQ hP; simp [hC, hY, roundTs, rfTs, wb, szt, htt, hm, hcmp]; (first | refine hQ _ _ _ _ (by kernel_rfl) ?_ | refine hP _ _ (by kernel_rfl) fun _ => ?_); clear hQ hP Q) | refine gwB ?_ | refine gwT ?_ | refine gwK ?_ | refine gwE ?_ | refine gwG ?_ | refine gwL ?_ | simp only [blockG_exit] | (refine gwC ?_ ?_ <;> (intro hb; first | (cases hb; done) | skip)))
        refine weakL [] 300 hC1' G0F hh1 (by omega) ?_ ?_ ?_
        · simp
        · simp [wb]
        · simp [wb]
    · have hm : mulO (r + 2 ^ n) (r + 2 ^ n) = true := by rw [hmul]; simp only [hov, not_false_eq_true, decide_true]
      have hle : ¬ T ≤ a := fun h => hov (Int.lt_of_le_of_lt h hau)
      rw [if_neg hle]
      unfold rfHp
      repeat' (first | refine gwS ?_ | simp only [wN, wM, Nat.reduceAdd, Nat.reduceMul] | ((first | refine gwR [] ?_ | refine gwD [] ?_); intro Q hQ hP; simp [hC, hY, roundTs, rfTs]; (first | refine hQ _ _ _ _ (by kernel_rfl) ?_ | refine hP _ _ (by kernel_rfl) fun _ => ?_); clear hQ hP Q) | refine gwB ?_ | refine gwT ?_ | refine gwK ?_ | refine gwE ?_ | refine gwG ?_ | refine gwL ?_ | simp only [blockG_exit] | (refine gwC ?_ ?_ <;> (intro hb; first | (cases hb; done) | skip)))
      intro C2 hC2 hh2 hY2
      replace hC : C2.G = G0 := hC2.trans hCC
      replace hY := hY2
      repeat' (first | refine gwS ?_ | simp only [wN, wM, Nat.reduceAdd, Nat.reduceMul] | ((first | refine gwR [] ?_ | refine gwD [] ?_); intro Q hQ hP; simp [hC, hY, roundTs, rfTs, wb, szt, htt, hm]; (first | refine hQ _ _ _ _ (by kernel_rfl) ?_ | refine hP _ _ (by kernel_rfl) fun _ => ?_); clear hQ hP Q) | refine gwB ?_ | refine gwT ?_ | refine gwK ?_ | refine gwE ?_ | refine gwG ?_ | refine gwL ?_ | simp only [blockG_exit] | (refine gwC ?_ ?_ <;> (intro hb; first | (cases hb; done) | skip)))
      refine weakL [] 300 hC1' G0F hh1 (by omega) ?_ ?_ ?_
      · simp
      · simp [wb]
      · simp [wb]
  · left
    refine ⟨by rw [allXs_len]; omega, ?_⟩
    rw [← hisq]
    unfold rfHp rfTs
    repeat' (first | refine gwS ?_ | simp only [wN, wM, Nat.reduceAdd, Nat.reduceMul] | ((first | refine gwR [] ?_ | refine gwD [] ?_); intro Q hQ hP; simp [hC, hY, wb]; (first | refine hQ _ _ _ _ (by kernel_rfl) ?_ | refine hP _ _ (by kernel_rfl) fun _ => ?_); clear hQ hP Q) | refine gwB ?_ | refine gwT ?_ | refine gwK ?_ | refine gwE ?_ | refine gwG ?_ | refine gwL ?_ | simp only [blockG_exit] | (refine gwC ?_ ?_ <;> (intro hb; first | (cases hb; done) | skip)))
    refine ⟨.inr trivial, ?_⟩
    simp [Tryd.results68]
@[simp] theorem rfloor (a : Int) (ha : wr a) (h0 : 0 ≤ a) (K : Value → Prop) : callK Tryd.prog G0 68 #[Value.agg #[.int .u64 (wi (a) 0), .int .u64 (wi (a) 1), .int .u64 (wi (a) 2), .int .u64 (wi (a) 3)]] K ↔ K (wd (isq a)) := callK_iff G0W (by kernel_rfl) (rfloor_ret a ha h0)
def hp1 (a : Int) : Hp := hpL G0 [(200, wb a)]
theorem of_zero (a : Int) : RetP Tryd.prog G0 48 #[wd a, wd 0] (.pan (erV 30)) := by
  refine retp_of G0F Tryd.func48 rfl Tryd.call48 (fun v h => by cases h) (by simp) (by simp [Tryd.ntmps48]) ?_
  intro C hC hC0 hY
  repeat' (first | refine gwS ?_ | simp only [wN, wM, Nat.reduceAdd, Nat.reduceMul] | ((first | refine gwR [1000065] ?_ | refine gwD [1000065] ?_); intro Q hQ hP; simp [hC, hY, wi_zero]; (repeat ((first | (refine callP_of (rmust_f 30) ?_)); try simp [hC, hY, wi_zero])); (first | refine hQ _ _ _ _ (by kernel_rfl) ?_ | refine hP _ _ (by kernel_rfl) fun _ => ?_); clear hQ hP Q) | refine gwB ?_ | refine gwT ?_ | refine gwK ?_ | refine gwE ?_ | refine gwG ?_ | refine gwL ?_ | simp only [blockG_exit] | (refine gwC ?_ ?_ <;> (intro hb; first | (cases hb; done) | skip)))
  rfl
theorem of_arg (a b : Int) (ha : wr a) (hb : wr b) (hb0 : b ≠ 0) (h : a < 0 ∨ b < 0) : RetP Tryd.prog G0 48 #[wd a, wd b] (.pan (erV 2)) := by
  refine retp_of G0F Tryd.func48 rfl Tryd.call48 (fun v h => by cases h) (by simp) (by simp [Tryd.ntmps48]) ?_
  intro C hC hC0 hY
  have hz := wr_ne hb hb0
  by_cases h0 : 0 ≤ a
  · have s1 : 0 ≤ cmpI (sz a) 0 := by rw [wr_sz ha]; unfold cmpI; split <;> (try split) <;> omega
    have s2 : ¬ 0 < cmpI (sz b) 0 := by rw [wr_sz hb]; unfold cmpI; split <;> (try split) <;> omega
    repeat' (first | refine gwS ?_ | simp only [wN, wM, Nat.reduceAdd, Nat.reduceMul] | ((first | refine gwR [1000065] ?_ | refine gwD [1000065] ?_); intro Q hQ hP; simp [hC, hY, hz, s1, s2]; (repeat ((first | (refine callP_of (rmust_t 30) ?_) | (refine callP_of (rmust_f 2) ?_)); try simp [hC, hY, hz, s1, s2])); (first | refine hQ _ _ _ _ (by kernel_rfl) ?_ | refine hP _ _ (by kernel_rfl) fun _ => ?_); clear hQ hP Q) | refine gwB ?_ | refine gwT ?_ | refine gwK ?_ | refine gwE ?_ | refine gwG ?_ | refine gwL ?_ | simp only [blockG_exit] | (refine gwC ?_ ?_ <;> (intro hb; first | (cases hb; done) | skip)))
    rfl
  · have s1 : ¬ 0 ≤ cmpI (sz a) 0 := by rw [wr_sz ha]; unfold cmpI; split <;> (try split) <;> omega
    repeat' (first | refine gwS ?_ | simp only [wN, wM, Nat.reduceAdd, Nat.reduceMul] | ((first | refine gwR [1000065] ?_ | refine gwD [1000065] ?_); intro Q hQ hP; simp [hC, hY, hz, s1]; (repeat ((first | (refine callP_of (rmust_t 30) ?_) | (refine callP_of (rmust_f 2) ?_)); try simp [hC, hY, hz, s1])); (first | refine hQ _ _ _ _ (by kernel_rfl) ?_ | refine hP _ _ (by kernel_rfl) fun _ => ?_); clear hQ hP Q) | refine gwB ?_ | refine gwT ?_ | refine gwK ?_ | refine gwE ?_ | refine gwG ?_ | refine gwL ?_ | simp only [blockG_exit] | (refine gwC ?_ ?_ <;> (intro hb; first | (cases hb; done) | skip)))
    rfl
theorem div_wr {a b : Int} (ha : wr a) (h0 : 0 ≤ a) (hb : 0 < b) : wr (a / b) ∧ 0 ≤ a / b := by
  have h1 : 0 ≤ a / b := Int.ediv_nonneg h0 (by omega)
  exact ⟨⟨Int.le_trans (by decide) h1, Int.lt_of_le_of_lt (Int.ediv_le_self b h0) ha.2⟩, h1⟩
theorem lst_ne {a : Int} (h0 : 0 ≤ a) : a ≠ lst := fun e => by rw [e] at h0; exact absurd h0 (by decide)
theorem of_ret (a b : Int) (ha : wr a) (hb : wr b) (h0 : 0 ≤ a) (hb0 : 0 < b) : Ret Tryd.prog G0 48 #[wd a, wd b] (wd (isq (a / b))) := by
  refine ret_of G0F Tryd.func48 rfl Tryd.call48 (by simp) (by simp) (by simp [Tryd.ntmps48]) ?_
  intro C hC hC0 hY
  have hz := wr_ne hb (by omega)
  have s1 : 0 ≤ cmpI (sz a) 0 := by rw [wr_sz ha]; unfold cmpI; split <;> (try split) <;> omega
  have s2 : 0 < cmpI (sz b) 0 := by rw [wr_sz hb]; unfold cmpI; split <;> (try split) <;> omega
  obtain ⟨d1, d2⟩ := div_wr ha h0 hb0
  have hl := lst_ne h0
  repeat' (first | refine gwS ?_ | simp only [wN, wM, Nat.reduceAdd, Nat.reduceMul] | ((first | refine gwR [] ?_ | refine gwD [] ?_); intro Q hQ hP; simp [hC, hY, hz, s1, s2, ha, hb, hb0, hl, d1, d2]; (first | refine hQ _ _ _ _ (by kernel_rfl) ?_ | refine hP _ _ (by kernel_rfl) fun _ => ?_); clear hQ hP Q) | refine gwB ?_ | refine gwT ?_ | refine gwK ?_ | refine gwE ?_ | refine gwG ?_ | refine gwL ?_ | simp only [blockG_exit] | (refine gwC ?_ ?_ <;> (intro hb; first | (cases hb; done) | skip)))
  refine ⟨.inr trivial, ?_⟩
  simp [Tryd.results48]
@[simp] theorem rof (a b : Int) (ha : wr a) (hb : wr b) (h0 : 0 ≤ a) (hb0 : 0 < b) (K : Value → Prop) : callK Tryd.prog G0 48 #[Value.agg #[.int .u64 (wi (a) 0), .int .u64 (wi (a) 1), .int .u64 (wi (a) 2), .int .u64 (wi (a) 3)], Value.agg #[.int .u64 (wi (b) 0), .int .u64 (wi (b) 1), .int .u64 (wi (b) 2), .int .u64 (wi (b) 3)]] K ↔ K (wd (isq (a / b))) := callK_iff G0W (by kernel_rfl) (of_ret a b ha hb h0 hb0)
theorem rOf1_p (a b : Int) (ha : wr a) (hb : wr b) (h0 : 0 ≤ a) (hb0 : 0 < b) : Fun Tryd.prog G0 47 [.pointer (some ⟨200, 0, none⟩), .pointer (some ⟨208, 0, none⟩)].toArray (hp2 a b) [200, 208] (.ret (wd (isq (a / b))) []) := by
  refine fun_of (B := 300) G0F (fun k hk => hpL_low (by simp) hk) Tryd.func47 rfl Tryd.call47 ?_ ?_ ⟨flatV_ids (by simp), by simp [keys], by simp, by simp⟩ (by simp [Tryd.ntmps47]) (by omega) ?_ ?_
  · rw [hp2_rst]; simp [hp2, dom]
  · rw [hp2_rst]; exact hp2_closed a b _
  · rw [hp2_rst]; exact hp2_free a b
  · intro C hC hC0 hY
    rw [hp2_rst] at hC0 ⊢
    repeat' (first | refine gwS ?_ | simp only [wN, wM, Nat.reduceAdd, Nat.reduceMul] | ((first | refine gwR [] ?_ | refine gwD [] ?_); intro Q hQ hP; simp [hC, hY, hp2, wb, ha, hb, h0, hb0]; (first | refine hQ _ _ _ _ (by kernel_rfl) ?_ | refine hP _ _ (by kernel_rfl) fun _ => ?_); clear hQ hP Q) | refine gwB ?_ | refine gwT ?_ | refine gwK ?_ | refine gwE ?_ | refine gwG ?_ | refine gwL ?_ | simp only [blockG_exit] | (refine gwC ?_ ?_ <;> (intro hb; first | (cases hb; done) | skip)))
    refine ⟨.inr rfl, by simp [Tryd.results47], fun k hk => ?_⟩
    have hk3 : k < 300 := Classical.byContradiction fun h => hk (hp2_free a _ k (by omega))
    simp (disch := omega) only [upd_far]
    rfl
theorem rOf1_a (a b : Int) (ha : wr a) (hb : wr b) (hb0 : b ≠ 0) (h : a < 0 ∨ b < 0) : Fun Tryd.prog G0 47 [.pointer (some ⟨200, 0, none⟩), .pointer (some ⟨208, 0, none⟩)].toArray (hp2 a b) [200, 208] (.pan (erV 2)) := by
  refine fun_of (B := 300) G0F (fun k hk => hpL_low (by simp) hk) Tryd.func47 rfl Tryd.call47 ?_ ?_ trivial (by simp [Tryd.ntmps47]) (by omega) ?_ ?_
  · rw [hp2_rst]; simp [hp2, dom]
  · rw [hp2_rst]; exact hp2_closed a b _
  · rw [hp2_rst]; exact hp2_free a b
  · intro C hC hC0 hY
    rw [hp2_rst] at hC0 ⊢
    repeat' (first | refine gwS ?_ | simp only [wN, wM, Nat.reduceAdd, Nat.reduceMul] | ((first | refine gwR [1000048] ?_ | refine gwD [1000048] ?_); intro Q hQ hP; simp [hC, hY, hp2, wb]; (repeat ((first | (refine callP_of (of_arg a b ha hb hb0 h) ?_)); try simp [hC, hY, hp2, wb])); (first | refine hQ _ _ _ _ (by kernel_rfl) ?_ | refine hP _ _ (by kernel_rfl) fun _ => ?_); clear hQ hP Q) | refine gwB ?_ | refine gwT ?_ | refine gwK ?_ | refine gwE ?_ | refine gwG ?_ | refine gwL ?_ | simp only [blockG_exit] | (refine gwC ?_ ?_ <;> (intro hb; first | (cases hb; done) | skip)))
    refine ⟨rfl, fun k hk => ?_⟩
    have hk3 : k < 300 := Classical.byContradiction fun h => hk (hp2_free a _ k (by omega))
    simp (disch := omega) only [upd_far]
    rfl
theorem rOf1_z (a b : Int) (hz : b = 0) : Fun Tryd.prog G0 47 [.pointer (some ⟨200, 0, none⟩), .pointer (some ⟨208, 0, none⟩)].toArray (hp2 a b) [200, 208] (.pan (erV 30)) := by
  refine fun_of (B := 300) G0F (fun k hk => hpL_low (by simp) hk) Tryd.func47 rfl Tryd.call47 ?_ ?_ trivial (by simp [Tryd.ntmps47]) (by omega) ?_ ?_
  · rw [hp2_rst]; simp [hp2, dom]
  · rw [hp2_rst]; exact hp2_closed a b _
  · rw [hp2_rst]; exact hp2_free a b
  · intro C hC hC0 hY
    rw [hp2_rst] at hC0 ⊢
    subst hz
    repeat' (first | refine gwS ?_ | simp only [wN, wM, Nat.reduceAdd, Nat.reduceMul] | ((first | refine gwR [1000048] ?_ | refine gwD [1000048] ?_); intro Q hQ hP; simp [hC, hY, hp2, wb]; (repeat ((first | (refine callP_of (of_zero a) ?_)); try simp [hC, hY, hp2, wb])); (first | refine hQ _ _ _ _ (by kernel_rfl) ?_ | refine hP _ _ (by kernel_rfl) fun _ => ?_); clear hQ hP Q) | refine gwB ?_ | refine gwT ?_ | refine gwK ?_ | refine gwE ?_ | refine gwG ?_ | refine gwL ?_ | simp only [blockG_exit] | (refine gwC ?_ ?_ <;> (intro hb; first | (cases hb; done) | skip)))
    refine ⟨rfl, fun k hk => ?_⟩
    have hk3 : k < 300 := Classical.byContradiction fun h => hk (hp2_free a _ k (by omega))
    simp (disch := omega) only [upd_far]
    rfl
theorem rOf_p_ret (a b : Int) (ha : wr a) (hb : wr b) (h0 : 0 ≤ a) (hb0 : 0 < b) : Ret Tryd.prog G0 25 #[wd a, wd b] (.tuple #[wd (isq (a / b)), .int .i64 0]) := by
  refine ret_of G0F Tryd.func25 rfl Tryd.call25 (by simp) (by simp) (by simp [Tryd.ntmps25]) ?_
  intro C hC hC0 hY
  repeat' (first | refine gwS ?_ | simp only [wN, wM, Nat.reduceAdd, Nat.reduceMul] | ((first | refine gwR [46] ?_ | refine gwD [46] ?_); intro Q hQ hP; simp [hC, hY]; (repeat ((first | (refine heapK_of (hp' := hp2 a b) (rtold_ret (fun k hk => hpL_low (by simp) hk) (by simp) rfl (by simp) (rOf1_p a b ha hb h0 hb0)) (by simp [hp2, wb]) (fun k hk => hpL_low (by simp) hk) trivial ?_)); try simp [hC, hY])); (first | refine hQ _ _ _ _ (by kernel_rfl) ?_ | refine hP _ _ (by kernel_rfl) fun _ => ?_); clear hQ hP Q) | refine gwB ?_ | refine gwT ?_ | refine gwK ?_ | refine gwE ?_ | refine gwG ?_ | refine gwL ?_ | simp only [blockG_exit] | (refine gwC ?_ ?_ <;> (intro hb; first | (cases hb; done) | skip)))
  refine ⟨.inr trivial, ?_⟩
  simp [Tryd.results25, wi_zero]
@[simp] theorem rOf_p (a b : Int) (ha : wr a) (hb : wr b) (h0 : 0 ≤ a) (hb0 : 0 < b) (K : Value → Prop) : callK Tryd.prog G0 25 #[Value.agg #[.int .u64 (wi (a) 0), .int .u64 (wi (a) 1), .int .u64 (wi (a) 2), .int .u64 (wi (a) 3)], Value.agg #[.int .u64 (wi (b) 0), .int .u64 (wi (b) 1), .int .u64 (wi (b) 2), .int .u64 (wi (b) 3)]] K ↔ K (.tuple #[wd (isq (a / b)), .int .i64 0]) := callK_iff G0W (by kernel_rfl) (rOf_p_ret a b ha hb h0 hb0)
theorem rOf_z_ret (a b : Int) (hz : b = 0) : Ret Tryd.prog G0 25 #[wd a, wd b] (.tuple #[wd 0, .int .i64 30]) := by
  refine ret_of G0F Tryd.func25 rfl Tryd.call25 (by simp) (by simp) (by simp [Tryd.ntmps25]) ?_
  intro C hC hC0 hY
  repeat' (first | refine gwS ?_ | simp only [wN, wM, Nat.reduceAdd, Nat.reduceMul] | ((first | refine gwR [46] ?_ | refine gwD [46] ?_); intro Q hQ hP; simp [hC, hY]; (repeat ((first | (refine heapK_of (hp' := hp2 a b) (rtold_pan (fun k hk => hpL_low (by simp) hk) (by simp) rfl (by simp) (rOf1_z a b hz)) (by simp [hp2, wb]) (fun k hk => hpL_low (by simp) hk) trivial ?_)); try simp [hC, hY])); (first | refine hQ _ _ _ _ (by kernel_rfl) ?_ | refine hP _ _ (by kernel_rfl) fun _ => ?_); clear hQ hP Q) | refine gwB ?_ | refine gwT ?_ | refine gwK ?_ | refine gwE ?_ | refine gwG ?_ | refine gwL ?_ | simp only [blockG_exit] | (refine gwC ?_ ?_ <;> (intro hb; first | (cases hb; done) | skip)))
  refine ⟨.inr trivial, ?_⟩
  simp [Tryd.results25, wi_zero]
@[simp] theorem rOf_z (a b : Int) (hz : b = 0) (K : Value → Prop) : callK Tryd.prog G0 25 #[Value.agg #[.int .u64 (wi (a) 0), .int .u64 (wi (a) 1), .int .u64 (wi (a) 2), .int .u64 (wi (a) 3)], Value.agg #[.int .u64 (wi (b) 0), .int .u64 (wi (b) 1), .int .u64 (wi (b) 2), .int .u64 (wi (b) 3)]] K ↔ K (.tuple #[wd 0, .int .i64 30]) := callK_iff G0W (by kernel_rfl) (rOf_z_ret a b hz)
theorem i64_wr {n : Int} (h : i64 n) : wr n := by unfold i64 at h; unfold wr; omega
end Go.Gy
namespace Go.Gy
set_option linter.unusedSimpArgs false
set_option linter.unusedVariables false
open Go Go.RowKit Go.Proofs
def wl (z : Int) : List Value := [.int .u64 (wi z 0), .int .u64 (wi z 1), .int .u64 (wi z 2), .int .u64 (wi z 3)]
@[simp] theorem wl_len (z : Int) : (wl z).length = 4 := rfl
def lc (b : Int) : Nat → List Value
  | 0 => []
  | k + 1 => lc b k ++ wl (b * 2 ^ k)
@[simp] theorem lc_len (b : Int) (k : Nat) : (lc b k).length = 4 * k := by
  induction k with
  | zero => rfl
  | succ k ih => simp [lc, ih]; omega
end Go.Gy
namespace Go.Gy
set_option linter.unusedSimpArgs false
set_option linter.unusedVariables false
end Go.Gy
namespace Go.Gy
set_option linter.unusedSimpArgs false
set_option linter.unusedVariables false
open Go Go.RowKit Go.Proofs
def sm (z : Int) : Prop := -1329227995784915872903807060280344576 ≤ z ∧ z ≤ 1329227995784915872903807060280344576
theorem sm.wr {z : Int} (h : sm z) : wr z := ⟨Int.le_trans (by decide) h.1, Int.lt_of_le_of_lt h.2 (by decide)⟩
theorem sm.up {z : Int} (h : sm z) : Gy.wr (z + 1) := ⟨Int.le_trans (by decide) (Int.le_trans h.1 (Int.le_add_one (Int.le_refl _))), Int.lt_of_le_of_lt (Int.add_le_add_right h.2 1) (by decide)⟩
def jb (n : Int) : Blk := ⟨#[.int .i64 n], .ty 3⟩
theorem lead (p : Nat → Prop) (m : Nat) : ∃ N, N ≤ m ∧ (∀ i, i < N → p i) ∧ (N = m ∨ ¬ p N) := by
  induction m with
  | zero => exact ⟨0, Nat.le_refl _, fun i hi => absurd hi (Nat.not_lt_zero i), .inl rfl⟩
  | succ m ih =>
    obtain ⟨N, h1, h2, h3⟩ := ih
    rcases h3 with rfl | h3
    · by_cases hp : p N
      · exact ⟨N + 1, Nat.le_refl _, fun i hi => by
          by_cases e : i = N
          · subst e; exact hp
          · exact h2 i (by omega), .inl rfl⟩
      · exact ⟨N, by omega, h2, .inr hp⟩
    · exact ⟨N, by omega, h2, .inr h3⟩
def inW (m x : Int) : Prop := 0 ≤ m ∧ -m ≤ x ∧ x ≤ m
instance inWdec (m x : Int) : Decidable (inW m x) := by unfold inW; infer_instance
theorem neg_in {m : Int} (h : i64 m) (h0 : 0 ≤ m) : Int.bmod (-m) 18446744073709551616 = -m := by
  have := h.1; have := h.2
  rw [Int.bmod_def]; omega
def wiHp (x0 x1 x2 m : Int) : Hp := hpL G0 [(200, ⟨#[.int .i64 x0, .int .i64 x1, .int .i64 x2], .ty 41⟩), (208, jb m), (216, ⟨#[.bool false], .ty 4⟩)]
def wiTs : Nat → Value := tsL [(3, .pointer (some ⟨208, 0, none⟩)), (4, .pointer (some ⟨216, 0, none⟩))]
set_option maxRecDepth 8000 in
theorem within_ret (x0 x1 x2 m : Int) (hm : i64 m) (h0 : i64 x0) (h1 : i64 x1) (h2 : i64 x2) : Ret Tryd.prog G0 87 #[.agg #[.int .i64 x0, .int .i64 x1, .int .i64 x2], .int .i64 m] (.bool (decide (inW m x0 ∧ inW m x1 ∧ inW m x2))) := by
  refine ret_of G0F Tryd.func87 rfl Tryd.call87 (by simp) (by simp) (by simp [Tryd.ntmps87]) ?_
  intro C hC hC0 hY
  obtain ⟨N, hN, hlt, hend⟩ := lead (fun i => inW m (vf x0 x1 x2 i)) 3
  repeat' (first | refine gwS ?_ | simp only [wN, wM, Nat.reduceAdd, Nat.reduceMul] | ((first | refine gwR [60] ?_ | refine gwD [60] ?_); intro Q hQ hP; simp [hC, hY, jb]; (repeat ((first | (refine heapK_of (vparts_new 232 240 1 1 #[.int .i64 x0, .int .i64 x1, .int .i64 x2] (by simp) (by omega) (by omega) (by omega) (by omega)) (by simp) (fun k hk => hpL_low (by simp) hk) (by simp [Res.at, keys]) ?_)); try simp [hC, hY, jb])); (first | refine hQ _ _ _ _ (by kernel_rfl) ?_ | refine hP _ _ (by kernel_rfl) fun _ => ?_); clear hQ hP Q) | refine gwB ?_ | refine gwT ?_ | refine gwK ?_ | refine gwE ?_ | refine gwG ?_ | refine gwL ?_ | simp only [blockG_exit] | (refine gwC ?_ ?_ <;> (intro hb; first | (cases hb; done) | skip)))
  have hT : m < 0 ∨ 0 ≤ m := by omega
  refine GW_range (f := 75) (rs := [240, 232]) (xs := xsV 3 (vf x0 x1 x2)) (caps := #[.pointer (some ⟨240, 0, none⟩)]) (by simp) ?_ (by simp [xsV]) (by simp [Tryd.ntmps87]) wiTs (fun _ => wiHp x0 x1 x2 m) 300 N (by simp [xsV]; omega) ?_ ?_ ?_ ?_ ?_
  · rw [hC]
    refine IterG.cast (IterX.rn (fun k => if k = 100 then 240 else if k = 108 then 232 else k) G0F (fun k hk => hpL_low (by simp [pvL1]) hk) (rs := [100, 108]) ?_ (vparts1_it x0 x1 x2)) (by simp [ren0]) (by simp)
    refine ⟨fun k hk => ?_, ?_, ?_, ?_⟩
    · have h1 : ¬ k = 100 := by omega
      have h2 : ¬ k = 108 := by omega
      have h3 : ¬ k = 200 := by omega
      have h4 : ¬ k = 208 := by omega
      have h5 : ¬ k = 216 := by omega
      have h8 : ¬ k = 232 := by omega
      have h9 : ¬ k = 240 := by omega
      simp [h1, h2, h3, h4, h5, h8, h9, pv1, pvL1]
    · simp
    · simp [pvL1, Blk.rn, renF, ren0]
    · simp
  · refine weakL _ 300 hC G0F (m0 := []) hC0 (by omega) ?_ ?_ ?_
    · simp [idsV, idsA, idsF, ids0, dom]
    · simp [ids_lit, idsF, ids0, jb]
    · simp
  · simp [wiHp, dom]
  · intro i hi t
    refine tsL_ids ?_ t
    simp [idsV, idsA, idsF, ids0, dom, wiHp]
  · intro i x hi hx C1 l hC1 hh1 hY1
    have hCC := hC
    have hC1' : C1.G = G0 := hC1.trans hC
    obtain ⟨g0, g1, g2⟩ := hlt i hi
    replace hC := hC1'
    replace hY := hY1
    have : i = 0 ∨ i = 1 ∨ i = 2 := by omega
    rcases this with rfl | rfl | rfl
    all_goals
      rw [xsV_at _ _ _ (by omega)] at hx
      simp only [Option.some.injEq] at hx
      subst hx
      simp only [vf] at *
      unfold wiHp
    all_goals
      repeat' (first | refine gwS ?_ | simp only [wN, wM, Nat.reduceAdd, Nat.reduceMul] | ((first | refine gwR [] ?_ | refine gwD [] ?_); intro Q hQ hP; simp [hC, hY, roundTs, wiTs, jb]; (first | refine hQ _ _ _ _ (by kernel_rfl) ?_ | refine hP _ _ (by kernel_rfl) fun _ => ?_); clear hQ hP Q) | refine gwB ?_ | refine gwT ?_ | refine gwK ?_ | refine gwE ?_ | refine gwG ?_ | refine gwL ?_ | simp only [blockG_exit] | (refine gwC ?_ ?_ <;> (intro hb; first | (cases hb; done) | skip)))
    all_goals
      intro C2 hC2 hh2 hY2
      replace hC : C2.G = G0 := hC2.trans hCC
      replace hY := hY2
      have q0 : ¬ m < 0 := by omega
      have q1 := Int.not_lt.2 g1
      have q2 := Int.not_lt.2 g2
      have hbm := neg_in hm g0
      repeat' (first | refine gwS ?_ | simp only [wN, wM, Nat.reduceAdd, Nat.reduceMul] | ((first | refine gwR [] ?_ | refine gwD [] ?_); intro Q hQ hP; simp [hC, hY, roundTs, wiTs, jb, hbm, q0, q1, q2]; (first | refine hQ _ _ _ _ (by kernel_rfl) ?_ | refine hP _ _ (by kernel_rfl) fun _ => ?_); clear hQ hP Q) | refine gwB ?_ | refine gwT ?_ | refine gwK ?_ | refine gwE ?_ | refine gwG ?_ | refine gwL ?_ | simp only [blockG_exit] | (refine gwC ?_ ?_ <;> (intro hb; first | (cases hb; done) | skip)))
    all_goals
      refine weakL [] 300 hC1' G0F hh1 (by omega) ?_ ?_ ?_
      · simp
      · simp [ids_lit, idsF, ids0, jb]
      · simp [jb]
  · by_cases hend' : N = 3
    · subst hend'
      left
      refine ⟨by simp [xsV], ?_⟩
      have e : (inW m x0 ∧ inW m x1 ∧ inW m x2) = True := by
        simp only [eq_iff_iff, iff_true]
        exact ⟨hlt 0 (by omega), hlt 1 (by omega), hlt 2 (by omega)⟩
      simp only [e]
      unfold wiHp wiTs jb
      repeat' (first | refine gwS ?_ | simp only [wN, wM, Nat.reduceAdd, Nat.reduceMul] | ((first | refine gwR [] ?_ | refine gwD [] ?_); intro Q hQ hP; simp [hC, hY]; (first | refine hQ _ _ _ _ (by kernel_rfl) ?_ | refine hP _ _ (by kernel_rfl) fun _ => ?_); clear hQ hP Q) | refine gwB ?_ | refine gwT ?_ | refine gwK ?_ | refine gwE ?_ | refine gwG ?_ | refine gwL ?_ | simp only [blockG_exit] | (refine gwC ?_ ?_ <;> (intro hb; first | (cases hb; done) | skip)))
      refine ⟨.inr trivial, ?_⟩
      simp [Tryd.results87]
    · right
      have hN3 : N < 3 := by omega
      replace hend := hend.resolve_left hend'
      refine ⟨_, xsV_at _ _ _ hN3, ?_⟩
      have e : (inW m x0 ∧ inW m x1 ∧ inW m x2) = False := by
        simp only [eq_iff_iff, iff_false]
        rintro ⟨a0, a1, a2⟩
        have : N = 0 ∨ N = 1 ∨ N = 2 := by omega
        rcases this with rfl | rfl | rfl <;> contradiction
      simp only [e]
      have hor : m < 0 ∨ (¬ m < 0 ∧ vf x0 x1 x2 N < -m) ∨ (¬ m < 0 ∧ ¬ vf x0 x1 x2 N < -m ∧ m < vf x0 x1 x2 N) := by
        unfold inW at hend; omega
      intro C1 l hC1 hh1 hY1
      have hCC := hC
      replace hC := hC1.trans hC
      replace hY := hY1
      clear hlt hN
      have : N = 0 ∨ N = 1 ∨ N = 2 := by omega
      rcases this with rfl | rfl | rfl
      all_goals
        simp only [vf] at hor ⊢
        unfold wiHp
      all_goals
        repeat' (first | refine gwS ?_ | simp only [wN, wM, Nat.reduceAdd, Nat.reduceMul] | ((first | refine gwR [] ?_ | refine gwD [] ?_); intro Q hQ hP; simp [hC, hY, roundTs, wiTs, jb]; (first | refine hQ _ _ _ _ (by kernel_rfl) ?_ | refine hP _ _ (by kernel_rfl) fun _ => ?_); clear hQ hP Q) | refine gwB ?_ | refine gwT ?_ | refine gwK ?_ | refine gwE ?_ | refine gwG ?_ | refine gwL ?_ | simp only [blockG_exit] | (refine gwC ?_ ?_ <;> (intro hb; first | (cases hb; done) | skip)))
      all_goals
        intro C2 hC2 hh2 hY2
        replace hC : C2.G = G0 := hC2.trans hCC
        replace hY := hY2
        rcases hor with q0 | ⟨q0, q1⟩ | ⟨q0, q1, q2⟩
        ·
          repeat' (first | refine gwS ?_ | simp only [wN, wM, Nat.reduceAdd, Nat.reduceMul] | ((first | refine gwR [] ?_ | refine gwD [] ?_); intro Q hQ hP; simp [hC, hY, roundTs, wiTs, jb, q0]; (first | refine hQ _ _ _ _ (by kernel_rfl) ?_ | refine hP _ _ (by kernel_rfl) fun _ => ?_); clear hQ hP Q) | refine gwB ?_ | refine gwT ?_ | refine gwK ?_ | refine gwE ?_ | refine gwG ?_ | refine gwL ?_ | simp only [blockG_exit] | (refine gwC ?_ ?_ <;> (intro hb; first | (cases hb; done) | skip)))
          refine ⟨by simp [outCode], fun t => tsL_ids (by simp [idsV, idsA, idsF, ids0, dom]) t, .inr trivial, ?_⟩
          simp [Tryd.results87, wiTs]
        · have hbm := neg_in hm (Int.not_lt.1 q0)
          repeat' (first | refine gwS ?_ | simp only [wN, wM, Nat.reduceAdd, Nat.reduceMul] | ((first | refine gwR [] ?_ | refine gwD [] ?_); intro Q hQ hP; simp [hC, hY, roundTs, wiTs, jb, hbm, q0, q1]; (first | refine hQ _ _ _ _ (by kernel_rfl) ?_ | refine hP _ _ (by kernel_rfl) fun _ => ?_); clear hQ hP Q) | refine gwB ?_ | refine gwT ?_ | refine gwK ?_ | refine gwE ?_ | refine gwG ?_ | refine gwL ?_ | simp only [blockG_exit] | (refine gwC ?_ ?_ <;> (intro hb; first | (cases hb; done) | skip)))
          refine ⟨by simp [outCode], fun t => tsL_ids (by simp [idsV, idsA, idsF, ids0, dom]) t, .inr trivial, ?_⟩
          simp [Tryd.results87, wiTs]
        · have hbm := neg_in hm (Int.not_lt.1 q0)
          repeat' (first | refine gwS ?_ | simp only [wN, wM, Nat.reduceAdd, Nat.reduceMul] | ((first | refine gwR [] ?_ | refine gwD [] ?_); intro Q hQ hP; simp [hC, hY, roundTs, wiTs, jb, hbm, q0, q1, q2]; (first | refine hQ _ _ _ _ (by kernel_rfl) ?_ | refine hP _ _ (by kernel_rfl) fun _ => ?_); clear hQ hP Q) | refine gwB ?_ | refine gwT ?_ | refine gwK ?_ | refine gwE ?_ | refine gwG ?_ | refine gwL ?_ | simp only [blockG_exit] | (refine gwC ?_ ?_ <;> (intro hb; first | (cases hb; done) | skip)))
          refine ⟨by simp [outCode], fun t => tsL_ids (by simp [idsV, idsA, idsF, ids0, dom]) t, .inr trivial, ?_⟩
          simp [Tryd.results87, wiTs]
def inV (m x0 x1 x2 : Int) : Bool := decide (inW m x0 ∧ inW m x1 ∧ inW m x2)
@[simp] theorem vwithin (x0 x1 x2 m : Int) (hm : i64 m) (h0 : i64 x0) (h1 : i64 x1) (h2 : i64 x2) (K : Value → Prop) : callK Tryd.prog G0 87 #[.agg #[.int .i64 x0, .int .i64 x1, .int .i64 x2], .int .i64 m] K ↔ K (.bool (inV m x0 x1 x2)) := callK_iff G0W (by kernel_rfl) (within_ret x0 x1 x2 m hm h0 h1 h2)
def fnI (x : Int) : Prop := -536870912 ≤ x ∧ x ≤ 536870912
instance fnIdec (x : Int) : Decidable (fnI x) := by unfold fnI; infer_instance
theorem fine_fun (M m : Nat) (v : Bool) (cs : Array Value) (hcs : ∀ x ∈ cs, flatF x = true) (f : Nat → Int) (hit : IterK Tryd.prog G0 75 #[.pointer (some ⟨100, 0, none⟩)] (hpL G0 [(100, ⟨#[.slice (some ⟨108, 0, none⟩) m m], .ty 109⟩), (108, ⟨cs, .ty 41⟩)]) (keys [(100, ⟨#[.slice (some ⟨108, 0, none⟩) m m], .ty 109⟩), (108, ⟨cs, .ty 41⟩)]) (xsV M f)) (hv : v = true ↔ ∀ j, j < M → fnI (f j)) :
    Fun Tryd.prog G0 59 #[.slice (some ⟨100, 0, none⟩) m m] (hpL G0 [(100, ⟨cs, .ty 41⟩)]) [100] (.ret (.bool v) []) := by
  have hfx : Blk.fx (Blk.mk cs (.ty 41)) := hcs
  have hfi : ∀ D, (Blk.mk cs (.ty 41)).ids D := fun D => Blk.fx_ids hfx D
  refine fun_ofL (m := [(100, ⟨cs, .ty 41⟩)]) (B := 200) G0F Tryd.func59 rfl Tryd.call59 ⟨by simp, by simp [keys], by simp only [List.mem_singleton, forall_eq]; exact hfi _⟩ ?_ (by simp) (by simp) (by simp) (by simp [Tryd.ntmps59]) (by omega) ?_
  · simp [idsV, idsA, idsF, ids0, keys]
  intro C hC hC0 hY
  obtain ⟨N, hN, hlt, hend⟩ := lead (fun i => fnI (f i)) M
  repeat' (first | refine gwS ?_ | simp only [wN, wM, Nat.reduceAdd, Nat.reduceMul] | ((first | refine gwR [60] ?_ | refine gwD [60] ?_); intro Q hQ hP; simp [hC, hY, jb]; (repeat ((first | (refine heapK_of (vparts_new 100 216 m m cs hcs (by omega) (by omega) (by omega) (by omega)) (by simp) (fun k hk => hpL_low (by simp) hk) (by simp [Res.at, keys]) ?_)); try simp [hC, hY, jb])); (first | refine hQ _ _ _ _ (by kernel_rfl) ?_ | refine hP _ _ (by kernel_rfl) fun _ => ?_); clear hQ hP Q) | refine gwB ?_ | refine gwT ?_ | refine gwK ?_ | refine gwE ?_ | refine gwG ?_ | refine gwL ?_ | simp only [blockG_exit] | (refine gwC ?_ ?_ <;> (intro hb; first | (cases hb; done) | skip)))
  refine GW_rangeKL (G := G0) (f := 75) (rs := [216, 100]) (xs := xsV M f) (caps := #[.pointer (some ⟨216, 0, none⟩)]) (m0 := [(100, ⟨cs, .ty 41⟩)]) [216, 100] G0F hC hC0 hY (by simp) ?_ (by simp [xsV]) (by simp [Tryd.ntmps59]) [(2, .pointer (some ⟨200, 0, none⟩))] [] (fun _ => [(200, ⟨#[.bool false], .ty 4⟩)]) 300 N (by simp [xsV]; omega) (by omega) (by simp) (by simp [dom]) ?_ (by simp) (by simp) (by simp) ?_ (by simp) ?_ ?_
  · refine iterk_mv (m := [(100, ⟨#[.slice (some ⟨108, 0, none⟩) m m], .ty 109⟩), (108, ⟨cs, .ty 41⟩)]) (B := 200) hit G0F ⟨by simp, by simp [keys], ?_⟩ (fun k => if k = 100 then 216 else if k = 108 then 100 else k) (fun k hk => ?_) (by simp [ren0]) (by simp [keys]) (by (intro k hk; first | rfl | (simp (disch := omega) only [addB, List.mem_cons, List.not_mem_nil, or_false, upd_other, hpL_cons, hpL_nil, if_neg, updL] <;> done))) ?_ ?_
    · simp only [List.mem_cons, List.not_mem_nil, or_false, forall_eq_or_imp, forall_eq]
      exact ⟨by simp [ids_lit, idsF, ids0, keys], hfi _⟩
    · rw [if_neg (by omega), if_neg (by omega)]
    · have hr := fun ρ => fx_map hcs ρ
      simp [hr, Blk.rn, renF, ren0]
    · simp [keys]
  · intro k hk b hb
    simp only [List.mem_cons, List.not_mem_nil, or_false] at hk
    rcases hk with rfl | rfl
    · simp at hb; subst hb; simp [ids_lit, idsF, ids0]
    · simp at hb; subst hb; exact hfi _
  · intro i hi
    simp [idsV, idsA, idsF, ids0, dom, ids_lit]
  · intro i x hi hx C1 l hC1 hh1 hY1
    rw [xsV_at _ _ _ (by omega)] at hx
    simp only [Option.some.injEq] at hx
    subst hx
    obtain ⟨g1, g2⟩ := hlt i hi
    have q1 := Int.not_lt.2 g1
    have q2 := Int.not_lt.2 g2
    clear hC hY
    have hC := hC1
    have hY := hY1
    repeat' (first | refine gwS ?_ | simp only [wN, wM, Nat.reduceAdd, Nat.reduceMul] | ((first | refine gwR [] ?_ | refine gwD [] ?_); intro Q hQ hP; simp [hC, hY, roundTs]; (first | refine hQ _ _ _ _ (by kernel_rfl) ?_ | refine hP _ _ (by kernel_rfl) fun _ => ?_); clear hQ hP Q) | refine gwB ?_ | refine gwT ?_ | refine gwK ?_ | refine gwE ?_ | refine gwG ?_ | refine gwL ?_ | simp only [blockG_exit] | (refine gwC ?_ ?_ <;> (intro hb; first | (cases hb; done) | skip)))
    intro C2 hC2 hh2 hY2
    clear hC hY
    have hC := hC2
    have hY := hY2
    repeat' (first | refine gwS ?_ | simp only [wN, wM, Nat.reduceAdd, Nat.reduceMul] | ((first | refine gwR [] ?_ | refine gwD [] ?_); intro Q hQ hP; simp [hC, hY, roundTs, q1, q2]; (first | refine hQ _ _ _ _ (by kernel_rfl) ?_ | refine hP _ _ (by kernel_rfl) fun _ => ?_); clear hQ hP Q) | refine gwB ?_ | refine gwT ?_ | refine gwK ?_ | refine gwE ?_ | refine gwG ?_ | refine gwL ?_ | simp only [blockG_exit] | (refine gwC ?_ ?_ <;> (intro hb; first | (cases hb; done) | skip)))
    simp
  · by_cases hend' : N = M
    · subst hend'
      left
      refine ⟨by simp [xsV], ?_⟩
      have e := hv.2 hlt
      subst e
      repeat' (first | refine gwS ?_ | simp only [wN, wM, Nat.reduceAdd, Nat.reduceMul] | ((first | refine gwR [] ?_ | refine gwD [] ?_); intro Q hQ hP; simp [hC, hY, addB, List.cons_append, List.nil_append]; (first | refine hQ _ _ _ _ (by kernel_rfl) ?_ | refine hP _ _ (by kernel_rfl) fun _ => ?_); clear hQ hP Q) | refine gwB ?_ | refine gwT ?_ | refine gwK ?_ | refine gwE ?_ | refine gwG ?_ | refine gwL ?_ | simp only [blockG_exit] | (refine gwC ?_ ?_ <;> (intro hb; first | (cases hb; done) | skip)))
      refine ⟨.inr rfl, by simp [Tryd.results59], keep_of G0F (by simp [addB]) (by (intro k hk; first | rfl | (simp (disch := omega) only [addB, List.mem_cons, List.not_mem_nil, or_false, upd_other, hpL_cons, hpL_nil, if_neg, updL] <;> done)))⟩
    · right
      have hN3 : N < M := by omega
      replace hend := hend.resolve_left hend'
      refine ⟨_, xsV_at _ _ _ hN3, ?_⟩
      have e : v = false := by
        cases v
        · rfl
        · exact absurd (hv.1 rfl N hN3) hend
      subst e
      have hor : f N < -536870912 ∨ (¬ f N < -536870912 ∧ 536870912 < f N) := by
        unfold fnI at hend; omega
      intro C1 l hC1 hh1 hY1
      clear hC hY
      have hC := hC1
      have hY := hY1
      repeat' (first | refine gwS ?_ | simp only [wN, wM, Nat.reduceAdd, Nat.reduceMul] | ((first | refine gwR [] ?_ | refine gwD [] ?_); intro Q hQ hP; simp [hC, hY, roundTs]; (first | refine hQ _ _ _ _ (by kernel_rfl) ?_ | refine hP _ _ (by kernel_rfl) fun _ => ?_); clear hQ hP Q) | refine gwB ?_ | refine gwT ?_ | refine gwK ?_ | refine gwE ?_ | refine gwG ?_ | refine gwL ?_ | simp only [blockG_exit] | (refine gwC ?_ ?_ <;> (intro hb; first | (cases hb; done) | skip)))
      intro C2 hC2 hh2 hY2
      clear hC hY
      have hC := hC2
      have hY := hY2
      rcases hor with q1 | ⟨q1, q2⟩
      ·
        repeat' (first | refine gwS ?_ | simp only [wN, wM, Nat.reduceAdd, Nat.reduceMul] | ((first | refine gwR [] ?_ | refine gwD [] ?_); intro Q hQ hP; simp [hC, hY, roundTs, q1]; (first | refine hQ _ _ _ _ (by kernel_rfl) ?_ | refine hP _ _ (by kernel_rfl) fun _ => ?_); clear hQ hP Q) | refine gwB ?_ | refine gwT ?_ | refine gwK ?_ | refine gwE ?_ | refine gwG ?_ | refine gwL ?_ | simp only [blockG_exit] | (refine gwC ?_ ?_ <;> (intro hb; first | (cases hb; done) | skip)))
        refine ⟨by simp [outCode], by simp [idsV, idsA, idsF, ids0, dom], by simp, .inr rfl, by simp [Tryd.results59, addB], keep_of G0F (by simp [addB]) (by (intro k hk; first | rfl | (simp (disch := omega) only [addB, List.mem_cons, List.not_mem_nil, or_false, upd_other, hpL_cons, hpL_nil, if_neg, updL] <;> done)))⟩
      ·
        repeat' (first | refine gwS ?_ | simp only [wN, wM, Nat.reduceAdd, Nat.reduceMul] | ((first | refine gwR [] ?_ | refine gwD [] ?_); intro Q hQ hP; simp [hC, hY, roundTs, q1, q2]; (first | refine hQ _ _ _ _ (by kernel_rfl) ?_ | refine hP _ _ (by kernel_rfl) fun _ => ?_); clear hQ hP Q) | refine gwB ?_ | refine gwT ?_ | refine gwK ?_ | refine gwE ?_ | refine gwG ?_ | refine gwL ?_ | simp only [blockG_exit] | (refine gwC ?_ ?_ <;> (intro hb; first | (cases hb; done) | skip)))
        refine ⟨by simp [outCode], by simp [idsV, idsA, idsF, ids0, dom], by simp, .inr rfl, by simp [Tryd.results59, addB], keep_of G0F (by simp [addB]) (by (intro k hk; first | rfl | (simp (disch := omega) only [addB, List.mem_cons, List.not_mem_nil, or_false, upd_other, hpL_cons, hpL_nil, if_neg, updL] <;> done)))⟩

theorem fine1_fun (x0 x1 x2 : Int) (v : Bool) (hv : v = true ↔ fnI x0 ∧ fnI x1 ∧ fnI x2) : Fun Tryd.prog G0 59 #[.slice (some ⟨100, 0, none⟩) 1 1] (hpL G0 [(100, ⟨#[.int .i64 x0, .int .i64 x1, .int .i64 x2], .ty 41⟩)]) [100] (.ret (.bool v) []) := by
  refine fine_fun 3 1 _ _ (by simp) _ (vparts1_itk x0 x1 x2) ?_
  rw [hv]
  refine ⟨fun ⟨h0, h1, h2⟩ j hj => ?_, fun h => ⟨h 0 (by omega), h 1 (by omega), h 2 (by omega)⟩⟩
  have : j = 0 ∨ j = 1 ∨ j = 2 := by omega
  rcases this with rfl | rfl | rfl <;> assumption
theorem fine2_fun (x0 x1 x2 y0 y1 y2 : Int) (v : Bool) (hv : v = true ↔ (fnI x0 ∧ fnI x1 ∧ fnI x2) ∧ fnI y0 ∧ fnI y1 ∧ fnI y2) : Fun Tryd.prog G0 59 #[.slice (some ⟨100, 0, none⟩) 2 2] (hpL G0 [(100, ⟨#[.int .i64 x0, .int .i64 x1, .int .i64 x2, .int .i64 y0, .int .i64 y1, .int .i64 y2], .ty 41⟩)]) [100] (.ret (.bool v) []) := by
  refine fine_fun 6 2 _ _ (by simp) _ (vparts2_itk x0 x1 x2 y0 y1 y2) ?_
  rw [hv]
  refine ⟨fun ⟨⟨h0, h1, h2⟩, h3, h4, h5⟩ j hj => ?_, fun h => ⟨⟨h 0 (by omega), h 1 (by omega), h 2 (by omega)⟩, h 3 (by omega), h 4 (by omega), h 5 (by omega)⟩⟩
  have : j = 0 ∨ j = 1 ∨ j = 2 ∨ j = 3 ∨ j = 4 ∨ j = 5 := by omega
  rcases this with rfl | rfl | rfl | rfl | rfl | rfl <;> assumption
@[simp] theorem flatV_fn0 (f : Fn) : flatV (.func f #[] #[]) = true := by simp [flatV, flatA, flatF, Array.all]
def eaE (op : Int → Int → Int) (a0 a1 a2 b0 b1 b2 : Int) : Int := if ((fnI a0 ∧ fnI a1 ∧ fnI a2) ∧ fnI b0 ∧ fnI b1 ∧ fnI b2) ∧ fnI (op a0 b0) ∧ fnI (op a1 b1) ∧ fnI (op a2 b2) then 0 else 20
def eaV (e v : Int) : Int := if e = 0 then v else 0
def eaL (g : FuncId) (op : Int → Int → Int) (a0 a1 a2 b0 b1 b2 : Int) (i : Nat) : List (Nat × Blk) := [(200, ⟨#[.int .i64 a0, .int .i64 a1, .int .i64 a2], .ty 41⟩), (208, ⟨#[.int .i64 b0, .int .i64 b1, .int .i64 b2], .ty 41⟩), (216, ⟨#[.func (.func g) #[] #[]], .ty 130⟩),
  (224, ⟨#[.int .i64 (if 0 < i then op a0 b0 else 0), .int .i64 (if 1 < i then op a1 b1 else 0), .int .i64 (if 2 < i then op a2 b2 else 0)], .ty 41⟩)]
set_option maxRecDepth 8000 in
theorem each_ret (g : FuncId) (op : Int → Int → Int) (hop : ∀ x y K, fnI x → fnI y → (callK Tryd.prog G0 g #[.int .i64 x, .int .i64 y] K ↔ K (.int .i64 (op x y)))) (a0 a1 a2 b0 b1 b2 : Int) : Ret Tryd.prog G0 94 #[.agg #[.int .i64 a0, .int .i64 a1, .int .i64 a2], .agg #[.int .i64 b0, .int .i64 b1, .int .i64 b2], .func (.func g) #[] #[]]
    (.tuple #[.agg #[.int .i64 (eaV (eaE op a0 a1 a2 b0 b1 b2) (op a0 b0)), .int .i64 (eaV (eaE op a0 a1 a2 b0 b1 b2) (op a1 b1)), .int .i64 (eaV (eaE op a0 a1 a2 b0 b1 b2) (op a2 b2))], .int .i64 (eaE op a0 a1 a2 b0 b1 b2)]) := by
  refine ret_of G0F Tryd.func94 rfl Tryd.call94 (by simp) (by simp) (by simp [Tryd.ntmps94]) ?_
  intro C hC hC0 hY
  obtain ⟨v, hv⟩ : ∃ v : Bool, v = true ↔ (fnI a0 ∧ fnI a1 ∧ fnI a2) ∧ fnI b0 ∧ fnI b1 ∧ fnI b2 := ⟨decide _, decide_eq_true_iff⟩
  cases v with
  | false =>
    have e : eaE op a0 a1 a2 b0 b1 b2 = 20 := by unfold eaE; rw [if_neg]; intro h; exact absurd (hv.2 h.1) (by simp)
    rw [e]
    repeat' (first | refine gwS ?_ | simp only [wN, wM, Nat.reduceAdd, Nat.reduceMul] | ((first | refine gwR [59] ?_ | refine gwD [59] ?_); intro Q hQ hP; simp [hC, hY]; (repeat ((first | (refine heapK_mv (fine2_fun a0 a1 a2 b0 b1 b2 _ hv) G0F (B := 200) ⟨by simp, by simp [keys], by simp [ids_lit, idsF, ids0]⟩ (fun k => if k = 100 then 256 else k) (fun k hk => if_neg (by omega)) (by simp [ren, renA, renF, ren0]) (by simp) (by simp [Blk.rn, renF, ren0]) (by simp [keys]) (by simp [keys]; rfl) ?_)); try simp [hC, hY])); (first | refine hQ _ _ _ _ (by kernel_rfl) ?_ | refine hP _ _ (by kernel_rfl) fun _ => ?_); clear hQ hP Q) | refine gwB ?_ | refine gwT ?_ | refine gwK ?_ | refine gwE ?_ | refine gwG ?_ | refine gwL ?_ | simp only [blockG_exit] | (refine gwC ?_ ?_ <;> (intro hb; first | (cases hb; done) | skip)))
    refine ⟨.inr trivial, ?_⟩
    simp [Tryd.results94, eaV]
  | true =>
    repeat' (first | refine gwS ?_ | simp only [wN, wM, Nat.reduceAdd, Nat.reduceMul] | ((first | refine gwR [59,60] ?_ | refine gwD [59,60] ?_); intro Q hQ hP; simp [hC, hY]; (repeat ((first | (first | (refine heapK_mv (fine2_fun a0 a1 a2 b0 b1 b2 _ hv) G0F (B := 200) ⟨by simp, by simp [keys], by simp [ids_lit, idsF, ids0]⟩ (fun k => if k = 100 then 256 else k) (fun k hk => if_neg (by omega)) (by simp [ren, renA, renF, ren0]) (by simp) (by simp [Blk.rn, renF, ren0]) (by simp [keys]) (by simp [keys]; rfl) ?_) | refine heapK_of (vparts_new 288 296 1 1 #[.int .i64 a0, .int .i64 a1, .int .i64 a2] (by simp) (by omega) (by omega) (by omega) (by omega)) (by simp) (fun k hk => hpL_low (by simp) hk) (by simp [Res.at, keys]) ?_)); try simp [hC, hY])); (first | refine hQ _ _ _ _ (by kernel_rfl) ?_ | refine hP _ _ (by kernel_rfl) fun _ => ?_); clear hQ hP Q) | refine gwB ?_ | refine gwT ?_ | refine gwK ?_ | refine gwE ?_ | refine gwG ?_ | refine gwL ?_ | simp only [blockG_exit] | (refine gwC ?_ ?_ <;> (intro hb; first | (cases hb; done) | skip)))
    obtain ⟨⟨f0, f1, f2⟩, g0, g1, g2⟩ := hv.1 rfl
    have s0 := fun K => hop a0 b0 K f0 g0
    have s1 := fun K => hop a1 b1 K f1 g1
    have s2 := fun K => hop a2 b2 K f2 g2
    refine GW_rangeKL (G := G0) (f := 75) (rs := [296, 288]) (xs := xsV 3 (vf a0 a1 a2)) (caps := #[.pointer (some ⟨296, 0, none⟩)]) (m0 := []) [296, 288] G0F hC hC0 hY (by simp) ?_ (by simp [xsV]) (by simp [Tryd.ntmps94]) [(3, .pointer (some ⟨200, 0, none⟩)), (4, .pointer (some ⟨208, 0, none⟩)), (5, .pointer (some ⟨216, 0, none⟩)), (6, .pointer (some ⟨224, 0, none⟩)), (7, .int .i64 0)] [] (eaL g op a0 a1 a2 b0 b1 b2) 400 3 (by simp [xsV]) (by omega) (by simp) (by simp [dom]) ?_ (by simp) (by simp) (by simp [eaL]) ?_ (by simp) ?_ ?_
    · refine iterk_mv (m := pvL1 a0 a1 a2) (B := 200) (vparts1_itk a0 a1 a2) G0F ⟨by simp [pvL1], by simp [pvL1, keys], by simp [pvL1, ids_lit, idsF, ids0, keys]⟩ (fun k => if k = 100 then 296 else if k = 108 then 288 else k) (fun k hk => ?_) (by simp [ren0]) (by simp [pvL1, keys]) (by (intro k hk; first | rfl | (simp (disch := omega) only [addB, List.mem_cons, List.not_mem_nil, or_false, upd_other, hpL_cons, hpL_nil, if_neg, updL] <;> done))) ?_ ?_
      · rw [if_neg (by omega), if_neg (by omega)]
      · simp [pvL1, Blk.rn, renF, ren0]
      · simp [pvL1, keys]
    · intro k hk b hb
      simp only [List.mem_cons, List.not_mem_nil, or_false] at hk
      rcases hk with rfl | rfl
      · simp at hb; subst hb; simp [ids_lit, idsF, ids0]
      · simp at hb; subst hb; simp [ids_lit, idsF, ids0]
    · intro i hi
      simp [eaL, idsV, idsA, idsF, ids0, dom, ids_lit]
    · intro i x hi hx C1 l hC1 hh1 hY1
      rw [xsV_at _ _ _ (by omega)] at hx
      simp only [Option.some.injEq] at hx
      subst hx
      clear hC hY
      have hC := hC1
      have hY := hY1
      have : i = 0 ∨ i = 1 ∨ i = 2 := by omega
      rcases this with rfl | rfl | rfl
      all_goals
        simp only [vf]
        unfold eaL
      all_goals
        repeat' (first | refine gwS ?_ | simp only [wN, wM, Nat.reduceAdd, Nat.reduceMul] | ((first | refine gwR [] ?_ | refine gwD [] ?_); intro Q hQ hP; simp [hC, hY, roundTs]; (first | refine hQ _ _ _ _ (by kernel_rfl) ?_ | refine hP _ _ (by kernel_rfl) fun _ => ?_); clear hQ hP Q) | refine gwB ?_ | refine gwT ?_ | refine gwK ?_ | refine gwE ?_ | refine gwG ?_ | refine gwL ?_ | simp only [blockG_exit] | (refine gwC ?_ ?_ <;> (intro hb; first | (cases hb; done) | skip)))
      all_goals
        intro C2 hC2 hh2 hY2
        clear hC hY
        have hC := hC2
        have hY := hY2
        repeat' (first | refine gwS ?_ | simp only [wN, wM, Nat.reduceAdd, Nat.reduceMul] | ((first | refine gwR [] ?_ | refine gwD [] ?_); intro Q hQ hP; simp [hC, hY, roundTs, s0, s1, s2]; (first | refine hQ _ _ _ _ (by kernel_rfl) ?_ | refine hP _ _ (by kernel_rfl) fun _ => ?_); clear hQ hP Q) | refine gwB ?_ | refine gwT ?_ | refine gwK ?_ | refine gwE ?_ | refine gwG ?_ | refine gwL ?_ | simp only [blockG_exit] | (refine gwC ?_ ?_ <;> (intro hb; first | (cases hb; done) | skip)))
      all_goals simp
    · left
      refine ⟨by simp [xsV], ?_⟩
      obtain ⟨w, hw⟩ : ∃ w : Bool, w = true ↔ fnI (op a0 b0) ∧ fnI (op a1 b1) ∧ fnI (op a2 b2) := ⟨decide _, decide_eq_true_iff⟩
      cases w with
      | false =>
        have e : eaE op a0 a1 a2 b0 b1 b2 = 20 := by unfold eaE; rw [if_neg]; intro h; exact absurd (hw.2 h.2) (by simp)
        rw [e]
        unfold eaL
        repeat' (first | refine gwS ?_ | simp only [wN, wM, Nat.reduceAdd, Nat.reduceMul] | ((first | refine gwR [59] ?_ | refine gwD [59] ?_); intro Q hQ hP; simp [hC, hY, addB, List.cons_append, List.nil_append]; (repeat ((first | (refine heapK_mv (fine1_fun (op a0 b0) (op a1 b1) (op a2 b2) _ hw) G0F (B := 200) ⟨by simp, by simp [keys], by simp [ids_lit, idsF, ids0]⟩ (fun k => if k = 100 then 408 else k) (fun k hk => if_neg (by omega)) (by simp [ren, renA, renF, ren0]) (by simp) (by simp [Blk.rn, renF, ren0]) (by simp [keys]) (by simp [keys]; rfl) ?_)); try simp [hC, hY, addB, List.cons_append, List.nil_append])); (first | refine hQ _ _ _ _ (by kernel_rfl) ?_ | refine hP _ _ (by kernel_rfl) fun _ => ?_); clear hQ hP Q) | refine gwB ?_ | refine gwT ?_ | refine gwK ?_ | refine gwE ?_ | refine gwG ?_ | refine gwL ?_ | simp only [blockG_exit] | (refine gwC ?_ ?_ <;> (intro hb; first | (cases hb; done) | skip)))
        refine ⟨.inr trivial, ?_⟩
        simp [Tryd.results94, eaV]
      | true =>
        have e : eaE op a0 a1 a2 b0 b1 b2 = 0 := by unfold eaE; rw [if_pos]; exact ⟨hv.1 rfl, hw.1 rfl⟩
        rw [e]
        unfold eaL
        repeat' (first | refine gwS ?_ | simp only [wN, wM, Nat.reduceAdd, Nat.reduceMul] | ((first | refine gwR [59] ?_ | refine gwD [59] ?_); intro Q hQ hP; simp [hC, hY, addB, List.cons_append, List.nil_append]; (repeat ((first | (refine heapK_mv (fine1_fun (op a0 b0) (op a1 b1) (op a2 b2) _ hw) G0F (B := 200) ⟨by simp, by simp [keys], by simp [ids_lit, idsF, ids0]⟩ (fun k => if k = 100 then 408 else k) (fun k hk => if_neg (by omega)) (by simp [ren, renA, renF, ren0]) (by simp) (by simp [Blk.rn, renF, ren0]) (by simp [keys]) (by simp [keys]; rfl) ?_)); try simp [hC, hY, addB, List.cons_append, List.nil_append])); (first | refine hQ _ _ _ _ (by kernel_rfl) ?_ | refine hP _ _ (by kernel_rfl) fun _ => ?_); clear hQ hP Q) | refine gwB ?_ | refine gwT ?_ | refine gwK ?_ | refine gwE ?_ | refine gwG ?_ | refine gwL ?_ | simp only [blockG_exit] | (refine gwC ?_ ?_ <;> (intro hb; first | (cases hb; done) | skip)))
        refine ⟨.inr trivial, ?_⟩
        simp [Tryd.results94, eaV]
theorem veach (g : FuncId) (op : Int → Int → Int) (hop : ∀ x y K, fnI x → fnI y → (callK Tryd.prog G0 g #[.int .i64 x, .int .i64 y] K ↔ K (.int .i64 (op x y)))) (a0 a1 a2 b0 b1 b2 : Int) (K : Value → Prop) : callK Tryd.prog G0 94 #[.agg #[.int .i64 a0, .int .i64 a1, .int .i64 a2], .agg #[.int .i64 b0, .int .i64 b1, .int .i64 b2], .func (.func g) #[] #[]] K ↔
    K (.tuple #[.agg #[.int .i64 (eaV (eaE op a0 a1 a2 b0 b1 b2) (op a0 b0)), .int .i64 (eaV (eaE op a0 a1 a2 b0 b1 b2) (op a1 b1)), .int .i64 (eaV (eaE op a0 a1 a2 b0 b1 b2) (op a2 b2))], .int .i64 (eaE op a0 a1 a2 b0 b1 b2)]) := callK_iff G0W (by kernel_rfl) (each_ret g op hop a0 a1 a2 b0 b1 b2)
end Go.Gy
namespace Go.Gy
set_option linter.unusedSimpArgs false
set_option linter.unusedVariables false
open Go Go.RowKit Go.Proofs
end Go.Gy
