/-
  Lemmas of this claim, in their order (GyX7, GyQ1, GyY1, GyY2, GyY3, GyY4, GyY5, GyY6, GyY7, GyZ1, GyZ2, GyEP, GyEQ, GyK2, GyRI).
  Conditions: those of each theorem.
-/
import Derived.Test.YtfedlkjhfnlnbaaGreatDoorGz02
namespace Go.Gy
set_option linter.unusedSimpArgs false
set_option linter.unusedVariables false
open Go Go.RowKit Go.Proofs
@[simp] theorem idsV_fa (D : Nat → Prop) (n : Nat) (k : IntKind) (f : Nat → Int) : idsV D (.agg (fa n k f)) ↔ True := by
 refine ⟨fun _ => trivial, fun _ x hx => ?_⟩
 obtain ⟨m, rfl⟩ := fa_mem hx
 trivial
theorem and_low (z : Int) (h0 : 0 ≤ z) (h1 : z < 18446744073709551616) : bitI .and .u64 z 4294967295 = z % 4294967296 := by
 rw [← and_low32 z h0 h1]; rfl
theorem mul64_ret (x y : Int) (hx0 : 0 ≤ x) (hx : x < 18446744073709551616) (hy0 : 0 ≤ y) (hy : y < 18446744073709551616) : Ret Tryz.prog G0 55 #[.int .u64 x, .int .u64 y] (.tuple #[.int .u64 (x * y / 18446744073709551616), .int .u64 (x * y % 18446744073709551616)]) := by
 refine ret_of G0F Tryz.func55 rfl Tryz.call55 (by simp) (by simp) (by simp [Tryz.ntmps55]) ?_
 intro C hC hC0 hY
 have f32 : ∀ z : Int, z.fdiv 4294967296 = z / 4294967296 := fun z => Int.fdiv_eq_ediv_of_nonneg z (by omega)
 have a1 := and_low x hx0 hx
 have a2 := and_low y hy0 hy
 have a3 : ∀ z : Int, bitI .and .u64 (z % 18446744073709551616) 4294967295 = z % 18446744073709551616 % 4294967296 := fun z => and_low _ (by omega) (by omega)
 repeat' (first | refine gwA ?_ | ((first | refine gwR [] ?_ | refine gwD [] ?_); intro Q hQ hP; simp [hC, hY, f32, a1, a2, a3]; refine hQ _ _ _ _ (by kernel_rfl) ?_; clear hQ hP Q) | (refine gwC ?_ ?_ <;> (intro hb; first | (cases hb; done) | skip)))
 refine ⟨.inr trivial, ?_⟩
 have := mul64_arith x y hx0 hx hy0 hy
 simpa [Tryz.results55] using this
@[simp] theorem mul64 (x y : Int) (hx0 : 0 ≤ x) (hx : x < 18446744073709551616) (hy0 : 0 ≤ y) (hy : y < 18446744073709551616) (K : Value → Prop) : callK Tryz.prog G0 55 #[.int .u64 x, .int .u64 y] K ↔ K (.tuple #[.int .u64 (x * y / 18446744073709551616), .int .u64 (x * y % 18446744073709551616)]) := callK_iff G0W (by kernel_rfl) (mul64_ret x y hx0 hx hy0 hy)
theorem wi_mod (z y : Int) (k : Nat) (h : z % 115792089237316195423570985008687907853269984665640564039457584007913129639936 = y % 115792089237316195423570985008687907853269984665640564039457584007913129639936) (hk : k < 4) : wi z k = wi y k := by
 have : k = 0 ∨ k = 1 ∨ k = 2 ∨ k = 3 := by omega
 rcases this with rfl | rfl | rfl | rfl <;> simp only [wi] <;> omega
theorem wum_p (z : Int) (h : ng z = true) (k : Nat) (hk : k < 4) : wi (-z) k = wi (um z) k := wi_mod _ _ _ (by
 rw [ng_sz] at h; simp at h; have := sz_mod z; unfold um; rw [if_pos h]; omega) hk
theorem wum_m (z : Int) (h : ng z = false) (k : Nat) (hk : k < 4) : wi z k = wi (um z) k := wi_mod _ _ _ (by
 rw [ng_sz] at h; simp at h; have := sz_mod z; unfold um; rw [if_neg (by omega)]; omega) hk
theorem wn_bd (A B : Int) (i k : Nat) : 0 ≤ wi A i * wi B k ∧ 0 ≤ wi A i * wi B k % 18446744073709551616 ∧ 0 ≤ (wi A i * wi B k + wi (wprow A B i) (i + k)) % 18446744073709551616 := by
 have h1 := wi_ge A i; have h2 := wi_ge B k
 exact ⟨Int.mul_nonneg h1 h2, Int.emod_nonneg _ (by omega), Int.emod_nonneg _ (by omega)⟩
theorem wmodS (A B : Int) (i k : Nat) : (wi A i * wi B k + wi (wprow A B i) (i + k) + wpcar A B i k) % 18446744073709551616 = wi (wprow A B (i + 1)) (i + k) := by
 rw [← wpdig A B i k]; congr 1; omega
theorem wdivS (A B : Int) (i k : Nat) : (wi A i * wi B k / 18446744073709551616 + (wi A i * wi B k % 18446744073709551616 + wi (wprow A B i) (i + k)) / 18446744073709551616 + ((wi A i * wi B k + wi (wprow A B i) (i + k)) % 18446744073709551616 + wpcar A B i k) / 18446744073709551616) % 18446744073709551616 = wpcar A B i (k + 1) := by
 have h := (wstep (wi A i) (wi B k) (wi (wprow A B i) (i + k)) (wpcar A B i k) ⟨wi_ge _ _, wi_lt _ _⟩ ⟨wi_ge _ _, wi_lt _ _⟩ ⟨wi_ge _ _, wi_lt _ _⟩ (wpcar_bd A B i k)).2
 rw [← wpcar_succ, ← h]
 simp
def mwSt (q : Nat) (mi : Bool) (A B : Int) (i : Nat) : GS :=
 ⟨tsL [(2, .pointer (some ⟨200, 0, none⟩)), (3, .pointer (some ⟨208, 0, none⟩)), (4, .pointer (some ⟨216, 0, none⟩)), (6, .bool mi), (7, .pointer (some ⟨q, 0, none⟩)), (40, .agg (fa 4 .u64 (wi A))), (41, .int .i64 i)],
 hpL G0 [(200, ⟨fa 4 .u64 (wi A), .ty 30⟩), (208, ⟨fa 4 .u64 (wi B), .ty 30⟩), (216, ⟨fa 4 .u64 fun _ => 0, .ty 30⟩), (q, ⟨fa 8 .u64 (wi (wprow A B i)), .ty 77⟩)], 600, 0⟩
def mwSt2 (q : Nat) (mi : Bool) (A B : Int) (i k : Nat) : GS :=
 ⟨tsL [(2, .pointer (some ⟨200, 0, none⟩)), (3, .pointer (some ⟨208, 0, none⟩)), (4, .pointer (some ⟨216, 0, none⟩)), (6, .bool mi), (7, .pointer (some ⟨q, 0, none⟩)), (40, .agg (fa 4 .u64 (wi A))), (41, .int .i64 i),
   (8, .int .i64 i), (9, .int .u64 (wi A i)), (10, .int .u64 (wpcar A B i k)), (45, .agg (fa 4 .u64 (wi B))), (46, .int .i64 k)],
 hpL G0 [(200, ⟨fa 4 .u64 (wi A), .ty 30⟩), (208, ⟨fa 4 .u64 (wi B), .ty 30⟩), (216, ⟨fa 4 .u64 fun _ => 0, .ty 30⟩), (q, ⟨fa 8 .u64 (wpout A B i k), .ty 77⟩)], 600, 0⟩
theorem or_zero {x y : Int} (hx0 : 0 ≤ x) (hx : x < 18446744073709551616) (hy0 : 0 ≤ y) (hy : y < 18446744073709551616) : (bitI .or .u64 x y = 0 ↔ x = 0 ∧ y = 0) ∧ 0 ≤ bitI .or .u64 x y ∧ bitI .or .u64 x y < 18446744073709551616 := by
 have e : bitI .or .u64 x y = ((BitVec.ofInt 64 x ||| BitVec.ofInt 64 y : BitVec 64).toNat : Int) % 18446744073709551616 := by
  unfold bitI
  show IntKind.u64.wrap ((BitVec.ofInt 64 x ||| BitVec.ofInt 64 y : BitVec 64).toNat : Int) = _
  rw [wrap_u64]
 have hx' : (BitVec.ofInt 64 x).toNat = x.toNat := by
  rw [BitVec.toNat_ofInt]; congr 1; exact Int.emod_eq_of_lt hx0 hx
 have hy' : (BitVec.ofInt 64 y).toNat = y.toNat := by
  rw [BitVec.toNat_ofInt]; congr 1; exact Int.emod_eq_of_lt hy0 hy
 have hb := (BitVec.ofInt 64 x ||| BitVec.ofInt 64 y).isLt
 rw [e]
 refine ⟨?_, Int.emod_nonneg _ (by omega), Int.emod_lt_of_pos _ (by omega)⟩
 rw [Int.emod_eq_of_lt (by omega) (by omega), BitVec.toNat_or, hx', hy']
 constructor
 ·intro h
  have h1 : x.toNat ||| y.toNat = 0 := by omega
  have := Nat.or_eq_zero_iff.1 h1
  omega
 ·rintro ⟨rfl, rfl⟩; rfl
theorem wi_shift (D : Int) (j : Nat) (h : 4 ≤ j := by omega) : wi D j = wi (D / 115792089237316195423570985008687907853269984665640564039457584007913129639936) (j - 4) := by
 unfold wi
 have e : 64 * j = 64 * 4 + 64 * (j - 4) := by omega
 rw [e, Int.pow_add, ← Int.ediv_ediv_of_nonneg (Int.le_of_lt (pow64_pos 4))]
 rfl
def ovD (D : Int) : Bool := decide (115792089237316195423570985008687907853269984665640564039457584007913129639936 ≤ D)
def orW (D : Int) : Int := bitI .or .u64 (bitI .or .u64 (bitI .or .u64 (wi D 4) (wi D 5)) (wi D 6)) (wi D 7)
theorem or_ov (D : Int) (h0 : 0 ≤ D) (h1 : D < 115792089237316195423570985008687907853269984665640564039457584007913129639936 * 115792089237316195423570985008687907853269984665640564039457584007913129639936) :
  (!orW D == 0) = ovD D := by
 unfold orW
 have o1 := or_zero (wi_ge D 4) (wi_lt D 4) (wi_ge D 5) (wi_lt D 5)
 have o2 := or_zero o1.2.1 o1.2.2 (wi_ge D 6) (wi_lt D 6)
 have o3 := or_zero o2.2.1 o2.2.2 (wi_ge D 7) (wi_lt D 7)
 rw [Bool.eq_iff_iff]
 simp only [Bool.not_eq_true', beq_eq_false_iff_ne, ne_eq, ovD, decide_eq_true_eq]
 rw [o3.1, o2.1, o1.1, wi_shift D 4, wi_shift D 5, wi_shift D 6, wi_shift D 7]
 have hE : 0 ≤ D / 115792089237316195423570985008687907853269984665640564039457584007913129639936 ∧ D / 115792089237316195423570985008687907853269984665640564039457584007913129639936 < 115792089237316195423570985008687907853269984665640564039457584007913129639936 := ⟨by omega, by omega⟩
 have hD : 115792089237316195423570985008687907853269984665640564039457584007913129639936 ≤ D ↔ D / 115792089237316195423570985008687907853269984665640564039457584007913129639936 ≠ 0 := by omega
 rw [hD]
 generalize D / 115792089237316195423570985008687907853269984665640564039457584007913129639936 = E at *
 simp only [wi]
 omega
set_option maxHeartbeats 2000000 in
theorem wmul_ret (a b : Int) : Ret Tryz.prog G0 26 #[wd a, wd b] (.tuple #[wd (sz a * sz b), .bool (mulO a b)]) := by
 refine ret_of G0F Tryz.func26 rfl Tryz.call26 (by simp) (by simp) (by simp [Tryz.ntmps26]) ?_
 intro C hC hC0 hY
 have hA := um_bd a
 have hB := um_bd b
 have hB0 : 0 ≤ um b := hB.1
 have hB1 : um b < 2 ^ (64 * 4) := by have := hB.2; omega
 obtain ⟨D, hD⟩ : ∃ D, um a * um b = D := ⟨_, rfl⟩
 have eD : wprow (um a) (um b) 4 = D := by rw [← hD]; unfold wprow; rw [Int.emod_eq_of_lt (by omega) (by omega)]
 have hbd : 0 ≤ D ∧ D ≤ 57896044618658097711785492504343953926634992332820282019728792003956564819968 * 57896044618658097711785492504343953926634992332820282019728792003956564819968 := by
  rw [← hD]
  exact ⟨Int.mul_nonneg hA.1 hB.1, Int.mul_le_mul hA.2 hB.2 hB.1 (by omega)⟩
 have hor := or_ov D hbd.1 (by have := hbd.2; omega)
 have hs1 := prod_same a b
 have hs2 := prod_other a b
 rw [hD] at hs1 hs2
 cases ha : ng a <;> cases hq : ng b
 all_goals
  repeat' (first | refine gwA ?_ | ((first | refine gwR [] ?_ | refine gwD [] ?_); intro Q hQ hP; simp [hC, hY, ha, hq]; refine hQ _ _ _ _ (by kernel_rfl) ?_; clear hQ hP Q) | (refine gwC ?_ ?_ <;> (intro hb; first | (cases hb; done) | skip)))
 ·have hn : (ng a == ng b) = true := by rw [ha, hq]; rfl
  refine GW_for 4 (mwSt 312 false (um a) (um b)) ?_ ?_ ?_
  ·have e1 := wum_m a ha
   have e2 := wum_m b hq
   refine weakL _ 600 hC G0F (m0 := []) hC0 (by omega) ?_ ?_ ?_
   ·simp [dom, fa_4, e1]
   ·simp [fa_ids, fa_4, fa_8, e1, e2, wprow, Int.emod_one, wi_zero]
   ·simp
  ·intro i hi
   have hi' : (i : Int) < 4 := by omega
   have hz : (0 : Int) ≤ i := by omega
   have hs : Int.bmod ((i : Int) + 1) 18446744073709551616 = ((i + 1 : Nat) : Int) := by rw [bm (by omega) (by omega)]; rfl
   unfold mwSt
   repeat' (first | refine gwA ?_ | ((first | refine gwR [] ?_ | refine gwD [] ?_); intro Q hQ hP; simp [hC, hY, hi, hi', hz, hs, fa_get]; refine hQ _ _ _ _ (by kernel_rfl) ?_; clear hQ hP Q) | (refine gwC ?_ ?_ <;> (intro hb; first | (cases hb; done) | skip)))
   refine GW_for 4 (mwSt2 312 false (um a) (um b) i) ?_ ?_ ?_
   ·refine weakL _ 600 hC G0F (m0 := []) hC0 (by omega) ?_ ?_ ?_
    ·simp [dom, wpcar_zero]
    ·have e : fa 8 .u64 (wpout (um a) (um b) i 0) = fa 8 .u64 (wi (wprow (um a) (um b) i)) := fa_congr fun j _ => by unfold wpout; rw [if_neg (by omega)]
     simp [e, fa_ids]
    ·simp
   ·intro k hk
    have hk' : (k : Int) < 4 := by omega
    have hkz : (0 : Int) ≤ k := by omega
    have hs2 : Int.bmod ((k : Int) + 1) 18446744073709551616 = ((k + 1 : Nat) : Int) := by rw [bm (by omega) (by omega)]; rfl
    have hik : Int.bmod ((i : Int) + k) 18446744073709551616 = ((i + k : Nat) : Int) := by rw [bm (by omega) (by omega)]; rfl
    have hik2 : i + k < 8 := by omega
    have hik3 : (i : Int) + k < 8 := by omega
    have hik4 : (0 : Int) ≤ (i : Int) + k := by omega
    have hik5 : ((i : Int) + k).toNat = i + k := by omega
    have hik6 : (i : Int) + k ≤ 7 := by omega
    have hik7 : i + k ≤ 7 := by omega
    have hn := wn_bd (um a) (um b) i k
    have hc := wpcar_bd (um a) (um b) i k
    unfold mwSt2
    repeat' (first | refine gwA ?_ | ((first | refine gwR [] ?_ | refine gwD [] ?_); intro Q hQ hP; simp [hC, hY, hi, hi', hz, hk, hk', hkz, hik, hik2, hik3, hik4, hik5, hik6, hik7, hs2, fa_get, fa_set, wi_ge, wi_lt, hn.1, hn.2.1, hn.2.2, hc.1]; refine hQ _ _ _ _ (by kernel_rfl) ?_; clear hQ hP Q) | (refine gwC ?_ ?_ <;> (intro hb; first | (cases hb; done) | skip)))
    refine weakL _ 600 hC G0F (m0 := []) hC0 (by omega) ?_ ?_ ?_
    ·simp [dom, hs2, wdivS]
    ·have e : fa 8 .u64 (upd (wpout (um a) (um b) i k) (i + k) (wi (wprow (um a) (um b) (i + 1)) (i + k))) = fa 8 .u64 (wpout (um a) (um b) i (k + 1)) := fa_congr fun j _ => wpout_step (um a) (um b) i k j
     simp [fa_ids, wmodS, e]
    ·simp
   ·have hi8 : Int.bmod ((i : Int) + 4) 18446744073709551616 = (i : Int) + 4 := bm (by omega) (by omega)
    have hi9 : (0 : Int) ≤ (i : Int) + 4 := by omega
    have hi10 : ((i : Int) + 4).toNat = i + 4 := by omega
    have hi11 : (i : Int) + 4 < 8 := by omega
    have hi12 : (i : Int) ≤ 3 := by omega
    have hi14 : i ≤ 3 := by omega
    have hi13 : i + 4 < 8 := by omega
    unfold mwSt2
    repeat' (first | refine gwA ?_ | ((first | refine gwR [] ?_ | refine gwD [] ?_); intro Q hQ hP; simp [hC, hY, hi, hi', hz, hs, hi8, hi9, hi10, hi11, hi12, hi13, hi14, fa_set]; refine hQ _ _ _ _ (by kernel_rfl) ?_; clear hQ hP Q) | (refine gwC ?_ ?_ <;> (intro hb; first | (cases hb; done) | skip)))
    refine weakL _ 600 hC G0F (m0 := []) hC0 (by omega) ?_ ?_ ?_
    ·simp [dom, hs]
    ·have e : fa 8 .u64 (upd (wpout (um a) (um b) i 4) (i + 4) (wpcar (um a) (um b) i 4)) = fa 8 .u64 (wi (wprow (um a) (um b) (i + 1))) := fa_congr fun j _ => wpout_end (um a) (um b) i hB0 hB1 j
     simp [fa_ids, e]
    ·simp
  ·unfold mwSt
   rw [eD]
   by_cases hx : orW D = 0
   ·have hov : ovD D = false := by rw [← hor]; simp [hx]
    unfold orW at hx
    repeat' (first | refine gwA ?_ | ((first | refine gwR [] ?_ | refine gwD [] ?_); intro Q hQ hP; simp [hC, hY, fa_8, fa_4, hx]; refine hQ _ _ _ _ (by kernel_rfl) ?_; clear hQ hP Q) | (refine gwC ?_ ?_ <;> (intro hb; first | (cases hb; done) | skip)))
    refine ⟨.inr trivial, ?_⟩
    rw [ovD] at hov
    simp [Tryz.results26, hs1 hn, mulO, hx]
    rw [Bool.eq_iff_iff]
    simp [ng_sz]
    have h3 := sz_small D hbd.1 (by simpa using hov)
    simp at hov
    omega
   ·have hov : ovD D = true := by rw [← hor]; simp [hx]
    unfold orW at hx
    have hx2 : (bitI .or .u64 (bitI .or .u64 (bitI .or .u64 (wi D 4) (wi D 5)) (wi D 6)) (wi D 7) == 0) = false := by simpa using hx
    have hx3 : (bitI .or .u64 (bitI .or .u64 (bitI .or .u64 (wi D 4) (wi D 5)) (wi D 6)) (wi D 7) != 0) = true := by simpa using hx
    repeat' (first | refine gwA ?_ | ((first | refine gwR [] ?_ | refine gwD [] ?_); intro Q hQ hP; simp [hC, hY, fa_8, fa_4, hx, hx2, hx3]; refine hQ _ _ _ _ (by kernel_rfl) ?_; clear hQ hP Q) | (refine gwC ?_ ?_ <;> (intro hb; first | (cases hb; done) | skip)))
    refine ⟨.inr trivial, ?_⟩
    rw [ovD] at hov
    simp [Tryz.results26, hs1 hn, mulO, hx]
    simp at hov
    omega
 ·have hn : (ng a == ng b) = false := by rw [ha, hq]; rfl
  refine GW_for 4 (mwSt 360 true (um a) (um b)) ?_ ?_ ?_
  ·have e1 := wum_m a ha
   have e2 := wum_p b hq
   refine weakL _ 600 hC G0F (m0 := []) hC0 (by omega) ?_ ?_ ?_
   ·simp [dom, fa_4, e1]
   ·simp [fa_ids, fa_4, fa_8, e1, e2, wprow, Int.emod_one, wi_zero]
   ·simp
  ·intro i hi
   have hi' : (i : Int) < 4 := by omega
   have hz : (0 : Int) ≤ i := by omega
   have hs : Int.bmod ((i : Int) + 1) 18446744073709551616 = ((i + 1 : Nat) : Int) := by rw [bm (by omega) (by omega)]; rfl
   unfold mwSt
   repeat' (first | refine gwA ?_ | ((first | refine gwR [] ?_ | refine gwD [] ?_); intro Q hQ hP; simp [hC, hY, hi, hi', hz, hs, fa_get]; refine hQ _ _ _ _ (by kernel_rfl) ?_; clear hQ hP Q) | (refine gwC ?_ ?_ <;> (intro hb; first | (cases hb; done) | skip)))
   refine GW_for 4 (mwSt2 360 true (um a) (um b) i) ?_ ?_ ?_
   ·refine weakL _ 600 hC G0F (m0 := []) hC0 (by omega) ?_ ?_ ?_
    ·simp [dom, wpcar_zero]
    ·have e : fa 8 .u64 (wpout (um a) (um b) i 0) = fa 8 .u64 (wi (wprow (um a) (um b) i)) := fa_congr fun j _ => by unfold wpout; rw [if_neg (by omega)]
     simp [e, fa_ids]
    ·simp
   ·intro k hk
    have hk' : (k : Int) < 4 := by omega
    have hkz : (0 : Int) ≤ k := by omega
    have hs2 : Int.bmod ((k : Int) + 1) 18446744073709551616 = ((k + 1 : Nat) : Int) := by rw [bm (by omega) (by omega)]; rfl
    have hik : Int.bmod ((i : Int) + k) 18446744073709551616 = ((i + k : Nat) : Int) := by rw [bm (by omega) (by omega)]; rfl
    have hik2 : i + k < 8 := by omega
    have hik3 : (i : Int) + k < 8 := by omega
    have hik4 : (0 : Int) ≤ (i : Int) + k := by omega
    have hik5 : ((i : Int) + k).toNat = i + k := by omega
    have hik6 : (i : Int) + k ≤ 7 := by omega
    have hik7 : i + k ≤ 7 := by omega
    have hn := wn_bd (um a) (um b) i k
    have hc := wpcar_bd (um a) (um b) i k
    unfold mwSt2
    repeat' (first | refine gwA ?_ | ((first | refine gwR [] ?_ | refine gwD [] ?_); intro Q hQ hP; simp [hC, hY, hi, hi', hz, hk, hk', hkz, hik, hik2, hik3, hik4, hik5, hik6, hik7, hs2, fa_get, fa_set, wi_ge, wi_lt, hn.1, hn.2.1, hn.2.2, hc.1]; refine hQ _ _ _ _ (by kernel_rfl) ?_; clear hQ hP Q) | (refine gwC ?_ ?_ <;> (intro hb; first | (cases hb; done) | skip)))
    refine weakL _ 600 hC G0F (m0 := []) hC0 (by omega) ?_ ?_ ?_
    ·simp [dom, hs2, wdivS]
    ·have e : fa 8 .u64 (upd (wpout (um a) (um b) i k) (i + k) (wi (wprow (um a) (um b) (i + 1)) (i + k))) = fa 8 .u64 (wpout (um a) (um b) i (k + 1)) := fa_congr fun j _ => wpout_step (um a) (um b) i k j
     simp [fa_ids, wmodS, e]
    ·simp
   ·have hi8 : Int.bmod ((i : Int) + 4) 18446744073709551616 = (i : Int) + 4 := bm (by omega) (by omega)
    have hi9 : (0 : Int) ≤ (i : Int) + 4 := by omega
    have hi10 : ((i : Int) + 4).toNat = i + 4 := by omega
    have hi11 : (i : Int) + 4 < 8 := by omega
    have hi12 : (i : Int) ≤ 3 := by omega
    have hi14 : i ≤ 3 := by omega
    have hi13 : i + 4 < 8 := by omega
    unfold mwSt2
    repeat' (first | refine gwA ?_ | ((first | refine gwR [] ?_ | refine gwD [] ?_); intro Q hQ hP; simp [hC, hY, hi, hi', hz, hs, hi8, hi9, hi10, hi11, hi12, hi13, hi14, fa_set]; refine hQ _ _ _ _ (by kernel_rfl) ?_; clear hQ hP Q) | (refine gwC ?_ ?_ <;> (intro hb; first | (cases hb; done) | skip)))
    refine weakL _ 600 hC G0F (m0 := []) hC0 (by omega) ?_ ?_ ?_
    ·simp [dom, hs]
    ·have e : fa 8 .u64 (upd (wpout (um a) (um b) i 4) (i + 4) (wpcar (um a) (um b) i 4)) = fa 8 .u64 (wi (wprow (um a) (um b) (i + 1))) := fa_congr fun j _ => wpout_end (um a) (um b) i hB0 hB1 j
     simp [fa_ids, e]
    ·simp
  ·unfold mwSt
   rw [eD]
   by_cases hx : orW D = 0
   ·have hov : ovD D = false := by rw [← hor]; simp [hx]
    unfold orW at hx
    by_cases hzz : sz D = 0
    ·have hw := words_z D hzz
     repeat' (first | refine gwA ?_ | ((first | refine gwR [] ?_ | refine gwD [] ?_); intro Q hQ hP; simp [hC, hY, fa_8, fa_4, hx, hw]; refine hQ _ _ _ _ (by kernel_rfl) ?_; clear hQ hP Q) | (refine gwC ?_ ?_ <;> (intro hb; first | (cases hb; done) | skip)))
     refine ⟨.inr trivial, ?_⟩
     rw [ovD] at hov
     simp [Tryz.results26, hs2 hn, mulO, hx]
     have := sz_small D hbd.1 (by simpa using hov)
     simp at hov
     omega
    ·have hw := words_ne D hzz
     repeat' (first | refine gwA ?_ | ((first | refine gwR [] ?_ | refine gwD [] ?_); intro Q hQ hP; simp [hC, hY, fa_8, fa_4, hx, hw]; refine hQ _ _ _ _ (by kernel_rfl) ?_; clear hQ hP Q) | (refine gwC ?_ ?_ <;> (intro hb; first | (cases hb; done) | skip)))
     refine ⟨.inr trivial, ?_⟩
     rw [ovD] at hov
     simp [Tryz.results26, hs2 hn, mulO, hx]
     rw [Bool.eq_iff_iff]
     simp [ng_sz]
     have h3 := sz_small D hbd.1 (by simpa using hov)
     have h4 := sz_negl D hbd.1 (by simpa using hov)
     simp at hov
     omega
   ·have hov : ovD D = true := by rw [← hor]; simp [hx]
    unfold orW at hx
    have hx2 : (bitI .or .u64 (bitI .or .u64 (bitI .or .u64 (wi D 4) (wi D 5)) (wi D 6)) (wi D 7) == 0) = false := by simpa using hx
    have hx3 : (bitI .or .u64 (bitI .or .u64 (bitI .or .u64 (wi D 4) (wi D 5)) (wi D 6)) (wi D 7) != 0) = true := by simpa using hx
    repeat' (first | refine gwA ?_ | ((first | refine gwR [] ?_ | refine gwD [] ?_); intro Q hQ hP; simp [hC, hY, fa_8, fa_4, hx, hx2, hx3]; refine hQ _ _ _ _ (by kernel_rfl) ?_; clear hQ hP Q) | (refine gwC ?_ ?_ <;> (intro hb; first | (cases hb; done) | skip)))
    refine ⟨.inr trivial, ?_⟩
    rw [ovD] at hov
    simp [Tryz.results26, hs2 hn, mulO, hx]
    simp at hov
    omega
 ·have hn : (ng a == ng b) = false := by rw [ha, hq]; rfl
  refine GW_for 4 (mwSt 360 true (um a) (um b)) ?_ ?_ ?_
  ·have e1 := wum_p a ha
   have e2 := wum_m b hq
   refine weakL _ 600 hC G0F (m0 := []) hC0 (by omega) ?_ ?_ ?_
   ·simp [dom, fa_4, e1]
   ·simp [fa_ids, fa_4, fa_8, e1, e2, wprow, Int.emod_one, wi_zero]
   ·simp
  ·intro i hi
   have hi' : (i : Int) < 4 := by omega
   have hz : (0 : Int) ≤ i := by omega
   have hs : Int.bmod ((i : Int) + 1) 18446744073709551616 = ((i + 1 : Nat) : Int) := by rw [bm (by omega) (by omega)]; rfl
   unfold mwSt
   repeat' (first | refine gwA ?_ | ((first | refine gwR [] ?_ | refine gwD [] ?_); intro Q hQ hP; simp [hC, hY, hi, hi', hz, hs, fa_get]; refine hQ _ _ _ _ (by kernel_rfl) ?_; clear hQ hP Q) | (refine gwC ?_ ?_ <;> (intro hb; first | (cases hb; done) | skip)))
   refine GW_for 4 (mwSt2 360 true (um a) (um b) i) ?_ ?_ ?_
   ·refine weakL _ 600 hC G0F (m0 := []) hC0 (by omega) ?_ ?_ ?_
    ·simp [dom, wpcar_zero]
    ·have e : fa 8 .u64 (wpout (um a) (um b) i 0) = fa 8 .u64 (wi (wprow (um a) (um b) i)) := fa_congr fun j _ => by unfold wpout; rw [if_neg (by omega)]
     simp [e, fa_ids]
    ·simp
   ·intro k hk
    have hk' : (k : Int) < 4 := by omega
    have hkz : (0 : Int) ≤ k := by omega
    have hs2 : Int.bmod ((k : Int) + 1) 18446744073709551616 = ((k + 1 : Nat) : Int) := by rw [bm (by omega) (by omega)]; rfl
    have hik : Int.bmod ((i : Int) + k) 18446744073709551616 = ((i + k : Nat) : Int) := by rw [bm (by omega) (by omega)]; rfl
    have hik2 : i + k < 8 := by omega
    have hik3 : (i : Int) + k < 8 := by omega
    have hik4 : (0 : Int) ≤ (i : Int) + k := by omega
    have hik5 : ((i : Int) + k).toNat = i + k := by omega
    have hik6 : (i : Int) + k ≤ 7 := by omega
    have hik7 : i + k ≤ 7 := by omega
    have hn := wn_bd (um a) (um b) i k
    have hc := wpcar_bd (um a) (um b) i k
    unfold mwSt2
    repeat' (first | refine gwA ?_ | ((first | refine gwR [] ?_ | refine gwD [] ?_); intro Q hQ hP; simp [hC, hY, hi, hi', hz, hk, hk', hkz, hik, hik2, hik3, hik4, hik5, hik6, hik7, hs2, fa_get, fa_set, wi_ge, wi_lt, hn.1, hn.2.1, hn.2.2, hc.1]; refine hQ _ _ _ _ (by kernel_rfl) ?_; clear hQ hP Q) | (refine gwC ?_ ?_ <;> (intro hb; first | (cases hb; done) | skip)))
    refine weakL _ 600 hC G0F (m0 := []) hC0 (by omega) ?_ ?_ ?_
    ·simp [dom, hs2, wdivS]
    ·have e : fa 8 .u64 (upd (wpout (um a) (um b) i k) (i + k) (wi (wprow (um a) (um b) (i + 1)) (i + k))) = fa 8 .u64 (wpout (um a) (um b) i (k + 1)) := fa_congr fun j _ => wpout_step (um a) (um b) i k j
     simp [fa_ids, wmodS, e]
    ·simp
   ·have hi8 : Int.bmod ((i : Int) + 4) 18446744073709551616 = (i : Int) + 4 := bm (by omega) (by omega)
    have hi9 : (0 : Int) ≤ (i : Int) + 4 := by omega
    have hi10 : ((i : Int) + 4).toNat = i + 4 := by omega
    have hi11 : (i : Int) + 4 < 8 := by omega
    have hi12 : (i : Int) ≤ 3 := by omega
    have hi14 : i ≤ 3 := by omega
    have hi13 : i + 4 < 8 := by omega
    unfold mwSt2
    repeat' (first | refine gwA ?_ | ((first | refine gwR [] ?_ | refine gwD [] ?_); intro Q hQ hP; simp [hC, hY, hi, hi', hz, hs, hi8, hi9, hi10, hi11, hi12, hi13, hi14, fa_set]; refine hQ _ _ _ _ (by kernel_rfl) ?_; clear hQ hP Q) | (refine gwC ?_ ?_ <;> (intro hb; first | (cases hb; done) | skip)))
    refine weakL _ 600 hC G0F (m0 := []) hC0 (by omega) ?_ ?_ ?_
    ·simp [dom, hs]
    ·have e : fa 8 .u64 (upd (wpout (um a) (um b) i 4) (i + 4) (wpcar (um a) (um b) i 4)) = fa 8 .u64 (wi (wprow (um a) (um b) (i + 1))) := fa_congr fun j _ => wpout_end (um a) (um b) i hB0 hB1 j
     simp [fa_ids, e]
    ·simp
  ·unfold mwSt
   rw [eD]
   by_cases hx : orW D = 0
   ·have hov : ovD D = false := by rw [← hor]; simp [hx]
    unfold orW at hx
    by_cases hzz : sz D = 0
    ·have hw := words_z D hzz
     repeat' (first | refine gwA ?_ | ((first | refine gwR [] ?_ | refine gwD [] ?_); intro Q hQ hP; simp [hC, hY, fa_8, fa_4, hx, hw]; refine hQ _ _ _ _ (by kernel_rfl) ?_; clear hQ hP Q) | (refine gwC ?_ ?_ <;> (intro hb; first | (cases hb; done) | skip)))
     refine ⟨.inr trivial, ?_⟩
     rw [ovD] at hov
     simp [Tryz.results26, hs2 hn, mulO, hx]
     have := sz_small D hbd.1 (by simpa using hov)
     simp at hov
     omega
    ·have hw := words_ne D hzz
     repeat' (first | refine gwA ?_ | ((first | refine gwR [] ?_ | refine gwD [] ?_); intro Q hQ hP; simp [hC, hY, fa_8, fa_4, hx, hw]; refine hQ _ _ _ _ (by kernel_rfl) ?_; clear hQ hP Q) | (refine gwC ?_ ?_ <;> (intro hb; first | (cases hb; done) | skip)))
     refine ⟨.inr trivial, ?_⟩
     rw [ovD] at hov
     simp [Tryz.results26, hs2 hn, mulO, hx]
     rw [Bool.eq_iff_iff]
     simp [ng_sz]
     have h3 := sz_small D hbd.1 (by simpa using hov)
     have h4 := sz_negl D hbd.1 (by simpa using hov)
     simp at hov
     omega
   ·have hov : ovD D = true := by rw [← hor]; simp [hx]
    unfold orW at hx
    have hx2 : (bitI .or .u64 (bitI .or .u64 (bitI .or .u64 (wi D 4) (wi D 5)) (wi D 6)) (wi D 7) == 0) = false := by simpa using hx
    have hx3 : (bitI .or .u64 (bitI .or .u64 (bitI .or .u64 (wi D 4) (wi D 5)) (wi D 6)) (wi D 7) != 0) = true := by simpa using hx
    repeat' (first | refine gwA ?_ | ((first | refine gwR [] ?_ | refine gwD [] ?_); intro Q hQ hP; simp [hC, hY, fa_8, fa_4, hx, hx2, hx3]; refine hQ _ _ _ _ (by kernel_rfl) ?_; clear hQ hP Q) | (refine gwC ?_ ?_ <;> (intro hb; first | (cases hb; done) | skip)))
    refine ⟨.inr trivial, ?_⟩
    rw [ovD] at hov
    simp [Tryz.results26, hs2 hn, mulO, hx]
    simp at hov
    omega
 ·have hn : (ng a == ng b) = true := by rw [ha, hq]; rfl
  refine GW_for 4 (mwSt 408 false (um a) (um b)) ?_ ?_ ?_
  ·have e1 := wum_p a ha
   have e2 := wum_p b hq
   refine weakL _ 600 hC G0F (m0 := []) hC0 (by omega) ?_ ?_ ?_
   ·simp [dom, fa_4, e1]
   ·simp [fa_ids, fa_4, fa_8, e1, e2, wprow, Int.emod_one, wi_zero]
   ·simp
  ·intro i hi
   have hi' : (i : Int) < 4 := by omega
   have hz : (0 : Int) ≤ i := by omega
   have hs : Int.bmod ((i : Int) + 1) 18446744073709551616 = ((i + 1 : Nat) : Int) := by rw [bm (by omega) (by omega)]; rfl
   unfold mwSt
   repeat' (first | refine gwA ?_ | ((first | refine gwR [] ?_ | refine gwD [] ?_); intro Q hQ hP; simp [hC, hY, hi, hi', hz, hs, fa_get]; refine hQ _ _ _ _ (by kernel_rfl) ?_; clear hQ hP Q) | (refine gwC ?_ ?_ <;> (intro hb; first | (cases hb; done) | skip)))
   refine GW_for 4 (mwSt2 408 false (um a) (um b) i) ?_ ?_ ?_
   ·refine weakL _ 600 hC G0F (m0 := []) hC0 (by omega) ?_ ?_ ?_
    ·simp [dom, wpcar_zero]
    ·have e : fa 8 .u64 (wpout (um a) (um b) i 0) = fa 8 .u64 (wi (wprow (um a) (um b) i)) := fa_congr fun j _ => by unfold wpout; rw [if_neg (by omega)]
     simp [e, fa_ids]
    ·simp
   ·intro k hk
    have hk' : (k : Int) < 4 := by omega
    have hkz : (0 : Int) ≤ k := by omega
    have hs2 : Int.bmod ((k : Int) + 1) 18446744073709551616 = ((k + 1 : Nat) : Int) := by rw [bm (by omega) (by omega)]; rfl
    have hik : Int.bmod ((i : Int) + k) 18446744073709551616 = ((i + k : Nat) : Int) := by rw [bm (by omega) (by omega)]; rfl
    have hik2 : i + k < 8 := by omega
    have hik3 : (i : Int) + k < 8 := by omega
    have hik4 : (0 : Int) ≤ (i : Int) + k := by omega
    have hik5 : ((i : Int) + k).toNat = i + k := by omega
    have hik6 : (i : Int) + k ≤ 7 := by omega
    have hik7 : i + k ≤ 7 := by omega
    have hn := wn_bd (um a) (um b) i k
    have hc := wpcar_bd (um a) (um b) i k
    unfold mwSt2
    repeat' (first | refine gwA ?_ | ((first | refine gwR [] ?_ | refine gwD [] ?_); intro Q hQ hP; simp [hC, hY, hi, hi', hz, hk, hk', hkz, hik, hik2, hik3, hik4, hik5, hik6, hik7, hs2, fa_get, fa_set, wi_ge, wi_lt, hn.1, hn.2.1, hn.2.2, hc.1]; refine hQ _ _ _ _ (by kernel_rfl) ?_; clear hQ hP Q) | (refine gwC ?_ ?_ <;> (intro hb; first | (cases hb; done) | skip)))
    refine weakL _ 600 hC G0F (m0 := []) hC0 (by omega) ?_ ?_ ?_
    ·simp [dom, hs2, wdivS]
    ·have e : fa 8 .u64 (upd (wpout (um a) (um b) i k) (i + k) (wi (wprow (um a) (um b) (i + 1)) (i + k))) = fa 8 .u64 (wpout (um a) (um b) i (k + 1)) := fa_congr fun j _ => wpout_step (um a) (um b) i k j
     simp [fa_ids, wmodS, e]
    ·simp
   ·have hi8 : Int.bmod ((i : Int) + 4) 18446744073709551616 = (i : Int) + 4 := bm (by omega) (by omega)
    have hi9 : (0 : Int) ≤ (i : Int) + 4 := by omega
    have hi10 : ((i : Int) + 4).toNat = i + 4 := by omega
    have hi11 : (i : Int) + 4 < 8 := by omega
    have hi12 : (i : Int) ≤ 3 := by omega
    have hi14 : i ≤ 3 := by omega
    have hi13 : i + 4 < 8 := by omega
    unfold mwSt2
    repeat' (first | refine gwA ?_ | ((first | refine gwR [] ?_ | refine gwD [] ?_); intro Q hQ hP; simp [hC, hY, hi, hi', hz, hs, hi8, hi9, hi10, hi11, hi12, hi13, hi14, fa_set]; refine hQ _ _ _ _ (by kernel_rfl) ?_; clear hQ hP Q) | (refine gwC ?_ ?_ <;> (intro hb; first | (cases hb; done) | skip)))
    refine weakL _ 600 hC G0F (m0 := []) hC0 (by omega) ?_ ?_ ?_
    ·simp [dom, hs]
    ·have e : fa 8 .u64 (upd (wpout (um a) (um b) i 4) (i + 4) (wpcar (um a) (um b) i 4)) = fa 8 .u64 (wi (wprow (um a) (um b) (i + 1))) := fa_congr fun j _ => wpout_end (um a) (um b) i hB0 hB1 j
     simp [fa_ids, e]
    ·simp
  ·unfold mwSt
   rw [eD]
   by_cases hx : orW D = 0
   ·have hov : ovD D = false := by rw [← hor]; simp [hx]
    unfold orW at hx
    repeat' (first | refine gwA ?_ | ((first | refine gwR [] ?_ | refine gwD [] ?_); intro Q hQ hP; simp [hC, hY, fa_8, fa_4, hx]; refine hQ _ _ _ _ (by kernel_rfl) ?_; clear hQ hP Q) | (refine gwC ?_ ?_ <;> (intro hb; first | (cases hb; done) | skip)))
    refine ⟨.inr trivial, ?_⟩
    rw [ovD] at hov
    simp [Tryz.results26, hs1 hn, mulO, hx]
    rw [Bool.eq_iff_iff]
    simp [ng_sz]
    have h3 := sz_small D hbd.1 (by simpa using hov)
    simp at hov
    omega
   ·have hov : ovD D = true := by rw [← hor]; simp [hx]
    unfold orW at hx
    have hx2 : (bitI .or .u64 (bitI .or .u64 (bitI .or .u64 (wi D 4) (wi D 5)) (wi D 6)) (wi D 7) == 0) = false := by simpa using hx
    have hx3 : (bitI .or .u64 (bitI .or .u64 (bitI .or .u64 (wi D 4) (wi D 5)) (wi D 6)) (wi D 7) != 0) = true := by simpa using hx
    repeat' (first | refine gwA ?_ | ((first | refine gwR [] ?_ | refine gwD [] ?_); intro Q hQ hP; simp [hC, hY, fa_8, fa_4, hx, hx2, hx3]; refine hQ _ _ _ _ (by kernel_rfl) ?_; clear hQ hP Q) | (refine gwC ?_ ?_ <;> (intro hb; first | (cases hb; done) | skip)))
    refine ⟨.inr trivial, ?_⟩
    rw [ovD] at hov
    simp [Tryz.results26, hs1 hn, mulO, hx]
    simp at hov
    omega
@[simp] theorem wMul (a b : Int) (K : Value → Prop) : callK Tryz.prog G0 26 #[Value.agg #[.int .u64 (wi (a) 0), .int .u64 (wi (a) 1), .int .u64 (wi (a) 2), .int .u64 (wi (a) 3)], Value.agg #[.int .u64 (wi (b) 0), .int .u64 (wi (b) 1), .int .u64 (wi (b) 2), .int .u64 (wi (b) 3)]] K ↔ K (.tuple #[wd (sz a * sz b), .bool (mulO a b)]) := callK_iff G0W (by kernel_rfl) (wmul_ret a b)

def erV (n : Int) : Value := .iface 35 (.int .i64 n)
@[simp] theorem erV_eq (n : Int) : erV n = .iface 35 (.int .i64 n) := rfl
def zB : Blk := ⟨#[.int .u64 0, .int .u64 0, .int .u64 0, .int .u64 0], .ty 30⟩
def eB (n : Int) : Blk := ⟨#[.int .i64 n], .ty 35⟩
theorem assert_ok (n : Int) (W : World) : (Instr.typeAssert (erV n) 20 35 true).run Tryz.prog W = .ok (.tuple #[.int .i64 n, .bool true]) W := by kernel_rfl
theorem assert_nil (W : World) : (Instr.typeAssert .nilIface 20 35 true).run Tryz.prog W = .ok (.tuple #[.int .i64 0, .bool false]) W := by kernel_rfl
theorem rep10 : Array.replicate 10 undef = #[undef, undef, undef, undef, undef, undef, undef, undef, undef, undef] := rfl
theorem rep7 : Array.replicate 7 undef = #[undef, undef, undef, undef, undef, undef, undef] := rfl
def capQ : Array Value := #[.pointer (some ⟨100000, 0, none⟩), .pointer (some ⟨100008, 0, none⟩)]
def hpQ (n : Int) : Hp := hpL G0 [(100000, zB), (100008, eB n)]
theorem hpQ_rst (n : Int) : rst (hpQ n) [100000, 100008] = hpQ n := hpL_rst G0F (by simp)
theorem hpQ_ids (n : Int) (k : Nat) (b : Blk) (D : Nat → Prop) (h : hpQ n k = some b) : b.ids D := by
 rcases hpL_mem h with h | h
 ·simp at h
  rcases h with ⟨_, rfl⟩ | ⟨_, rfl⟩ <;> simp [zB, eB]
 ·exact G0_closed _ _ _ h
theorem qrec (n : Int) : RecF Tryz.prog G0 113 capQ (hpQ 0) [100000, 100008] (erV n) [(100000, zB), (100008, eB n)] := by
 refine ⟨⟨_, Tryz.func113⟩, Tryz.call113, ?_, ?_⟩
 ·refine back_of (k := 2) Tryz.func113 rfl fun args c₀ cs W hk hu => ?_
  obtain ⟨p0, p1, rfl⟩ : ∃ p0 p1, args = #[p0, p1] := by
   rcases args with ⟨l⟩
   match l, hk with
   | [a, b], _ => exact ⟨a, b, rfl⟩
  have hn : Tryz.f113.ntmps = 12 := Tryz.ntmps113
  refine wpSIn_seq (wpSIn_region ?_)
  simp [wpOpsSIn, List.range, List.range.loop, go_sem, recoverD, hu, hn, assert_nil, rep10]
  refine wpSIn_seq (wpSIn_region ?_)
  simp [wpOpsSIn, List.range, List.range.loop, go_sem]
  refine wpSIn_cond (t := false) (by simp [Act.eval]) ?_
  refine wpSIn_of_wpIn rfl (wpIn_skip ?_)
  exact ⟨.inl rfl, rfl, rfl, rfl, .tuple #[], by simp [results, Tryz.results113, go_sem]⟩
 ·refine caught_of (B := 200000) (A := #[.pointer (some ⟨100000, 0, none⟩), .pointer (some ⟨100008, 0, none⟩), .int .i64 n, .bool true, .tuple #[.int .i64 n, .bool true], erV n, .tuple #[.int .i64 n, .bool true], .int .i64 n, .bool true, undef, undef, undef]) G0F (fun k hk => hpL_low (by simp) hk) Tryz.func113 rfl (by simp [Tryz.ntmps113]) ?_ ?_ ?_ ?_ ?_ ?_ (by omega) ?_ ?_
  ·rw [hpQ_rst]; simp [hpQ, dom]; exact flatV_ids (by simp)
  ·intro r c₀ cs W Q hu hQ
   have hrn : ∀ v, flatV v = true → ren r v = v := fun v hv => flatV_ren hv
   simp only [List.map_toArray, List.map_cons, List.map_nil, capQ] at hQ ⊢
   generalize ren r (.pointer (some ⟨100000, 0, none⟩)) = p0 at hQ ⊢
   generalize ren r (.pointer (some ⟨100008, 0, none⟩)) = p1 at hQ ⊢
   simp only [hrn (.int .i64 n) rfl, hrn (.bool true) rfl, hrn (erV n) rfl, hrn (.tuple #[.int .i64 n, .bool true]) (by simp), ren_undef] at hQ
   have hn : Tryz.f113.ntmps = 12 := Tryz.ntmps113
   have hA := assert_ok n
   simp only [erV_eq] at hA
   simp [wpOpsSIn, List.range, List.range.loop, go_sem, recoverD, hu, pand, erV, hn, hA, rep10]
   exact hQ
  ·rw [hpQ_rst]; exact fun k b h => hpQ_ids 0 k b _ h
  ·rw [hpQ_rst]; simp [hpQ, dom]
  ·intro k b c h1 h2
   simp at h1 h2
   rcases h1 with ⟨rfl, rfl⟩ | ⟨rfl, rfl⟩ <;> rcases h2 with ⟨e2, rfl⟩ | ⟨e2, rfl⟩ <;> first | rfl | omega
  ·simp [zB, eB]
  ·rw [hpQ_rst]; exact fun x hx => by simp [hpQ, show ¬ x = 100000 by omega, show ¬ x = 100008 by omega, show 100 ≤ x by omega]
  ·intro C hC hC0 hY
   rw [hpQ_rst]
   repeat' (first | refine gwA ?_ | ((first | refine gwR [] ?_ | refine gwD [] ?_); intro Q hQ hP; simp [hC, hY, hpQ, zB, eB]; refine hQ _ _ _ _ (by kernel_rfl) ?_; clear hQ hP Q) | (refine gwC ?_ ?_ <;> (intro hb; first | (cases hb; done) | skip)))
   refine ⟨.inl trivial, by simp [Tryz.results113], fun k hk => ?_⟩
   simp [zB, eB, hpQ]
theorem neq_nil0 (W : World) : ((do eqGuard .neq 20 (.tmp 4) (.const .nilIface) .nilIface .nilIface; binOp .neq 20 .nilIface .nilIface : Sem Value)).run Tryz.prog W = .ok (.bool false) W := by kernel_rfl
def ifE : Value → Bool
 | .iface T (.int .i64 _) => T == 35
 | _ => false
def ifN : Value → Value
 | .iface _ u => u
 | v => v
@[simp] theorem ifE_eq (T : TypeId) (n : Int) : ifE (.iface T (.int .i64 n)) = (T == 35) := nr rfl
@[simp] theorem ifN_eq (T : TypeId) (u : Value) : ifN (.iface T u) = u := nr rfl
theorem ifE_of {v : Value} (h : ifE v = true) : ∃ n, v = erV n := by
 unfold ifE at h
 split at h
 ·rename_i T n
  have : T = 35 := by simpa using h
  exact ⟨n, by rw [this]; rfl⟩
 ·cases h
theorem pureV_iff {P : Program} {o : Oper} {ts : Nat → Value} {hp : Hp} {K : Value → Prop} {v : Value} (ho : ∀ x ∈ o.op.operands.toList, okX ts hp x ∧ flatV (gev ts x) = true) (hv : flatV v = true) (hr : ∀ W, (execOp (gev ts) o).run P W = .ok (.value v) W) : pureV P o ts hp K ↔ K v :=
 ⟨fun ⟨_, u, _, h1, h2⟩ => by
  have := (hr default).symm.trans (h1 default)
  injection this with this; injection this with this; subst this; exact h2, fun h => ⟨ho, v, hv, hr, h⟩⟩
@[simp] theorem bin2_inil (P : Program) (op : BinOp) (T t : TypeId) (v : Value) : bin2 P op T (.iface t v) .nilIface = none := by cases op <;> rfl
@[simp] theorem binX_neqnil {dst : Option Tmp} {x : Operand} {T : TypeId} {ps : String} {af : Array Edge} {g : Option (Nat × Bool)} {ts : Nat → Value} {hp : Hp} {C : Eff → Prop} (h : ifE (gev ts x) = true) (hx : okX ts hp x) :
  binX Tryz.prog none ⟨dst, .binOp .neq 20 x (.const .nilIface) 20, T, ps, af, g⟩ ts hp C ↔ C (val (.bool true) []) := by
 obtain ⟨n, hn⟩ := ifE_of h
 refine pureV_iff (K := fun v => C (val v [])) (v := .bool true) ?_ rfl fun W => ?_
 ·intro y hy
  simp [Op.operands] at hy
  rcases hy with rfl | rfl
  ·exact ⟨hx, by rw [hn]; rfl⟩
  ·exact ⟨rfl, rfl⟩
 ·show (execOp (gev ts) ⟨dst, .binOp .neq 20 x (.const .nilIface) 20, T, ps, af, g⟩).run Tryz.prog W = _
  simp only [execOp, hn]
  kernel_rfl
@[simp] theorem opX_assertE {dst : Option Tmp} {x : Operand} {T : TypeId} {ps : String} {af : Array Edge} {g : Option (Nat × Bool)} {V : XV} {yc nk : Nat} {ts : Nat → Value} {hp : Hp} {C : Eff → Prop} (h : ifE (gev ts x) = true) (hx : okX ts hp x) :
  opX Tryz.prog G0 V yc ⟨dst, .typeAssert x 20 35 false, T, ps, af, g⟩ ts hp nk C ↔ C (val (ifN (gev ts x)) []) := by
 obtain ⟨n, hn⟩ := ifE_of h
 refine pureV_iff (K := fun v => C (val v [])) ?_ ?_ fun W => ?_
 ·intro y hy
  simp [Op.operands] at hy
  subst hy
  exact ⟨hx, by rw [hn]; rfl⟩
 ·rw [hn]; rfl
 ·simp only [execOp, hn]
  kernel_rfl
theorem rrec (n : Int) : RecF Tryz.prog G0 81 capQ (hpQ 0) [100000, 100008] (erV n) [(100000, zB), (100008, eB n)] := by
 refine ⟨⟨_, Tryz.func81⟩, Tryz.call81, ?_, ?_⟩
 ·refine back_of (k := 2) Tryz.func81 rfl fun args c₀ cs W hk hu => ?_
  obtain ⟨p0, p1, rfl⟩ : ∃ p0 p1, args = #[p0, p1] := by
   rcases args with ⟨l⟩
   match l, hk with
   | [a, b], _ => exact ⟨a, b, rfl⟩
  have hn : Tryz.f81.ntmps = 9 := Tryz.ntmps81
  refine wpSIn_seq (wpSIn_region ?_)
  simp [wpOpsSIn, List.range, List.range.loop, go_sem, recoverD, hu, hn, rep7]
  refine wpSIn_seq (wpSIn_region ?_)
  simp [wpOpsSIn, List.range, List.range.loop, go_sem, neq_nil0]
  refine wpSIn_cond (t := false) (by simp [Act.eval]) ?_
  refine wpSIn_of_wpIn rfl (wpIn_skip ?_)
  exact ⟨.inl rfl, rfl, rfl, rfl, .tuple #[], by simp [results, Tryz.results81, go_sem]⟩
 ·refine caught_of (B := 200000) (A := #[.pointer (some ⟨100000, 0, none⟩), .pointer (some ⟨100008, 0, none⟩), erV n, erV n, undef, undef, undef, undef, undef]) G0F (fun k hk => hpL_low (by simp) hk) Tryz.func81 rfl (by simp [Tryz.ntmps81]) ?_ ?_ ?_ ?_ ?_ ?_ (by omega) ?_ ?_
  ·rw [hpQ_rst]; simp [hpQ, dom]
  ·intro r c₀ cs W Q hu hQ
   have hrn : ∀ v, flatV v = true → ren r v = v := fun v hv => flatV_ren hv
   simp only [List.map_toArray, List.map_cons, List.map_nil, capQ] at hQ ⊢
   generalize ren r (.pointer (some ⟨100000, 0, none⟩)) = p0 at hQ ⊢
   generalize ren r (.pointer (some ⟨100008, 0, none⟩)) = p1 at hQ ⊢
   simp only [hrn (erV n) rfl, ren_undef] at hQ
   have hn : Tryz.f81.ntmps = 9 := Tryz.ntmps81
   simp [wpOpsSIn, List.range, List.range.loop, go_sem, recoverD, hu, pand, erV, hn, rep7]
   exact hQ
  ·rw [hpQ_rst]; exact fun k b h => hpQ_ids 0 k b _ h
  ·rw [hpQ_rst]; simp [hpQ, dom]
  ·intro k b c h1 h2
   simp at h1 h2
   rcases h1 with ⟨rfl, rfl⟩ | ⟨rfl, rfl⟩ <;> rcases h2 with ⟨e2, rfl⟩ | ⟨e2, rfl⟩ <;> first | rfl | omega
  ·simp [zB, eB]
  ·rw [hpQ_rst]; exact fun x hx => by simp [hpQ, show ¬ x = 100000 by omega, show ¬ x = 100008 by omega, show 100 ≤ x by omega]
  ·intro C hC hC0 hY
   rw [hpQ_rst]
   repeat' (first | refine gwA ?_ | ((first | refine gwR [] ?_ | refine gwD [] ?_); intro Q hQ hP; simp [hC, hY, hpQ, zB, eB]; refine hQ _ _ _ _ (by kernel_rfl) ?_; clear hQ hP Q) | (refine gwC ?_ ?_ <;> (intro hb; first | (cases hb; done) | skip)))
   refine ⟨.inl trivial, by simp [Tryz.results81], fun k hk => ?_⟩
   simp [zB, eB, hpQ]
theorem qtold_ret {g : FuncId} {capv : List Value} {hp : Hp} {rs : List Nat} {x0 x1 x2 x3 : Int} {ws : List (Nat × Blk)} (hG : ∀ k, k < 100 → hp k = G0 k) (hrs : ∀ k ∈ rs, k < 100000) (hc : capv.isEmpty = false) (hpl : capv.all plain0 = true)
  (h : Fun Tryz.prog G0 g capv.toArray hp rs (.ret (.agg #[.int .u64 x0, .int .u64 x1, .int .u64 x2, .int .u64 x3]) ws)) :
  Fun Tryz.prog G0 98 #[.func (.func g) #[] capv.toArray] hp rs (.ret (.tuple #[.agg #[.int .u64 x0, .int .u64 x1, .int .u64 x2, .int .u64 x3], .int .i64 0]) ws) := by
 have hids : ∀ x ∈ capv, ids0 (dom (rst hp rs)) x := fun x hx => (ids_plain0 (List.all_eq_true.1 hpl x hx)).1 (h.ids x (by simpa using hx))
 have hbig : ∀ x, 100000 ≤ x → rst hp rs x = none := fun x hx => by
  unfold rst; rw [if_neg]; rintro (h1 | h1)
  ·omega
  ·have := hrs x h1; omega
 refine fun_rec (out := .ret (.tuple #[.agg #[.int .u64 x0, .int .u64 x1, .int .u64 x2, .int .u64 x3], .int .i64 0]) ws) (B := 100000) (B1 := 100016) (id := 1) (t := 4) (ts1 := upd (upd (fun t => [Value.func (.func g) #[] capv.toArray][t]?.getD undef) 2 (gptr 100000)) 3 (gptr 100008))
  (hp1 := upd (upd (rst hp rs) 100000 (some zB)) 100008 (some (eB 0))) capQ G0F hG Tryz.func98 rfl (by simp [Tryz.ntmps98]) Tryz.call98 ⟨_, _, _, _, qrec 0⟩ ?_ h.closed ?_ (by simp [Tryz.ntmps98]) (by omega) hbig ?_ ?_ ?_ ?_ ?_ ?_
 ·simpa using hids
 ·exact ⟨flatV_ids (by simp), h.fits.2⟩
 ·intro C hC hC0 hY
  repeat' (first | refine gwA ?_ | ((first | refine gwR [] ?_ | refine gwD [] ?_); intro Q hQ hP; simp [hC, hY]; refine hQ _ _ _ _ (by kernel_rfl) ?_; clear hQ hP Q) | (refine gwC ?_ ?_ <;> (intro hb; first | (cases hb; done) | skip)))
  exact ⟨trivial, rfl⟩
 ·intro k hk
  have h1 : ¬ k = 100000 := fun e => hk (hbig k (by omega))
  have h2 : ¬ k = 100008 := fun e => hk (hbig k (by omega))
  simp [h1, h2]
 ·simp [okT, capQ]
 ·simp [capQ]
 ·simp [capQ]
 ·intro C d hC hC0 hY
  refine GW_seq ?_
  refine GW_region' [] (by kernel_rfl) ?_; intro Q hQ hP; simp [hC, hY, hc, hpl]
  have hk1 : ∀ k ∈ keys ws, k < 100000 := fun k hk => hrs k (h.fits.2.1 k hk).1
  have hk2 : (100000 : Nat) ∉ keys ws := fun hm => by have := hk1 _ hm; omega
  have hk3 : (100008 : Nat) ∉ keys ws := fun hm => by have := hk1 _ hm; omega
  have w1 : updL (upd (upd (rst hp rs) 100000 (some zB)) 100008 (some (eB 0))) ws 100000 = some zB := by
   rw [updL_other hk2]; simp
  have w2 : updL (upd (upd (rst hp rs) 100000 (some zB)) 100008 (some (eB 0))) ws 100008 = some (eB 0) := by
   rw [updL_other hk3]; simp
  refine heapK_of (hp' := hp) h (fun k hk => ?_) hG trivial ?_
  ·have := hrs k hk
   simp [rst, hk, show ¬ k = 100000 by omega, show ¬ k = 100008 by omega]
  simp only [zB, eB] at w1 w2
  simp [w1, w2, zB, eB]
  refine hQ _ _ _ _ ?_
  repeat' (first | refine gwA ?_ | ((first | refine gwR [] ?_ | refine gwD [] ?_); intro Q hQ hP; simp [hC, hY, w1, w2, zB, eB]; refine hQ _ _ _ _ (by kernel_rfl) ?_; clear hQ hP Q) | (refine gwC ?_ ?_ <;> (intro hb; first | (cases hb; done) | skip)))
  refine ⟨.inr rfl, by simp [Tryz.results98], fun k hk => ?_⟩
  have h1 : ¬ k = 100000 := fun e => hk (hbig k (by omega))
  have h2 : ¬ k = 100008 := fun e => hk (hbig k (by omega))
  rw [updL_comm_upd hk3, updL_comm_upd hk2]
  simp [h1, h2]
theorem qtold_pan {g : FuncId} {capv : List Value} {hp : Hp} {rs : List Nat} {n : Int} (hG : ∀ k, k < 100 → hp k = G0 k) (hrs : ∀ k ∈ rs, k < 100000) (hc : capv.isEmpty = false) (hpl : capv.all plain0 = true)
  (h : Fun Tryz.prog G0 g capv.toArray hp rs (.pan (erV n))) :
  Fun Tryz.prog G0 98 #[.func (.func g) #[] capv.toArray] hp rs (.ret (.tuple #[.agg #[.int .u64 0, .int .u64 0, .int .u64 0, .int .u64 0], .int .i64 n]) []) := by
 have hids : ∀ x ∈ capv, ids0 (dom (rst hp rs)) x := fun x hx => (ids_plain0 (List.all_eq_true.1 hpl x hx)).1 (h.ids x (by simpa using hx))
 have hbig : ∀ x, 100000 ≤ x → rst hp rs x = none := fun x hx => by
  unfold rst; rw [if_neg]; rintro (h1 | h1)
  ·omega
  ·have := hrs x h1; omega
 refine fun_rec (out := .pan (erV n) [100000, 100008] [(100000, zB), (100008, eB n)] (.tuple #[.agg #[.int .u64 0, .int .u64 0, .int .u64 0, .int .u64 0], .int .i64 n])) (B := 100000) (B1 := 100016) (id := 1) (t := 4) (ts1 := upd (upd (fun t => [Value.func (.func g) #[] capv.toArray][t]?.getD undef) 2 (gptr 100000)) 3 (gptr 100008))
  (hp1 := upd (upd (rst hp rs) 100000 (some zB)) 100008 (some (eB 0))) capQ G0F hG Tryz.func98 rfl (by simp [Tryz.ntmps98]) Tryz.call98 ⟨_, _, _, _, qrec 0⟩ ?_ h.closed ?_ (by simp [Tryz.ntmps98]) (by omega) hbig ?_ ?_ ?_ ?_ ?_ ?_
 ·simpa using hids
 ·exact ⟨flatV_ids (by simp), by simp [keys], by simp, by simp⟩
 ·intro C hC hC0 hY
  repeat' (first | refine gwA ?_ | ((first | refine gwR [] ?_ | refine gwD [] ?_); intro Q hQ hP; simp [hC, hY]; refine hQ _ _ _ _ (by kernel_rfl) ?_; clear hQ hP Q) | (refine gwC ?_ ?_ <;> (intro hb; first | (cases hb; done) | skip)))
  exact ⟨trivial, rfl⟩
 ·intro k hk
  have h1 : ¬ k = 100000 := fun e => hk (hbig k (by omega))
  have h2 : ¬ k = 100008 := fun e => hk (hbig k (by omega))
  simp [h1, h2]
 ·simp [okT, capQ]
 ·simp [capQ]
 ·simp [capQ]
 ·intro C d hC hC0 hY
  refine GW_seq ?_
  refine GW_region' [] (by kernel_rfl) ?_; intro Q hQ hP; simp [hC, hY, hc, hpl]
  refine heapK_of (hp' := hp) h (fun k hk => ?_) hG trivial ?_
  ·have := hrs k hk
   simp [rst, hk, show ¬ k = 100000 by omega, show ¬ k = 100008 by omega]
  simp
  refine hP _ _ fun yc => ?_
  simp only [thenG_panic]
  have e : ∀ k, (k < 100 ∨ k ∈ [100000, 100008]) → hpQ 0 k = upd (upd (rst hp rs) 100000 (some zB)) 100008 (some (eB 0)) k := fun k hk => by
   rcases hk with hk | hk
   ·simp [hpQ, show ¬ k = 100000 by omega, show ¬ k = 100008 by omega, rst, hk, hG k hk]
   ·simp at hk; rcases hk with rfl | rfl <;> simp [hpQ]
  have er : rst (upd (upd (rst hp rs) 100000 (some zB)) 100008 (some (eB 0))) [100000, 100008] = hpQ 0 := by rw [← rst_congr e, hpQ_rst]
  refine ⟨rfl, by simp [Tryz.results98, zB, eB], fun k hk => rfl, (qrec n).under e, fun k hk => ?_, fun k hk => ?_, ?_⟩
  ·rw [er] at hk; unfold dom at hk ⊢
   by_cases h1 : k = 100000
   ·subst h1; simp
   ·by_cases h2 : k = 100008
    ·subst h2; simp
    ·simp only [hpQ, hpL_cons, hpL_nil, h1, h2, if_false] at hk
     have hk100 := G0_dom hk
     simp [h1, h2, rst, hk100, hG k hk100]; exact hk
  ·rw [er]
   simp [keys] at hk
   rcases hk with rfl | rfl
   ·exact ⟨by simp [hpQ, dom], by omega, fun hd => hd (hbig _ (by omega))⟩
   ·exact ⟨by simp [hpQ, dom], by omega, fun hd => hd (hbig _ (by omega))⟩
  ·rw [er]; exact fun k b hk => hpQ_ids 0 k b _ hk
theorem rtold_ret {g : FuncId} {capv : List Value} {hp : Hp} {rs : List Nat} {x0 x1 x2 x3 : Int} {ws : List (Nat × Blk)} (hG : ∀ k, k < 100 → hp k = G0 k) (hrs : ∀ k ∈ rs, k < 100000) (hc : capv.isEmpty = false) (hpl : capv.all plain0 = true)
  (h : Fun Tryz.prog G0 g capv.toArray hp rs (.ret (.agg #[.int .u64 x0, .int .u64 x1, .int .u64 x2, .int .u64 x3]) ws)) :
  Fun Tryz.prog G0 57 #[.func (.func g) #[] capv.toArray] hp rs (.ret (.tuple #[.agg #[.int .u64 x0, .int .u64 x1, .int .u64 x2, .int .u64 x3], .int .i64 0]) ws) := by
 have hids : ∀ x ∈ capv, ids0 (dom (rst hp rs)) x := fun x hx => (ids_plain0 (List.all_eq_true.1 hpl x hx)).1 (h.ids x (by simpa using hx))
 have hbig : ∀ x, 100000 ≤ x → rst hp rs x = none := fun x hx => by
  unfold rst; rw [if_neg]; rintro (h1 | h1)
  ·omega
  ·have := hrs x h1; omega
 refine fun_rec (out := .ret (.tuple #[.agg #[.int .u64 x0, .int .u64 x1, .int .u64 x2, .int .u64 x3], .int .i64 0]) ws) (B := 100000) (B1 := 100016) (id := 1) (t := 4) (ts1 := upd (upd (fun t => [Value.func (.func g) #[] capv.toArray][t]?.getD undef) 2 (gptr 100000)) 3 (gptr 100008))
  (hp1 := upd (upd (rst hp rs) 100000 (some zB)) 100008 (some (eB 0))) capQ G0F hG Tryz.func57 rfl (by simp [Tryz.ntmps57]) Tryz.call57 ⟨_, _, _, _, rrec 0⟩ ?_ h.closed ?_ (by simp [Tryz.ntmps57]) (by omega) hbig ?_ ?_ ?_ ?_ ?_ ?_
 ·simpa using hids
 ·exact ⟨flatV_ids (by simp), h.fits.2⟩
 ·intro C hC hC0 hY
  repeat' (first | refine gwA ?_ | ((first | refine gwR [] ?_ | refine gwD [] ?_); intro Q hQ hP; simp [hC, hY]; refine hQ _ _ _ _ (by kernel_rfl) ?_; clear hQ hP Q) | (refine gwC ?_ ?_ <;> (intro hb; first | (cases hb; done) | skip)))
  exact ⟨trivial, rfl⟩
 ·intro k hk
  have h1 : ¬ k = 100000 := fun e => hk (hbig k (by omega))
  have h2 : ¬ k = 100008 := fun e => hk (hbig k (by omega))
  simp [h1, h2]
 ·simp [okT, capQ]
 ·simp [capQ]
 ·simp [capQ]
 ·intro C d hC hC0 hY
  refine GW_seq ?_
  refine GW_region' [] (by kernel_rfl) ?_; intro Q hQ hP; simp [hC, hY, hc, hpl]
  have hk1 : ∀ k ∈ keys ws, k < 100000 := fun k hk => hrs k (h.fits.2.1 k hk).1
  have hk2 : (100000 : Nat) ∉ keys ws := fun hm => by have := hk1 _ hm; omega
  have hk3 : (100008 : Nat) ∉ keys ws := fun hm => by have := hk1 _ hm; omega
  have w1 : updL (upd (upd (rst hp rs) 100000 (some zB)) 100008 (some (eB 0))) ws 100000 = some zB := by
   rw [updL_other hk2]; simp
  have w2 : updL (upd (upd (rst hp rs) 100000 (some zB)) 100008 (some (eB 0))) ws 100008 = some (eB 0) := by
   rw [updL_other hk3]; simp
  refine heapK_of (hp' := hp) h (fun k hk => ?_) hG trivial ?_
  ·have := hrs k hk
   simp [rst, hk, show ¬ k = 100000 by omega, show ¬ k = 100008 by omega]
  simp only [zB, eB] at w1 w2
  simp [w1, w2, zB, eB]
  refine hQ _ _ _ _ ?_
  repeat' (first | refine gwA ?_ | ((first | refine gwR [] ?_ | refine gwD [] ?_); intro Q hQ hP; simp [hC, hY, w1, w2, zB, eB]; refine hQ _ _ _ _ (by kernel_rfl) ?_; clear hQ hP Q) | (refine gwC ?_ ?_ <;> (intro hb; first | (cases hb; done) | skip)))
  refine ⟨.inr rfl, by simp [Tryz.results57], fun k hk => ?_⟩
  have h1 : ¬ k = 100000 := fun e => hk (hbig k (by omega))
  have h2 : ¬ k = 100008 := fun e => hk (hbig k (by omega))
  rw [updL_comm_upd hk3, updL_comm_upd hk2]
  simp [h1, h2]
theorem rtold_pan {g : FuncId} {capv : List Value} {hp : Hp} {rs : List Nat} {n : Int} (hG : ∀ k, k < 100 → hp k = G0 k) (hrs : ∀ k ∈ rs, k < 100000) (hc : capv.isEmpty = false) (hpl : capv.all plain0 = true)
  (h : Fun Tryz.prog G0 g capv.toArray hp rs (.pan (erV n))) :
  Fun Tryz.prog G0 57 #[.func (.func g) #[] capv.toArray] hp rs (.ret (.tuple #[.agg #[.int .u64 0, .int .u64 0, .int .u64 0, .int .u64 0], .int .i64 n]) []) := by
 have hids : ∀ x ∈ capv, ids0 (dom (rst hp rs)) x := fun x hx => (ids_plain0 (List.all_eq_true.1 hpl x hx)).1 (h.ids x (by simpa using hx))
 have hbig : ∀ x, 100000 ≤ x → rst hp rs x = none := fun x hx => by
  unfold rst; rw [if_neg]; rintro (h1 | h1)
  ·omega
  ·have := hrs x h1; omega
 refine fun_rec (out := .pan (erV n) [100000, 100008] [(100000, zB), (100008, eB n)] (.tuple #[.agg #[.int .u64 0, .int .u64 0, .int .u64 0, .int .u64 0], .int .i64 n])) (B := 100000) (B1 := 100016) (id := 1) (t := 4) (ts1 := upd (upd (fun t => [Value.func (.func g) #[] capv.toArray][t]?.getD undef) 2 (gptr 100000)) 3 (gptr 100008))
  (hp1 := upd (upd (rst hp rs) 100000 (some zB)) 100008 (some (eB 0))) capQ G0F hG Tryz.func57 rfl (by simp [Tryz.ntmps57]) Tryz.call57 ⟨_, _, _, _, rrec 0⟩ ?_ h.closed ?_ (by simp [Tryz.ntmps57]) (by omega) hbig ?_ ?_ ?_ ?_ ?_ ?_
 ·simpa using hids
 ·exact ⟨flatV_ids (by simp), by simp [keys], by simp, by simp⟩
 ·intro C hC hC0 hY
  repeat' (first | refine gwA ?_ | ((first | refine gwR [] ?_ | refine gwD [] ?_); intro Q hQ hP; simp [hC, hY]; refine hQ _ _ _ _ (by kernel_rfl) ?_; clear hQ hP Q) | (refine gwC ?_ ?_ <;> (intro hb; first | (cases hb; done) | skip)))
  exact ⟨trivial, rfl⟩
 ·intro k hk
  have h1 : ¬ k = 100000 := fun e => hk (hbig k (by omega))
  have h2 : ¬ k = 100008 := fun e => hk (hbig k (by omega))
  simp [h1, h2]
 ·simp [okT, capQ]
 ·simp [capQ]
 ·simp [capQ]
 ·intro C d hC hC0 hY
  refine GW_seq ?_
  refine GW_region' [] (by kernel_rfl) ?_; intro Q hQ hP; simp [hC, hY, hc, hpl]
  refine heapK_of (hp' := hp) h (fun k hk => ?_) hG trivial ?_
  ·have := hrs k hk
   simp [rst, hk, show ¬ k = 100000 by omega, show ¬ k = 100008 by omega]
  simp
  refine hP _ _ fun yc => ?_
  simp only [thenG_panic]
  have e : ∀ k, (k < 100 ∨ k ∈ [100000, 100008]) → hpQ 0 k = upd (upd (rst hp rs) 100000 (some zB)) 100008 (some (eB 0)) k := fun k hk => by
   rcases hk with hk | hk
   ·simp [hpQ, show ¬ k = 100000 by omega, show ¬ k = 100008 by omega, rst, hk, hG k hk]
   ·simp at hk; rcases hk with rfl | rfl <;> simp [hpQ]
  have er : rst (upd (upd (rst hp rs) 100000 (some zB)) 100008 (some (eB 0))) [100000, 100008] = hpQ 0 := by rw [← rst_congr e, hpQ_rst]
  refine ⟨rfl, by simp [Tryz.results57, zB, eB], fun k hk => rfl, (rrec n).under e, fun k hk => ?_, fun k hk => ?_, ?_⟩
  ·rw [er] at hk; unfold dom at hk ⊢
   by_cases h1 : k = 100000
   ·subst h1; simp
   ·by_cases h2 : k = 100008
    ·subst h2; simp
    ·simp only [hpQ, hpL_cons, hpL_nil, h1, h2, if_false] at hk
     have hk100 := G0_dom hk
     simp [h1, h2, rst, hk100, hG k hk100]; exact hk
  ·rw [er]
   simp [keys] at hk
   rcases hk with rfl | rfl
   ·exact ⟨by simp [hpQ, dom], by omega, fun hd => hd (hbig _ (by omega))⟩
   ·exact ⟨by simp [hpQ, dom], by omega, fun hd => hd (hbig _ (by omega))⟩
  ·rw [er]; exact fun k b hk => hpQ_ids 0 k b _ hk

def nbits (x : Int) : Int := if x ≤ 0 then 0 else (Nat.log2 x.toNat : Int) + 1
theorem nbits_pos {x : Int} (h : 0 < x) : ∃ k : Nat, nbits x = k + 1 ∧ 2 ^ k ≤ x ∧ x < 2 ^ (k + 1) := by
 refine ⟨Nat.log2 x.toNat, by unfold nbits; rw [if_neg (by omega)], ?_, ?_⟩
 ·have := Nat.log2_self_le (n := x.toNat) (by omega)
  have h2 : ((2 ^ Nat.log2 x.toNat : Nat) : Int) ≤ (x.toNat : Int) := by exact_mod_cast this
  rw [Int.toNat_of_nonneg (by omega)] at h2
  exact_mod_cast h2
 ·have := Nat.lt_log2_self (n := x.toNat)
  have h2 : (x.toNat : Int) < ((2 ^ (Nat.log2 x.toNat + 1) : Nat) : Int) := by exact_mod_cast this
  rw [Int.toNat_of_nonneg (by omega)] at h2
  exact_mod_cast h2
theorem nbits_is {x : Int} {k : Nat} (h1 : 2 ^ k ≤ x) (h2 : x < 2 ^ (k + 1)) : nbits x = k + 1 := by
 have hp : (0 : Int) < 2 ^ k := Int.pow_pos (by omega)
 unfold nbits
 rw [if_neg (by omega)]
 have : Nat.log2 x.toNat = k := (Nat.log2_eq_iff (by omega)).2 ⟨by
  have : ((2 ^ k : Nat) : Int) ≤ (x.toNat : Int) := by rw [Int.toNat_of_nonneg (by omega)]; exact_mod_cast h1
  exact_mod_cast this, by
  have : (x.toNat : Int) < ((2 ^ (k + 1) : Nat) : Int) := by rw [Int.toNat_of_nonneg (by omega)]; exact_mod_cast h2
  exact_mod_cast this⟩
 rw [this]
theorem nbits_div {x : Int} (j : Nat) (h : 2 ^ j ≤ x) : nbits x = j + nbits (x / 2 ^ j) := by
 have hp : (0 : Int) < 2 ^ j := Int.pow_pos (by omega)
 have h1 : 0 < x / 2 ^ j := by
  have := (Int.le_ediv_iff_mul_le hp (a := 1) (b := x)).2 (by omega); omega
 obtain ⟨k, e, l1, l2⟩ := nbits_pos h1
 rw [e]
 have := nbits_is (x := x) (k := j + k) (by
  have := (Int.le_ediv_iff_mul_le hp).1 l1
  rw [Int.pow_add, Int.mul_comm]; exact this) (by
  have := (Int.ediv_lt_iff_lt_mul hp).1 l2
  rw [Nat.add_assoc, Int.pow_add, Int.mul_comm]; exact this)
 rw [this]; omega
theorem idvS_tab {s : ByteArray} {m : Int} {C : Eff → Prop} (h0 : 0 ≤ m) (h1 : m < 256) (ht : ∀ k : Fin 256, (s[k.1]?).map (fun b => b.toNat) = some (if k.1 = 0 then 0 else Nat.log2 k.1 + 1)) (h : C (val (.int .u8 (nbits m)) [])) : idvS s m C := by
 have h2 := ht ⟨m.toNat, by omega⟩
 cases hb : s[m.toNat]? with
 | none => simp [hb] at h2
 | some b =>
  simp only [hb, Option.map_some, Option.some.injEq] at h2
  rw [idvS_at h0 hb, h2]
  have : ((if m.toNat = 0 then 0 else Nat.log2 m.toNat + 1 : Nat) : Int) = nbits m := by
   unfold nbits
   by_cases e : m ≤ 0
   ·rw [if_pos e, if_pos (by omega)]; rfl
   ·rw [if_neg e, if_neg (by omega)]; rfl
  exact this ▸ h
theorem nbits_lt {x : Int} (h : x < 256) : 0 ≤ nbits x ∧ nbits x ≤ 8 := by
 by_cases h0 : 0 < x
 ·obtain ⟨k, e, l1, l2⟩ := nbits_pos h0
  rw [e]
  have : k < 8 := Classical.byContradiction fun hk => by
   have : (2 : Int) ^ 8 ≤ 2 ^ k := by exact_mod_cast Nat.pow_le_pow_right (by omega) (by omega : 8 ≤ k)
   omega
  omega
 ·unfold nbits; rw [if_pos (by omega)]; omega
@[simp] theorem wrap_u8 (z : Int) : IntKind.u8.wrap z = z % 256 := rfl
set_option maxHeartbeats 1000000 in
theorem len64_ret (x : Int) (h0 : 0 ≤ x) (h1 : x < 18446744073709551616) : Ret Tryz.prog G0 131 #[.int .u64 x] (.int .i64 (nbits x)) := by
 refine ret_of G0F Tryz.func131 rfl Tryz.call131 rfl (by simp) (by simp [Tryz.ntmps131]) ?_
 intro C hC hC0 hY
 have f32 : ∀ z : Int, z.fdiv 4294967296 = z / 4294967296 := fun z => Int.fdiv_eq_ediv_of_nonneg z (by omega)
 have f16 : ∀ z : Int, z.fdiv 65536 = z / 65536 := fun z => Int.fdiv_eq_ediv_of_nonneg z (by omega)
 have f8 : ∀ z : Int, z.fdiv 256 = z / 256 := fun z => Int.fdiv_eq_ediv_of_nonneg z (by omega)
 have n32 : 4294967296 ≤ x → nbits x = 32 + nbits (x / 4294967296) := nbits_div 32
 have n16 : ∀ y : Int, 65536 ≤ y → nbits y = 16 + nbits (y / 65536) := fun y => nbits_div 16
 have n8 : ∀ y : Int, 256 ≤ y → nbits y = 8 + nbits (y / 256) := fun y => nbits_div 8
 repeat' (first | refine gwA ?_ | ((first | refine gwR [] ?_ | refine gwD [] ?_); intro Q hQ hP; simp [hC, hY, f32, f16, f8]; refine hQ _ _ _ _ (by kernel_rfl) ?_; clear hQ hP Q) | (refine gwC ?_ ?_ <;> (intro hb; first | (cases hb; done) | skip)))
 all_goals
  rename_i c1 c2
  simp at c1 c2 hb
  refine GW_region' [] (by kernel_rfl) ?_; intro Q hQ hP; simp [hC, hY]
  refine idvS_tab (by omega) (by omega) (by decide +kernel) ?_
  simp
  refine hQ _ _ _ _ ?_
  repeat' (first | refine gwA ?_ | ((first | refine gwR [] ?_ | refine gwD [] ?_); intro Q hQ hP; simp [hC, hY]; refine hQ _ _ _ _ (by kernel_rfl) ?_; clear hQ hP Q) | (refine gwC ?_ ?_ <;> (intro hb; first | (cases hb; done) | skip)))
  refine ⟨.inr trivial, ?_⟩
  simp [Tryz.results131]
  rw [Int.emod_eq_of_lt (by omega) (by omega)]
  have k2 := n16 x
  have k3 := n16 (x / 4294967296)
  have k4 := n8 x
  have k5 := n8 (x / 4294967296)
  have k6 := n8 (x / 65536)
  have k7 := n8 (x / 4294967296 / 65536)
  have b1 := nbits_lt (x := x)
  have b2 := nbits_lt (x := x / 256)
  have b3 := nbits_lt (x := x / 65536)
  have b4 := nbits_lt (x := x / 65536 / 256)
  have b5 := nbits_lt (x := x / 4294967296)
  have b6 := nbits_lt (x := x / 4294967296 / 256)
  have b7 := nbits_lt (x := x / 4294967296 / 65536)
  have b8 := nbits_lt (x := x / 4294967296 / 65536 / 256)
  rw [bm (by omega) (by omega)]
  try omega
@[simp] theorem len64 (x : Int) (h0 : 0 ≤ x) (h1 : x < 18446744073709551616) (K : Value → Prop) : callK Tryz.prog G0 131 #[.int .u64 x] K ↔ K (.int .i64 (nbits x)) := callK_iff G0W (by kernel_rfl) (len64_ret x h0 h1)
def uz (z : Int) : Int := z % 115792089237316195423570985008687907853269984665640564039457584007913129639936
theorem nbits_bd {x : Int} (j : Nat) (h : x < 2 ^ j) : 0 ≤ nbits x ∧ nbits x ≤ j := by
 by_cases h0 : 0 < x
 ·obtain ⟨k, e, l1, l2⟩ := nbits_pos h0
  rw [e]
  have : k < j := Classical.byContradiction fun hk => by
   have : (2 : Int) ^ j ≤ 2 ^ k := by exact_mod_cast Nat.pow_le_pow_right (by omega) (by omega : j ≤ k)
   omega
  omega
 ·unfold nbits; rw [if_pos (by omega)]; omega
theorem nb_word (z : Int) (k : Nat) : 0 ≤ nbits (wi z k) ∧ nbits (wi z k) ≤ 64 := nbits_bd 64 (by have := wi_lt z k; omega)
theorem size_3 (z : Int) (h : ¬ wi z 3 = 0) : nbits (uz z) = 192 + nbits (wi z 3) := by
 have h0 := wi_ge z 3
 have e : uz z / 2 ^ 192 = wi z 3 := by unfold uz wi; omega
 have := nbits_div (x := uz z) 192 (by unfold wi at h h0; unfold uz; omega)
 rw [this, e]; rfl
theorem size_2 (z : Int) (h3 : wi z 3 = 0) (h : ¬ wi z 2 = 0) : nbits (uz z) = 128 + nbits (wi z 2) := by
 have h0 := wi_ge z 2
 have e : uz z / 2 ^ 128 = wi z 2 := by unfold wi at h3; unfold uz wi; omega
 have := nbits_div (x := uz z) 128 (by unfold wi at h h0; unfold uz; omega)
 rw [this, e]; rfl
theorem size_1 (z : Int) (h3 : wi z 3 = 0) (h2 : wi z 2 = 0) (h : ¬ wi z 1 = 0) : nbits (uz z) = 64 + nbits (wi z 1) := by
 have h0 := wi_ge z 1
 have e : uz z / 2 ^ 64 = wi z 1 := by unfold wi at h3 h2; unfold uz wi; omega
 have := nbits_div (x := uz z) 64 (by unfold wi at h h0; unfold uz; omega)
 rw [this, e]; rfl
theorem size_0 (z : Int) (h3 : wi z 3 = 0) (h2 : wi z 2 = 0) (h1 : wi z 1 = 0) : uz z = wi z 0 := by
 unfold wi at h3 h2 h1; unfold uz wi; omega
theorem must_t (n : Int) : RetP Tryz.prog G0 114 #[.bool true, .int .i64 n] (.ret (.tuple #[])) := by
 refine retp_of G0F Tryz.func114 rfl Tryz.call114 (fun v h => by cases h; simp) (by simp) (by simp [Tryz.ntmps114]) ?_
 intro C hC hC0 hY
 repeat' (first | refine gwA ?_ | ((first | refine gwR [] ?_ | refine gwD [] ?_); intro Q hQ hP; simp [hC, hY]; (first | refine hQ _ _ _ _ (by kernel_rfl) ?_ | refine hP _ _ (by kernel_rfl) fun _ => ?_); clear hQ hP Q) | (refine gwC ?_ ?_ <;> (intro hb; first | (cases hb; done) | skip)))
 exact ⟨.inl trivial, by simp [Tryz.results114]⟩
theorem must_f (n : Int) : RetP Tryz.prog G0 114 #[.bool false, .int .i64 n] (.pan (erV n)) := by
 refine retp_of G0F Tryz.func114 rfl Tryz.call114 (fun v h => by cases h) (by simp) (by simp [Tryz.ntmps114]) ?_
 intro C hC hC0 hY
 repeat' (first | refine gwA ?_ | ((first | refine gwR [] ?_ | refine gwD [] ?_); intro Q hQ hP; simp [hC, hY]; (first | refine hQ _ _ _ _ (by kernel_rfl) ?_ | refine hP _ _ (by kernel_rfl) fun _ => ?_); clear hQ hP Q) | (refine gwC ?_ ?_ <;> (intro hb; first | (cases hb; done) | skip)))
 rfl
theorem sure_f (z : Int) : RetP Tryz.prog G0 115 #[wd z, .bool false] (.ret (wd z)) := by
 refine retp_of G0F Tryz.func115 rfl Tryz.call115 (fun v h => by cases h; simp) (by simp) (by simp [Tryz.ntmps115]) ?_
 intro C hC hC0 hY
 repeat' (first | refine gwA ?_ | ((first | refine gwR [1000114] ?_ | refine gwD [1000114] ?_); intro Q hQ hP; simp [hC, hY]; (repeat ((first | (refine callP_of (must_t 20) ?_)); try simp [hC, hY])); (first | refine hQ _ _ _ _ (by kernel_rfl) ?_ | refine hP _ _ (by kernel_rfl) fun _ => ?_); clear hQ hP Q) | (refine gwC ?_ ?_ <;> (intro hb; first | (cases hb; done) | skip)))
 exact ⟨.inr trivial, by simp [Tryz.results115]⟩
theorem size_ret (z : Int) : Ret Tryz.prog G0 135 #[wd z] (.int .i64 (nbits (uz z))) := by
 refine ret_of G0F Tryz.func135 rfl Tryz.call135 rfl (by simp) (by simp [Tryz.ntmps135]) ?_
 intro C hC hC0 hY
 have b0 := nb_word z 0
 have b1 := nb_word z 1
 have b2 := nb_word z 2
 have b3 := nb_word z 3
 have k3 := size_3 z
 have k2 := size_2 z
 have k1 := size_1 z
 have k0 := size_0 z
 have m3 : Int.bmod (192 + nbits (wi z 3)) 18446744073709551616 = 192 + nbits (wi z 3) := bm (by omega) (by omega)
 have m2 : Int.bmod (128 + nbits (wi z 2)) 18446744073709551616 = 128 + nbits (wi z 2) := bm (by omega) (by omega)
 have m1 : Int.bmod (64 + nbits (wi z 1)) 18446744073709551616 = 64 + nbits (wi z 1) := bm (by omega) (by omega)
 repeat' (first | refine GWL_start ?_ | refine GWL_step ?_ | refine gwA ?_ | ((first | refine gwR [] ?_ | refine gwD [] ?_); intro Q hQ hP; simp [hC, hY, wi_ge, wi_lt, m1, m2, m3]; (first | refine hQ _ _ _ _ (by kernel_rfl) ?_ | refine hP _ _ (by kernel_rfl) fun _ => ?_); clear hQ hP Q) | (refine gwC ?_ ?_ <;> (intro hb; first | (cases hb; done) | skip)))
 all_goals
  refine ⟨.inr trivial, ?_⟩
  simp [Tryz.results135]
  simp_all
@[simp] theorem qsize (z : Int) (K : Value → Prop) : callK Tryz.prog G0 135 #[Value.agg #[.int .u64 (wi (z) 0), .int .u64 (wi (z) 1), .int .u64 (wi (z) 2), .int .u64 (wi (z) 3)]] K ↔ K (.int .i64 (nbits (uz z))) := callK_iff G0W (by kernel_rfl) (size_ret z)

theorem emm (a p m : Int) : a % m * p % m = a * p % m := by rw [Int.mul_emod, Int.emod_emod_of_dvd _ (Int.dvd_refl _), ← Int.mul_emod]
theorem or_add {x y : Int} {R : Nat} (hx0 : 0 ≤ x) (hx : x < 18446744073709551616) (hd : x % 2 ^ R = 0) (hy0 : 0 ≤ y) (hy : y < 2 ^ R) (hR : R ≤ 64) : bitI .or .u64 x y = x + y := by
 have hp : (2 : Int) ^ R ≤ 2 ^ 64 := by exact_mod_cast Nat.pow_le_pow_right (by omega) (by omega : R ≤ 64)
 have e : bitI .or .u64 x y = ((BitVec.ofInt 64 x ||| BitVec.ofInt 64 y : BitVec 64).toNat : Int) % 18446744073709551616 := by
  unfold bitI
  show IntKind.u64.wrap ((BitVec.ofInt 64 x ||| BitVec.ofInt 64 y : BitVec 64).toNat : Int) = _
  rw [wrap_u64]
 have hx' : (BitVec.ofInt 64 x).toNat = x.toNat := by
  rw [BitVec.toNat_ofInt]; congr 1; exact Int.emod_eq_of_lt hx0 hx
 have hy' : (BitVec.ofInt 64 y).toNat = y.toNat := by
  rw [BitVec.toNat_ofInt]; congr 1; exact Int.emod_eq_of_lt hy0 (by omega)
 obtain ⟨X, rfl⟩ := Int.eq_ofNat_of_zero_le hx0
 obtain ⟨Y, rfl⟩ := Int.eq_ofNat_of_zero_le hy0
 have hd' : X % 2 ^ R = 0 := by exact_mod_cast hd
 have hY : Y < 2 ^ R := by exact_mod_cast hy
 have hX : X = (X / 2 ^ R) <<< R := by rw [Nat.shiftLeft_eq]; exact (Nat.div_mul_cancel (Nat.dvd_of_mod_eq_zero hd')).symm
 have hor : X ||| Y = X + Y := by
  rw [hX]; exact (Nat.shiftLeft_add_eq_or_of_lt hY _).symm
 have hp' : 2 ^ R ≤ 2 ^ 64 := Nat.pow_le_pow_right (by omega) (by omega : R ≤ 64)
 have hb : X + Y < 18446744073709551616 := by
  rw [← hor]; exact Nat.or_lt_two_pow (n := 64) (by omega) (by omega)
 rw [e, BitVec.toNat_or, hx', hy']
 simp only [Int.toNat_natCast, hor]
 omega
theorem two_split {R : Nat} (hR : R < 64) : (2 : Int) ^ R * 2 ^ (64 - R) = 18446744073709551616 := by
 rw [← Int.pow_add, show R + (64 - R) = 64 by omega]; rfl
theorem wi_shl0 (z : Int) (R : Nat) : wi (z * 2 ^ R) 0 = (wi z 0 * 2 ^ R) % 18446744073709551616 := by
 simp only [wi, Nat.mul_zero, Int.pow_zero, Int.ediv_one]
 rw [emm]
theorem wi_shlS (z : Int) (R : Nat) (hR : R < 64) (k : Nat) : wi (z * 2 ^ R) (k + 1) = (wi z (k + 1) * 2 ^ R) % 18446744073709551616 + wi z k / 2 ^ (64 - R) ∧ 0 ≤ wi z k / 2 ^ (64 - R) ∧ wi z k / 2 ^ (64 - R) < 2 ^ R ∧ (wi z (k + 1) * 2 ^ R) % 18446744073709551616 % 2 ^ R = 0 := by
 have hM := two_split hR
 have hPp : (0 : Int) < 2 ^ R := Int.pow_pos (by omega)
 have hSp : (0 : Int) < 2 ^ (64 - R) := Int.pow_pos (by omega)
 have e1 : (2 : Int) ^ (64 * (k + 1)) = 2 ^ (64 * k) * 18446744073709551616 := by
  rw [show 64 * (k + 1) = 64 * k + 64 by omega, Int.pow_add]; rfl
 have hKp : (0 : Int) < 2 ^ (64 * k) := Int.pow_pos (by omega)
 unfold wi
 rw [e1]
 generalize (2 : Int) ^ R = P at *
 generalize (2 : Int) ^ (64 - R) = S at *
 generalize (2 : Int) ^ (64 * k) = K at *
 have eu : z * P / (K * 18446744073709551616) = z / K / S := by
  rw [← hM, show K * (P * S) = (K * S) * P by rw [Int.mul_comm P S, Int.mul_assoc], Int.mul_ediv_mul_of_pos_left _ _ hPp, Int.ediv_ediv_of_nonneg (by omega)]
 rw [eu, ← Int.ediv_ediv_of_nonneg (Int.le_of_lt hKp)]
 generalize z / K = u at *
 have hdvd : P ∣ 18446744073709551616 := ⟨S, hM.symm⟩
 have h1 : 0 ≤ u % 18446744073709551616 / S := Int.ediv_nonneg (Int.emod_nonneg _ (by omega)) (by omega)
 have h2 : u % 18446744073709551616 / S < P := by
  have := Int.emod_lt_of_pos u (b := 18446744073709551616) (by omega)
  exact (Int.ediv_lt_iff_lt_mul hSp).2 (by rw [hM]; exact this)
 have h3 : (u / 18446744073709551616 % 18446744073709551616 * P) % 18446744073709551616 % P = 0 := by
  rw [Int.emod_emod_of_dvd _ hdvd, Int.mul_emod_left]
 refine ⟨?_, h1, h2, h3⟩
 have e2 : u / S = (u / 18446744073709551616) * P + u % 18446744073709551616 / S := by
  have := Int.emod_add_mul_ediv u 18446744073709551616
  have h4 : u = u % 18446744073709551616 + S * (u / 18446744073709551616 * P) := by
   have : S * (u / 18446744073709551616 * P) = 18446744073709551616 * (u / 18446744073709551616) := by
    rw [← hM, Int.mul_comm P S, Int.mul_assoc, Int.mul_comm _ P]
   omega
  conv => lhs; rw [h4]
  rw [Int.add_mul_ediv_left _ _ (by omega)]
  omega
 rw [e2, emm]
 have h5 : (u / 18446744073709551616 * P) % 18446744073709551616 % P = 0 := by rw [Int.emod_emod_of_dvd _ hdvd, Int.mul_emod_left]
 have h6 := Int.emod_nonneg (u / 18446744073709551616 * P) (b := 18446744073709551616) (by omega)
 have h7 := Int.emod_lt_of_pos (u / 18446744073709551616 * P) (b := 18446744073709551616) (by omega)
 have h8 : (u / 18446744073709551616 * P) % 18446744073709551616 ≤ 18446744073709551616 - P := by
  obtain ⟨c, hc⟩ := Int.dvd_of_emod_eq_zero h5
  rw [hc] at h7 ⊢
  rw [← hM] at h7 ⊢
  have : c < S := Int.lt_of_mul_lt_mul_left h7 (by omega)
  have : P * c ≤ P * (S - 1) := Int.mul_le_mul_of_nonneg_left (by omega) (by omega)
  rw [Int.mul_sub, Int.mul_one] at this
  exact this
 rw [Int.add_emod, Int.emod_eq_of_lt h1 (by omega), Int.emod_eq_of_lt (by omega) (by omega)]
theorem wi_up (z : Int) (q i R : Nat) (h : q ≤ i) : wi (z * 2 ^ (64 * q + R)) i = wi (z * 2 ^ R) (i - q) := by
 unfold wi
 obtain ⟨j, rfl⟩ : ∃ j, i = q + j := ⟨i - q, by omega⟩
 rw [show q + j - q = j by omega, Int.pow_add, show z * (2 ^ (64 * q) * 2 ^ R) = (z * 2 ^ R) * 2 ^ (64 * q) by rw [Int.mul_comm (2 ^ (64 * q)), Int.mul_assoc], show 64 * (q + j) = 64 * j + 64 * q by omega, Int.pow_add,
  Int.mul_ediv_mul_of_pos_left _ _ (Int.pow_pos (by omega))]
theorem wi_dn (z : Int) (q i R : Nat) (h : i < q) : wi (z * 2 ^ (64 * q + R)) i = 0 := by
 unfold wi
 obtain ⟨j, rfl⟩ : ∃ j, q = i + 1 + j := ⟨q - (i + 1), by omega⟩
 rw [show 64 * (i + 1 + j) + R = 64 * i + (64 + (64 * j + R)) by omega, Int.pow_add, Int.pow_add, show z * (2 ^ (64 * i) * (2 ^ 64 * 2 ^ (64 * j + R))) = (z * 2 ^ (64 * j + R) * 2 ^ 64) * 2 ^ (64 * i) by
  rw [Int.mul_comm (2 ^ (64 * i)), Int.mul_comm (2 ^ 64) (2 ^ (64 * j + R))]; simp only [Int.mul_assoc], Int.mul_ediv_cancel _ (by have : (0 : Int) < 2 ^ (64 * i) := Int.pow_pos (by omega); omega)]
 exact Int.mul_emod_left _ _
set_option maxHeartbeats 1000000 in
theorem shift_ret (z : Int) (q R : Nat) (hq : q < 4) (hR : R < 64) : Ret Tryz.prog G0 136 #[wd z, .int .i64 (64 * q + R)] (wd (z * 2 ^ (64 * q + R))) := by
 refine ret_of G0F Tryz.func136 rfl Tryz.call136 (by simp) (by simp) (by simp [Tryz.ntmps136]) ?_
 intro C hC hC0 hY
 have t1 : (64 * (q : Int) + R).tdiv 64 = q := by rw [Int.tdiv_eq_ediv_of_nonneg (by omega)]; omega
 have t2 : (64 * (q : Int) + R).tmod 64 = R := by rw [Int.tmod_eq_emod_of_nonneg (by omega)]; omega
 have m1 : min R 64 = R := by omega
 have m2 : Int.bmod (64 - (R : Int)) 18446744073709551616 = 64 - R := bm (by omega) (by omega)
 have m3 : (64 - (R : Int)).toNat = 64 - R := by omega
 have m4 : min (64 - R) 64 = 64 - R := by omega
 have m5 : (R : Int) ≤ 64 := by omega
 have m6 : (0 : Int) ≤ 64 - R := by omega
 have fd : ∀ x : Int, x.fdiv (2 ^ (64 - R)) = x / 2 ^ (64 - R) := fun x => Int.fdiv_eq_ediv_of_nonneg x (Int.le_of_lt (Int.pow_pos (by omega)))
 have OR : ∀ k, bitI .or .u64 ((wi z (k + 1) * 2 ^ R) % 18446744073709551616) (wi z k / 2 ^ (64 - R)) = wi (z * 2 ^ R) (k + 1) := fun k => by
  obtain ⟨e, h1, h2, h3⟩ := wi_shlS z R hR k
  rw [or_add (R := R) (Int.emod_nonneg _ (by omega)) (Int.emod_lt_of_pos _ (by omega)) h3 h1 h2 (by omega), e]
 have o0 := OR 0
 have o1 := OR 1
 have o2 := OR 2
 have s0 := wi_shl0 z R
 have : q = 0 ∨ q = 1 ∨ q = 2 ∨ q = 3 := by omega
 have up := wi_up z
 have dn := wi_dn z
 rcases this with rfl | rfl | rfl | rfl
 ·simp at t1 t2
  repeat' (first | refine GWL_start ?_ | refine GWL_step ?_ | refine gwA ?_ | ((first | refine gwR [] ?_ | refine gwD [] ?_); intro Q hQ hP; simp [hC, hY, t1, t2, m1, m2, m3, m4, m5, m6, fd, wi_ge, wi_lt]; refine hQ _ _ _ _ (by kernel_rfl) ?_; clear hQ hP Q) | (refine gwC ?_ ?_ <;> (intro hb; first | (cases hb; done) | skip)))
  refine ⟨.inr trivial, ?_⟩
  simp [Tryz.results136, o0, o1, o2, s0]
 ·simp at t1 t2
  repeat' (first | refine GWL_start ?_ | refine GWL_step ?_ | refine gwA ?_ | ((first | refine gwR [] ?_ | refine gwD [] ?_); intro Q hQ hP; simp [hC, hY, t1, t2, m1, m2, m3, m4, m5, m6, fd, wi_ge, wi_lt]; refine hQ _ _ _ _ (by kernel_rfl) ?_; clear hQ hP Q) | (refine gwC ?_ ?_ <;> (intro hb; first | (cases hb; done) | skip)))
  refine ⟨.inr trivial, ?_⟩
  simp [Tryz.results136, o0, o1, o2, s0]
  exact ⟨(dn 1 0 R (by omega)).symm, ((up 1 1 R (by omega)).trans s0).symm, (up 1 2 R (by omega)).symm, (up 1 3 R (by omega)).symm⟩
 ·simp at t1 t2
  repeat' (first | refine GWL_start ?_ | refine GWL_step ?_ | refine gwA ?_ | ((first | refine gwR [] ?_ | refine gwD [] ?_); intro Q hQ hP; simp [hC, hY, t1, t2, m1, m2, m3, m4, m5, m6, fd, wi_ge, wi_lt]; refine hQ _ _ _ _ (by kernel_rfl) ?_; clear hQ hP Q) | (refine gwC ?_ ?_ <;> (intro hb; first | (cases hb; done) | skip)))
  refine ⟨.inr trivial, ?_⟩
  simp [Tryz.results136, o0, o1, o2, s0]
  exact ⟨(dn 2 0 R (by omega)).symm, (dn 2 1 R (by omega)).symm, ((up 2 2 R (by omega)).trans s0).symm, (up 2 3 R (by omega)).symm⟩
 ·simp at t1 t2
  repeat' (first | refine GWL_start ?_ | refine GWL_step ?_ | refine gwA ?_ | ((first | refine gwR [] ?_ | refine gwD [] ?_); intro Q hQ hP; simp [hC, hY, t1, t2, m1, m2, m3, m4, m5, m6, fd, wi_ge, wi_lt]; refine hQ _ _ _ _ (by kernel_rfl) ?_; clear hQ hP Q) | (refine gwC ?_ ?_ <;> (intro hb; first | (cases hb; done) | skip)))
  refine ⟨.inr trivial, ?_⟩
  simp [Tryz.results136, o0, o1, o2, s0]
  exact ⟨(dn 3 0 R (by omega)).symm, (dn 3 1 R (by omega)).symm, (dn 3 2 R (by omega)).symm, ((up 3 3 R (by omega)).trans s0).symm⟩
theorem shift_n (z n : Int) (h0 : 0 ≤ n) (h1 : n < 256) : Ret Tryz.prog G0 136 #[wd z, .int .i64 n] (wd (z * 2 ^ n.toNat)) := by
 have h := shift_ret z (n / 64).toNat (n % 64).toNat (by omega) (by omega)
 have e : 64 * (n / 64).toNat + (n % 64).toNat = n.toNat := by omega
 have e' : (64 * ((n / 64).toNat : Int) + ((n % 64).toNat : Int)) = n := by omega
 rw [e, e'] at h
 exact h
@[simp] theorem qshift (z n : Int) (h0 : 0 ≤ n) (h1 : n < 256) (K : Value → Prop) : callK Tryz.prog G0 136 #[Value.agg #[.int .u64 (wi (z) 0), .int .u64 (wi (z) 1), .int .u64 (wi (z) 2), .int .u64 (wi (z) 3)], .int .i64 n] K ↔ K (wd (z * 2 ^ n.toNat)) := callK_iff G0W (by kernel_rfl) (shift_n z n h0 h1)

theorem shifts_new (a b : Int) (k : Nat) (h100 : 100 ≤ k) : Fun Tryz.prog G0 130 #[wd a, wd b] G0 [] (.new (.func (.func 134) #[] #[.pointer (some ⟨k, 0, none⟩), .pointer (some ⟨k + 1, 0, none⟩)]) [(k, wb a), (k + 1, wb b)]) := by
 have e0 : rst G0 [] = G0 := rst_G G0F []
 refine new_of (B := 200) (fun j => if j = k then 200 else if j = k + 1 then 208 else j) G0F (fun _ _ => rfl) Tryz.func130 rfl Tryz.call130 (by simp [idsV, idsA, idsF, ids0]) (by rw [e0]; exact G0_closed _) ?_ (by simp [Tryz.ntmps130]) (by omega) (by rw [e0]; exact fun x hx => G0_big x (by omega)) (fun j hj => ?_) ?_ ?_ ?_ ?_
 ·refine ⟨by simp [idsV, idsA, idsF, ids0, extD, keys], by simp [keys]; omega, fun q b c h1 h2 => ?_⟩
  simp at h1 h2
  rcases h1 with ⟨e1, rfl⟩ | ⟨e1, rfl⟩ <;> rcases h2 with ⟨e2, rfl⟩ | ⟨e2, rfl⟩ <;> first | rfl | omega
 ·rw [e0] at hj; have := G0_dom hj; rw [if_neg (by omega), if_neg (by omega)]
 ·simp [e0, dom]
 ·simp
 ·simp [wb, ids_lit, idsF, ids0]
 ·intro C hC hC0 hY
  rw [e0]
  repeat' (first | refine gwA ?_ | ((first | refine gwR [] ?_ | refine gwD [] ?_); intro Q hQ hP; simp [hC, hY]; refine hQ _ _ _ _ (by kernel_rfl) ?_; clear hQ hP Q) | (refine gwC ?_ ?_ <;> (intro hb; first | (cases hb; done) | skip)))
  refine ⟨.inr trivial, ?_⟩
  simp [Tryz.results130, ren, renA, renF, ren0, wb]
  intro j hj
  have := G0_dom hj
  rw [if_neg (by omega), if_neg (by omega)]
theorem uz_bd (z : Int) : 0 ≤ uz z ∧ uz z < 2 ^ 256 := by unfold uz; omega
def shN (a b : Int) : Int := nbits (uz a) - nbits (uz b)
theorem shN_bd (a b : Int) : -256 ≤ shN a b ∧ shN a b ≤ 256 := by
 have h1 := nbits_bd 256 (uz_bd a).2
 have h2 := nbits_bd 256 (uz_bd b).2
 unfold shN; omega
def shXs (b N : Int) : List (Array Value) := (List.range (N + 1).toNat).map fun (i : Nat) => #[.int .i64 (N - (i : Int)), wd (b * 2 ^ (N - (i : Int)).toNat)]
theorem shXs_len (b N : Int) : (shXs b N).length = (N + 1).toNat := by simp [shXs]
theorem shXs_at (b N : Int) (i : Nat) (h : i < (N + 1).toNat) : (shXs b N)[i]? = some #[.int .i64 (N - i), wd (b * 2 ^ (N - i).toNat)] := by
 simp [shXs, h]
def shSt (a b N : Int) (l i : Nat) : GS :=
 ⟨tsL [(0, .func (.yield l) #[] #[]), (1, .pointer (some ⟨100, 0, none⟩)), (2, .pointer (some ⟨101, 0, none⟩)), (4, .int .i64 (N - i))], wHp a b, 300, i⟩
theorem shifts_it (a b : Int) (hlt : shN a b < 256) : IterG Tryz.prog G0 134 #[.pointer (some ⟨100, 0, none⟩), .pointer (some ⟨101, 0, none⟩)] (wHp a b) [100, 101] (shXs b (shN a b)) := by
 have e0 : rst (wHp a b) [100, 101] = wHp a b := hpL_rst G0F (by simp)
 refine iter_of (B := 200) (v := .tuple #[]) G0F (fun k hk => hpL_low (by simp) hk) Tryz.func134 rfl Tryz.call134 ?_ ?_ (by simp [Tryz.ntmps134]) (by omega) ?_ ?_
 ·rw [e0]; simp [idsV, idsA, idsF, ids0, dom, wHp]
 ·rw [e0]
  intro k c hk
  rcases hpL_mem hk with h | h
  ·simp at h
   rcases h with ⟨_, rfl⟩ | ⟨_, rfl⟩ <;> simp [wb, ids_lit, idsF, ids0]
  ·exact Blk.flat_ids ((G0F k c h).2)
 ·rw [e0]
  intro x hx
  have h1 : ¬ x = 100 := by omega
  have h2 : ¬ x = 101 := by omega
  have h3 : 100 ≤ x := by omega
  simp [wHp, h1, h2, h3]
 ·intro C l stop hC hC0 hY
  rw [e0] at hC0 ⊢
  have hbd := shN_bd a b
  have hN : Int.bmod (nbits (uz a) - nbits (uz b)) 18446744073709551616 = shN a b := bm (by unfold shN at hbd; omega) (by unfold shN at hbd; omega)
  have hlen := shXs_len b (shN a b)
  generalize hn : shN a b = N at *
  generalize hxs : shXs b N = xs at *
  refine GW_scope' 0 (fun m s => ∃ i, i ≤ stop ∧ i + m = xs.length ∧ s = shSt a b N l i) rfl ?_ ?_
  ·rintro m _ ⟨i, hi, him, rfl⟩
   have hi256 : (i : Int) ≤ 257 := by omega
   by_cases hl : i < xs.length
   ·have g1 : (i : Int) ≤ N := by omega
    have g2 : N - (i : Int) < 256 := by omega
    have g4 : Int.bmod (N - (i : Int) - 1) 18446744073709551616 = N - ((i + 1 : Nat) : Int) := by rw [bm (by omega) (by omega)]; omega
    have hx : xs[i]? = some #[.int .i64 (N - (i : Int)), wd (b * 2 ^ (N - (i : Int)).toNat)] := by
     rw [← hxs]; exact shXs_at b N i (by omega)
    simp only [wd_eq] at hx
    by_cases hs : i = stop
    ·have q1 : (i != stop) = false := by simp [hs]
     unfold shSt
     repeat' (first | refine gwA ?_ | ((first | refine gwR [] ?_ | refine gwD [] ?_); intro Q hQ hP; simp [hC, hY, wHp, wb, hi, g1, g2, hx, q1]; refine hQ _ _ _ _ (by kernel_rfl) ?_; clear hQ hP Q) | (refine gwC ?_ ?_ <;> (intro hb; first | (cases hb; done) | skip)))
     refine ⟨.inl trivial, by simp [Tryz.results134], ?_⟩
     show i + 1 = _
     omega
    ·have q1 : (i != stop) = true := by simp [hs]
     unfold shSt
     repeat' (first | refine gwA ?_ | ((first | refine gwR [] ?_ | refine gwD [] ?_); intro Q hQ hP; simp [hC, hY, wHp, wb, hi, g1, g2, g4, hx, q1]; refine hQ _ _ _ _ (by kernel_rfl) ?_; clear hQ hP Q) | (refine gwC ?_ ?_ <;> (intro hb; first | (cases hb; done) | skip)))
     refine ⟨rfl, shSt a b N l (i + 1), xs.length - (i + 1), weakL _ 300 hC G0F (m := [(100, wb a), (101, wb b)]) (m0 := [(100, wb a), (101, wb b)]) hC0 (by omega) ?_ ?_ ?_, ⟨i + 1, by omega, by omega, rfl⟩, by omega⟩
     ·simp [dom]
     ·simp [wb]
     ·simp [wb]
   ·have g1 : ¬ (i : Int) ≤ N := by omega
    unfold shSt
    repeat' (first | refine gwA ?_ | ((first | refine gwR [] ?_ | refine gwD [] ?_); intro Q hQ hP; simp [hC, hY, wHp, wb, g1]; refine hQ _ _ _ _ (by kernel_rfl) ?_; clear hQ hP Q) | (refine gwC ?_ ?_ <;> (intro hb; first | (cases hb; done) | skip)))
    refine ⟨.inl trivial, by simp [Tryz.results134], ?_⟩
    show i = _
    omega
  ·intro pass
   refine GW_seq ?_
   ((first | refine gwR [] ?_ | refine gwD [] ?_); intro Q hQ hP; simp [hC, hY, wHp, wb, hN]; refine hQ _ _ _ _ (by kernel_rfl) ?_; clear hQ hP Q)
   simp only [wN, wM, Nat.reduceAdd, Nat.reduceMul]
   refine GW_seq (GW_label ?_)
   simp only [thenG_normal]
   refine pass xs.length (shSt a b N l 0) _ ?_ ⟨0, by omega, by omega, rfl⟩
   refine weakL _ 300 hC G0F (m := [(100, wb a), (101, wb b)]) (m0 := [(100, wb a), (101, wb b)]) hC0 (by omega) ?_ ?_ ?_
   ·simp [dom]
   ·simp [wb]
   ·simp [wb]

theorem sz_id {z : Int} (h0 : -57896044618658097711785492504343953926634992332820282019728792003956564819968 ≤ z) (h1 : z < 57896044618658097711785492504343953926634992332820282019728792003956564819968) : sz z = z := by
 unfold sz; rw [Int.bmod_def]; split <;> omega
theorem sz_pos {z : Int} (h0 : 0 ≤ z) (h1 : z < 57896044618658097711785492504343953926634992332820282019728792003956564819968) : sz z = z := sz_id (Int.le_trans (by decide) h0) h1
theorem div_step (a M : Int) (hM : 0 < M) : (M ≤ a % (2 * M) → a % M = a % (2 * M) - M ∧ a / M = 2 * (a / (2 * M)) + 1) ∧ (a % (2 * M) < M → a % M = a % (2 * M) ∧ a / M = 2 * (a / (2 * M))) := by
 have h1 := Int.emod_add_mul_ediv a (2 * M)
 have h2 := Int.emod_nonneg a (b := 2 * M) (by omega)
 have h3 := Int.emod_lt_of_pos a (b := 2 * M) (by omega)
 have e : 2 * M * (a / (2 * M)) = M * (2 * (a / (2 * M))) := by rw [Int.mul_comm 2 M, Int.mul_assoc]
 rw [e] at h1
 generalize a % (2 * M) = r at *
 generalize 2 * (a / (2 * M)) = k at *
 constructor
 ·intro h
  have ea : a = (r - M) + M * (k + 1) := by rw [Int.mul_add]; omega
  constructor
  ·rw [ea, Int.add_mul_emod_self_left, Int.emod_eq_of_lt (by omega) (by omega)]
  ·rw [ea, Int.add_mul_ediv_left _ _ (by omega), Int.ediv_eq_zero_of_lt (by omega) (by omega)]; omega
 ·intro h
  have ea : a = r + M * k := by omega
  constructor
  ·rw [ea, Int.add_mul_emod_self_left, Int.emod_eq_of_lt (by omega) (by omega)]
  ·rw [ea, Int.add_mul_ediv_left _ _ (by omega), Int.ediv_eq_zero_of_lt (by omega) (by omega)]; omega
theorem pow_pos2 (k : Nat) : (0 : Int) < 2 ^ k := Int.pow_pos (by omega)
theorem wi_bit (c : Int) (t r : Nat) (hr : r < 64) : bitI .or .u64 (wi (c * 2 ^ (64 * t + r + 1)) t) (2 ^ r) = wi (c * 2 ^ (64 * t + r + 1) + 2 ^ (64 * t + r)) t := by
 have e1 : c * 2 ^ (64 * t + r + 1) / 2 ^ (64 * t) = c * 2 ^ (r + 1) := by
  rw [show 64 * t + r + 1 = (r + 1) + 64 * t by omega, Int.pow_add, ← Int.mul_assoc, Int.mul_ediv_cancel _ (by have := pow_pos2 (64 * t); omega)]
 have e2 : (c * 2 ^ (64 * t + r + 1) + 2 ^ (64 * t + r)) / 2 ^ (64 * t) = c * 2 ^ (r + 1) + 2 ^ r := by
  have x1 : (2 : Int) ^ (64 * t + r + 1) = 2 ^ (r + 1) * 2 ^ (64 * t) := by rw [← Int.pow_add]; congr 1; omega
  have x2 : (2 : Int) ^ (64 * t + r) = 2 ^ r * 2 ^ (64 * t) := by rw [← Int.pow_add]; congr 1; omega
  rw [x1, x2, ← Int.mul_assoc, ← Int.add_mul, Int.mul_ediv_cancel _ (by have := pow_pos2 (64 * t); omega)]
 have hM : (18446744073709551616 : Int) = 2 ^ (63 - r) * 2 ^ (r + 1) := by rw [← Int.pow_add, show 63 - r + (r + 1) = 64 by omega]; rfl
 have hdvd : (2 : Int) ^ (r + 1) ∣ 18446744073709551616 := ⟨2 ^ (63 - r), by rw [hM, Int.mul_comm]⟩
 have hp := pow_pos2 r
 have hp1 : (2 : Int) ^ (r + 1) = 2 * 2 ^ r := by rw [Int.pow_succ, Int.mul_comm]
 have h5 : (c * 2 ^ (r + 1)) % 18446744073709551616 % 2 ^ (r + 1) = 0 := by rw [Int.emod_emod_of_dvd _ hdvd, Int.mul_emod_left]
 have h6 := Int.emod_nonneg (c * 2 ^ (r + 1)) (b := 18446744073709551616) (by omega)
 have h7 := Int.emod_lt_of_pos (c * 2 ^ (r + 1)) (b := 18446744073709551616) (by omega)
 have h8 : (c * 2 ^ (r + 1)) % 18446744073709551616 ≤ 18446744073709551616 - 2 ^ (r + 1) := by
  obtain ⟨d, hd⟩ := Int.dvd_of_emod_eq_zero h5
  rw [hd] at h7 ⊢
  have hs := pow_pos2 (63 - r)
  have hq := pow_pos2 (r + 1)
  rw [hM] at h7 ⊢
  generalize (2 : Int) ^ (r + 1) = P at *
  generalize (2 : Int) ^ (63 - r) = S at *
  rw [Int.mul_comm S P] at h7 ⊢
  have : d < S := Int.lt_of_mul_lt_mul_left h7 (by omega)
  have : P * d ≤ P * (S - 1) := Int.mul_le_mul_of_nonneg_left (by omega) (by omega)
  rw [Int.mul_sub, Int.mul_one] at this
  exact this
 unfold wi
 rw [e1, e2, or_add (R := r + 1) h6 h7 h5 (by omega) (by omega) (by omega), Int.add_emod (c * 2 ^ (r + 1)), Int.emod_eq_of_lt (a := 2 ^ r) (by omega) (by omega), Int.emod_eq_of_lt (a := c * 2 ^ (r + 1) % 18446744073709551616 + 2 ^ r) (by omega) (by omega)]
theorem wi_other (c : Int) (t r j : Nat) (hr : r < 64) (h : j ≠ t) : wi (c * 2 ^ (64 * t + r + 1) + 2 ^ (64 * t + r)) j = wi (c * 2 ^ (64 * t + r + 1)) j := by
 unfold wi
 by_cases hj : j < t
 ·obtain ⟨m, rfl⟩ : ∃ m, t = j + 1 + m := ⟨t - (j + 1), by omega⟩
  have e : (2 : Int) ^ (64 * (j + 1 + m) + r) = (2 ^ (64 * m + r) * 18446744073709551616) * 2 ^ (64 * j) := by
   rw [show 64 * (j + 1 + m) + r = 64 * m + r + 64 + 64 * j by omega, Int.pow_add, Int.pow_add]; rfl
  rw [Int.pow_succ, e, show c * (2 ^ (64 * m + r) * 18446744073709551616 * 2 ^ (64 * j) * 2) = (c * 2 * 2 ^ (64 * m + r) * 18446744073709551616) * 2 ^ (64 * j) by
   simp only [Int.mul_assoc, Int.mul_comm, Int.mul_left_comm], ← Int.add_mul, Int.mul_ediv_cancel _ (by have := pow_pos2 (64 * j); omega), Int.mul_ediv_cancel _ (by have := pow_pos2 (64 * j); omega), ← Int.add_mul, Int.mul_emod_left, Int.mul_emod_left]
 ·obtain ⟨m, rfl⟩ : ∃ m, j = t + 1 + m := ⟨j - (t + 1), by omega⟩
  have e : (2 : Int) ^ (64 * (t + 1 + m)) = 2 ^ (64 * t + r + 1) * 2 ^ (64 * m + (63 - r)) := by
   rw [← Int.pow_add]; congr 1; omega
  have hp := pow_pos2 (64 * t + r)
  have hq : (2 : Int) ^ (64 * t + r + 1) = 2 * 2 ^ (64 * t + r) := by rw [Int.pow_succ, Int.mul_comm]
  have hc : (c * 2 ^ (64 * t + r + 1) + 2 ^ (64 * t + r)) / 2 ^ (64 * t + r + 1) = c := by
   rw [Int.add_comm, Int.add_mul_ediv_right _ _ (by omega), Int.ediv_eq_zero_of_lt (by omega) (by omega)]; omega
  rw [e, ← Int.ediv_ediv_of_nonneg (Int.le_of_lt (pow_pos2 _)), ← Int.ediv_ediv_of_nonneg (Int.le_of_lt (pow_pos2 _)), hc, Int.mul_ediv_cancel _ (by omega)]
def rA (a b : Int) (k : Nat) : Int := a % (b * 2 ^ k)
def qA (a b : Int) (k : Nat) : Int := a / (b * 2 ^ k) * 2 ^ k
theorem dA_step (a b : Int) (hb : 0 < b) (k : Nat) : (b * 2 ^ k ≤ rA a b (k + 1) → rA a b k = rA a b (k + 1) - b * 2 ^ k ∧ qA a b k = qA a b (k + 1) + 2 ^ k) ∧ (rA a b (k + 1) < b * 2 ^ k → rA a b k = rA a b (k + 1) ∧ qA a b k = qA a b (k + 1)) := by
 have hp := pow_pos2 k
 have e : b * 2 ^ (k + 1) = 2 * (b * 2 ^ k) := by rw [Int.pow_succ, ← Int.mul_assoc, Int.mul_comm]
 have e2 : ∀ x : Int, x * 2 ^ (k + 1) = 2 * x * 2 ^ k := fun x => by rw [Int.pow_succ, Int.mul_comm (2 ^ k), ← Int.mul_assoc, Int.mul_comm x 2]
 have h := div_step a (b * 2 ^ k) (Int.mul_pos hb hp)
 unfold rA qA
 rw [e, e2]
 refine ⟨fun h1 => ?_, fun h1 => ?_⟩
 ·obtain ⟨h2, h3⟩ := h.1 h1
  exact ⟨h2, by rw [h3, Int.add_mul, Int.one_mul]⟩
 ·obtain ⟨h2, h3⟩ := h.2 h1
  exact ⟨h2, by rw [h3]⟩
theorem dA_end (a b : Int) : rA a b 0 = a % b ∧ qA a b 0 = a / b := by simp [rA, qA]
theorem dA_begin (a b : Int) (k : Nat) (h0 : 0 ≤ a) (h : a < b * 2 ^ k) : rA a b k = a ∧ qA a b k = 0 := by
 unfold rA qA
 rw [Int.emod_eq_of_lt h0 h, Int.ediv_eq_zero_of_lt h0 h]
 simp
theorem shN_up (a b : Int) (ha0 : 0 ≤ a) (hb0 : 0 < b) (ha : a < 2 ^ 256) (hb : b < 2 ^ 256) : a < b * 2 ^ (shN a b + 1).toNat ∧ (0 ≤ shN a b → b * 2 ^ (shN a b).toNat < 2 ^ (nbits a).toNat) := by
 have ea : uz a = a := by unfold uz; omega
 have eb : uz b = b := by unfold uz; omega
 unfold shN
 rw [ea, eb]
 obtain ⟨j, hj, j1, j2⟩ := nbits_pos hb0
 by_cases h0 : a = 0
 ·subst h0
  have e0 : nbits 0 = 0 := rfl
  rw [e0, hj]
  exact ⟨Int.mul_pos hb0 (pow_pos2 _), fun h => by omega⟩
 ·obtain ⟨k, hk, k1, k2⟩ := nbits_pos (x := a) (by omega)
  rw [hk, hj]
  refine ⟨?_, fun h => ?_⟩
  ·by_cases hkj : j ≤ k + 1
   ·have e : ((k : Int) + 1 - (j + 1) + 1).toNat = k + 1 - j := by omega
    rw [e]
    refine Int.lt_of_lt_of_le k2 ?_
    have h3 : (2 : Int) ^ (k + 1) = 2 ^ j * 2 ^ (k + 1 - j) := by rw [← Int.pow_add]; congr 1; omega
    rw [h3]
    exact Int.mul_le_mul_of_nonneg_right j1 (Int.le_of_lt (pow_pos2 _))
   ·have e : ((k : Int) + 1 - (j + 1) + 1).toNat = 0 := by omega
    rw [e, Int.pow_zero, Int.mul_one]
    refine Int.lt_of_lt_of_le k2 (Int.le_trans ?_ j1)
    exact_mod_cast Nat.pow_le_pow_right (by omega) (by omega : k + 1 ≤ j)
  ·have e : ((k : Int) + 1 - (j + 1)).toNat = k - j := by omega
   have e' : ((k : Int) + 1).toNat = k + 1 := by omega
   rw [e, e']
   have h3 : (2 : Int) ^ (k + 1) = 2 ^ (j + 1) * 2 ^ (k - j) := by rw [← Int.pow_add]; congr 1; omega
   rw [h3]
   exact Int.mul_lt_mul_of_pos_right j2 (pow_pos2 _)

def pnHp (a b : Int) (k : Nat) : Hp := hpL G0 [(200, wb (rA a b k)), (208, wb b), (216, ⟨fa 4 .u64 (wi (qA a b k)), .ty 30⟩), (224, zB)]
def pnTs : Nat → Value := tsL [(2, .pointer (some ⟨200, 0, none⟩)), (3, .pointer (some ⟨208, 0, none⟩)), (4, .pointer (some ⟨216, 0, none⟩)), (5, .pointer (some ⟨224, 0, none⟩))]
set_option maxHeartbeats 1000000 in
theorem plain_ret (a b : Int) (ha0 : 0 ≤ a) (ha : a < 57896044618658097711785492504343953926634992332820282019728792003956564819968) (hb0 : 0 < b) (hb1 : b < 57896044618658097711785492504343953926634992332820282019728792003956564819968) :
  Ret Tryz.prog G0 116 #[wd a, wd b] (.tuple #[wd (a / b), wd (a % b)]) := by
 refine ret_of G0F Tryz.func116 rfl Tryz.call116 (by simp) (by simp) (by simp [Tryz.ntmps116]) ?_
 intro C hC hC0 hY
 have hup := shN_up a b ha0 hb0 (by omega) (by omega)
 have hbd := shN_bd a b
 have hna : nbits a ≤ 255 := (nbits_bd 255 (by omega)).2
 have hlt : shN a b < 256 := by
  have ea : uz a = a := by unfold uz; omega
  have hnb := nbits_bd 256 (uz_bd b).2
  unfold shN; rw [ea]; omega
 have hit := shifts_it a b hlt
 generalize shN a b = N at *
 repeat' (first | refine gwA ?_ | ((first | refine gwR [] ?_ | refine gwD [] ?_); intro Q hQ hP; simp [hC, hY]; refine hQ _ _ _ _ (by kernel_rfl) ?_; clear hQ hP Q) | (refine gwC ?_ ?_ <;> (intro hb; first | (cases hb; done) | skip)))
 refine GW_region' [130] (by kernel_rfl) ?_; intro Q hQ hP; simp [hC, hY]
 refine heapK_of (shifts_new a b 248 (by omega)) (by simp) (fun _ _ => rfl) (by simp [Res.at]) ?_
 simp
 refine hQ _ _ _ _ ?_; clear hQ hP Q
 repeat' (first | refine gwA ?_ | ((first | refine gwR [] ?_ | refine gwD [] ?_); intro Q hQ hP; simp [hC, hY]; refine hQ _ _ _ _ (by kernel_rfl) ?_; clear hQ hP Q) | (refine gwC ?_ ?_ <;> (intro hb; first | (cases hb; done) | skip)))
 refine GW_range (f := 134) (rs := [248, 249]) (xs := shXs b N) (caps := #[.pointer (some ⟨248, 0, none⟩), .pointer (some ⟨249, 0, none⟩)]) (by simp) ?_ ?_ (by simp [Tryz.ntmps116]) pnTs (fun i => pnHp a b (N + 1 - (i : Int)).toNat) 300 (N + 1).toNat (by rw [shXs_len]; omega) ?_ ?_ ?_ ?_ ?_
 ·rw [hC]
  refine IterG.cast (IterX.rn (fun k => if k = 100 then 248 else if k = 101 then 249 else k) G0F (fun k hk => hpL_low (by simp) hk) (rs := [100, 101]) ?_ hit) (by simp [ren0]) (by simp)
  refine ⟨fun k hk => ?_, ?_, ?_, ?_⟩
  ·have h1 : ¬ k = 100 := by omega
   have h2 : ¬ k = 101 := by omega
   have h3 : ¬ k = 200 := by omega
   have h4 : ¬ k = 208 := by omega
   have h5 : ¬ k = 216 := by omega
   have h6 : ¬ k = 224 := by omega
   have h8 : ¬ k = 248 := by omega
   have h9 : ¬ k = 249 := by omega
   simp [h1, h2, h3, h4, h5, h6, h8, h9, wHp]
  ·simp
  ·simp [wHp, wb, Blk.rn, renF, ren0]
  ·simp
 ·intro x hx
  simp only [shXs, List.mem_map] at hx
  obtain ⟨i, _, rfl⟩ := hx
  simp
 ·have e := dA_begin a b (N + 1).toNat ha0 hup.1
  refine weakL _ 300 hC G0F (m0 := []) hC0 (by omega) ?_ ?_ ?_
  ·simp [dom]
  ·simp [zB, wb, e.1, e.2, fa_4, wi_zero]
  ·simp
 ·simp [pnHp, dom]
 ·intro i hi t
  refine tsL_ids ?_ t
  simp [dom, pnHp]
 ·intro i x hi hx C1 l hC1 hh1 hY1
  have hCC := hC
  have hC1' : C1.G = G0 := hC1.trans hC
  obtain ⟨n, hn⟩ : ∃ n : Nat, N - (i : Int) = n := ⟨(N - i).toNat, by omega⟩
  rw [shXs_at b N i hi, hn] at hx
  have e1 : (N + 1 - (i : Int)).toNat = n + 1 := by omega
  have e2 : (N + 1 - ((i + 1 : Nat) : Int)).toNat = n := by omega
  simp only [e1, e2]
  cases hx
  have hD : b * 2 ^ n < 57896044618658097711785492504343953926634992332820282019728792003956564819968 := by
   have h1 := hup.2 (by omega)
   have h2 : (2 : Int) ^ n ≤ 2 ^ N.toNat := by exact_mod_cast Nat.pow_le_pow_right (by omega) (by omega : n ≤ N.toNat)
   have h3 : b * 2 ^ n ≤ b * 2 ^ N.toNat := Int.mul_le_mul_of_nonneg_left h2 (by omega)
   have h4 : (2 : Int) ^ (nbits a).toNat ≤ 2 ^ 255 := by exact_mod_cast Nat.pow_le_pow_right (by omega) (by omega : (nbits a).toNat ≤ 255)
   omega
  have hD0 : 0 < b * 2 ^ n := Int.mul_pos hb0 (pow_pos2 _)
  have hM0 : 0 < b * 2 ^ (n + 1) := Int.mul_pos hb0 (pow_pos2 _)
  have hA0 : 0 ≤ rA a b (n + 1) := Int.emod_nonneg _ (by omega)
  have hA1 : rA a b (n + 1) ≤ a := by
   have h1 := Int.emod_add_mul_ediv a (b * 2 ^ (n + 1))
   have h2 : 0 ≤ b * 2 ^ (n + 1) * (a / (b * 2 ^ (n + 1))) := Int.mul_nonneg (by omega) (Int.ediv_nonneg ha0 (by omega))
   unfold rA; omega
  have szD : sz (b * 2 ^ n) = b * 2 ^ n := sz_pos (Int.le_of_lt hD0) hD
  have szA : sz (rA a b (n + 1)) = rA a b (n + 1) := sz_pos hA0 (Int.lt_of_le_of_lt hA1 ha)
  obtain ⟨t, r, hr, hn'⟩ : ∃ t r, r < 64 ∧ n = 64 * t + r := ⟨n / 64, n % 64, by omega, by omega⟩
  have tq : ((n : Int)).tdiv 64 = t := by rw [Int.tdiv_eq_ediv_of_nonneg (by omega)]; omega
  have tm : ((n : Int)).tmod 64 = r := by rw [Int.tmod_eq_emod_of_nonneg (by omega)]; omega
  have t4 : t < 4 := by omega
  have t4' : (t : Int) < 4 := by omega
  have t0 : (0 : Int) ≤ t := by omega
  have tb : Int.bmod (t : Int) 18446744073709551616 = t := bm (by omega) (by omega)
  have t3 : t ≤ 3 := Nat.le_of_lt_succ t4
  have t3' : (t : Int) ≤ 3 := Int.le_of_lt_add_one t4'
  have m1 : min r 64 = r := by omega
  have m2 : (2 : Int) ^ r % 18446744073709551616 = 2 ^ r := Int.emod_eq_of_lt (Int.le_of_lt (pow_pos2 _)) (by
   have : (2 : Int) ^ r < 2 ^ 64 := by exact_mod_cast Nat.pow_lt_pow_right (by omega) hr
   exact this)
  have hst := dA_step a b hb0 n
  replace hC := hC1'
  replace hY := hY1
  by_cases hle : b * 2 ^ n ≤ rA a b (n + 1)
  ·have hcmp : cmpI (sz (b * 2 ^ n)) (sz (rA a b (n + 1))) ≤ 0 := by rw [szD, szA]; unfold cmpI; split <;> (try split) <;> omega
   obtain ⟨s1, s2⟩ := hst.1 hle
   have hb1 := wi_bit (a / (b * 2 ^ (64 * t + r + 1))) t r hr
   have hb2 := wi_other (a / (b * 2 ^ (64 * t + r + 1))) t r
   rw [← hn'] at hb1 hb2
   replace hb1 : bitI .or .u64 (wi (qA a b (n + 1)) t) (2 ^ r) = wi (qA a b n) t := by rw [s2]; exact hb1
   replace hb2 : ∀ j, j ≠ t → wi (qA a b n) j = wi (qA a b (n + 1)) j := fun j hj => by rw [s2]; exact hb2 j hr hj
   have hq : fa 4 .u64 (upd (wi (qA a b (n + 1))) t (wi (qA a b n) t)) = fa 4 .u64 (wi (qA a b n)) := fa_congr fun j _ => by
    unfold upd; split
    ·rename_i h; rw [h]
    ·rename_i h; rw [hb2 j h]
   unfold pnHp
   repeat' (first | refine gwA ?_ | ((first | refine gwR [] ?_ | refine gwD [] ?_); intro Q hQ hP; simp [hC, hY, roundTs, pnTs]; refine hQ _ _ _ _ (by kernel_rfl) ?_; clear hQ hP Q) | (refine gwC ?_ ?_ <;> (intro hb; first | (cases hb; done) | skip)))
   intro C2 hC2 hh2 hY2
   replace hC : C2.G = G0 := hC2.trans hCC
   replace hY := hY2
   repeat' (first | refine gwA ?_ | ((first | refine gwR [] ?_ | refine gwD [] ?_); intro Q hQ hP; simp [hC, hY, roundTs, pnTs, wb, hcmp, tq, tm, t4, t4', t0, t3, t3', tb, m1, m2, fa_get, fa_set, hb1]; refine hQ _ _ _ _ (by kernel_rfl) ?_; clear hQ hP Q) | (refine gwC ?_ ?_ <;> (intro hb; first | (cases hb; done) | skip)))
   refine weakL [] 300 hC1' G0F hh1 (by omega) ?_ ?_ ?_
   ·simp
   ·simp [fa_ids, ids_lit, wb, zB, hq, s1]
   ·simp [wb, zB, hq, s1]
  ·have hcmp : ¬ cmpI (sz (b * 2 ^ n)) (sz (rA a b (n + 1))) ≤ 0 := by rw [szD, szA]; unfold cmpI; split <;> (try split) <;> omega
   obtain ⟨s1, s2⟩ := hst.2 (by omega)
   unfold pnHp
   repeat' (first | refine gwA ?_ | ((first | refine gwR [] ?_ | refine gwD [] ?_); intro Q hQ hP; simp [hC, hY, roundTs, pnTs]; refine hQ _ _ _ _ (by kernel_rfl) ?_; clear hQ hP Q) | (refine gwC ?_ ?_ <;> (intro hb; first | (cases hb; done) | skip)))
   intro C2 hC2 hh2 hY2
   replace hC : C2.G = G0 := hC2.trans hCC
   replace hY := hY2
   repeat' (first | refine gwA ?_ | ((first | refine gwR [] ?_ | refine gwD [] ?_); intro Q hQ hP; simp [hC, hY, roundTs, pnTs, wb, hcmp]; refine hQ _ _ _ _ (by kernel_rfl) ?_; clear hQ hP Q) | (refine gwC ?_ ?_ <;> (intro hb; first | (cases hb; done) | skip)))
   refine weakL [] 300 hC1' G0F hh1 (by omega) ?_ ?_ ?_
   ·simp
   ·simp [fa_ids, ids_lit, wb, zB, s1, s2]
   ·simp [wb, zB, s1, s2]
 ·left
  refine ⟨by rw [shXs_len], ?_⟩
  have e : (N + 1 - ((N + 1).toNat : Int)).toNat = 0 := by omega
  have ed := dA_end a b
  rw [e]
  unfold pnHp pnTs
  rw [ed.1, ed.2]
  repeat' (first | refine gwA ?_ | ((first | refine gwR [] ?_ | refine gwD [] ?_); intro Q hQ hP; simp [hC, hY, wb, fa_4, zB]; refine hQ _ _ _ _ (by kernel_rfl) ?_; clear hQ hP Q) | (refine gwC ?_ ?_ <;> (intro hb; first | (cases hb; done) | skip)))
  refine ⟨.inr trivial, ?_⟩
  simp [Tryz.results116]
@[simp] theorem qplain (a b : Int) (ha0 : 0 ≤ a) (ha : a < 57896044618658097711785492504343953926634992332820282019728792003956564819968) (hb0 : 0 < b) (hb1 : b < 57896044618658097711785492504343953926634992332820282019728792003956564819968) (K : Value → Prop) :
  callK Tryz.prog G0 116 #[Value.agg #[.int .u64 (wi (a) 0), .int .u64 (wi (a) 1), .int .u64 (wi (a) 2), .int .u64 (wi (a) 3)], Value.agg #[.int .u64 (wi (b) 0), .int .u64 (wi (b) 1), .int .u64 (wi (b) 2), .int .u64 (wi (b) 3)]] K ↔ K (.tuple #[wd (a / b), wd (a % b)]) := callK_iff G0W (by kernel_rfl) (plain_ret a b ha0 ha hb0 hb1)
theorem ret_of_retp {P : Program} {G : Hp} {f : FuncId} {args : Array Value} {v : Value} (h : RetP P G f args (.ret v)) : Ret P G f args v := ⟨h.1 v rfl, h.2.1, h.2.2.1, h.2.2.2⟩
@[simp] theorem qmust (n : Int) (K : Value → Prop) : callK Tryz.prog G0 114 #[.bool true, .int .i64 n] K ↔ K (.tuple #[]) := callK_iff G0W (by kernel_rfl) (ret_of_retp (must_t n))
@[simp] theorem qsure (z : Int) (K : Value → Prop) : callK Tryz.prog G0 115 #[Value.agg #[.int .u64 (wi (z) 0), .int .u64 (wi (z) 1), .int .u64 (wi (z) 2), .int .u64 (wi (z) 3)], .bool false] K ↔ K (wd z) := callK_iff G0W (by kernel_rfl) (ret_of_retp (sure_f z))
def wr (z : Int) : Prop := -57896044618658097711785492504343953926634992332820282019728792003956564819968 ≤ z ∧ z < 57896044618658097711785492504343953926634992332820282019728792003956564819968
theorem wr_sz {z : Int} (h : wr z) : sz z = z := sz_id h.1 h.2
theorem wr_ng {z : Int} (h : wr z) : ng z = decide (z < 0) := by rw [ng_sz, wr_sz h]
theorem ng_f {z : Int} (h : wr z) (h0 : 0 ≤ z) : ng z = false := by rw [wr_ng h]; simp; exact h0
theorem ng_t {z : Int} (h : wr z) (h0 : z < 0) : ng z = true := by rw [wr_ng h]; simp; exact h0
theorem least_ne (z : Int) (h : wr z) (h1 : z ≠ -57896044618658097711785492504343953926634992332820282019728792003956564819968) : (!wi z 0 == 0 || (!wi z 1 == 0 || (!wi z 2 == 0 || !wi z 3 == 9223372036854775808))) = true := by
 refine Classical.byContradiction fun hn => h1 ?_
 simp at hn
 obtain ⟨w0, w1, w2, w3⟩ := hn
 rw [← wr_sz h, sz_w, w0, w1, w2, w3]
 unfold ng; rw [w3]; decide
theorem wr_ne {z : Int} (h : wr z) (h0 : z ≠ 0) : (!wi z 0 == 0 || (!wi z 1 == 0 || (!wi z 2 == 0 || !wi z 3 == 0))) = true := words_ne z (by rw [wr_sz h]; exact h0)
theorem i64_1 : i64 1 := by decide
def lst : Int := -57896044618658097711785492504343953926634992332820282019728792003956564819968

theorem floor_zero (a : Int) : RetP Tryz.prog G0 100 #[wd a, wd 0] (.pan (erV 30)) := by
 refine retp_of G0F Tryz.func100 rfl Tryz.call100 (fun v h => by cases h) (by simp) (by simp [Tryz.ntmps100]) ?_
 intro C hC hC0 hY
 repeat' (first | refine gwA ?_ | ((first | refine gwR [1000114] ?_ | refine gwD [1000114] ?_); intro Q hQ hP; simp [hC, hY, wi_zero]; (repeat ((first | (refine callP_of (must_f 30) ?_)); try simp [hC, hY, wi_zero])); (first | refine hQ _ _ _ _ (by kernel_rfl) ?_ | refine hP _ _ (by kernel_rfl) fun _ => ?_); clear hQ hP Q) | (refine gwC ?_ ?_ <;> (intro hb; first | (cases hb; done) | skip)))
 rfl
set_option maxHeartbeats 2000000 in
theorem floor_pp (a b : Int) (ha : wr a) (hb : wr b) (h0 : 0 < b) (ha0 : 0 ≤ a) : Ret Tryz.prog G0 100 #[wd a, wd b] (.tuple #[wd (a.fdiv b), wd (a.fmod b)]) := by
 refine ret_of G0F Tryz.func100 rfl Tryz.call100 (by simp) (by simp) (by simp [Tryz.ntmps100]) ?_
 intro C hC hC0 hY
 have hz := wr_ne hb (by omega)
 have hn1 := least_ne a ha (by omega)
 have hn2 := least_ne b hb (by omega)
 have s1 : ¬ cmpI (sz b) 0 < 0 := by rw [wr_sz hb]; unfold cmpI; split <;> (try split) <;> omega
 have s2 : ¬ cmpI (sz a) 0 < 0 := by rw [wr_sz ha]; unfold cmpI; split <;> (try split) <;> omega
 have hbu : b < 57896044618658097711785492504343953926634992332820282019728792003956564819968 := hb.2
 have hau : a < 57896044618658097711785492504343953926634992332820282019728792003956564819968 := ha.2
 have e1 : a.fdiv b = a / b := Int.fdiv_eq_ediv_of_nonneg a (by omega)
 have e2 : a.fmod b = a % b := Int.fmod_eq_emod_of_nonneg a (by omega)
 repeat' (first | refine gwA ?_ | ((first | refine gwR [] ?_ | refine gwD [] ?_); intro Q hQ hP; simp [hC, hY, hz, hn1, hn2, s1, s2, lsB, ha0, hau, h0, hbu]; (first | refine hQ _ _ _ _ (by kernel_rfl) ?_ | refine hP _ _ (by kernel_rfl) fun _ => ?_); clear hQ hP Q) | (refine gwC ?_ ?_ <;> (intro hb; first | (cases hb; done) | skip)))
 refine ⟨.inr trivial, ?_⟩
 simp [Tryz.results100, e1, e2]
theorem neg_fdiv (m b : Int) (hb : 0 < b) : (-(m + 1)).fdiv b = -(m / b) - 1 ∧ (-(m + 1)).fmod b = b - 1 - m % b := by
 have h1 := Int.emod_add_mul_ediv m b
 have h2 := Int.emod_nonneg m (b := b) (by omega)
 have h3 := Int.emod_lt_of_pos m hb
 have e : -(m + 1) = (b - 1 - m % b) + b * (-(m / b) - 1) := by rw [Int.mul_sub, Int.mul_neg]; omega
 rw [Int.fdiv_eq_ediv_of_nonneg _ (by omega), Int.fmod_eq_emod_of_nonneg _ (by omega)]
 constructor
 ·rw [e, Int.add_mul_ediv_left _ _ (by omega), Int.ediv_eq_zero_of_lt (by omega) (by omega)]; omega
 ·rw [e, Int.add_mul_emod_self_left, Int.emod_eq_of_lt (by omega) (by omega)]
set_option maxHeartbeats 2000000 in
theorem floor_np (m b : Int) (ha : wr (-(m + 1))) (hal : -(m + 1) ≠ lst) (hb : wr b) (h0 : 0 < b) (hm0 : 0 ≤ m) : Ret Tryz.prog G0 100 #[wd (-(m + 1)), wd b] (.tuple #[wd ((-(m + 1)).fdiv b), wd ((-(m + 1)).fmod b)]) := by
 refine ret_of G0F Tryz.func100 rfl Tryz.call100 (by simp) (by simp) (by simp [Tryz.ntmps100]) ?_
 intro C hC hC0 hY
 obtain ⟨d1, d2⟩ := neg_fdiv m b h0
 rw [d1, d2]
 generalize ea : -(m + 1) = a at *
 have hz := wr_ne hb (by omega)
 have hn1 := least_ne a ha hal
 have hn2 := least_ne b hb (by omega)
 have s1 : ¬ cmpI (sz b) 0 < 0 := by rw [wr_sz hb]; unfold cmpI; split <;> (try split) <;> omega
 have s2 : cmpI (sz a) 0 < 0 := by rw [wr_sz ha]; unfold cmpI; split <;> (try split) <;> omega
 have hbu : b < 57896044618658097711785492504343953926634992332820282019728792003956564819968 := hb.2
 have hmu : m < 57896044618658097711785492504343953926634992332820282019728792003956564819968 := by have := ha.1; unfold lst at hal; omega
 have hq0 : 0 ≤ m / b := Int.ediv_nonneg hm0 (by omega)
 have hq1 : m / b ≤ m := Int.ediv_le_self b hm0
 have hr0 : 0 ≤ m % b := Int.emod_nonneg m (by omega)
 have hr1 : m % b < b := Int.emod_lt_of_pos m h0
 have em : -(a + 1) = m := by omega
 have f1 : (ng a == ng 1 && ng (a + 1) != ng a) = false := by
  rw [ng_t ha (by omega), ng_f (z := 1) (by unfold wr; omega) (by omega)]; rfl
 have f2 : (ng (a + 1) && ng m) = false := by rw [ng_f (z := m) (by unfold wr; omega) hm0]; simp
 have f3 : (ng (m / b) && ng (-(m / b))) = false := by rw [ng_f (z := m / b) (by unfold wr; omega) hq0]; simp
 have f4 : (ng (-(m / b)) != ng 1 && ng (-(m / b) - 1) != ng (-(m / b))) = false := by
  rw [ng_f (z := 1) (by unfold wr; omega) (by omega), ng_t (z := -(m / b) - 1) (by unfold wr; omega) (by omega)]
  cases ng (-(m / b)) <;> rfl
 have f5 : (ng b != ng 1 && ng (b - 1) != ng b) = false := by
  rw [ng_f hb (by omega), ng_f (z := 1) (by unfold wr; omega) (by omega)]; rfl
 have f6 : (ng (b - 1) != ng (m % b) && ng (b - 1 - m % b) != ng (b - 1)) = false := by
  rw [ng_f (z := b - 1) (by unfold wr; have := hb.2; omega) (by omega), ng_f (z := m % b) (by unfold wr; omega) hr0]; rfl
 have i1 := i64_1
 repeat' (first | refine gwA ?_ | ((first | refine gwR [] ?_ | refine gwD [] ?_); intro Q hQ hP; simp [hC, hY, hz, hn1, hn2, s1, s2, lsB, h0, hbu, hm0, hmu, em, f1, f2, f3, f4, f5, f6, i1]; (first | refine hQ _ _ _ _ (by kernel_rfl) ?_ | refine hP _ _ (by kernel_rfl) fun _ => ?_); clear hQ hP Q) | (refine gwC ?_ ?_ <;> (intro hb; first | (cases hb; done) | skip)))
 refine ⟨.inr trivial, ?_⟩
 simp [Tryz.results100]
theorem upd_far {α : Type} {f : Nat → α} {x k : Nat} {v : α} (h : k < x) : upd f x v k = f k := upd_other f v (by omega)
theorem floor_ret (a b : Int) (ha : wr a) (hal : a ≠ lst) (hb : wr b) (h0 : 0 < b) : Ret Tryz.prog G0 100 #[wd a, wd b] (.tuple #[wd (a / b), wd (a % b)]) := by
 rw [← Int.fdiv_eq_ediv_of_nonneg a (Int.le_of_lt h0), ← Int.fmod_eq_emod_of_nonneg a (Int.le_of_lt h0)]
 by_cases ha0 : 0 ≤ a
 ·exact floor_pp a b ha hb h0 ha0
 ·obtain ⟨m, rfl⟩ : ∃ m, a = -(m + 1) := ⟨-a - 1, by omega⟩
  exact floor_np m b ha hal hb h0 (by omega)
@[simp] theorem qfloor (a b : Int) (ha : wr a) (hal : a ≠ lst) (hb : wr b) (h0 : 0 < b) (K : Value → Prop) : callK Tryz.prog G0 100 #[Value.agg #[.int .u64 (wi (a) 0), .int .u64 (wi (a) 1), .int .u64 (wi (a) 2), .int .u64 (wi (a) 3)], Value.agg #[.int .u64 (wi (b) 0), .int .u64 (wi (b) 1), .int .u64 (wi (b) 2), .int .u64 (wi (b) 3)]] K ↔ K (.tuple #[wd (a / b), wd (a % b)]) :=
 callK_iff G0W (by kernel_rfl) (floor_ret a b ha hal hb h0)
def hp2 (a b : Int) : Hp := hpL G0 [(200, wb a), (208, wb b)]
theorem hp2_rst (a b : Int) : rst (hp2 a b) [200, 208] = hp2 a b := hpL_rst G0F (by simp)
theorem hp2_closed (a b : Int) (D : Nat → Prop) (k : Nat) (c : Blk) (h : hp2 a b k = some c) : c.ids D := by
 rcases hpL_mem h with h | h
 ·simp at h
  rcases h with ⟨_, rfl⟩ | ⟨_, rfl⟩ <;> simp [wb]
 ·exact G0_closed _ _ _ h
theorem hp2_free (a b : Int) (x : Nat) (hx : 300 ≤ x) : hp2 a b x = none := by
 simp [hp2, show ¬ x = 200 by omega, show ¬ x = 208 by omega, show 100 ≤ x by omega]
theorem Floor1_fun (a b : Int) (ha : wr a) (hal : a ≠ lst) (hb : wr b) (h0 : 0 < b) : Fun Tryz.prog G0 99 [.pointer (some ⟨200, 0, none⟩), .pointer (some ⟨208, 0, none⟩)].toArray (hp2 a b) [200, 208] (.ret (wd (a / b)) []) := by
 refine fun_of (B := 300) G0F (fun k hk => hpL_low (by simp) hk) Tryz.func99 rfl Tryz.call99 ?_ ?_ ⟨flatV_ids (by simp), by simp [keys], by simp, by simp⟩ (by simp [Tryz.ntmps99]) (by omega) ?_ ?_
 ·rw [hp2_rst]; simp [hp2, dom]
 ·rw [hp2_rst]; exact hp2_closed a b _
 ·rw [hp2_rst]; exact hp2_free a b
 ·intro C hC hC0 hY
  rw [hp2_rst] at hC0 ⊢
  repeat' (first | refine gwA ?_ | ((first | refine gwR [] ?_ | refine gwD [] ?_); intro Q hQ hP; simp [hC, hY, hp2, wb, ha, hal, hb, h0]; (first | refine hQ _ _ _ _ (by kernel_rfl) ?_ | refine hP _ _ (by kernel_rfl) fun _ => ?_); clear hQ hP Q) | (refine gwC ?_ ?_ <;> (intro hb; first | (cases hb; done) | skip)))
  refine ⟨.inr rfl, by simp [Tryz.results99], fun k hk => ?_⟩
  have hk3 : k < 300 := Classical.byContradiction fun h => hk (hp2_free a b k (by omega))
  simp (disch := omega) only [upd_far]
  rfl
theorem qFloor_ret (a b : Int) (ha : wr a) (hal : a ≠ lst) (hb : wr b) (h0 : 0 < b) : Ret Tryz.prog G0 84 #[wd a, wd b] (.tuple #[wd (a / b), .int .i64 0]) := by
 refine ret_of G0F Tryz.func84 rfl Tryz.call84 (by simp) (by simp) (by simp [Tryz.ntmps84]) ?_
 intro C hC hC0 hY
 repeat' (first | refine gwA ?_ | ((first | refine gwR [98] ?_ | refine gwD [98] ?_); intro Q hQ hP; simp [hC, hY]; (repeat ((first | (refine heapK_of (hp' := hp2 a b) (qtold_ret (fun k hk => hpL_low (by simp) hk) (by simp) rfl (by simp) (Floor1_fun a b ha hal hb h0)) (by simp [hp2, wb]) (fun k hk => hpL_low (by simp) hk) trivial ?_)); try simp [hC, hY])); (first | refine hQ _ _ _ _ (by kernel_rfl) ?_ | refine hP _ _ (by kernel_rfl) fun _ => ?_); clear hQ hP Q) | (refine gwC ?_ ?_ <;> (intro hb; first | (cases hb; done) | skip)))
 refine ⟨.inr trivial, ?_⟩
 simp [Tryz.results84]
@[simp] theorem qFloor (a b : Int) (ha : wr a) (hal : a ≠ lst) (hb : wr b) (h0 : 0 < b) (K : Value → Prop) : callK Tryz.prog G0 84 #[Value.agg #[.int .u64 (wi (a) 0), .int .u64 (wi (a) 1), .int .u64 (wi (a) 2), .int .u64 (wi (a) 3)], Value.agg #[.int .u64 (wi (b) 0), .int .u64 (wi (b) 1), .int .u64 (wi (b) 2), .int .u64 (wi (b) 3)]] K ↔ K (.tuple #[wd (a / b), .int .i64 0]) :=
 callK_iff G0W (by kernel_rfl) (qFloor_ret a b ha hal hb h0)
theorem rmust_t (n : Int) : RetP Tryz.prog G0 82 #[.bool true, .int .i64 n] (.ret (.tuple #[])) := by
 refine retp_of G0F Tryz.func82 rfl Tryz.call82 (fun v h => by cases h; simp) (by simp) (by simp [Tryz.ntmps82]) ?_
 intro C hC hC0 hY
 repeat' (first | refine gwA ?_ | ((first | refine gwR [] ?_ | refine gwD [] ?_); intro Q hQ hP; simp [hC, hY]; (first | refine hQ _ _ _ _ (by kernel_rfl) ?_ | refine hP _ _ (by kernel_rfl) fun _ => ?_); clear hQ hP Q) | (refine gwC ?_ ?_ <;> (intro hb; first | (cases hb; done) | skip)))
 exact ⟨.inl trivial, by simp [Tryz.results82]⟩
theorem rmust_f (n : Int) : RetP Tryz.prog G0 82 #[.bool false, .int .i64 n] (.pan (erV n)) := by
 refine retp_of G0F Tryz.func82 rfl Tryz.call82 (fun v h => by cases h) (by simp) (by simp [Tryz.ntmps82]) ?_
 intro C hC hC0 hY
 repeat' (first | refine gwA ?_ | ((first | refine gwR [] ?_ | refine gwD [] ?_); intro Q hQ hP; simp [hC, hY]; (first | refine hQ _ _ _ _ (by kernel_rfl) ?_ | refine hP _ _ (by kernel_rfl) fun _ => ?_); clear hQ hP Q) | (refine gwC ?_ ?_ <;> (intro hb; first | (cases hb; done) | skip)))
 rfl
@[simp] theorem rmust (n : Int) (K : Value → Prop) : callK Tryz.prog G0 82 #[.bool true, .int .i64 n] K ↔ K (.tuple #[]) := callK_iff G0W (by kernel_rfl) (ret_of_retp (rmust_t n))
theorem most_ret (z : Int) : Ret Tryz.prog G0 118 #[wd z] (.int .i64 (nbits (uz z) / 2)) := by
 refine ret_of G0F Tryz.func118 rfl Tryz.call118 rfl (by simp) (by simp [Tryz.ntmps118]) ?_
 intro C hC hC0 hY
 have b0 := nb_word z 0
 have b1 := nb_word z 1
 have b2 := nb_word z 2
 have b3 := nb_word z 3
 have k3 := size_3 z
 have k2 := size_2 z
 have k1 := size_1 z
 have k0 := size_0 z
 have m3 : Int.bmod (192 + nbits (wi z 3)) 18446744073709551616 = 192 + nbits (wi z 3) := bm (by omega) (by omega)
 have m2 : Int.bmod (128 + nbits (wi z 2)) 18446744073709551616 = 128 + nbits (wi z 2) := bm (by omega) (by omega)
 have m1 : Int.bmod (64 + nbits (wi z 1)) 18446744073709551616 = 64 + nbits (wi z 1) := bm (by omega) (by omega)
 have t3 : (192 + nbits (wi z 3)).tdiv 2 = (192 + nbits (wi z 3)) / 2 := Int.tdiv_eq_ediv_of_nonneg (by omega)
 have t2 : (128 + nbits (wi z 2)).tdiv 2 = (128 + nbits (wi z 2)) / 2 := Int.tdiv_eq_ediv_of_nonneg (by omega)
 have t1 : (64 + nbits (wi z 1)).tdiv 2 = (64 + nbits (wi z 1)) / 2 := Int.tdiv_eq_ediv_of_nonneg (by omega)
 have t0 : (nbits (wi z 0)).tdiv 2 = nbits (wi z 0) / 2 := Int.tdiv_eq_ediv_of_nonneg (by omega)
 have u3 : Int.bmod ((192 + nbits (wi z 3)) / 2) 18446744073709551616 = (192 + nbits (wi z 3)) / 2 := bm (by omega) (by omega)
 have u2 : Int.bmod ((128 + nbits (wi z 2)) / 2) 18446744073709551616 = (128 + nbits (wi z 2)) / 2 := bm (by omega) (by omega)
 have u1 : Int.bmod ((64 + nbits (wi z 1)) / 2) 18446744073709551616 = (64 + nbits (wi z 1)) / 2 := bm (by omega) (by omega)
 have u0 : Int.bmod (nbits (wi z 0) / 2) 18446744073709551616 = nbits (wi z 0) / 2 := bm (by omega) (by omega)
 repeat' (first | refine GWL_start ?_ | refine GWL_step ?_ | refine gwA ?_ | ((first | refine gwR [] ?_ | refine gwD [] ?_); intro Q hQ hP; simp [hC, hY, wi_ge, wi_lt, m1, m2, m3, t0, t1, t2, t3, u0, u1, u2, u3]; (first | refine hQ _ _ _ _ (by kernel_rfl) ?_ | refine hP _ _ (by kernel_rfl) fun _ => ?_); clear hQ hP Q) | (refine gwC ?_ ?_ <;> (intro hb; first | (cases hb; done) | skip)))
 all_goals
  refine ⟨.inr trivial, ?_⟩
  simp [Tryz.results118]
  simp_all
@[simp] theorem rmost (z : Int) (K : Value → Prop) : callK Tryz.prog G0 118 #[Value.agg #[.int .u64 (wi (z) 0), .int .u64 (wi (z) 1), .int .u64 (wi (z) 2), .int .u64 (wi (z) 3)]] K ↔ K (.int .i64 (nbits (uz z) / 2)) := callK_iff G0W (by kernel_rfl) (most_ret z)
theorem all_new (a : Int) (k : Nat) (h100 : 100 ≤ k) : Fun Tryz.prog G0 101 #[wd a] G0 [] (.new (.func (.func 117) #[] #[.pointer (some ⟨k, 0, none⟩)]) [(k, wb a)]) := by
 have e0 : rst G0 [] = G0 := rst_G G0F []
 refine new_of (B := 200) (fun j => if j = k then 200 else j) G0F (fun _ _ => rfl) Tryz.func101 rfl Tryz.call101 (by simp [idsV, idsA, idsF, ids0]) (by rw [e0]; exact G0_closed _) ?_ (by simp [Tryz.ntmps101]) (by omega) (by rw [e0]; exact fun x hx => G0_big x (by omega)) (fun j hj => ?_) ?_ ?_ ?_ ?_
 ·refine ⟨by simp [idsV, idsA, idsF, ids0, extD, keys], by simp [keys]; omega, fun q b c h1 h2 => ?_⟩
  simp at h1 h2
  rw [h1.2, h2.2]
 ·rw [e0] at hj; have := G0_dom hj; rw [if_neg (by omega)]
 ·simp [e0, dom]
 ·simp
 ·simp [wb, ids_lit, idsF, ids0]
 ·intro C hC hC0 hY
  rw [e0]
  repeat' (first | refine gwA ?_ | ((first | refine gwR [] ?_ | refine gwD [] ?_); intro Q hQ hP; simp [hC, hY]; (first | refine hQ _ _ _ _ (by kernel_rfl) ?_ | refine hP _ _ (by kernel_rfl) fun _ => ?_); clear hQ hP Q) | (refine gwC ?_ ?_ <;> (intro hb; first | (cases hb; done) | skip)))
  refine ⟨.inr trivial, ?_⟩
  simp [Tryz.results101, ren, renA, renF, ren0, wb]
  intro j hj hj2
  have := G0_dom hj
  omega
theorem wi_pow (t r j : Nat) (hr : r < 64) : wi (2 ^ (64 * t + r)) j = if j = t then 2 ^ r else 0 := by
 by_cases h : j = t
 ·subst h
  rw [if_pos rfl]
  unfold wi
  rw [Int.pow_add, Int.mul_ediv_cancel_left _ (by have := pow_pos2 (64 * j); omega)]
  exact Int.emod_eq_of_lt (Int.le_of_lt (pow_pos2 _)) (by
   have : (2 : Int) ^ r < 2 ^ 64 := by exact_mod_cast Nat.pow_lt_pow_right (by omega) hr
   exact this)
 ·rw [if_neg h]
  have := wi_other 0 t r j hr h
  simp only [Int.zero_mul, Int.zero_add] at this
  rw [this, wi_zero]
theorem set_bit (t r : Nat) (ht : t < 4) (hr : r < 64) : (#[.int .u64 0, .int .u64 0, .int .u64 0, .int .u64 0] : Array Value).setIfInBounds t (.int .u64 (2 ^ r)) = #[.int .u64 (wi (2 ^ (64 * t + r)) 0), .int .u64 (wi (2 ^ (64 * t + r)) 1), .int .u64 (wi (2 ^ (64 * t + r)) 2), .int .u64 (wi (2 ^ (64 * t + r)) 3)] := by
 simp only [wi_pow _ _ _ hr]
 have : t = 0 ∨ t = 1 ∨ t = 2 ∨ t = 3 := by omega
 rcases this with rfl | rfl | rfl | rfl <;> simp
def allXs (M : Int) : List (Array Value) := (List.range (M + 1).toNat).map fun (i : Nat) => #[wd (2 ^ (M - (i : Int)).toNat)]
theorem allXs_len (M : Int) : (allXs M).length = (M + 1).toNat := by simp [allXs]
theorem allXs_at (M : Int) (i : Nat) (h : i < (M + 1).toNat) : (allXs M)[i]? = some #[wd (2 ^ (M - (i : Int)).toNat)] := by simp [allXs, h]
def aHp (a : Int) : Hp := hpL G0 [(100, wb a)]
def allSt (a M : Int) (l i : Nat) : GS :=
 ⟨tsL [(0, .func (.yield l) #[] #[]), (1, .pointer (some ⟨100, 0, none⟩)), (3, .int .i64 (M - i))], aHp a, 300, i⟩
theorem all_it (a : Int) : IterG Tryz.prog G0 117 #[.pointer (some ⟨100, 0, none⟩)] (aHp a) [100] (allXs (nbits (uz a) / 2)) := by
 have e0 : rst (aHp a) [100] = aHp a := hpL_rst G0F (by simp)
 refine iter_of (B := 200) (v := .tuple #[]) G0F (fun k hk => hpL_low (by simp) hk) Tryz.func117 rfl Tryz.call117 ?_ ?_ (by simp [Tryz.ntmps117]) (by omega) ?_ ?_
 ·rw [e0]; simp [idsV, idsA, idsF, ids0, dom, aHp]
 ·rw [e0]
  intro k c hk
  rcases hpL_mem hk with h | h
  ·simp at h
   rcases h with ⟨_, rfl⟩
   simp [wb, ids_lit, idsF, ids0]
  ·exact G0_closed _ _ _ h
 ·rw [e0]
  intro x hx
  simp [aHp, show ¬ x = 100 by omega, show 100 ≤ x by omega]
 ·intro C l stop hC hC0 hY
  rw [e0] at hC0 ⊢
  have hnb := nbits_bd 256 (uz_bd a).2
  have hM : 0 ≤ nbits (uz a) / 2 ∧ nbits (uz a) / 2 ≤ 128 := by omega
  have hlen := allXs_len (nbits (uz a) / 2)
  repeat' (first | refine gwA ?_ | ((first | refine gwR [] ?_ | refine gwD [] ?_); intro Q hQ hP; simp [hC, hY, aHp, wb]; (first | refine hQ _ _ _ _ (by kernel_rfl) ?_ | refine hP _ _ (by kernel_rfl) fun _ => ?_); clear hQ hP Q) | (refine gwC ?_ ?_ <;> (intro hb; first | (cases hb; done) | skip)))
  generalize hMe : nbits (uz a) / 2 = M at *
  generalize hxs : allXs M = xs at *
  refine GW_for (min stop xs.length) (allSt a M l) ?_ ?_ ?_
  ·refine weakL _ 300 hC G0F (m := [(100, wb a)]) (m0 := [(100, wb a)]) hC0 (by omega) ?_ ?_ ?_
   ·simp [dom]
   ·simp [wb]
   ·simp [wb]
  ·intro i hi
   have hs : i < stop := by omega
   have hq : (i != stop) = true := by simp; omega
   have hle : i ≤ stop := by omega
   obtain ⟨n, hn⟩ : ∃ n : Nat, M - (i : Int) = n := ⟨(M - i).toNat, by omega⟩
   have g1 : (i : Int) ≤ M := by omega
   have hx : xs[i]? = some #[wd (2 ^ n)] := by
    rw [← hxs, allXs_at M i (by omega), hn]; rfl
   simp only [wd_eq] at hx
   have g4 : Int.bmod ((n : Int) - 1) 18446744073709551616 = M - ((i + 1 : Nat) : Int) := by rw [bm (by omega) (by omega)]; omega
   obtain ⟨t, r, hr, hn'⟩ : ∃ t r, r < 64 ∧ n = 64 * t + r := ⟨n / 64, n % 64, by omega, by omega⟩
   have tq : ((n : Int)).tdiv 64 = t := by rw [Int.tdiv_eq_ediv_of_nonneg (by omega)]; omega
   have tm : ((n : Int)).tmod 64 = r := by rw [Int.tmod_eq_emod_of_nonneg (by omega)]; omega
   have t4 : t < 4 := by omega
   have t4' : (t : Int) < 4 := by omega
   have t0 : (0 : Int) ≤ t := by omega
   have tb : Int.bmod (t : Int) 18446744073709551616 = t := bm (by omega) (by omega)
   have t3 : t ≤ 3 := Nat.le_of_lt_succ t4
   have m1 : min r 64 = r := by omega
   have m2 : (2 : Int) ^ r % 18446744073709551616 = 2 ^ r := Int.emod_eq_of_lt (Int.le_of_lt (pow_pos2 _)) (by
    have : (2 : Int) ^ r < 2 ^ 64 := by exact_mod_cast Nat.pow_lt_pow_right (by omega) hr
    exact this)
   have hset := set_bit t r t4 hr
   rw [← hn'] at hset
   unfold allSt
   repeat' (first | refine gwA ?_ | ((first | refine gwR [] ?_ | refine gwD [] ?_); intro Q hQ hP; simp [hC, hY, aHp, wb, hs, hq, hle, hn, g1, g4, hx, tq, tm, t4, t4', t0, tb, t3, m1, m2, hset]; (first | refine hQ _ _ _ _ (by kernel_rfl) ?_ | refine hP _ _ (by kernel_rfl) fun _ => ?_); clear hQ hP Q) | (refine gwC ?_ ?_ <;> (intro hb; first | (cases hb; done) | skip)))
   refine weakL _ 300 hC G0F (m := [(100, wb a)]) (m0 := [(100, wb a)]) hC0 (by omega) ?_ ?_ ?_
   ·simp [dom]
   ·simp [wb]
   ·simp [wb]
  ·by_cases h4 : xs.length ≤ stop
   ·rw [Nat.min_eq_right h4]
    have g1 : ¬ ((xs.length : Int) ≤ M) := by omega
    unfold allSt
    repeat' (first | refine gwA ?_ | ((first | refine gwR [] ?_ | refine gwD [] ?_); intro Q hQ hP; simp [hC, hY, aHp, wb, g1]; (first | refine hQ _ _ _ _ (by kernel_rfl) ?_ | refine hP _ _ (by kernel_rfl) fun _ => ?_); clear hQ hP Q) | (refine gwC ?_ ?_ <;> (intro hb; first | (cases hb; done) | skip)))
    refine ⟨.inl trivial, by simp [Tryz.results117], ?_⟩
    show xs.length = _
    omega
   ·rw [Nat.min_eq_left (by omega)]
    obtain ⟨n, hn⟩ : ∃ n : Nat, M - (stop : Int) = n := ⟨(M - stop).toNat, by omega⟩
    have g1 : (stop : Int) ≤ M := by omega
    have hx : xs[stop]? = some #[wd (2 ^ n)] := by
     rw [← hxs, allXs_at M stop (by omega), hn]; rfl
    simp only [wd_eq] at hx
    obtain ⟨t, r, hr, hn'⟩ : ∃ t r, r < 64 ∧ n = 64 * t + r := ⟨n / 64, n % 64, by omega, by omega⟩
    have tq : ((n : Int)).tdiv 64 = t := by rw [Int.tdiv_eq_ediv_of_nonneg (by omega)]; omega
    have tm : ((n : Int)).tmod 64 = r := by rw [Int.tmod_eq_emod_of_nonneg (by omega)]; omega
    have t4 : t < 4 := by omega
    have t4' : (t : Int) < 4 := by omega
    have t0 : (0 : Int) ≤ t := by omega
    have tb : Int.bmod (t : Int) 18446744073709551616 = t := bm (by omega) (by omega)
    have t3 : t ≤ 3 := Nat.le_of_lt_succ t4
    have m1 : min r 64 = r := by omega
    have m2 : (2 : Int) ^ r % 18446744073709551616 = 2 ^ r := Int.emod_eq_of_lt (Int.le_of_lt (pow_pos2 _)) (by
     have : (2 : Int) ^ r < 2 ^ 64 := by exact_mod_cast Nat.pow_lt_pow_right (by omega) hr
     exact this)
    have hset := set_bit t r t4 hr
    rw [← hn'] at hset
    unfold allSt
    repeat' (first | refine gwA ?_ | ((first | refine gwR [] ?_ | refine gwD [] ?_); intro Q hQ hP; simp [hC, hY, aHp, wb, hn, g1, hx, tq, tm, t4, t4', t0, tb, t3, m1, m2, hset]; (first | refine hQ _ _ _ _ (by kernel_rfl) ?_ | refine hP _ _ (by kernel_rfl) fun _ => ?_); clear hQ hP Q) | (refine gwC ?_ ?_ <;> (intro hb; first | (cases hb; done) | skip)))
    refine ⟨.inr trivial, by simp [Tryz.results117], ?_⟩
    show stop + 1 = _
    omega
def rp (a : Int) (K : Nat) : Nat → Int
 | 0 => 0
 | i + 1 => if (rp a K i + 2 ^ (K - 1 - i)) * (rp a K i + 2 ^ (K - 1 - i)) ≤ a then rp a K i + 2 ^ (K - 1 - i) else rp a K i
theorem rp_inv (a : Int) (K : Nat) (h0 : 0 ≤ a) (h : a < 2 ^ K * 2 ^ K) : ∀ i, i ≤ K → 0 ≤ rp a K i ∧ rp a K i * rp a K i ≤ a ∧ a < (rp a K i + 2 ^ (K - i)) * (rp a K i + 2 ^ (K - i))
 | 0, _ => by simp [rp]; exact ⟨h0, h⟩
 | i + 1, hi => by
  obtain ⟨h1, h2, h3⟩ := rp_inv a K h0 h i (by omega)
  have e1 : K - i = (K - 1 - i) + 1 := by omega
  have e2 : K - (i + 1) = K - 1 - i := by omega
  rw [e1, Int.pow_succ] at h3
  rw [e2]
  have hp := pow_pos2 (K - 1 - i)
  unfold rp
  split
  ·rename_i hc
   refine ⟨by omega, hc, ?_⟩
   rw [Int.add_assoc, show (2 : Int) ^ (K - 1 - i) + 2 ^ (K - 1 - i) = 2 ^ (K - 1 - i) * 2 by omega]
   exact h3
  ·rename_i hc
   exact ⟨h1, h2, by omega⟩
def isq (a : Int) : Int := rp a (nbits a / 2 + 1).toNat (nbits a / 2 + 1).toNat
theorem isq_bits (a : Int) (h0 : 0 ≤ a) : a < 2 ^ (nbits a / 2 + 1).toNat * 2 ^ (nbits a / 2 + 1).toNat := by
 rw [← Int.pow_add]
 by_cases h : a = 0
 ·subst h; exact pow_pos2 _
 ·obtain ⟨k, hk, k1, k2⟩ := nbits_pos (x := a) (by omega)
  refine Int.lt_of_lt_of_le k2 ?_
  rw [hk]
  exact_mod_cast Nat.pow_le_pow_right (by omega) (by omega)
theorem isq_spec (a : Int) (h0 : 0 ≤ a) : 0 ≤ isq a ∧ isq a * isq a ≤ a ∧ a < (isq a + 1) * (isq a + 1) := by
 have := rp_inv a (nbits a / 2 + 1).toNat h0 (isq_bits a h0) (nbits a / 2 + 1).toNat (Nat.le_refl _)
 simpa [isq] using this
theorem sq_lt {x y : Int} (hx : 0 ≤ x) (hy : 0 ≤ y) (h : x * x < y * y) : x < y := by
 refine Classical.byContradiction fun hn => ?_
 have : y * y ≤ x * x := Int.mul_le_mul (by omega) (by omega) hy hx
 omega
theorem isq_unique {a r : Int} (h0 : 0 ≤ r) (h1 : r * r ≤ a) (h2 : a < (r + 1) * (r + 1)) : isq a = r := by
 have ha : 0 ≤ a := Int.le_trans (Int.mul_nonneg h0 h0) h1
 obtain ⟨s0, s1, s2⟩ := isq_spec a ha
 have h3 := sq_lt (x := isq a) (y := r + 1) s0 (by omega) (by omega)
 have h4 := sq_lt (x := r) (y := isq a + 1) h0 (by omega) (by omega)
 omega
theorem sq_bd {x : Int} (B : Int) (hx : 0 ≤ x) (hB : 0 ≤ B) (h : x * x < B * B) : x < B := sq_lt hx hB h
def rfHp (a r : Int) : Hp := hpL G0 [(200, wb a), (208, wb r)]
def rfTs : Nat → Value := tsL [(1, .pointer (some ⟨200, 0, none⟩)), (2, .pointer (some ⟨208, 0, none⟩))]
theorem rfloor_neg (a : Int) (ha : wr a) (h0 : a < 0) : RetP Tryz.prog G0 85 #[wd a] (.pan (erV 2)) := by
 refine retp_of G0F Tryz.func85 rfl Tryz.call85 (fun v h => by cases h) (by simp) (by simp [Tryz.ntmps85]) ?_
 intro C hC hC0 hY
 have s1 : ¬ 0 ≤ cmpI (sz a) 0 := by rw [wr_sz ha]; unfold cmpI; split <;> (try split) <;> omega
 repeat' (first | refine gwA ?_ | ((first | refine gwR [1000082] ?_ | refine gwD [1000082] ?_); intro Q hQ hP; simp [hC, hY, s1]; (repeat ((first | (refine callP_of (rmust_f 2) ?_)); try simp [hC, hY, s1])); (first | refine hQ _ _ _ _ (by kernel_rfl) ?_ | refine hP _ _ (by kernel_rfl) fun _ => ?_); clear hQ hP Q) | (refine gwC ?_ ?_ <;> (intro hb; first | (cases hb; done) | skip)))
 rfl
set_option maxHeartbeats 1000000 in
theorem rfloor_ret (a : Int) (ha : wr a) (h0 : 0 ≤ a) : Ret Tryz.prog G0 85 #[wd a] (wd (isq a)) := by
 refine ret_of G0F Tryz.func85 rfl Tryz.call85 (by simp) (by simp) (by simp [Tryz.ntmps85]) ?_
 intro C hC hC0 hY
 have s1 : 0 ≤ cmpI (sz a) 0 := by rw [wr_sz ha]; unfold cmpI; split <;> (try split) <;> omega
 have hnb := nbits_bd 255 ha.2
 have hit := all_it a
 have eu : uz a = a := by unfold uz; have := ha.2; omega
 rw [eu] at hit
 have hinv := rp_inv a (nbits a / 2 + 1).toNat h0 (isq_bits a h0)
 have hisq : isq a = rp a (nbits a / 2 + 1).toNat (nbits a / 2 + 1).toNat := rfl
 have hM : 0 ≤ nbits a / 2 ∧ nbits a / 2 ≤ 127 := by omega
 generalize nbits a / 2 = M at *
 repeat' (first | refine gwA ?_ | ((first | refine gwR [] ?_ | refine gwD [] ?_); intro Q hQ hP; simp [hC, hY, s1]; (first | refine hQ _ _ _ _ (by kernel_rfl) ?_ | refine hP _ _ (by kernel_rfl) fun _ => ?_); clear hQ hP Q) | (refine gwC ?_ ?_ <;> (intro hb; first | (cases hb; done) | skip)))
 refine GW_region' [101] (by kernel_rfl) ?_; intro Q hQ hP; simp [hC, hY]
 refine heapK_of (all_new a 256 (by omega)) (by simp) (fun _ _ => rfl) (by simp [Res.at]) ?_
 simp
 refine hQ _ _ _ _ ?_; clear hQ hP Q
 repeat' (first | refine gwA ?_ | ((first | refine gwR [] ?_ | refine gwD [] ?_); intro Q hQ hP; simp [hC, hY]; (first | refine hQ _ _ _ _ (by kernel_rfl) ?_ | refine hP _ _ (by kernel_rfl) fun _ => ?_); clear hQ hP Q) | (refine gwC ?_ ?_ <;> (intro hb; first | (cases hb; done) | skip)))
 generalize hK : (M + 1).toNat = K at *
 refine GW_range (f := 117) (rs := [256]) (xs := allXs M) (caps := #[.pointer (some ⟨256, 0, none⟩)]) (by simp) ?_ ?_ (by simp [Tryz.ntmps85]) rfTs (fun i => rfHp a (rp a K i)) 300 K (by rw [allXs_len]; omega) ?_ ?_ ?_ ?_ ?_
 ·rw [hC]
  refine IterG.cast (IterX.rn (fun k => if k = 100 then 256 else k) G0F (fun k hk => hpL_low (by simp) hk) (rs := [100]) ?_ hit) (by simp [ren0]) (by simp)
  refine ⟨fun k hk => ?_, ?_, ?_, ?_⟩
  ·simp [aHp, show ¬ k = 100 by omega, show ¬ k = 200 by omega, show ¬ k = 208 by omega, show ¬ k = 256 by omega]
  ·simp
  ·simp [aHp, wb, Blk.rn, renF, ren0]
  ·simp
 ·intro x hx
  simp only [allXs, List.mem_map] at hx
  obtain ⟨i, _, rfl⟩ := hx
  simp
 ·refine weakL _ 300 hC G0F (m0 := []) hC0 (by omega) ?_ ?_ ?_
  ·simp [dom]
  ·simp [wb, rp, wi_zero]
  ·simp
 ·simp [rfHp, dom]
 ·intro i hi t
  refine tsL_ids ?_ t
  simp [dom, rfHp]
 ·intro i x hi hx C1 l hC1 hh1 hY1
  have hCC := hC
  have hC1' : C1.G = G0 := hC1.trans hC
  obtain ⟨n, hn⟩ : ∃ n : Nat, M - (i : Int) = n := ⟨(M - i).toNat, by omega⟩
  rw [allXs_at M i (by omega), hn] at hx
  cases hx
  obtain ⟨r0, r1, r2⟩ := hinv i (by omega)
  have en : K - 1 - i = n := by omega
  have hrs : rp a K (i + 1) = if (rp a K i + 2 ^ n) * (rp a K i + 2 ^ n) ≤ a then rp a K i + 2 ^ n else rp a K i := by
   rw [rp, en]
  generalize rp a K i = r at *
  have hau := ha.2
  have hr : r < 340282366920938463463374607431768211456 := sq_bd _ r0 (by decide) (by omega)
  have hn2 : (2 : Int) ^ n ≤ 2 ^ 127 := by exact_mod_cast Nat.pow_le_pow_right (by omega) (by omega : n ≤ 127)
  have hn0 := pow_pos2 n
  have t0 : 0 ≤ r + 2 ^ n := by omega
  have t1 : r + 2 ^ n < 680564733841876926926749214863536422912 := by omega
  have szt : sz (r + 2 ^ n) = r + 2 ^ n := sz_pos t0 (Int.lt_trans t1 (by decide))
  have tt0 : 0 ≤ (r + 2 ^ n) * (r + 2 ^ n) := Int.mul_nonneg t0 t0
  have hmul : mulO (r + 2 ^ n) (r + 2 ^ n) = decide (¬ ((r + 2 ^ n) * (r + 2 ^ n) < 57896044618658097711785492504343953926634992332820282019728792003956564819968)) := by
   unfold mulO; rw [szt]; congr 1
   exact propext ⟨fun h1 h2 => h1 ⟨Int.le_trans (by decide) tt0, h2⟩, fun h1 h2 => h1 h2.2⟩
  have sza : sz a = a := wr_sz ha
  replace hC := hC1'
  replace hY := hY1
  simp only [hrs]
  generalize htt : (r + 2 ^ n) * (r + 2 ^ n) = T at *
  by_cases hov : T < 57896044618658097711785492504343953926634992332820282019728792003956564819968
  ·have hm : mulO (r + 2 ^ n) (r + 2 ^ n) = false := by rw [hmul]; simp [hov]
   have szT : sz T = T := sz_pos tt0 hov
   by_cases hle : T ≤ a
   ·have hcmp : cmpI (sz T) (sz a) ≤ 0 := by rw [szT, sza]; unfold cmpI; split <;> (try split) <;> omega
    rw [if_pos hle]
    unfold rfHp
    repeat' (first | refine gwA ?_ | ((first | refine gwR [] ?_ | refine gwD [] ?_); intro Q hQ hP; simp [hC, hY, roundTs, rfTs]; (first | refine hQ _ _ _ _ (by kernel_rfl) ?_ | refine hP _ _ (by kernel_rfl) fun _ => ?_); clear hQ hP Q) | (refine gwC ?_ ?_ <;> (intro hb; first | (cases hb; done) | skip)))
    intro C2 hC2 hh2 hY2
    replace hC : C2.G = G0 := hC2.trans hCC
    replace hY := hY2
    repeat' (first | refine gwA ?_ | ((first | refine gwR [] ?_ | refine gwD [] ?_); intro Q hQ hP; simp [hC, hY, roundTs, rfTs, wb, szt, htt, hm, hcmp]; (first | refine hQ _ _ _ _ (by kernel_rfl) ?_ | refine hP _ _ (by kernel_rfl) fun _ => ?_); clear hQ hP Q) | (refine gwC ?_ ?_ <;> (intro hb; first | (cases hb; done) | skip)))
    refine weakL [] 300 hC1' G0F hh1 (by omega) ?_ ?_ ?_
    ·simp
    ·simp [wb]
    ·simp [wb]
   ·have hcmp : ¬ cmpI (sz T) (sz a) ≤ 0 := by rw [szT, sza]; unfold cmpI; split <;> (try split) <;> omega
    rw [if_neg hle]
    unfold rfHp
    repeat' (first | refine gwA ?_ | ((first | refine gwR [] ?_ | refine gwD [] ?_); intro Q hQ hP; simp [hC, hY, roundTs, rfTs]; (first | refine hQ _ _ _ _ (by kernel_rfl) ?_ | refine hP _ _ (by kernel_rfl) fun _ => ?_); clear hQ hP Q) | (refine gwC ?_ ?_ <;> (intro hb; first | (cases hb; done) | skip)))
    intro C2 hC2 hh2 hY2
    replace hC : C2.G = G0 := hC2.trans hCC
    replace hY := hY2
    repeat' (first | refine gwA ?_ | ((first | refine gwR [] ?_ | refine gwD [] ?_); intro Q hQ hP; simp [hC, hY, roundTs, rfTs, wb, szt, htt, hm, hcmp]; (first | refine hQ _ _ _ _ (by kernel_rfl) ?_ | refine hP _ _ (by kernel_rfl) fun _ => ?_); clear hQ hP Q) | (refine gwC ?_ ?_ <;> (intro hb; first | (cases hb; done) | skip)))
    refine weakL [] 300 hC1' G0F hh1 (by omega) ?_ ?_ ?_
    ·simp
    ·simp [wb]
    ·simp [wb]
  ·have hm : mulO (r + 2 ^ n) (r + 2 ^ n) = true := by rw [hmul]; simp only [hov, not_false_eq_true, decide_true]
   have hle : ¬ T ≤ a := fun h => hov (Int.lt_of_le_of_lt h hau)
   rw [if_neg hle]
   unfold rfHp
   repeat' (first | refine gwA ?_ | ((first | refine gwR [] ?_ | refine gwD [] ?_); intro Q hQ hP; simp [hC, hY, roundTs, rfTs]; (first | refine hQ _ _ _ _ (by kernel_rfl) ?_ | refine hP _ _ (by kernel_rfl) fun _ => ?_); clear hQ hP Q) | (refine gwC ?_ ?_ <;> (intro hb; first | (cases hb; done) | skip)))
   intro C2 hC2 hh2 hY2
   replace hC : C2.G = G0 := hC2.trans hCC
   replace hY := hY2
   repeat' (first | refine gwA ?_ | ((first | refine gwR [] ?_ | refine gwD [] ?_); intro Q hQ hP; simp [hC, hY, roundTs, rfTs, wb, szt, htt, hm]; (first | refine hQ _ _ _ _ (by kernel_rfl) ?_ | refine hP _ _ (by kernel_rfl) fun _ => ?_); clear hQ hP Q) | (refine gwC ?_ ?_ <;> (intro hb; first | (cases hb; done) | skip)))
   refine weakL [] 300 hC1' G0F hh1 (by omega) ?_ ?_ ?_
   ·simp
   ·simp [wb]
   ·simp [wb]
 ·left
  refine ⟨by rw [allXs_len]; omega, ?_⟩
  rw [← hisq]
  unfold rfHp rfTs
  repeat' (first | refine gwA ?_ | ((first | refine gwR [] ?_ | refine gwD [] ?_); intro Q hQ hP; simp [hC, hY, wb]; (first | refine hQ _ _ _ _ (by kernel_rfl) ?_ | refine hP _ _ (by kernel_rfl) fun _ => ?_); clear hQ hP Q) | (refine gwC ?_ ?_ <;> (intro hb; first | (cases hb; done) | skip)))
  refine ⟨.inr trivial, ?_⟩
  simp [Tryz.results85]
@[simp] theorem rfloor (a : Int) (ha : wr a) (h0 : 0 ≤ a) (K : Value → Prop) : callK Tryz.prog G0 85 #[Value.agg #[.int .u64 (wi (a) 0), .int .u64 (wi (a) 1), .int .u64 (wi (a) 2), .int .u64 (wi (a) 3)]] K ↔ K (wd (isq a)) := callK_iff G0W (by kernel_rfl) (rfloor_ret a ha h0)
def plo (N s : Int) : Int := isq (N / s)
def phi (N s : Int) : Int := if plo N s * plo N s * s = N then plo N s else plo N s + 1
theorem sqq_mono {a b : Int} (h0 : 0 ≤ a) (h : a ≤ b) : a * a ≤ b * b := Int.mul_le_mul h h h0 (by omega)
theorem plo_spec {N s : Int} (hN : 0 ≤ N) (hs : 0 < s) : 0 ≤ plo N s ∧ plo N s * plo N s * s ≤ N ∧ N < (plo N s + 1) * (plo N s + 1) * s := by
 have hq : 0 ≤ N / s := Int.ediv_nonneg hN (by omega)
 obtain ⟨r0, r1, r2⟩ := isq_spec (N / s) hq
 have h1 := Int.emod_add_mul_ediv N s
 have h2 := Int.emod_nonneg N (b := s) (by omega)
 have h3 := Int.emod_lt_of_pos N hs
 unfold plo
 generalize isq (N / s) = r at *
 generalize N / s = q at *
 refine ⟨r0, ?_, ?_⟩
 ·have : r * r * s ≤ q * s := Int.mul_le_mul_of_nonneg_right r1 (by omega)
  rw [Int.mul_comm q s] at this
  omega
 ·have h4 : (q + 1) * s ≤ (r + 1) * (r + 1) * s := Int.mul_le_mul_of_nonneg_right (by omega) (by omega)
  rw [Int.add_mul, Int.mul_comm q s] at h4
  omega
theorem lo_iff {N s l : Int} (hN : 0 ≤ N) (hs : 0 < s) (hl : 0 ≤ l) : l * l * s ≤ N ↔ l ≤ plo N s := by
 obtain ⟨r0, r1, r2⟩ := plo_spec hN hs
 constructor
 ·intro h
  refine Classical.byContradiction fun c => ?_
  have h1 := sqq_mono (a := plo N s + 1) (b := l) (by omega) (by omega)
  have h2 := Int.mul_le_mul_of_nonneg_right h1 (show 0 ≤ s by omega)
  omega
 ·intro h
  have h1 := sqq_mono hl h
  have h2 := Int.mul_le_mul_of_nonneg_right h1 (show 0 ≤ s by omega)
  omega
theorem ph_iff {N s h : Int} (hN : 0 ≤ N) (hs : 0 < s) (hh : 0 ≤ h) : N ≤ h * h * s ↔ phi N s ≤ h := by
 obtain ⟨r0, r1, r2⟩ := plo_spec hN hs
 unfold phi
 constructor
 ·intro h1
  split
  ·rename_i e
   refine Classical.byContradiction fun c => ?_
   have h2 := sqq_mono (a := h + 1) (b := plo N s) (by omega) (by omega)
   have h3 : h * h < plo N s * plo N s := by
    have : (h + 1) * (h + 1) = h * h + 2 * h + 1 := by rw [Int.add_mul, Int.mul_add]; omega
    omega
   have h4 := Int.mul_lt_mul_of_pos_right h3 hs
   omega
  ·rename_i e
   refine Classical.byContradiction fun c => ?_
   have h2 := sqq_mono (a := h) (b := plo N s) hh (by omega)
   have h3 := Int.mul_le_mul_of_nonneg_right h2 (show 0 ≤ s by omega)
   omega
 ·intro h1
  split at h1
  ·rename_i e
   have h2 := sqq_mono r0 h1
   have h3 := Int.mul_le_mul_of_nonneg_right h2 (show 0 ≤ s by omega)
   omega
  ·have h2 := sqq_mono (a := plo N s + 1) (b := h) (by omega) h1
   have h3 := Int.mul_le_mul_of_nonneg_right h2 (show 0 ≤ s by omega)
   omega
theorem phi_nn {N s : Int} (hN : 0 ≤ N) (hs : 0 < s) : 0 ≤ phi N s := by
 obtain ⟨r0, _, _⟩ := plo_spec hN hs
 unfold phi
 split <;> omega
theorem phi_near {N s : Int} : plo N s ≤ phi N s ∧ phi N s ≤ plo N s + 1 := by
 unfold phi
 split <;> omega
structure EIn (g m w q : Int) : Prop where
 g0 : 1 ≤ g
 g1 : g ≤ 1048576
 m0 : 1 ≤ m
 m1 : m ≤ 1024
 w0 : 1 ≤ w
 w1 : w ≤ 1024
 q0 : 0 ≤ q
 q1 : q ≤ 13194139533312
def enA (g m w : Int) : Int := g * m * w * 1048576
def enLo (g m w q : Int) : Int := plo (enA g m w * enA g m w) q
def enHi (g m w q : Int) : Int := phi (enA g m w * enA g m w) q
theorem mulR {a b p q : Int} (h1 : 1 ≤ a) (h2 : a ≤ p) (h3 : 1 ≤ b) (h4 : b ≤ q) : 1 ≤ a * b ∧ a * b ≤ p * q := by
 constructor
 ·have := Int.mul_le_mul (a := 1) (b := 1) (c := a) (d := b) h1 h3 (by omega) (by omega)
  omega
 ·exact Int.mul_le_mul h2 h4 (by omega) (by omega)
theorem EIn.gm {g m w q : Int} (h : EIn g m w q) : 1 ≤ g * m ∧ g * m ≤ 1073741824 := mulR h.g0 h.g1 h.m0 h.m1
theorem EIn.gmw {g m w q : Int} (h : EIn g m w q) : 1 ≤ g * m * w ∧ g * m * w ≤ 1099511627776 := mulR h.gm.1 h.gm.2 h.w0 h.w1
theorem EIn.a {g m w q : Int} (h : EIn g m w q) : 1048576 ≤ enA g m w ∧ enA g m w ≤ 1152921504606846976 := by
 have := h.gmw
 unfold enA
 omega
theorem EIn.aa {g m w q : Int} (h : EIn g m w q) : 0 ≤ enA g m w * enA g m w ∧ enA g m w * enA g m w ≤ 1329227995784915872903807060280344576 := by
 have h1 := h.a
 exact ⟨Int.mul_nonneg (by omega) (by omega), Int.mul_le_mul h1.2 h1.2 (by omega) (by omega)⟩
theorem EIn.lo {g m w q : Int} (h : EIn g m w q) (hq : 0 < q) : 0 ≤ enLo g m w q ∧ enLo g m w q ≤ 1152921504606846976 := by
 have h1 := h.a
 obtain ⟨h2, h3, h4⟩ := plo_spec h.aa.1 hq
 refine ⟨h2, ?_⟩
 have h5 : enLo g m w q ≤ enA g m w := by
  refine Classical.byContradiction fun c => ?_
  have h6 := (lo_iff h.aa.1 hq (l := enA g m w + 1) (by omega)).2 (by unfold enLo at c; omega)
  have h7 : (enA g m w + 1) * (enA g m w + 1) * 1 ≤ (enA g m w + 1) * (enA g m w + 1) * q := Int.mul_le_mul_of_nonneg_left hq (Int.mul_nonneg (by omega) (by omega))
  have h8 : (enA g m w + 1) * (enA g m w + 1) = enA g m w * enA g m w + 2 * enA g m w + 1 := by rw [Int.add_mul, Int.mul_add]; omega
  omega
 omega
theorem EIn.hi {g m w q : Int} (h : EIn g m w q) (hq : 0 < q) : enLo g m w q ≤ enHi g m w q ∧ enHi g m w q ≤ enLo g m w q + 1 ∧ enHi g m w q ≤ 1152921504606846976 := by
 refine ⟨phi_near.1, phi_near.2, ?_⟩
 have h1 := h.a
 have h2 : enHi g m w q ≤ enA g m w := (ph_iff h.aa.1 hq (by omega)).1 (by
  have h7 : enA g m w * enA g m w * 1 ≤ enA g m w * enA g m w * q := Int.mul_le_mul_of_nonneg_left hq h.aa.1
  omega)
 omega
theorem en_hi_eq (g m w q : Int) : enHi g m w q = if enLo g m w q * enLo g m w q * q = enA g m w * enA g m w then enLo g m w q else enLo g m w q + 1 := rfl
theorem EIn.holds {g m w q : Int} (h : EIn g m w q) (hq : 0 < q) : enLo g m w q * enLo g m w q * q ≤ enA g m w * enA g m w ∧ enA g m w * enA g m w ≤ enHi g m w q * enHi g m w q * q ∧ (enLo g m w q = enHi g m w q ↔ enLo g m w q * enLo g m w q * q = enA g m w * enA g m w) := by
 refine ⟨(plo_spec h.aa.1 hq).2.1, (ph_iff h.aa.1 hq (phi_nn h.aa.1 hq)).2 (Int.le_refl _), ?_⟩
 rw [en_hi_eq]
 split
 ·rename_i e
  exact ⟨fun _ => e, fun _ => rfl⟩
 ·rename_i e
  exact ⟨fun h => absurd h (by omega), fun h => absurd h e⟩
theorem lolo_bd {a q : Int} (h0 : 0 ≤ a) (h1 : a ≤ 1152921504606846976) (q0 : 0 ≤ q) (q1 : q ≤ 13194139533312) : 0 ≤ a * a ∧ a * a ≤ 1329227995784915872903807060280344576 ∧ 0 ≤ a * a * q ∧ a * a * q ≤ 17538019647970835018444217992595396235871190515712 := by
 have h2 : a * a ≤ 1152921504606846976 * 1152921504606846976 := Int.mul_le_mul h1 h1 h0 (by omega)
 have h3 : 0 ≤ a * a := Int.mul_nonneg h0 h0
 have h4 : a * a * q ≤ 1329227995784915872903807060280344576 * 13194139533312 := Int.mul_le_mul h2 q1 q0 (by omega)
 exact ⟨h3, h2, Int.mul_nonneg h3 q0, h4⟩
end Go.Gy
namespace Go.Gy
open Go Go.RowKit
section
variable {P : Program} {C : Ctx} {n : Nat} {d : List Deferred} {ro : Option Nat} {s : GS} {K : Exit → GS → Prop}
structure WeakR (C : Ctx) (ρ : Nat → Nat) (s s' : GS) : Prop where
 ts : ∀ t, s'.ts t = junk ∨ (s.ts t = ren ρ (s'.ts t) ∧ s.ts t ≠ junk ∧ idsV (dom s'.hp) (s'.ts t))
 hp : ∀ k b, s'.hp k = some b → 100 ≤ k → s.hp (ρ k) = some (b.rn ρ) ∧ 100 ≤ ρ k
 ids : ∀ k b, s'.hp k = some b → b.ids (dom s'.hp)
 inj : ∀ k l, dom s'.hp k → dom s'.hp l → ρ k = ρ l → k = l
 id : ∀ k, k < 100 → ρ k = k
 rest : ∀ k b, k < 100 → C.G k = some b → b.rn ρ = b
 keep : ∀ k, 100 ≤ k → dom C.hp0 k → dom s'.hp k ∧ ρ k = k
 glob : ∀ k, k < 100 → s'.hp k = C.G k
 yc : s'.yc = s.yc
 free : ∀ x, s'.B ≤ x → s'.hp x = none
 low : 100 ≤ s'.B
theorem GI.rename {ρ : Nat → Nat} {r : Nat → Nat} {a : Act} {W : World} {s' : GS} (h : GI P C n d r s a W) (hw : WeakR C ρ s s') : GI P C n d (fun k => r (ρ k)) s' a W := by
 have sub : ∀ k b, s'.hp k = some b → s.hp (ρ k) = some (b.rn ρ) := fun k b hb => by
  by_cases hk : 100 ≤ k
  ·exact (hw.hp k b hb hk).1
  ·have hg : C.G k = some b := (hw.glob k (by omega)).symm.trans hb
   rw [hw.id k (by omega), hw.rest k b (by omega) hg, h.ri.glob k (by omega)]
   exact hg
 have subd : ∀ k, dom s'.hp k → dom s.hp (ρ k) := fun k hk => by
  unfold dom at hk
  cases hb : s'.hp k with
  | none => exact absurd hb hk
  | some b => unfold dom; rw [sub k b hb]; simp
 refine ⟨{ h.ri with rel := fun t => ?_, sat := fun k b hb => ?_, inj := fun k l hk hl e => hw.inj k l hk hl (h.ri.inj _ _ (subd k hk) (subd l hl) e), ext := ?_, keep := fun i hi => ?_, glob := hw.glob, low := fun k hk hd => ?_ }, hw.free, hw.low, h.flat, h.rounds⟩
 ·rcases hw.ts t with e | ⟨e, hne, hi⟩
  ·exact .inl e
  ·have e' := (h.ri.rel t).resolve_left hne
   refine .inr ⟨?_, hi⟩
   rw [e'.1, e, ren_comp]
 ·have hs := (h.ri.sat _ _ (sub k b hb)).1
  rw [Blk.rn_obj] at hs
  exact ⟨hs, hw.ids k b hb⟩
 ·obtain ⟨S, ms, h1, h2, h3, h4⟩ := h.ri.ext
  refine ⟨S, ms, by rw [hw.yc]; exact h1, h2, fun i hi hi1 => ?_, h4⟩
  refine h3 _ (subd i hi) ?_
  unfold dom at hi
  cases hb : s'.hp i with
  | none => exact absurd hb hi
  | some b => exact (hw.hp i b hb hi1).2
 ·have hk := h.ri.keep i hi
  by_cases h1 : 100 ≤ i
  ·have hh := hw.keep i h1 hi
   exact ⟨hh.1, by rw [hh.2]; exact hk.2⟩
  ·refine ⟨?_, by rw [hw.id i (by omega)]; exact hk.2⟩
   unfold dom; rw [hw.glob i (by omega), ← h.ri.glob i (by omega)]; exact hk.1
 ·have hd' := subd k hd
  rw [hw.id k hk] at hd' ⊢
  exact h.ri.low k hk hd'
theorem GW_loopR {c : Code} (I : Nat → GS → Prop) {m0 : Nat} {s0 : GS} (hw : Weak C s s0) (h0 : I m0 s0)
  (round : ∀ m s, I m s → GW P C n d ro c s (thenG (fun s' => ∃ ρ s'' m', WeakR C ρ s' s'' ∧ I m' s'' ∧ m' < m) K)) : GW P C n d ro (.loop c) s K := by
 have key : ∀ (m : Nat) (s : GS), I m s → ∀ r a W, GI P C n d r s a W → ∀ (b : Frame) (k : List Item) (cs : List Frame), b.roundOf = ro →
   (Fs P).fn b.fn → ∃ e a' w', (∃ s' r', K e s' ∧ GI P C n d r' s' a' w') ∧ ArrivesIn (Machine.fenced P (Fw P ro)) P (lone (b.atR a (.code c :: .inLoop c :: k)) cs W) b k cs e a' w' := by
  intro m
  induction m using Nat.strongRecOn with
  | _ m ih =>
   intro s hI r a W hi b k cs hro hfn
   obtain ⟨e, a₁, w₁, ⟨s', r', hk, hi'⟩, harr⟩ := round m s hI r a W hi b (.inLoop c :: k) cs hro hfn (room_Fs P _)
   cases e with
   | normal =>
    obtain ⟨ρ, s'', m', hw'', hI'', hlt⟩ := hk
    obtain ⟨e₂, a₂, w₂, hq₂, harr₂⟩ := ih m' hlt s'' hI'' _ a₁ w₁ (hi'.rename hw'') b k cs hro hfn
    exact ⟨e₂, a₂, w₂, hq₂, .of_steps (StepsIn.trans harr (.one (fenced_calm (F := Fw P ro) (n := 0) hfn (room_Fs P _) rfl) stepR_inLoop)) harr₂⟩
   | exit id => exact ⟨_, a₁, w₁, ⟨s', r', hk, hi'⟩, .pass (x := .inLoop c) rfl (fun _ _ => .inl (by simp)) harr⟩
   | goto l => exact ⟨_, a₁, w₁, ⟨s', r', hk, hi'⟩, .pass (x := .inLoop c) rfl (fun _ _ => .inl (by simp)) harr⟩
   | ret => exact ⟨_, a₁, w₁, ⟨s', r', hk, hi'⟩, .pass (x := .inLoop c) rfl (fun _ _ => .inl (by simp)) harr⟩
   | panic ch => exact ⟨_, a₁, w₁, ⟨s', r', hk, hi'⟩, .pass (x := .inLoop c) rfl (fun _ _ => .inl (by simp)) harr⟩
   | outgrown => exact ⟨_, a₁, w₁, ⟨s', r', hk, hi'⟩, .pass (x := .inLoop c) rfl (fun _ _ => .inl (by simp)) harr⟩
 intro r a W hi
 intro b k cs hro hb hr
 obtain ⟨e, a', w', hq, harr⟩ := key m0 s0 h0 r a W (hi.weak hw) b k cs hro hb
 exact ⟨e, a', w', hq, .of_steps (.one (fenced_calm hb hr rfl) stepR_loop) harr⟩
end
section
variable {P : Program} {G : Hp}
variable {C : Ctx} {n : Nat} {d : List Deferred} {s : GS} {K : Exit → GS → Prop}
theorem WeakR.subd {ρ : Nat → Nat} {s' : GS} (hw : WeakR C ρ s s') (hg : ∀ k, k < 100 → s.hp k = C.G k) (k : Nat) (hk : dom s'.hp k) : dom s.hp (ρ k) := by
 unfold dom at hk
 cases hb : s'.hp k with
 | none => exact absurd hb hk
 | some b =>
  by_cases h1 : 100 ≤ k
  ·unfold dom; rw [(hw.hp k b hb h1).1]; simp
  ·rw [hw.id k (by omega)]
   unfold dom; rw [hg k (by omega), ← hw.glob k (by omega), hb]; simp
theorem Own0.rename {So : Nat → Prop} {ms : List Nat} {yc B2 B yc' : Nat} {a : Act} {r ρ : Nat → Nat} {ts : Nat → Value} {hp hq : Hp} {V : World} (h : Own0 C d So ms yc a r ts hp V) (hw : WeakR C ρ ⟨ts, hp, B2, yc'⟩ ⟨ts, hq, B, yc'⟩) : Own0 C d So ms yc a (fun k => r (ρ k)) ts hq V := by
 have subd := hw.subd (fun k hk => h.glob k hk)
 have sub : ∀ k b, hq k = some b → hp (ρ k) = some (b.rn ρ) := fun k b hb => by
  by_cases hk : 100 ≤ k
  ·exact (hw.hp k b hb hk).1
  ·have hg : C.G k = some b := (hw.glob k (by omega)).symm.trans hb
   rw [hw.id k (by omega), hw.rest k b (by omega) hg, h.glob k (by omega)]
   exact hg
 refine ⟨fun t => ?_, fun k b hb => ?_, fun k l hk hl e => hw.inj k l hk hl (h.inj _ _ (subd k hk) (subd l hl) e), h.X, fun i hd h1 => ?_, h.mks, fun i hi => ?_, hw.glob, fun k hk hd => ?_⟩
 ·rcases hw.ts t with e | ⟨e, hne, hi⟩
  ·exact .inl e
  ·have e' := (h.ri t).resolve_left hne
   refine .inr ⟨?_, hi⟩
   have e2 : ts t = ren ρ (ts t) := e
   rw [e'.1]
   conv => lhs; rw [e2]
   rw [ren_comp]
 ·have hs := (h.sat _ _ (sub k b hb)).1
  rw [Blk.rn_obj] at hs
  exact ⟨hs, hw.ids k b hb⟩
 ·refine h.sep _ (subd i hd) ?_
  have hd' : dom hq i := hd
  unfold dom at hd'
  cases hb : hq i with
  | none => exact absurd hb hd'
  | some b => exact (hw.hp i b hb h1).2
 ·have hk := h.keep i hi
  by_cases h1 : 100 ≤ i
  ·have hh := hw.keep i h1 hi
   exact ⟨hh.1, by rw [hh.2]; exact hk.2⟩
  ·refine ⟨?_, by rw [hw.id i (by omega)]; exact hk.2⟩
   show dom hq i
   unfold dom
   have e1 : hq i = C.G i := hw.glob i (by omega)
   rw [e1, ← h.glob i (by omega)]; exact hk.1
 ·have hd' := subd k hd
  rw [hw.id k hk] at hd' ⊢
  exact h.low k hk hd'
end
end Go.Gy
